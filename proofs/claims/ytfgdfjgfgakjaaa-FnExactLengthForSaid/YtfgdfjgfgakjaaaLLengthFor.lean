/- Proved: for every input, laws.FnExactLengthFor returns true and leaves its arguments as they were. No condition. -/
import Derived.Test.YtfgdfjgfgakjaaaClapper
import Derived.Test.YtfgdfjgfgakjaaaFrame
namespace Go.Proofs.Ytfgdfjgfgakjaaa
open Go.RowKit Go.ChangeShapes Go.WideShapes Go.ChangeAt Go.Joins Go.Deep

set_option maxRecDepth 100000 in
theorem FnExactLengthFor_walk : LawWalk 9 Try.f9 := by
  intro H enc W base args ds p hval hA
  rw [Try.params9] at hA hval
  obtain ⟨v0, vs0, d0, ds0, p0, q0, hargs, rfl, rfl, h0, r0⟩ := trodAll_cons hA
  obtain ⟨rfl, rfl, rfl⟩ := trodAll_nil r0
  obtain rfl : args = #[v0] := by cases args; simp_all
  obtain ⟨a0, rfl, rfl, rfl, w0⟩ := open_int Try.underlying2 (hval 0 _ v0 rfl rfl) h0
  exact lawLengthFor a0 W
set_option maxRecDepth 100000 in
theorem FnExactLengthFor_lifted (os : Os) (started : os.Started) (H : Type) (enc : TypeId × Value → H) :
    ReturnsInHanded {} Try.checked os 9 .any (Rows.fnExactLengthForSpec.pre6 enc Try.prog Try.f9 Rows.fnExactLengthForRow.domain false) (Rows.fnExactLengthForSpec.post enc Try.prog Try.f9 false true false false) :=
  law_lift started H enc (by kernel_rfl) Try.func9
    (ChangeSpec.witness6 (enc := enc) (C := Try.checked) false ⟨#[], #[.int .i64 0], []⟩ 8 (by kernel_rfl) (by kernel_rfl) (by kernel_rfl) (by kernel_rfl))
    rfl (by kernel_rfl) (fun ds hl => by rw [Try.params9] at hl; match ds, hl with | [d0], _ => rfl) (by kernel_rfl) FnExactLengthFor_walk
theorem FnExactLengthFor_over : Rows.fnExactLengthForRow.holds Try.pinned (OpenSpec.ofChange Rows.fnExactLengthForSpec) :=
  OpenClaim.holds_of_wide 9 Try.f9 rfl rfl rfl rfl rfl rfl rfl ⟨rfl, rfl, rfl, rfl, rfl⟩ rfl rfl rfl rfl rfl (by kernel_rfl) Try.func9 (by kernel_rfl)
    (of_decide_eq_true (by kernel_rfl)) (by unfold Func.isWrapper; first | (rw [if_pos (by decide +kernel)]; kernel_rfl) | (rw [if_neg (by decide +kernel)]; exact ⟨rfl, rfl⟩))
    (fun os started H enc _ => FnExactLengthFor_lifted os started H enc)
/-- The statement. -/
theorem FnExactLengthFor_proved : Rows.FnExactLengthForSaid := FnExactLengthFor_over
#print axioms FnExactLengthFor_proved
end Go.Proofs.Ytfgdfjgfgakjaaa
