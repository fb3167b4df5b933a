/- Proved: for every input, laws.FnExactClapperFor returns true and leaves its arguments as they were. No condition. -/
import Derived.Test.YtfgdfjgfgakjaaaClapper3
import Derived.Test.YtfgdfjgfgakjaaaFrame
namespace Go.Proofs.Ytfgdfjgfgakjaaa
open Go.RowKit Go.ChangeShapes Go.WideShapes Go.ChangeAt Go.Joins Go.Deep

set_option maxRecDepth 100000 in
theorem FnExactClapperFor_walk : LawWalk 6 Try.f6 := by
  intro H enc W base args ds p hval hA
  rw [Try.params6] at hA hval
  obtain ⟨v0, vs0, d0, ds0, p0, q0, hargs, rfl, rfl, h0, r0⟩ := trodAll_cons hA
  obtain ⟨v1, vs1, d1, ds1, p1, q1, rfl, rfl, rfl, h1, r1⟩ := trodAll_cons r0
  obtain ⟨v2, vs2, d2, ds2, p2, q2, rfl, rfl, rfl, h2, r2⟩ := trodAll_cons r1
  obtain ⟨rfl, rfl, rfl⟩ := trodAll_nil r2
  obtain rfl : args = #[v0, v1, v2] := by cases args; simp_all
  obtain ⟨a0, rfl, rfl, rfl, w0⟩ := open_int Try.underlying2 (hval 0 _ v0 rfl rfl) h0
  obtain ⟨a1, rfl, rfl, rfl, w1⟩ := open_int Try.underlying2 (hval 1 _ v1 rfl rfl) h1
  obtain ⟨a2, rfl, rfl, rfl, w2⟩ := open_int Try.underlying2 (hval 2 _ v2 rfl rfl) h2
  exact lawClapperFor a0 a1 a2 W
set_option maxRecDepth 100000 in
theorem FnExactClapperFor_lifted (os : Os) (started : os.Started) (H : Type) (enc : TypeId × Value → H) :
    ReturnsInHanded {} Try.checked os 6 .any (Rows.fnExactClapperForSpec.pre6 enc Try.prog Try.f6 Rows.fnExactClapperForRow.domain false) (Rows.fnExactClapperForSpec.post enc Try.prog Try.f6 false true false false) :=
  law_lift started H enc (by kernel_rfl) Try.func6
    (ChangeSpec.witness6 (enc := enc) (C := Try.checked) false ⟨#[], #[.int .i64 0, .int .i64 0, .int .i64 0], []⟩ 8 (by kernel_rfl) (by kernel_rfl) (by kernel_rfl) (by kernel_rfl))
    rfl (by kernel_rfl) (fun ds hl => by rw [Try.params6] at hl; match ds, hl with | [d0, d1, d2], _ => rfl) (by kernel_rfl) FnExactClapperFor_walk
theorem FnExactClapperFor_over : Rows.fnExactClapperForRow.holds Try.pinned (OpenSpec.ofChange Rows.fnExactClapperForSpec) :=
  OpenClaim.holds_of_wide 6 Try.f6 rfl rfl rfl rfl rfl rfl rfl ⟨rfl, rfl, rfl, rfl, rfl⟩ rfl rfl rfl rfl rfl (by kernel_rfl) Try.func6 (by kernel_rfl)
    (of_decide_eq_true (by kernel_rfl)) (by unfold Func.isWrapper; first | (rw [if_pos (by decide +kernel)]; kernel_rfl) | (rw [if_neg (by decide +kernel)]; exact ⟨rfl, rfl⟩))
    (fun os started H enc _ => FnExactClapperFor_lifted os started H enc)
/-- The statement. -/
theorem FnExactClapperFor_proved : Rows.FnExactClapperForSaid := FnExactClapperFor_over
#print axioms FnExactClapperFor_proved
end Go.Proofs.Ytfgdfjgfgakjaaa
