/- Proved: for every input, laws.FnExactPendulumTime returns true and leaves its arguments as they were. No condition. -/
import Derived.Test.YtfgdfjgfgakjaaaClapper
import Derived.Test.YtfgdfjgfgakjaaaFrame
namespace Go.Proofs.Ytfgdfjgfgakjaaa
open Go.RowKit Go.ChangeShapes Go.WideShapes Go.ChangeAt Go.Joins Go.Deep

set_option maxRecDepth 100000 in
theorem FnExactPendulumTime_walk : LawWalk 5 Try.f5 := by
  intro H enc W base args ds p hval hA
  rw [Try.params5] at hA hval
  obtain ⟨v0, vs0, d0, ds0, p0, q0, hargs, rfl, rfl, h0, r0⟩ := trodAll_cons hA
  obtain ⟨rfl, rfl, rfl⟩ := trodAll_nil r0
  obtain rfl : args = #[v0] := by cases args; simp_all
  obtain ⟨a0, rfl, rfl, rfl, w0⟩ := open_int Try.underlying2 (hval 0 _ v0 rfl rfl) h0
  exact lawPendulumTime a0 W
set_option maxRecDepth 100000 in
theorem FnExactPendulumTime_lifted (os : Os) (started : os.Started) (H : Type) (enc : TypeId × Value → H) :
    ReturnsInHanded {} Try.checked os 5 .any (Rows.fnExactPendulumTimeSpec.pre6 enc Try.prog Try.f5 Rows.fnExactPendulumTimeRow.domain false) (Rows.fnExactPendulumTimeSpec.post enc Try.prog Try.f5 false true false false) :=
  law_lift started H enc (by kernel_rfl) Try.func5
    (ChangeSpec.witness6 (enc := enc) (C := Try.checked) false ⟨#[], #[.int .i64 0], []⟩ 8 (by kernel_rfl) (by kernel_rfl) (by kernel_rfl) (by kernel_rfl))
    rfl (by kernel_rfl) (fun ds hl => by rw [Try.params5] at hl; match ds, hl with | [d0], _ => rfl) (by kernel_rfl) FnExactPendulumTime_walk
theorem FnExactPendulumTime_over : Rows.fnExactPendulumTimeRow.holds Try.pinned (OpenSpec.ofChange Rows.fnExactPendulumTimeSpec) :=
  OpenClaim.holds_of_wide 5 Try.f5 rfl rfl rfl rfl rfl rfl rfl ⟨rfl, rfl, rfl, rfl, rfl⟩ rfl rfl rfl rfl rfl (by kernel_rfl) Try.func5 (by kernel_rfl)
    (of_decide_eq_true (by kernel_rfl)) (by unfold Func.isWrapper; first | (rw [if_pos (by decide +kernel)]; kernel_rfl) | (rw [if_neg (by decide +kernel)]; exact ⟨rfl, rfl⟩))
    (fun os started H enc _ => FnExactPendulumTime_lifted os started H enc)
/-- The statement. -/
theorem FnExactPendulumTime_proved : Rows.FnExactPendulumTimeSaid := FnExactPendulumTime_over
#print axioms FnExactPendulumTime_proved
end Go.Proofs.Ytfgdfjgfgakjaaa
