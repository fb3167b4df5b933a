/- Proved: for every input, laws.FnExactClosestPlan returns true and leaves its arguments as they were. No condition. -/
import Derived.Test.YtnefgafmnpblpaaGreatPnK3
import Derived.Test.YtnefgafmnpblpaaGreatPnO
namespace Go.Proofs.YtnefgafmnpblpaaGreat
open Go.RowKit Go.ChangeShapes Go.WideShapes Go.ChangeAt Go.Joins Go.Deep

set_option maxRecDepth 100000 in
theorem FnExactClosestPlan_walk : LawWalk 6 Tryz.f6 := by
  intro H enc W base args ds p hval hA
  rw [Tryz.params6] at hA hval
  obtain ⟨v0, vs0, d0, ds0, p0, q0, hargs, rfl, rfl, h0, r0⟩ := trodAll_cons hA
  obtain ⟨v1, vs1, d1, ds1, p1, q1, rfl, rfl, rfl, h1, r1⟩ := trodAll_cons r0
  obtain ⟨v2, vs2, d2, ds2, p2, q2, rfl, rfl, rfl, h2, r2⟩ := trodAll_cons r1
  obtain ⟨v3, vs3, d3, ds3, p3, q3, rfl, rfl, rfl, h3, r3⟩ := trodAll_cons r2
  obtain ⟨rfl, rfl, rfl⟩ := trodAll_nil r3
  obtain rfl : args = #[v0, v1, v2, v3] := by cases args; simp_all
  obtain ⟨a3, rfl, rfl, rfl, w3⟩ := open_int Tryz.underlying2 (hval 3 _ v3 rfl rfl) h3
  obtain ⟨Az, cz, zs, Aw, cw, ws, Ab, cb, bs, rfl, hm, hz, hw, hb, hl⟩ := open_Model (hval 0 _ v0 rfl rfl) h0; obtain ⟨nm, A, c, rs, rfl, hs, hr, hn⟩ := open_Profile (hval 1 _ v1 rfl rfl) h1; obtain ⟨t0, t1, t2, t3, t4, tol, most, rfl⟩ := open_GoalF (hval 2 _ v2 rfl rfl) h2; exact lawClosestPlan_x ⟨Az, cz, zs, Aw, cw, ws, Ab, cb, bs, nm, A, c, rs, t0, t1, t2, t3, t4, tol, most⟩ a3 W hm hr hz hw hb hl hs hn
set_option maxRecDepth 100000 in
theorem FnExactClosestPlan_lifted (os : Os) (started : os.Started) (H : Type) (enc : TypeId × Value → H) :
    ReturnsInHanded {} Tryz.checked os 6 .any (Rows.fnExactClosestPlanSpec.pre6 enc Tryz.prog Tryz.f6 Rows.fnExactClosestPlanRow.domain false) (Rows.fnExactClosestPlanSpec.post enc Tryz.prog Tryz.f6 false true false false) :=
  law_lift started H enc (by kernel_rfl) Tryz.func6
    (ChangeSpec.witness6 (enc := enc) (C := Tryz.checked) false ⟨#[], #[.agg #[.slice none 0 0, .slice none 0 0, .slice none 0 0], .agg #[.string ⟨#[]⟩, .slice none 0 0], .agg #[.int .i64 0, .int .i64 0, .int .i64 0, .int .i64 0, .int .i64 0, .int .i64 0, .int .i64 0], .int .i64 0], []⟩ 8 (by kernel_rfl) (by kernel_rfl) (by kernel_rfl) (by kernel_rfl))
    rfl (by kernel_rfl) (fun ds hl => by rw [Tryz.params6] at hl; match ds, hl with | [d0, d1, d2, d3], _ => rfl) (by kernel_rfl) FnExactClosestPlan_walk
theorem FnExactClosestPlan_over : Rows.fnExactClosestPlanRow.holds Tryz.pinned (OpenSpec.ofChange Rows.fnExactClosestPlanSpec) :=
  OpenClaim.holds_of_wide 6 Tryz.f6 rfl rfl rfl rfl rfl rfl rfl ⟨rfl, rfl, rfl, rfl, rfl⟩ rfl rfl rfl rfl rfl (by kernel_rfl) Tryz.func6 (by kernel_rfl)
    (of_decide_eq_true (by kernel_rfl)) (by unfold Func.isWrapper; first | (rw [if_pos (by decide +kernel)]; kernel_rfl) | (rw [if_neg (by decide +kernel)]; exact ⟨rfl, rfl⟩))
    (fun os started H enc _ => FnExactClosestPlan_lifted os started H enc)
/-- The statement. -/
theorem FnExactClosestPlan_proved : Rows.FnExactClosestPlanSaid := FnExactClosestPlan_over
#print axioms FnExactClosestPlan_proved
end Go.Proofs.YtnefgafmnpblpaaGreat
