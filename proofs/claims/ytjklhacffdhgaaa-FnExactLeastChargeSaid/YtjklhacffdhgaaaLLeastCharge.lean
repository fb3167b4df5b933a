/- Proved: for every input, laws.FnExactLeastCharge returns true and leaves its arguments as they were. No condition. -/
import Derived.Test.YtjklhacffdhgaaaChLaw
import Derived.Test.YtjklhacffdhgaaaOpenC
namespace Go.Proofs.Ytjklhacffdhgaaa
open Go.RowKit Go.ChangeShapes Go.WideShapes Go.ChangeAt Go.Joins Go.Deep

set_option maxRecDepth 100000 in
theorem open_Demand {H : Type} {enc : TypeId × Value → H} {W : World} {r : Reach} {base b0 : Nat} {sp : Nat → Bool} {hd : Bool} {v : Value} {d : DataW H} {p : List MemPlace} (hv : Value.okWide Try.prog W r base 24 v) (h : DataW.Trod enc Try.prog W b0 sp hd 24 v d p) :
    ∃ (a0 : Int) (a1 : Int) (a2 : Int) (a3 : Int) (a4 : Int), v = .agg #[.int .i64 a0, .int .i64 a1, .int .i64 a2, .int .i64 a3, .int .i64 a4] ∧ Hid ((Lit.int .i64 a0).wf = true) ∧ Hid ((Lit.int .i64 a1).wf = true) ∧ Hid ((Lit.int .i64 a2).wf = true) ∧ Hid ((Lit.int .i64 a3).wf = true) ∧ Hid ((Lit.int .i64 a4).wf = true) := by
  obtain ⟨cs, rfl, hl, hf⟩ := open_agg Try.underlying24 (by kernel_rfl) (by kernel_rfl) hv h
  match cs, hl with
  | [c0, c1, c2, c3, c4], _ =>
    obtain ⟨n0, y0, g0⟩ := hf 0 _ c0 rfl rfl
    obtain ⟨a0, rfl, w0⟩ := trod_int' Try.underlying2 g0
    obtain ⟨n1, y1, g1⟩ := hf 1 _ c1 rfl rfl
    obtain ⟨a1, rfl, w1⟩ := trod_int' Try.underlying2 g1
    obtain ⟨n2, y2, g2⟩ := hf 2 _ c2 rfl rfl
    obtain ⟨a2, rfl, w2⟩ := trod_int' Try.underlying2 g2
    obtain ⟨n3, y3, g3⟩ := hf 3 _ c3 rfl rfl
    obtain ⟨a3, rfl, w3⟩ := trod_int' Try.underlying2 g3
    obtain ⟨n4, y4, g4⟩ := hf 4 _ c4 rfl rfl
    obtain ⟨a4, rfl, w4⟩ := trod_int' Try.underlying2 g4
    exact ⟨_, _, _, _, _, rfl, w0, w1, w2, w3, w4⟩
set_option maxRecDepth 100000 in
theorem FnExactLeastCharge_walk : LawWalk 5 Try.f5 := by
  intro H enc W base args ds p hval hA
  rw [Try.params5] at hA hval
  obtain ⟨v0, vs0, d0, ds0, p0, q0, hargs, rfl, rfl, h0, r0⟩ := trodAll_cons hA
  obtain ⟨v1, vs1, d1, ds1, p1, q1, rfl, rfl, rfl, h1, r1⟩ := trodAll_cons r0
  obtain ⟨v2, vs2, d2, ds2, p2, q2, rfl, rfl, rfl, h2, r2⟩ := trodAll_cons r1
  obtain ⟨rfl, rfl, rfl⟩ := trodAll_nil r2
  obtain rfl : args = #[v0, v1, v2] := by cases args; simp_all
  obtain ⟨A0, c0, l0, rfl, s0, w0, z0⟩ := open_IngotS (hval 0 _ v0 rfl rfl) h0
  obtain ⟨x1_0, x1_1, x1_2, x1_3, x1_4, rfl, w1_0, w1_1, w1_2, w1_3, w1_4⟩ := open_Demand (hval 1 _ v1 rfl rfl) h1
  obtain ⟨a2, rfl, rfl, rfl, w2⟩ := open_int Try.underlying2 (hval 2 _ v2 rfl rfl) h2
  exact lawLeastCharge A0 c0 l0 x1_0 x1_1 x1_2 x1_3 x1_4 a2 W s0 (by unfold maxLen at z0; omega) w0
set_option maxRecDepth 100000 in
theorem FnExactLeastCharge_lifted (os : Os) (started : os.Started) (H : Type) (enc : TypeId × Value → H) :
    ReturnsInHanded {} Try.checked os 5 .any (Rows.fnExactLeastChargeSpec.pre6 enc Try.prog Try.f5 Rows.fnExactLeastChargeRow.domain false) (Rows.fnExactLeastChargeSpec.post enc Try.prog Try.f5 false true false false) :=
  law_lift started H enc (by kernel_rfl) Try.func5
    (ChangeSpec.witness6 (enc := enc) (C := Try.checked) false ⟨#[], #[.slice none 0 0, .agg #[.int .i64 0, .int .i64 0, .int .i64 0, .int .i64 0, .int .i64 0], .int .i64 0], []⟩ 8 (by kernel_rfl) (by kernel_rfl) (by kernel_rfl) (by kernel_rfl))
    rfl (by kernel_rfl) (fun ds hl => by rw [Try.params5] at hl; match ds, hl with | [d0, d1, d2], _ => rfl) (by kernel_rfl) FnExactLeastCharge_walk
theorem FnExactLeastCharge_over : Rows.fnExactLeastChargeRow.holds Try.pinned (OpenSpec.ofChange Rows.fnExactLeastChargeSpec) :=
  OpenClaim.holds_of_wide 5 Try.f5 rfl rfl rfl rfl rfl rfl rfl ⟨rfl, rfl, rfl, rfl, rfl⟩ rfl rfl rfl rfl rfl (by kernel_rfl) Try.func5 (by kernel_rfl)
    (of_decide_eq_true (by kernel_rfl)) (by unfold Func.isWrapper; first | (rw [if_pos (by decide +kernel)]; kernel_rfl) | (rw [if_neg (by decide +kernel)]; exact ⟨rfl, rfl⟩))
    (fun os started H enc _ => FnExactLeastCharge_lifted os started H enc)
/-- The statement. -/
theorem FnExactLeastCharge_proved : Rows.FnExactLeastChargeSaid := FnExactLeastCharge_over
#print axioms FnExactLeastCharge_proved
end Go.Proofs.Ytjklhacffdhgaaa
