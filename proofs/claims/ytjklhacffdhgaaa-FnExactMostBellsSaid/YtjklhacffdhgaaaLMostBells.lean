/- Proved: for every input, laws.FnExactMostBells returns true and leaves its arguments as they were. No condition. -/
import Derived.Test.YtjklhacffdhgaaaMoL
import Derived.Test.YtjklhacffdhgaaaFrame2
namespace Go.Proofs.Ytjklhacffdhgaaa
open Go.RowKit Go.ChangeShapes Go.WideShapes Go.ChangeAt Go.Joins Go.Deep

set_option maxRecDepth 100000 in
theorem open_Tower {H : Type} {enc : TypeId × Value → H} {W : World} {r : Reach} {base b0 : Nat} {sp : Nat → Bool} {hd : Bool} {v : Value} {d : DataW H} {p : List MemPlace} (hv : Value.okWide Try.prog W r base 50 v) (h : DataW.Trod enc Try.prog W b0 sp hd 50 v d p) :
    ∃ (a0 : ByteArray) (a1 : Int) (a2 : Int) (a3 : Int) (a4 : Int), v = .agg #[.string a0, .int .i64 a1, .int .i64 a2, .int .i64 a3, .int .i64 a4] ∧ a0.size ≤ maxLen ∧ Hid ((Lit.int .i64 a1).wf = true) ∧ Hid ((Lit.int .i64 a2).wf = true) ∧ Hid ((Lit.int .i64 a3).wf = true) ∧ Hid ((Lit.int .i64 a4).wf = true) := by
  obtain ⟨cs, rfl, hl, hf⟩ := open_agg Try.underlying50 (by kernel_rfl) (by kernel_rfl) hv h
  match cs, hl with
  | [c0, c1, c2, c3, c4], _ =>
    obtain ⟨n0, y0, g0⟩ := hf 0 _ c0 rfl rfl
    obtain ⟨a0, rfl, w0⟩ := trod_string' Try.underlying9 g0
    obtain ⟨n1, y1, g1⟩ := hf 1 _ c1 rfl rfl
    obtain ⟨a1, rfl, w1⟩ := trod_int' Try.underlying2 g1
    obtain ⟨n2, y2, g2⟩ := hf 2 _ c2 rfl rfl
    obtain ⟨a2, rfl, w2⟩ := trod_int' Try.underlying2 g2
    obtain ⟨n3, y3, g3⟩ := hf 3 _ c3 rfl rfl
    obtain ⟨a3, rfl, w3⟩ := trod_int' Try.underlying2 g3
    obtain ⟨n4, y4, g4⟩ := hf 4 _ c4 rfl rfl
    obtain ⟨a4, rfl, w4⟩ := trod_int' Try.underlying2 g4
    exact ⟨_, _, _, _, _, rfl, w0, w1, w2, w3, w4⟩
set_option maxRecDepth 100000 in
theorem open_Swing_cell {H : Type} {enc : TypeId × Value → H} {W : World} {b0 : Nat} {sp : Nat → Bool} {hd : Bool} {fuel : Nat} {v : Value} {y : DataW H × List MemPlace} (h : DataW.trod enc Try.prog W b0 sp hd fuel 51 [v] = some y) :
    ∃ (A : Option Addr) (c : Nat) (xs : List SwingR), v = .slice A xs.length c ∧ SlAt encSwing 3 W A xs ∧ (∀ x ∈ xs, x.nm.size ≤ maxLen) ∧ xs.length ≤ maxLen := by
  refine open_rows (en := encSwing) (good := fun x => x.nm.size ≤ maxLen) Try.underlying51 Try.underlying150 (by kernel_rfl) (by kernel_rfl) (by decide) (fun _ => rfl) ?_ h
  intro vs hf
  obtain ⟨n0, y0, g0⟩ := hf 0 _ rfl
  obtain ⟨a0, e0, w0⟩ := trod_string' Try.underlying9 g0
  obtain ⟨n1, y1, g1⟩ := hf 1 _ rfl
  obtain ⟨a1, e1, w1⟩ := trod_int' Try.underlying2 g1
  obtain ⟨n2, y2, g2⟩ := hf 2 _ rfl
  obtain ⟨a2, e2, w2⟩ := trod_int' Try.underlying2 g2
  refine ⟨⟨a0, a1, a2⟩, w0, fun j v hj => ?_⟩
  match j, hj with
  | 0, hj => injection hj with hj; rw [← hj]; exact e0.symm
  | 1, hj => injection hj with hj; rw [← hj]; exact e1.symm
  | 2, hj => injection hj with hj; rw [← hj]; exact e2.symm
set_option maxRecDepth 100000 in
theorem open_SwingS {H : Type} {enc : TypeId × Value → H} {W : World} {r : Reach} {base b0 : Nat} {sp : Nat → Bool} {hd : Bool} {v : Value} {d : DataW H} {p : List MemPlace} (hv : Value.okWide Try.prog W r base 51 v) (h : DataW.Trod enc Try.prog W b0 sp hd 51 v d p) :
    ∃ (A : Option Addr) (c : Nat) (xs : List SwingR), v = .slice A xs.length c ∧ SlAt encSwing 3 W A xs ∧ (∀ x ∈ xs, x.nm.size ≤ maxLen) ∧ xs.length ≤ maxLen := by
  obtain ⟨a0, len, cap, rfl⟩ := okWide_slice Try.underlying51 hv
  obtain ⟨fuel, hf⟩ := h
  refine open_rows (en := encSwing) (good := fun x => x.nm.size ≤ maxLen) Try.underlying51 Try.underlying150 (by kernel_rfl) (by kernel_rfl) (by decide) (fun _ => rfl) ?_ (show DataW.trod enc Try.prog W b0 sp hd fuel 51 [.slice a0 len cap] = some (d, p) from hf)
  intro vs hf
  obtain ⟨n0, y0, g0⟩ := hf 0 _ rfl
  obtain ⟨a0, e0, w0⟩ := trod_string' Try.underlying9 g0
  obtain ⟨n1, y1, g1⟩ := hf 1 _ rfl
  obtain ⟨a1, e1, w1⟩ := trod_int' Try.underlying2 g1
  obtain ⟨n2, y2, g2⟩ := hf 2 _ rfl
  obtain ⟨a2, e2, w2⟩ := trod_int' Try.underlying2 g2
  refine ⟨⟨a0, a1, a2⟩, w0, fun j v hj => ?_⟩
  match j, hj with
  | 0, hj => injection hj with hj; rw [← hj]; exact e0.symm
  | 1, hj => injection hj with hj; rw [← hj]; exact e1.symm
  | 2, hj => injection hj with hj; rw [← hj]; exact e2.symm
set_option maxRecDepth 100000 in
theorem FnExactMostBells_walk : LawWalk 8 Try.f8 := by
  intro H enc W base args ds p hval hA
  rw [Try.params8] at hA hval
  obtain ⟨v0, vs0, d0, ds0, p0, q0, hargs, rfl, rfl, h0, r0⟩ := trodAll_cons hA
  obtain ⟨v1, vs1, d1, ds1, p1, q1, rfl, rfl, rfl, h1, r1⟩ := trodAll_cons r0
  obtain ⟨rfl, rfl, rfl⟩ := trodAll_nil r1
  obtain rfl : args = #[v0, v1] := by cases args; simp_all
  obtain ⟨x0_0, x0_1, x0_2, x0_3, x0_4, rfl, w0_0, w0_1, w0_2, w0_3, w0_4⟩ := open_Tower (hval 0 _ v0 rfl rfl) h0
  obtain ⟨A1, c1, l1, rfl, s1, w1, z1⟩ := open_SwingS (hval 1 _ v1 rfl rfl) h1
  exact lawMostBells x0_0 x0_1 x0_2 x0_3 x0_4 A1 c1 l1 W w0_0 s1 (by unfold maxLen at z1; omega) w1
set_option maxRecDepth 100000 in
theorem FnExactMostBells_lifted (os : Os) (started : os.Started) (H : Type) (enc : TypeId × Value → H) :
    ReturnsInHanded {} Try.checked os 8 .any (Rows.fnExactMostBellsSpec.pre6 enc Try.prog Try.f8 Rows.fnExactMostBellsRow.domain false) (Rows.fnExactMostBellsSpec.post enc Try.prog Try.f8 false true false false) :=
  law_lift started H enc (by kernel_rfl) Try.func8
    (ChangeSpec.witness6 (enc := enc) (C := Try.checked) false ⟨#[], #[.agg #[.string ⟨#[]⟩, .int .i64 0, .int .i64 0, .int .i64 0, .int .i64 0], .slice none 0 0], []⟩ 8 (by kernel_rfl) (by kernel_rfl) (by kernel_rfl) (by kernel_rfl))
    rfl (by kernel_rfl) (fun ds hl => by rw [Try.params8] at hl; match ds, hl with | [d0, d1], _ => rfl) (by kernel_rfl) FnExactMostBells_walk
theorem FnExactMostBells_over : Rows.fnExactMostBellsRow.holds Try.pinned (OpenSpec.ofChange Rows.fnExactMostBellsSpec) :=
  OpenClaim.holds_of_wide 8 Try.f8 rfl rfl rfl rfl rfl rfl rfl ⟨rfl, rfl, rfl, rfl, rfl⟩ rfl rfl rfl rfl rfl (by kernel_rfl) Try.func8 (by kernel_rfl)
    (of_decide_eq_true (by kernel_rfl)) (by unfold Func.isWrapper; first | (rw [if_pos (by decide +kernel)]; kernel_rfl) | (rw [if_neg (by decide +kernel)]; exact ⟨rfl, rfl⟩))
    (fun os started H enc _ => FnExactMostBells_lifted os started H enc)
/-- The statement. -/
theorem FnExactMostBells_proved : Rows.FnExactMostBellsSaid := FnExactMostBells_over
#print axioms FnExactMostBells_proved
end Go.Proofs.Ytjklhacffdhgaaa
