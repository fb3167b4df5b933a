/- Proved: for every input, laws.FnExactIsClear returns true and leaves its arguments as they were. No condition. -/
import Derived.Test.YtdimapcecdffnaaClash2
import Derived.Test.YtdimapcecdffnaaFrame2
namespace Go.Proofs.Ytdimapcecdffnaa
open Go.RowKit Go.ChangeShapes Go.WideShapes Go.ChangeAt Go.Joins Go.Deep

set_option maxRecDepth 100000 in
theorem open_Chamber {H : Type} {enc : TypeId × Value → H} {W : World} {r : Reach} {base b0 : Nat} {sp : Nat → Bool} {hd : Bool} {v : Value} {d : DataW H} {p : List MemPlace} (hv : Value.okWide Try.prog W r base 66 v) (h : DataW.Trod enc Try.prog W b0 sp hd 66 v d p) :
    ∃ (a0 : Int) (a1 : Int) (a2 : Int), v = .agg #[.int .i64 a0, .int .i64 a1, .int .i64 a2] ∧ Hid ((Lit.int .i64 a0).wf = true) ∧ Hid ((Lit.int .i64 a1).wf = true) ∧ Hid ((Lit.int .i64 a2).wf = true) := by
  obtain ⟨cs, rfl, hl, hf⟩ := open_agg Try.underlying66 (by kernel_rfl) (by kernel_rfl) hv h
  match cs, hl with
  | [c0, c1, c2], _ =>
    obtain ⟨n0, y0, g0⟩ := hf 0 _ c0 rfl rfl
    obtain ⟨a0, rfl, w0⟩ := trod_int' Try.underlying2 g0
    obtain ⟨n1, y1, g1⟩ := hf 1 _ c1 rfl rfl
    obtain ⟨a1, rfl, w1⟩ := trod_int' Try.underlying2 g1
    obtain ⟨n2, y2, g2⟩ := hf 2 _ c2 rfl rfl
    obtain ⟨a2, rfl, w2⟩ := trod_int' Try.underlying2 g2
    exact ⟨_, _, _, rfl, w0, w1, w2⟩
set_option maxRecDepth 100000 in
theorem open_Place_cell {H : Type} {enc : TypeId × Value → H} {W : World} {b0 : Nat} {sp : Nat → Bool} {hd : Bool} {fuel : Nat} {v : Value} {y : DataW H × List MemPlace} (h : DataW.trod enc Try.prog W b0 sp hd fuel 54 [v] = some y) :
    ∃ (A : Option Addr) (c : Nat) (xs : List PlaceR), v = .slice A xs.length c ∧ SlAt encPlace 5 W A xs ∧ (∀ x ∈ xs, x.nm.size ≤ maxLen) ∧ xs.length ≤ maxLen := by
  refine open_rows (en := encPlace) (good := fun x => x.nm.size ≤ maxLen) Try.underlying54 Try.underlying115 (by kernel_rfl) (by kernel_rfl) (by decide) (fun _ => rfl) ?_ h
  intro vs hf
  obtain ⟨n0, y0, g0⟩ := hf 0 _ rfl
  obtain ⟨a0, e0, w0⟩ := trod_string' Try.underlying9 g0
  obtain ⟨n1, y1, g1⟩ := hf 1 _ rfl
  obtain ⟨a1, e1, w1⟩ := trod_int' Try.underlying2 g1
  obtain ⟨n2, y2, g2⟩ := hf 2 _ rfl
  obtain ⟨a2, e2, w2⟩ := trod_int' Try.underlying2 g2
  obtain ⟨n3, y3, g3⟩ := hf 3 _ rfl
  obtain ⟨a3, e3, w3⟩ := trod_int' Try.underlying2 g3
  obtain ⟨n4, y4, g4⟩ := hf 4 _ rfl
  obtain ⟨a4, e4, w4⟩ := trod_int' Try.underlying2 g4
  refine ⟨⟨a0, a1, a2, a3, a4⟩, w0, fun j v hj => ?_⟩
  match j, hj with
  | 0, hj => injection hj with hj; rw [← hj]; exact e0.symm
  | 1, hj => injection hj with hj; rw [← hj]; exact e1.symm
  | 2, hj => injection hj with hj; rw [← hj]; exact e2.symm
  | 3, hj => injection hj with hj; rw [← hj]; exact e3.symm
  | 4, hj => injection hj with hj; rw [← hj]; exact e4.symm
set_option maxRecDepth 100000 in
theorem open_PlaceS {H : Type} {enc : TypeId × Value → H} {W : World} {r : Reach} {base b0 : Nat} {sp : Nat → Bool} {hd : Bool} {v : Value} {d : DataW H} {p : List MemPlace} (hv : Value.okWide Try.prog W r base 54 v) (h : DataW.Trod enc Try.prog W b0 sp hd 54 v d p) :
    ∃ (A : Option Addr) (c : Nat) (xs : List PlaceR), v = .slice A xs.length c ∧ SlAt encPlace 5 W A xs ∧ (∀ x ∈ xs, x.nm.size ≤ maxLen) ∧ xs.length ≤ maxLen := by
  obtain ⟨a0, len, cap, rfl⟩ := okWide_slice Try.underlying54 hv
  obtain ⟨fuel, hf⟩ := h
  refine open_rows (en := encPlace) (good := fun x => x.nm.size ≤ maxLen) Try.underlying54 Try.underlying115 (by kernel_rfl) (by kernel_rfl) (by decide) (fun _ => rfl) ?_ (show DataW.trod enc Try.prog W b0 sp hd fuel 54 [.slice a0 len cap] = some (d, p) from hf)
  intro vs hf
  obtain ⟨n0, y0, g0⟩ := hf 0 _ rfl
  obtain ⟨a0, e0, w0⟩ := trod_string' Try.underlying9 g0
  obtain ⟨n1, y1, g1⟩ := hf 1 _ rfl
  obtain ⟨a1, e1, w1⟩ := trod_int' Try.underlying2 g1
  obtain ⟨n2, y2, g2⟩ := hf 2 _ rfl
  obtain ⟨a2, e2, w2⟩ := trod_int' Try.underlying2 g2
  obtain ⟨n3, y3, g3⟩ := hf 3 _ rfl
  obtain ⟨a3, e3, w3⟩ := trod_int' Try.underlying2 g3
  obtain ⟨n4, y4, g4⟩ := hf 4 _ rfl
  obtain ⟨a4, e4, w4⟩ := trod_int' Try.underlying2 g4
  refine ⟨⟨a0, a1, a2, a3, a4⟩, w0, fun j v hj => ?_⟩
  match j, hj with
  | 0, hj => injection hj with hj; rw [← hj]; exact e0.symm
  | 1, hj => injection hj with hj; rw [← hj]; exact e1.symm
  | 2, hj => injection hj with hj; rw [← hj]; exact e2.symm
  | 3, hj => injection hj with hj; rw [← hj]; exact e3.symm
  | 4, hj => injection hj with hj; rw [← hj]; exact e4.symm
set_option maxRecDepth 100000 in
theorem FnExactIsClear_walk : LawWalk 12 Try.f12 := by
  intro H enc W base args ds p hval hA
  rw [Try.params12] at hA hval
  obtain ⟨v0, vs0, d0, ds0, p0, q0, hargs, rfl, rfl, h0, r0⟩ := trodAll_cons hA
  obtain ⟨v1, vs1, d1, ds1, p1, q1, rfl, rfl, rfl, h1, r1⟩ := trodAll_cons r0
  obtain ⟨v2, vs2, d2, ds2, p2, q2, rfl, rfl, rfl, h2, r2⟩ := trodAll_cons r1
  obtain ⟨rfl, rfl, rfl⟩ := trodAll_nil r2
  obtain rfl : args = #[v0, v1, v2] := by cases args; simp_all
  obtain ⟨x0_0, x0_1, x0_2, rfl, w0_0, w0_1, w0_2⟩ := open_Chamber (hval 0 _ v0 rfl rfl) h0
  obtain ⟨A1, c1, l1, rfl, s1, w1, z1⟩ := open_PlaceS (hval 1 _ v1 rfl rfl) h1
  obtain ⟨a2, rfl, rfl, rfl, w2⟩ := open_int Try.underlying2 (hval 2 _ v2 rfl rfl) h2
  exact lawIsClear x0_0 x0_1 x0_2 A1 c1 l1 a2 W s1 (by unfold maxLen at z1; omega) w1
set_option maxRecDepth 100000 in
theorem FnExactIsClear_lifted (os : Os) (started : os.Started) (H : Type) (enc : TypeId × Value → H) :
    ReturnsInHanded {} Try.checked os 12 .any (Rows.fnExactIsClearSpec.pre6 enc Try.prog Try.f12 Rows.fnExactIsClearRow.domain false) (Rows.fnExactIsClearSpec.post enc Try.prog Try.f12 false true false false) :=
  law_lift started H enc (by kernel_rfl) Try.func12
    (ChangeSpec.witness6 (enc := enc) (C := Try.checked) false ⟨#[], #[.agg #[.int .i64 0, .int .i64 0, .int .i64 0], .slice none 0 0, .int .i64 0], []⟩ 8 (by kernel_rfl) (by kernel_rfl) (by kernel_rfl) (by kernel_rfl))
    rfl (by kernel_rfl) (fun ds hl => by rw [Try.params12] at hl; match ds, hl with | [d0, d1, d2], _ => rfl) (by kernel_rfl) FnExactIsClear_walk
theorem FnExactIsClear_over : Rows.fnExactIsClearRow.holds Try.pinned (OpenSpec.ofChange Rows.fnExactIsClearSpec) :=
  OpenClaim.holds_of_wide 12 Try.f12 rfl rfl rfl rfl rfl rfl rfl ⟨rfl, rfl, rfl, rfl, rfl⟩ rfl rfl rfl rfl rfl (by kernel_rfl) Try.func12 (by kernel_rfl)
    (of_decide_eq_true (by kernel_rfl)) (by unfold Func.isWrapper; first | (rw [if_pos (by decide +kernel)]; kernel_rfl) | (rw [if_neg (by decide +kernel)]; exact ⟨rfl, rfl⟩))
    (fun os started H enc _ => FnExactIsClear_lifted os started H enc)
/-- The statement. -/
theorem FnExactIsClear_proved : Rows.FnExactIsClearSaid := FnExactIsClear_over
#print axioms FnExactIsClear_proved
end Go.Proofs.Ytdimapcecdffnaa
