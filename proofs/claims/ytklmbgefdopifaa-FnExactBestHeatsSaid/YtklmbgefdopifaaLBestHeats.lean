/- Proved: for every input, laws.FnExactBestHeats returns true and leaves its arguments as they were. No condition. -/
import Derived.Test.YtklmbgefdopifaaHtLB
import Derived.Test.YtklmbgefdopifaaFrame2
namespace Go.Proofs.Ytklmbgefdopifaa
open Go.RowKit Go.ChangeShapes Go.WideShapes Go.ChangeAt Go.Joins Go.Deep

set_option maxRecDepth 100000 in
theorem open_Pour_cell {H : Type} {enc : TypeId × Value → H} {W : World} {b0 : Nat} {sp : Nat → Bool} {hd : Bool} {fuel : Nat} {v : Value} {y : DataW H × List MemPlace} (h : DataW.trod enc Try.prog W b0 sp hd fuel 39 [v] = some y) :
    ∃ (A : Option Addr) (c : Nat) (xs : List PourR), v = .slice A xs.length c ∧ SlAt encPour 4 W A xs ∧ (∀ x ∈ xs, x.nm.size ≤ maxLen) ∧ xs.length ≤ maxLen := by
  refine open_rows (en := encPour) (good := fun x => x.nm.size ≤ maxLen) Try.underlying39 Try.underlying82 (by kernel_rfl) (by kernel_rfl) (by decide) (fun _ => rfl) ?_ h
  intro vs hf
  obtain ⟨n0, y0, g0⟩ := hf 0 _ rfl
  obtain ⟨a0, e0, w0⟩ := trod_string' Try.underlying9 g0
  obtain ⟨n1, y1, g1⟩ := hf 1 _ rfl
  obtain ⟨a1, e1, w1⟩ := trod_int' Try.underlying2 g1
  obtain ⟨n2, y2, g2⟩ := hf 2 _ rfl
  obtain ⟨a2, e2, w2⟩ := trod_int' Try.underlying2 g2
  obtain ⟨n3, y3, g3⟩ := hf 3 _ rfl
  obtain ⟨a3, e3, w3⟩ := trod_int' Try.underlying2 g3
  refine ⟨⟨a0, a1, a2, a3⟩, w0, fun j v hj => ?_⟩
  match j, hj with
  | 0, hj => injection hj with hj; rw [← hj]; exact e0.symm
  | 1, hj => injection hj with hj; rw [← hj]; exact e1.symm
  | 2, hj => injection hj with hj; rw [← hj]; exact e2.symm
  | 3, hj => injection hj with hj; rw [← hj]; exact e3.symm
set_option maxRecDepth 100000 in
theorem open_PourS {H : Type} {enc : TypeId × Value → H} {W : World} {r : Reach} {base b0 : Nat} {sp : Nat → Bool} {hd : Bool} {v : Value} {d : DataW H} {p : List MemPlace} (hv : Value.okWide Try.prog W r base 39 v) (h : DataW.Trod enc Try.prog W b0 sp hd 39 v d p) :
    ∃ (A : Option Addr) (c : Nat) (xs : List PourR), v = .slice A xs.length c ∧ SlAt encPour 4 W A xs ∧ (∀ x ∈ xs, x.nm.size ≤ maxLen) ∧ xs.length ≤ maxLen := by
  obtain ⟨a0, len, cap, rfl⟩ := okWide_slice Try.underlying39 hv
  obtain ⟨fuel, hf⟩ := h
  refine open_rows (en := encPour) (good := fun x => x.nm.size ≤ maxLen) Try.underlying39 Try.underlying82 (by kernel_rfl) (by kernel_rfl) (by decide) (fun _ => rfl) ?_ (show DataW.trod enc Try.prog W b0 sp hd fuel 39 [.slice a0 len cap] = some (d, p) from hf)
  intro vs hf
  obtain ⟨n0, y0, g0⟩ := hf 0 _ rfl
  obtain ⟨a0, e0, w0⟩ := trod_string' Try.underlying9 g0
  obtain ⟨n1, y1, g1⟩ := hf 1 _ rfl
  obtain ⟨a1, e1, w1⟩ := trod_int' Try.underlying2 g1
  obtain ⟨n2, y2, g2⟩ := hf 2 _ rfl
  obtain ⟨a2, e2, w2⟩ := trod_int' Try.underlying2 g2
  obtain ⟨n3, y3, g3⟩ := hf 3 _ rfl
  obtain ⟨a3, e3, w3⟩ := trod_int' Try.underlying2 g3
  refine ⟨⟨a0, a1, a2, a3⟩, w0, fun j v hj => ?_⟩
  match j, hj with
  | 0, hj => injection hj with hj; rw [← hj]; exact e0.symm
  | 1, hj => injection hj with hj; rw [← hj]; exact e1.symm
  | 2, hj => injection hj with hj; rw [← hj]; exact e2.symm
  | 3, hj => injection hj with hj; rw [← hj]; exact e3.symm
set_option maxRecDepth 100000 in
theorem open_Cruc_cell {H : Type} {enc : TypeId × Value → H} {W : World} {b0 : Nat} {sp : Nat → Bool} {hd : Bool} {fuel : Nat} {v : Value} {y : DataW H × List MemPlace} (h : DataW.trod enc Try.prog W b0 sp hd fuel 40 [v] = some y) :
    ∃ (A : Option Addr) (c : Nat) (xs : List CrucR), v = .slice A xs.length c ∧ SlAt encCruc 4 W A xs ∧ (∀ x ∈ xs, x.nm.size ≤ maxLen) ∧ xs.length ≤ maxLen := by
  refine open_rows (en := encCruc) (good := fun x => x.nm.size ≤ maxLen) Try.underlying40 Try.underlying85 (by kernel_rfl) (by kernel_rfl) (by decide) (fun _ => rfl) ?_ h
  intro vs hf
  obtain ⟨n0, y0, g0⟩ := hf 0 _ rfl
  obtain ⟨a0, e0, w0⟩ := trod_string' Try.underlying9 g0
  obtain ⟨n1, y1, g1⟩ := hf 1 _ rfl
  obtain ⟨a1, e1, w1⟩ := trod_int' Try.underlying2 g1
  obtain ⟨n2, y2, g2⟩ := hf 2 _ rfl
  obtain ⟨a2, e2, w2⟩ := trod_int' Try.underlying2 g2
  obtain ⟨n3, y3, g3⟩ := hf 3 _ rfl
  obtain ⟨a3, e3, w3⟩ := trod_int' Try.underlying2 g3
  refine ⟨⟨a0, a1, a2, a3⟩, w0, fun j v hj => ?_⟩
  match j, hj with
  | 0, hj => injection hj with hj; rw [← hj]; exact e0.symm
  | 1, hj => injection hj with hj; rw [← hj]; exact e1.symm
  | 2, hj => injection hj with hj; rw [← hj]; exact e2.symm
  | 3, hj => injection hj with hj; rw [← hj]; exact e3.symm
set_option maxRecDepth 100000 in
theorem open_CrucS {H : Type} {enc : TypeId × Value → H} {W : World} {r : Reach} {base b0 : Nat} {sp : Nat → Bool} {hd : Bool} {v : Value} {d : DataW H} {p : List MemPlace} (hv : Value.okWide Try.prog W r base 40 v) (h : DataW.Trod enc Try.prog W b0 sp hd 40 v d p) :
    ∃ (A : Option Addr) (c : Nat) (xs : List CrucR), v = .slice A xs.length c ∧ SlAt encCruc 4 W A xs ∧ (∀ x ∈ xs, x.nm.size ≤ maxLen) ∧ xs.length ≤ maxLen := by
  obtain ⟨a0, len, cap, rfl⟩ := okWide_slice Try.underlying40 hv
  obtain ⟨fuel, hf⟩ := h
  refine open_rows (en := encCruc) (good := fun x => x.nm.size ≤ maxLen) Try.underlying40 Try.underlying85 (by kernel_rfl) (by kernel_rfl) (by decide) (fun _ => rfl) ?_ (show DataW.trod enc Try.prog W b0 sp hd fuel 40 [.slice a0 len cap] = some (d, p) from hf)
  intro vs hf
  obtain ⟨n0, y0, g0⟩ := hf 0 _ rfl
  obtain ⟨a0, e0, w0⟩ := trod_string' Try.underlying9 g0
  obtain ⟨n1, y1, g1⟩ := hf 1 _ rfl
  obtain ⟨a1, e1, w1⟩ := trod_int' Try.underlying2 g1
  obtain ⟨n2, y2, g2⟩ := hf 2 _ rfl
  obtain ⟨a2, e2, w2⟩ := trod_int' Try.underlying2 g2
  obtain ⟨n3, y3, g3⟩ := hf 3 _ rfl
  obtain ⟨a3, e3, w3⟩ := trod_int' Try.underlying2 g3
  refine ⟨⟨a0, a1, a2, a3⟩, w0, fun j v hj => ?_⟩
  match j, hj with
  | 0, hj => injection hj with hj; rw [← hj]; exact e0.symm
  | 1, hj => injection hj with hj; rw [← hj]; exact e1.symm
  | 2, hj => injection hj with hj; rw [← hj]; exact e2.symm
  | 3, hj => injection hj with hj; rw [← hj]; exact e3.symm
set_option maxRecDepth 100000 in
theorem FnExactBestHeats_walk : LawWalk 5 Try.f5 := by
  intro H enc W base args ds p hval hA
  rw [Try.params5] at hA hval
  obtain ⟨v0, vs0, d0, ds0, p0, q0, hargs, rfl, rfl, h0, r0⟩ := trodAll_cons hA
  obtain ⟨v1, vs1, d1, ds1, p1, q1, rfl, rfl, rfl, h1, r1⟩ := trodAll_cons r0
  obtain ⟨v2, vs2, d2, ds2, p2, q2, rfl, rfl, rfl, h2, r2⟩ := trodAll_cons r1
  obtain ⟨rfl, rfl, rfl⟩ := trodAll_nil r2
  obtain rfl : args = #[v0, v1, v2] := by cases args; simp_all
  obtain ⟨A0, c0, l0, rfl, s0, w0, z0⟩ := open_PourS (hval 0 _ v0 rfl rfl) h0
  obtain ⟨A1, c1, l1, rfl, s1, w1, z1⟩ := open_CrucS (hval 1 _ v1 rfl rfl) h1
  obtain ⟨a2, rfl, rfl, rfl, w2⟩ := open_int Try.underlying2 (hval 2 _ v2 rfl rfl) h2
  exact lawBestHeats A0 A1 c0 c1 l0 l1 a2 W s0 s1 (by unfold maxLen at z0; omega) (by unfold maxLen at z1; omega) w0 w1
set_option maxRecDepth 100000 in
theorem FnExactBestHeats_lifted (os : Os) (started : os.Started) (H : Type) (enc : TypeId × Value → H) :
    ReturnsInHanded {} Try.checked os 5 .any (Rows.fnExactBestHeatsSpec.pre6 enc Try.prog Try.f5 Rows.fnExactBestHeatsRow.domain false) (Rows.fnExactBestHeatsSpec.post enc Try.prog Try.f5 false true false false) :=
  law_lift started H enc (by kernel_rfl) Try.func5
    (ChangeSpec.witness6 (enc := enc) (C := Try.checked) false ⟨#[], #[.slice none 0 0, .slice none 0 0, .int .i64 0], []⟩ 8 (by kernel_rfl) (by kernel_rfl) (by kernel_rfl) (by kernel_rfl))
    rfl (by kernel_rfl) (fun ds hl => by rw [Try.params5] at hl; match ds, hl with | [d0, d1, d2], _ => rfl) (by kernel_rfl) FnExactBestHeats_walk
theorem FnExactBestHeats_over : Rows.fnExactBestHeatsRow.holds Try.pinned (OpenSpec.ofChange Rows.fnExactBestHeatsSpec) :=
  OpenClaim.holds_of_wide 5 Try.f5 rfl rfl rfl rfl rfl rfl rfl ⟨rfl, rfl, rfl, rfl, rfl⟩ rfl rfl rfl rfl rfl (by kernel_rfl) Try.func5 (by kernel_rfl)
    (of_decide_eq_true (by kernel_rfl)) (by unfold Func.isWrapper; first | (rw [if_pos (by decide +kernel)]; kernel_rfl) | (rw [if_neg (by decide +kernel)]; exact ⟨rfl, rfl⟩))
    (fun os started H enc _ => FnExactBestHeats_lifted os started H enc)
/-- The statement. -/
theorem FnExactBestHeats_proved : Rows.FnExactBestHeatsSaid := FnExactBestHeats_over
#print axioms FnExactBestHeats_proved
end Go.Proofs.Ytklmbgefdopifaa
