import Derived.Test.YtklmbgefdopifaaBeam2
import Derived.Test.YtklmbgefdopifaaFrame2
namespace Go.Proofs.Ytklmbgefdopifaa
open Go.RowKit Go.ChangeShapes Go.WideShapes Go.ChangeAt Go.Joins Go.Deep

set_option maxRecDepth 100000 in
theorem open_Load_cell {H : Type} {enc : TypeId × Value → H} {W : World} {b0 : Nat} {sp : Nat → Bool} {hd : Bool} {fuel : Nat} {v : Value} {y : DataW H × List MemPlace} (h : DataW.trod enc Try.prog W b0 sp hd fuel 22 [v] = some y) :
    ∃ (A : Option Addr) (c : Nat) (xs : List LoadR), v = .slice A xs.length c ∧ SlAt encLoad 2 W A xs ∧ (∀ x ∈ xs, True) ∧ xs.length ≤ maxLen := by
  refine open_rows (en := encLoad) (good := fun x => True) Try.underlying22 Try.underlying26 (by kernel_rfl) (by kernel_rfl) (by decide) (fun _ => rfl) ?_ h
  intro vs hf
  obtain ⟨n0, y0, g0⟩ := hf 0 _ rfl
  obtain ⟨a0, e0, w0⟩ := trod_int' Try.underlying2 g0
  obtain ⟨n1, y1, g1⟩ := hf 1 _ rfl
  obtain ⟨a1, e1, w1⟩ := trod_int' Try.underlying2 g1
  refine ⟨⟨a0, a1⟩, trivial, fun j v hj => ?_⟩
  match j, hj with
  | 0, hj => injection hj with hj; rw [← hj]; exact e0.symm
  | 1, hj => injection hj with hj; rw [← hj]; exact e1.symm
set_option maxRecDepth 100000 in
theorem open_LoadS {H : Type} {enc : TypeId × Value → H} {W : World} {r : Reach} {base b0 : Nat} {sp : Nat → Bool} {hd : Bool} {v : Value} {d : DataW H} {p : List MemPlace} (hv : Value.okWide Try.prog W r base 22 v) (h : DataW.Trod enc Try.prog W b0 sp hd 22 v d p) :
    ∃ (A : Option Addr) (c : Nat) (xs : List LoadR), v = .slice A xs.length c ∧ SlAt encLoad 2 W A xs ∧ (∀ x ∈ xs, True) ∧ xs.length ≤ maxLen := by
  obtain ⟨a0, len, cap, rfl⟩ := okWide_slice Try.underlying22 hv
  obtain ⟨fuel, hf⟩ := h
  refine open_rows (en := encLoad) (good := fun x => True) Try.underlying22 Try.underlying26 (by kernel_rfl) (by kernel_rfl) (by decide) (fun _ => rfl) ?_ (show DataW.trod enc Try.prog W b0 sp hd fuel 22 [.slice a0 len cap] = some (d, p) from hf)
  intro vs hf
  obtain ⟨n0, y0, g0⟩ := hf 0 _ rfl
  obtain ⟨a0, e0, w0⟩ := trod_int' Try.underlying2 g0
  obtain ⟨n1, y1, g1⟩ := hf 1 _ rfl
  obtain ⟨a1, e1, w1⟩ := trod_int' Try.underlying2 g1
  refine ⟨⟨a0, a1⟩, trivial, fun j v hj => ?_⟩
  match j, hj with
  | 0, hj => injection hj with hj; rw [← hj]; exact e0.symm
  | 1, hj => injection hj with hj; rw [← hj]; exact e1.symm
set_option maxRecDepth 100000 in
theorem open_Beam0 {H : Type} {enc : TypeId × Value → H} {W : World} {r : Reach} {base b0 : Nat} {sp : Nat → Bool} {hd : Bool} {v : Value} {d : DataW H} {p : List MemPlace} (hv : Value.okWide Try.prog W r base 24 v) (h : DataW.Trod enc Try.prog W b0 sp hd 24 v d p) :
    ∃ (a0 : ByteArray) (a1 : Int) (a2 : Int) (a3 : Int) (a4 : Int) (a5 : Value), v = .agg #[.string a0, .int .i64 a1, .int .i64 a2, .int .i64 a3, .int .i64 a4, a5] ∧ a0.size ≤ maxLen ∧ Hid ((Lit.int .i64 a1).wf = true) ∧ Hid ((Lit.int .i64 a2).wf = true) ∧ Hid ((Lit.int .i64 a3).wf = true) ∧ Hid ((Lit.int .i64 a4).wf = true) ∧ (∃ (n : Nat) (y : DataW H × List MemPlace), DataW.trod enc Try.prog W b0 sp hd n 22 [a5] = some y) := by
  obtain ⟨cs, rfl, hl, hf⟩ := open_agg Try.underlying24 (by kernel_rfl) (by kernel_rfl) hv h
  match cs, hl with
  | [c0, c1, c2, c3, c4, c5], _ =>
    obtain ⟨n0, y0, g0⟩ := hf 0 _ c0 rfl rfl
    obtain ⟨a0, rfl, w0⟩ := trod_string' Try.underlying9 g0
    obtain ⟨n1, y1, g1⟩ := hf 1 _ c1 rfl rfl
    obtain ⟨a1, rfl, w1⟩ := trod_int' Try.underlying2 g1
    obtain ⟨n2, y2, g2⟩ := hf 2 _ c2 rfl rfl
    obtain ⟨a2, rfl, w2⟩ := trod_int' Try.underlying2 g2
    obtain ⟨n3, y3, g3⟩ := hf 3 _ c3 rfl rfl
    obtain ⟨a3, rfl, w3⟩ := trod_int' Try.underlying2 g3
    obtain ⟨n4, y4, g4⟩ := hf 4 _ c4 rfl rfl
    obtain ⟨a4, rfl, w4⟩ := trod_int' Try.underlying2 g4
    obtain ⟨n5, y5, g5⟩ := hf 5 _ c5 rfl rfl
    exact ⟨_, _, _, _, _, _, rfl, w0, w1, w2, w3, w4, ⟨_, _, g5⟩⟩
set_option maxRecDepth 100000 in
theorem open_Beam {H : Type} {enc : TypeId × Value → H} {W : World} {r : Reach} {base b0 : Nat} {sp : Nat → Bool} {hd : Bool} {v : Value} {d : DataW H} {p : List MemPlace} (hv : Value.okWide Try.prog W r base 24 v) (h : DataW.Trod enc Try.prog W b0 sp hd 24 v d p) :
    ∃ (nm : ByteArray) (span wd dp wood : Int) (A : Option Addr) (c : Nat) (ls : List LoadR), v = .agg #[.string nm, .int .i64 span, .int .i64 wd, .int .i64 dp, .int .i64 wood, .slice A ls.length c] ∧ nm.size ≤ maxLen ∧ SlAt encLoad 2 W A ls ∧ ls.length ≤ 9223372036854775807 := by
  obtain ⟨a0, a1, a2, a3, a4, a5, rfl, w0, _, _, _, _, n, y, h5⟩ := open_Beam0 hv h
  obtain ⟨A, c, ls, rfl, hS, -, hl⟩ := open_Load_cell h5
  exact ⟨a0, a1, a2, a3, a4, A, c, ls, rfl, w0, hS, by unfold maxLen at hl; omega⟩
end Go.Proofs.Ytklmbgefdopifaa
