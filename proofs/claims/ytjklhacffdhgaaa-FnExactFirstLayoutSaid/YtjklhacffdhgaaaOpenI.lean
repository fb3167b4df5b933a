/- The opening of an argument that is a slice of numbers. -/
import Derived.Test.YtjklhacffdhgaaaFrame2
import Derived.Test.YtjklhacffdhgaaaInts
import Derived.Deep.Slices
namespace Go.Proofs.Ytjklhacffdhgaaa
open Go.RowKit Go.ChangeShapes Go.WideShapes Go.ChangeAt Go.Joins Go.Deep

set_option maxRecDepth 100000 in
theorem open_IntS {H : Type} {enc : TypeId × Value → H} {W : World} {r : Reach} {base b0 : Nat} {sp : Nat → Bool} {hd : Bool} {v : Value} {d : DataW H} {p : List MemPlace} (hv : Value.okWide Try.prog W r base 34 v) (h : DataW.Trod enc Try.prog W b0 sp hd 34 v d p) :
    ∃ (A : Option Addr) (c : Nat) (xs : List Int), v = .slice A xs.length c ∧ SlAt encI 1 W A xs := by
  obtain ⟨a0, len, cap, rfl⟩ := okWide_slice Try.underlying34 hv
  obtain ⟨fuel, hf⟩ := h
  rcases open_slice1 (e := 2) Try.underlying34 (by kernel_rfl) (show DataW.trod enc Try.prog W b0 sp hd fuel 34 [.slice a0 len cap] = some (d, p) from hf) with ⟨hcs, -⟩ | ⟨a, len', cap', m, n, V, D, Pl, hcs, -, hl, hm, hmm, -, hi⟩
  · injection hcs with hcs _
    injection hcs with h1 h2 h3
    subst h1; subst h2; subst h3
    exact ⟨none, 0, [], rfl, fun k hk => by simp at hk⟩
  · injection hcs with hcs _
    injection hcs with h1 h2 h3
    subst h1; subst h2; subst h3
    refine ⟨some a, cap, (List.range len).map fun k => intOf (V k), by simp, fun k hk => ?_⟩
    have hk' : k < len := by simpa using hk
    have hkm : k < m := by rw [hmm]; split <;> omega
    obtain ⟨hc, ht⟩ := hi k hkm
    obtain ⟨x, ex, hw⟩ := trod_int' Try.underlying2 ht
    obtain ⟨ab, ao, sp⟩ := a
    have hspot : sp = none := by
      obtain ⟨hc0, _⟩ := hi 0 (by omega)
      simpa [Addr.add] using World.cell?_spot hc0
    subst hspot
    rw [Addr.add_lit, ex] at hc
    refine ⟨ab, ao, rfl, World.block_lt_of_cell? _ _ hc, fun j u hj => ?_⟩
    match j, hj with
    | 0, hj =>
      injection hj with hj
      subst hj
      simp only [List.getElem_map, List.getElem_range, ex, Nat.mul_one, Nat.add_zero]
      exact hc
end Go.Proofs.Ytjklhacffdhgaaa
