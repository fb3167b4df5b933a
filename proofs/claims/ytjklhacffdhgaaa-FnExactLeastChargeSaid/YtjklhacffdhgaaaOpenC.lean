/- The opening of an argument that is a slice of structs whose fields are structs: it reads as a list of records; ingots. -/
import Derived.Test.YtjklhacffdhgaaaFrame2
import Derived.Test.YtjklhacffdhgaaaIng
namespace Go.Proofs.Ytjklhacffdhgaaa
open Go.RowKit Go.ChangeShapes Go.WideShapes Go.ChangeAt Go.Joins Go.Deep

section
variable {H : Type} {enc : TypeId × Value → H} {P : Program} {w : World} {base : Nat} {spare : Nat → Bool} {held : Bool}
theorem open_slice_cells {t e : TypeId} {K fuel : Nat} {cs : List Value} {x : DataW H × List MemPlace} (ht : P.underlying t = some (.slice e)) (hC : P.cellsOf e = K) (h : DataW.trod enc P w base spare held fuel t cs = some x) :
    cs = [.slice none 0 0] ∨
    ∃ (a : Addr) (len cap m : Nat), cs = [.slice (some a) len cap] ∧ len ≤ m ∧ m ≤ maxLen ∧
      ∀ i, i < m → ∃ (vs : List Value) (n : Nat) (y : DataW H × List MemPlace), vs.length = K ∧ (∀ (j : Nat) (v : Value), vs[j]? = some v → w.cell? (a.add (i * K + j)) = some v) ∧ DataW.trod enc P w base spare held n e vs = some y := by
  rcases open_slice ht h with h0 | ⟨a, len, cap, m, n, D, Pl, hcs, hb, hl, hm, hmm, hx, hi⟩
  · exact .inl h0.1
  · refine .inr ⟨a, len, cap, m, hcs, by split at hmm <;> omega, by split at hmm <;> omega, fun i him => ?_⟩
    obtain ⟨cs', hc, ht'⟩ := hi i him
    rw [hC] at hc
    obtain ⟨_, hcl, hat⟩ := World.cells?_some hc
    refine ⟨cs', _, _, hcl, fun j v hj => ?_, ht'⟩
    have hjl : j < K := by
      have := (List.getElem?_eq_some_iff.1 hj).1
      omega
    have hcell := hat j hjl
    rw [← Go.Deep.add_add, hcell, hj]
theorem open_rowsC {α : Type} {en : α → List Value} {good : α → Prop} {t e : TypeId} {K fuel : Nat} {v : Value} {x : DataW H × List MemPlace} (ht : P.underlying t = some (.slice e)) (hC : P.cellsOf e = K) (hpos : 0 < K)
    (mk : ∀ (vs : List Value) (n : Nat) (y : DataW H × List MemPlace), vs.length = K → DataW.trod enc P w base spare held n e vs = some y → ∃ x : α, good x ∧ en x = vs)
    (h : DataW.trod enc P w base spare held fuel t [v] = some x) : ∃ (A : Option Addr) (c : Nat) (xs : List α), v = .slice A xs.length c ∧ SlAt en K w A xs ∧ (∀ x ∈ xs, good x) ∧ xs.length ≤ maxLen := by
  rcases open_slice_cells ht hC h with h0 | ⟨a, len, cap, m, hcs, hl, hm, hi⟩
  · injection h0 with h0 _
    subst h0
    exact ⟨none, 0, [], rfl, fun k hk => by simp at hk, fun x hx => by simp at hx, by simp⟩
  · injection hcs with hcs _
    subst hcs
    have hg : ∀ i : Fin len, ∃ x : α, good x ∧ (en x).length = K ∧ ∀ j v, (en x)[j]? = some v → w.cell? (a.add (i.1 * K + j)) = some v := fun i => by
      obtain ⟨vs, n, y, h1, h2, h3⟩ := hi i.1 (by have := i.2; omega)
      obtain ⟨x, hx, he⟩ := mk vs n y h1 h3
      exact ⟨x, hx, by rw [he]; exact h1, by rw [he]; exact h2⟩
    refine ⟨some a, cap, List.ofFn fun i : Fin len => Classical.choose (hg i), by simp, ?_, ?_, by simp; omega⟩
    · intro k hk
      have hk' : k < len := by simpa using hk
      have hspec := Classical.choose_spec (hg ⟨k, hk'⟩)
      have hget : (List.ofFn fun i : Fin len => Classical.choose (hg i))[k] = Classical.choose (hg ⟨k, hk'⟩) := by simp
      rw [hget]
      obtain ⟨b, off, spot⟩ := a
      have h0 := Classical.choose_spec (hg ⟨0, by omega⟩)
      have hc0 := h0.2.2 0 _ (List.getElem?_eq_getElem (by rw [h0.2.1]; exact hpos))
      have hspot : spot = none := by
        simp only [Nat.zero_mul, Nat.zero_add] at hc0
        simpa [Addr.add] using World.cell?_spot hc0
      subst hspot
      refine ⟨b, off, rfl, ?_, fun j v hj => ?_⟩
      · have := World.block_lt_of_cell? w _ hc0
        simpa [Addr.add] using this
      · have := hspec.2.2 j v hj
        rw [Go.WideShapes.add_plain] at this
        rwa [Nat.add_assoc]
    · intro x hx
      rw [List.mem_ofFn] at hx
      obtain ⟨i, rfl⟩ := hx
      exact (Classical.choose_spec (hg i)).1
end
set_option maxRecDepth 100000 in
theorem mk_Ingot {H : Type} {enc : TypeId × Value → H} {W : World} {b0 : Nat} {sp : Nat → Bool} {hd : Bool} (vs : List Value) (n : Nat) (y : DataW H × List MemPlace) (hl : vs.length = 5) (h : DataW.trod enc Try.prog W b0 sp hd n 118 vs = some y) : ∃ x : IngotR, x.nm.size ≤ maxLen ∧ encIngot x = vs := by
  match vs, hl with
  | [c0, c1, c2, c3, c4], _ =>
    obtain ⟨ys, n', hn', hy, hlen, hyl, hf⟩ := DataW.trod_struct Try.underlying118 h
    have e9 : Try.prog.cellsOf 9 = 1 := by kernel_rfl
    have e2 : Try.prog.cellsOf 2 = 1 := by kernel_rfl
    have eA : Try.prog.cellsOf 116 = 3 := by kernel_rfl
    have h0 : DataW.trod enc Try.prog W b0 sp hd n' 9 (([c0, c1, c2, c3, c4].drop 0).take (Try.prog.cellsOf 9)) = ys[0]? := hf 0 _ rfl
    have h1 : DataW.trod enc Try.prog W b0 sp hd n' 2 (([c0, c1, c2, c3, c4].drop 1).take (Try.prog.cellsOf 2)) = ys[1]? := hf 1 _ rfl
    have h2 : DataW.trod enc Try.prog W b0 sp hd n' 116 (([c0, c1, c2, c3, c4].drop 2).take (Try.prog.cellsOf 116)) = ys[2]? := hf 2 _ rfl
    have y0 : ys[0]? = some (ys[0]'(by rw [hyl]; decide)) := List.getElem?_eq_getElem _
    have y1 : ys[1]? = some (ys[1]'(by rw [hyl]; decide)) := List.getElem?_eq_getElem _
    have y2 : ys[2]? = some (ys[2]'(by rw [hyl]; decide)) := List.getElem?_eq_getElem _
    simp only [e9, e2, eA, List.drop_zero, List.drop_succ_cons, List.take_succ_cons, List.take_zero] at h0 h1 h2
    obtain ⟨a0, rfl, w0⟩ := trod_string' Try.underlying9 (h0.trans y0)
    obtain ⟨a1, rfl, w1⟩ := trod_int' Try.underlying2 (h1.trans y1)
    obtain ⟨zs, n2, hn2, hz, hlen2, hzl, hg⟩ := DataW.trod_struct Try.underlying116 (h2.trans y2)
    have g0 : DataW.trod enc Try.prog W b0 sp hd n2 2 (([c2, c3, c4].drop 0).take (Try.prog.cellsOf 2)) = zs[0]? := hg 0 _ rfl
    have g1 : DataW.trod enc Try.prog W b0 sp hd n2 2 (([c2, c3, c4].drop 1).take (Try.prog.cellsOf 2)) = zs[1]? := hg 1 _ rfl
    have g2 : DataW.trod enc Try.prog W b0 sp hd n2 2 (([c2, c3, c4].drop 2).take (Try.prog.cellsOf 2)) = zs[2]? := hg 2 _ rfl
    have z0 : zs[0]? = some (zs[0]'(by rw [hzl]; decide)) := List.getElem?_eq_getElem _
    have z1 : zs[1]? = some (zs[1]'(by rw [hzl]; decide)) := List.getElem?_eq_getElem _
    have z2 : zs[2]? = some (zs[2]'(by rw [hzl]; decide)) := List.getElem?_eq_getElem _
    simp only [e2, List.drop_zero, List.drop_succ_cons, List.take_succ_cons, List.take_zero] at g0 g1 g2
    obtain ⟨a2, rfl, w2⟩ := trod_int' Try.underlying2 (g0.trans z0)
    obtain ⟨a3, rfl, w3⟩ := trod_int' Try.underlying2 (g1.trans z1)
    obtain ⟨a4, rfl, w4⟩ := trod_int' Try.underlying2 (g2.trans z2)
    exact ⟨⟨a0, a1, a2, a3, a4⟩, w0, rfl⟩
set_option maxRecDepth 100000 in
theorem open_IngotS {H : Type} {enc : TypeId × Value → H} {W : World} {r : Reach} {base b0 : Nat} {sp : Nat → Bool} {hd : Bool} {v : Value} {d : DataW H} {p : List MemPlace} (hv : Value.okWide Try.prog W r base 22 v) (h : DataW.Trod enc Try.prog W b0 sp hd 22 v d p) :
    ∃ (A : Option Addr) (c : Nat) (xs : List IngotR), v = .slice A xs.length c ∧ SlAt encIngot 5 W A xs ∧ (∀ x ∈ xs, x.nm.size ≤ maxLen) ∧ xs.length ≤ maxLen := by
  obtain ⟨a0, len, cap, rfl⟩ := okWide_slice Try.underlying22 hv
  obtain ⟨fuel, hf⟩ := h
  exact open_rowsC (en := encIngot) (good := fun x => x.nm.size ≤ maxLen) Try.underlying22 (by kernel_rfl) (by decide) mk_Ingot (show DataW.trod enc Try.prog W b0 sp hd fuel 22 [.slice a0 len cap] = some (d, p) from hf)
end Go.Proofs.Ytjklhacffdhgaaa
