/- The opening of an argument that is a slice of structs: it reads as a list of records. -/
import Derived.Test.YtnefgafmnpblpaaGreatFrame
import Derived.Test.YtnefgafmnpblpaaGreatSlice
namespace Go.Proofs.YtnefgafmnpblpaaGreat
open Go.RowKit Go.ChangeShapes Go.WideShapes Go.ChangeAt Go.Joins Go.Deep

section
variable {H : Type} {enc : TypeId × Value → H} {P : Program} {w : World} {base : Nat} {spare : Nat → Bool} {held : Bool}
theorem open_slice_fields {t e : TypeId} {fs : Array Field} {fuel : Nat} {cs : List Value} {x : DataW H × List MemPlace} (ht : P.underlying t = some (.slice e)) (he : P.underlying e = some (.struct fs))
    (hone : oneCellFields P fs = true) (hC : P.cellsOf e = fs.size) (h : DataW.trod enc P w base spare held fuel t cs = some x) :
    cs = [.slice none 0 0] ∨
    ∃ (a : Addr) (len cap m : Nat), cs = [.slice (some a) len cap] ∧ len ≤ m ∧ m ≤ maxLen ∧
      ∀ i, i < m → ∀ (j : Nat) (f : Field), fs[j]? = some f → ∃ (v : Value) (n : Nat) (y : DataW H × List MemPlace), w.cell? (a.add (i * fs.size + j)) = some v ∧ DataW.trod enc P w base spare held n f.type [v] = some y := by
  rcases open_slice ht h with h0 | ⟨a, len, cap, m, n, D, Pl, hcs, hb, hl, hm, hmm, hx, hi⟩
  · exact .inl h0.1
  · refine .inr ⟨a, len, cap, m, hcs, by split at hmm <;> omega, by split at hmm <;> omega, fun i him => ?_⟩
    obtain ⟨cs', hc, ht'⟩ := hi i him
    rw [hC] at hc
    obtain ⟨ys, n', hn', hy, hlen, hyl, hf⟩ := DataW.trod_struct he ht'
    obtain ⟨_, hcl, hat⟩ := World.cells?_some hc
    intro j f hj
    obtain ⟨ho, hk⟩ := hone_of hone j f hj
    have hjl : j < fs.size := (Array.getElem?_eq_some_iff.1 hj).1
    have hcell := hat j hjl
    have hv : cs'[j]? = some (cs'[j]'(by omega)) := List.getElem?_eq_getElem (by omega)
    have h1 := hf j f hj
    rw [ho, hk] at h1
    have hone' : (cs'.drop j).take 1 = [cs'[j]'(by omega)] := by
      rw [List.drop_eq_getElem_cons (by omega)]
      rfl
    rw [hone'] at h1
    have hys : ys[j]? = some (ys[j]'(by omega)) := List.getElem?_eq_getElem (by omega)
    refine ⟨_, _, _, ?_, h1.trans hys⟩
    rw [← Go.Deep.add_add, hcell, hv]

/-- .. as a list of records: 'mk' makes a record out of the readings of one element's fields. -/
theorem open_rows {α : Type} {en : α → List Value} {good : α → Prop} {t e : TypeId} {fs : Array Field} {fuel : Nat} {v : Value} {x : DataW H × List MemPlace} (ht : P.underlying t = some (.slice e)) (he : P.underlying e = some (.struct fs))
    (hone : oneCellFields P fs = true) (hC : P.cellsOf e = fs.size) (hpos : 0 < fs.size) (hlen : ∀ x, (en x).length = fs.size)
    (mk : ∀ vs : Nat → Value, (∀ (j : Nat) (f : Field), fs[j]? = some f → ∃ (n : Nat) (y : DataW H × List MemPlace), DataW.trod enc P w base spare held n f.type [vs j] = some y) → ∃ x : α, good x ∧ ∀ j v, (en x)[j]? = some v → v = vs j)
    (h : DataW.trod enc P w base spare held fuel t [v] = some x) : ∃ (A : Option Addr) (c : Nat) (xs : List α), v = .slice A xs.length c ∧ SlAt en fs.size w A xs ∧ (∀ x ∈ xs, good x) ∧ xs.length ≤ maxLen := by
  rcases open_slice_fields ht he hone hC h with h0 | ⟨a, len, cap, m, hcs, hl, hm, hi⟩
  · injection h0 with h0 _
    subst h0
    exact ⟨none, 0, [], rfl, fun k hk => by simp at hk, fun x hx => by simp at hx, by simp⟩
  · injection hcs with hcs _
    subst hcs
    have hv : ∀ (i j : Nat), ∃ v : Value, i < m → ∀ f, fs[j]? = some f → w.cell? (a.add (i * fs.size + j)) = some v ∧ ∃ (n : Nat) (y : DataW H × List MemPlace), DataW.trod enc P w base spare held n f.type [v] = some y := by
      intro i j
      by_cases him : i < m
      · cases hf : fs[j]? with
        | none => exact ⟨undef, fun _ f h => by cases h⟩
        | some f =>
          obtain ⟨v, n, y, h1, h2⟩ := hi i him j f hf
          exact ⟨v, fun _ f' h => by cases h; exact ⟨h1, n, y, h2⟩⟩
      · exact ⟨undef, fun h => absurd h him⟩
    have hr : ∀ i : Nat, ∃ r : Option α, i < m → ∃ x, r = some x ∧ good x ∧ ∀ j v, (en x)[j]? = some v → w.cell? (a.add (i * fs.size + j)) = some v := by
      intro i
      by_cases him : i < m
      · obtain ⟨x, hg, hx⟩ := mk (fun j => Classical.choose (hv i j)) fun j f hf => (Classical.choose_spec (hv i j) him f hf).2
        refine ⟨some x, fun _ => ⟨x, rfl, hg, fun j v hj => ?_⟩⟩
        have hjl : j < fs.size := by
          have := (List.getElem?_eq_some_iff.1 hj).1
          rwa [hlen] at this
        rw [hx j v hj]
        exact (Classical.choose_spec (hv i j) him _ (Array.getElem?_eq_getElem hjl)).1
      · exact ⟨none, fun h => absurd h him⟩
    have hg : ∀ i : Fin len, ∃ x : α, good x ∧ ∀ j v, (en x)[j]? = some v → w.cell? (a.add (i.1 * fs.size + j)) = some v := fun i => by
      obtain ⟨r, hr⟩ := hr i.1
      obtain ⟨x, _, h1, h2⟩ := hr (by have := i.2; omega)
      exact ⟨x, h1, h2⟩
    refine ⟨some a, cap, List.ofFn fun i : Fin len => Classical.choose (hg i), by simp, ?_, ?_, by simp; omega⟩
    · intro k hk
      have hk' : k < len := by simpa using hk
      have hspec := Classical.choose_spec (hg ⟨k, hk'⟩)
      have hget : (List.ofFn fun i : Fin len => Classical.choose (hg i))[k] = Classical.choose (hg ⟨k, hk'⟩) := by simp
      rw [hget]
      obtain ⟨b, off, spot⟩ := a
      have h0 := Classical.choose_spec (hg ⟨0, by omega⟩)
      have hc0 := h0.2 0 _ (List.getElem?_eq_getElem (by rw [hlen]; exact hpos))
      have hspot : spot = none := by
        simp only [Nat.zero_mul, Nat.zero_add] at hc0
        simpa [Addr.add] using World.cell?_spot hc0
      subst hspot
      refine ⟨b, off, rfl, ?_, fun j v hj => ?_⟩
      · have := World.block_lt_of_cell? w _ hc0
        simpa [Addr.add] using this
      · have := hspec.2 j v hj
        rw [Go.WideShapes.add_plain] at this
        rwa [Nat.add_assoc]
    · intro x hx
      rw [List.mem_ofFn] at hx
      obtain ⟨i, rfl⟩ := hx
      exact (Classical.choose_spec (hg i)).1
end
end Go.Proofs.YtnefgafmnpblpaaGreat
