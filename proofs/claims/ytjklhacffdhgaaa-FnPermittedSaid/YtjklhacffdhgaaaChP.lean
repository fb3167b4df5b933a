/- Plain laws of the search for charges: what is best has at most as many numbers as there are ingots; what a whole search answers. -/
import Derived.Test.YtjklhacffdhgaaaCh
namespace Go.Proofs.Ytjklhacffdhgaaa
open Go.RowKit

namespace Ch
theorem look_best {fit : Bool} {ch : List Int} {mass : Int} {s : S} {N : Nat} (h : s.best.length ≤ N) (hc : ch.length ≤ N) : (look fit ch mass s).best.length ≤ N := by
  unfold look
  split
  · simp only
    split
    · exact hc
    · exact h
  · exact h
theorem srch_best {first : Bool} {fit : List Int → Bool} {ms : List Int} {most : Int} {N : Nat} (hN : ms.length ≤ N) : ∀ (f : Nat) {ch : List Int} {mass : Int} {k0 : Nat} {s : S}, ch.length ≤ k0 → k0 ≤ ms.length → s.best.length ≤ N → (srch first fit ms most f ch mass k0 s).best.length ≤ N := by
  intro f
  induction f with
  | zero => intro ch mass k0 s _ _ h; exact h
  | succ f ih =>
    intro ch mass k0 s hc hk h
    cases e : ended first s
    · by_cases h0 : s.left = 0
      · rw [srch_spent e h0]; exact h
      · rw [srch_goes e h0]
        have hr : ∀ (m k : Nat) (s : S), k0 ≤ k → k + m ≤ ms.length → s.best.length ≤ N → (rounds (step first fit ms most f ch mass) m k s).best.length ≤ N := by
          intro m
          induction m with
          | zero => intro k s _ _ hs; exact hs
          | succ m ihm =>
            intro k s hk1 hk2 hs
            refine ihm (k + 1) _ (by omega) (by omega) ?_
            unfold step
            split
            · exact ih (by simp; omega) (by omega) hs
            · exact hs
        exact hr _ _ _ (Nat.le_refl _) (by omega) (look_best h (by omega))
    · rw [srch_ended e]; exact h
end Ch
/-- A whole search. -/
def lastC (d0 d1 d2 d3 d4 : Int) (xs : List IngotR) (budget : Int) (first : Bool) : Ch.S := Ch.srch first (fitC d0 d1 d2 d3 d4 xs) (xs.map fM) d1 (xs.length + 1) [] 0 0 ⟨budget, false, 0, [], 0⟩
theorem lastC_best (d0 d1 d2 d3 d4 : Int) (xs : List IngotR) (budget : Int) (first : Bool) (hn : xs.length ≤ 16) : (lastC d0 d1 d2 d3 d4 xs budget first).best.length ≤ 16 :=
  Ch.srch_best (by simpa using hn) _ (by simp) (by simp) (by simp)
/-- What a search answers: a code, and what it knows. -/
@[irreducible] noncomputable def runC (d0 d1 d2 d3 d4 : Int) (xs : List IngotR) (budget : Int) (first : Bool) : Int × Ch.S :=
  if rowsB vIngotR IngotR.nm 16 xs && vDem d0 d1 d2 d3 d4 then (if inB budget 1 20000 then (if (lastC d0 d1 d2 d3 d4 xs budget first).spent then (5, lastC d0 d1 d2 d3 d4 xs budget first) else (0, lastC d0 d1 d2 d3 d4 xs budget first)) else (2, lastC d0 d1 d2 d3 d4 xs budget first)) else (1, lastC d0 d1 d2 d3 d4 xs budget first)
section
variable {d0 d1 d2 d3 d4 : Int} {xs : List IngotR} {budget : Int} {first : Bool}
theorem runC_1 (h : rowsB vIngotR IngotR.nm 16 xs = false) : runC d0 d1 d2 d3 d4 xs budget first = (1, lastC d0 d1 d2 d3 d4 xs budget first) := by unfold runC; simp [h]
theorem runC_2 (h : vDem d0 d1 d2 d3 d4 = false) : runC d0 d1 d2 d3 d4 xs budget first = (1, lastC d0 d1 d2 d3 d4 xs budget first) := by unfold runC; simp [h]
theorem runC_3 (h : rowsB vIngotR IngotR.nm 16 xs = true) (h2 : vDem d0 d1 d2 d3 d4 = true) (h3 : inB budget 1 20000 = false) : runC d0 d1 d2 d3 d4 xs budget first = (2, lastC d0 d1 d2 d3 d4 xs budget first) := by unfold runC; simp [h, h2, h3]
theorem runC_4 (h : rowsB vIngotR IngotR.nm 16 xs = true) (h2 : vDem d0 d1 d2 d3 d4 = true) (h3 : inB budget 1 20000 = true) (h4 : (lastC d0 d1 d2 d3 d4 xs budget first).spent = true) : runC d0 d1 d2 d3 d4 xs budget first = (5, lastC d0 d1 d2 d3 d4 xs budget first) := by unfold runC; simp [h, h2, h3, h4]
theorem runC_5 (h : rowsB vIngotR IngotR.nm 16 xs = true) (h2 : vDem d0 d1 d2 d3 d4 = true) (h3 : inB budget 1 20000 = true) (h4 : (lastC d0 d1 d2 d3 d4 xs budget first).spent = false) : runC d0 d1 d2 d3 d4 xs budget first = (0, lastC d0 d1 d2 d3 d4 xs budget first) := by unfold runC; simp [h, h2, h3, h4]
theorem rowsB_ok {α : Type} {v : α → Bool} {nm : α → ByteArray} {N : Nat} {ys : List α} (h : rowsB v nm N ys = true) : (∀ x ∈ ys, v x = true) ∧ ys.length ≤ N := by
  unfold rowsB at h
  obtain ⟨h1, h2⟩ := @of_decide_eq_true _ (Classical.propDecidable _) h
  refine ⟨fun x hx => ?_, h2⟩
  obtain ⟨k, hk, rfl⟩ := List.getElem_of_mem hx
  cases e : v ys[k]
  · exact absurd ⟨hk, .inl e⟩ (h1 k)
  · rfl
theorem runC_best (hl : (runC d0 d1 d2 d3 d4 xs budget first).1 = 0) : (runC d0 d1 d2 d3 d4 xs budget first).2.best.length ≤ 16 := by
  cases h1 : rowsB vIngotR IngotR.nm 16 xs
  · rw [runC_1 h1] at hl; simp at hl
  · have e : (runC d0 d1 d2 d3 d4 xs budget first).2 = lastC d0 d1 d2 d3 d4 xs budget first := by
      unfold runC; split
      · split
        · split <;> rfl
        · rfl
      · rfl
    rw [e]
    exact lastC_best _ _ _ _ _ _ _ _ (rowsB_ok h1).2
end
/-- The best charge of a search, and a code. -/
noncomputable def bestOf (d0 d1 d2 d3 d4 : Int) (xs : List IngotR) (budget : Int) (first : Bool) : List Int × Int :=
  if (runC d0 d1 d2 d3 d4 xs budget first).1 = 0 then (if (runC d0 d1 d2 d3 d4 xs budget first).2.count = 0 then ([], 3) else ((runC d0 d1 d2 d3 d4 xs budget first).2.best, 0)) else ([], (runC d0 d1 d2 d3 d4 xs budget first).1)
/-- The number of charges of a search, and a code. -/
noncomputable def cntOf (d0 d1 d2 d3 d4 : Int) (xs : List IngotR) (budget : Int) : Int × Int :=
  if (runC d0 d1 d2 d3 d4 xs budget false).1 = 0 then ((runC d0 d1 d2 d3 d4 xs budget false).2.count, 0) else (0, (runC d0 d1 d2 d3 d4 xs budget false).1)
end Go.Proofs.Ytjklhacffdhgaaa
