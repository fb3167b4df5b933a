/- The planner's search, no program in sight. -/
import Derived.Test.YtnefgafmnpblpaaGreatPnD
namespace Go.Proofs.YtnefgafmnpblpaaGreat.Pn
open Go.Proofs.YtnefgafmnpblpaaGreat

/-- What a search knows: the nodes left, whether they were too few, the number of plans, what was found, the least deviation (-1: none). -/
structure S where
  left : Int
  spent : Bool
  count : Int
  found : List Int
  least : Int
/-- What a search asks: the greatest steps, the sum it wants (below 0: any), whether steps are too low, what it does with all steps, whether it ends at the first plan. -/
structure Q where
  lim : List Int
  sum : Int
  low : List Int → Bool
  look : List Int → S → S
  first : Bool
def sumA (l : List Int) : Int := sumTo l l.length
def ended (q : Q) (s : S) : Bool := s.spent || (q.first && decide (0 < s.count))
/-- Whether steps so far may lead to the sum. -/
def tried (q : Q) (l : List Int) : Bool := decide (q.sum < 0) || (decide (sumA l ≤ q.sum) && (decide (l.length < q.lim.length) || decide (sumA l = q.sum)))
/-- The numbers of steps from k on, m of them, in the next zone. -/
def goK (q : Q) (rec : List Int → S → S) (l : List Int) : Nat → Nat → S → S
  | 0, _, s => s
  | m + 1, k, s =>
    if tried q (l ++ [(k : Int)]) then
      if ended q s then s
      else if s.left == 0 then { s with spent := true }
      else if q.low (l ++ [(k : Int)]) then { s with left := s.left - 1 }
      else goK q rec l m (k + 1) (rec (l ++ [(k : Int)]) { s with left := s.left - 1 })
    else goK q rec l m (k + 1) s
def srch (q : Q) : Nat → List Int → S → S
  | 0, _, s => s
  | f + 1, l, s => if l.length == q.lim.length then q.look l s else goK q (srch q f) l ((ig q.lim l.length).toNat + 1) 0 s
section
variable {q : Q} {rec : List Int → S → S} {l : List Int} {m k : Nat} {s : S}
theorem goK_not (h : tried q (l ++ [(k : Int)]) = false) : goK q rec l (m + 1) k s = goK q rec l m (k + 1) s := by rw [goK, h]; rfl
theorem goK_spent (h : tried q (l ++ [(k : Int)]) = true) (he : ended q s = false) (h0 : s.left = 0) : goK q rec l (m + 1) k s = { s with spent := true } := by
  rw [goK, h, he, h0]; rfl
theorem goK_low (h : tried q (l ++ [(k : Int)]) = true) (he : ended q s = false) (h0 : s.left ≠ 0) (hl : q.low (l ++ [(k : Int)]) = true) : goK q rec l (m + 1) k s = { s with left := s.left - 1 } := by
  have h1 : (s.left == 0) = false := by simpa using h0
  rw [goK, h, he, h1, hl]; rfl
theorem goK_go (h : tried q (l ++ [(k : Int)]) = true) (he : ended q s = false) (h0 : s.left ≠ 0) (hl : q.low (l ++ [(k : Int)]) = false) : goK q rec l (m + 1) k s = goK q rec l m (k + 1) (rec (l ++ [(k : Int)]) { s with left := s.left - 1 }) := by
  have h1 : (s.left == 0) = false := by simpa using h0
  rw [goK, h, he, h1, hl]; rfl
theorem goK_ended (he : ended q s = true) : ∀ (m k : Nat), goK q rec l m k s = s
  | 0, _ => rfl
  | m + 1, k => by
    rw [goK, he]
    split
    · rfl
    · exact goK_ended he m (k + 1)
theorem srch_full {f : Nat} (h : l.length = q.lim.length) : srch q (f + 1) l s = q.look l s := by
  rw [srch, if_pos (by simpa using h)]
theorem srch_goes {f : Nat} (h : l.length ≠ q.lim.length) : srch q (f + 1) l s = goK q (srch q f) l ((ig q.lim l.length).toNat + 1) 0 s := by
  rw [srch, if_neg (by simpa using h)]
end
theorem sumTo_app (l : List Int) (n : Int) : ∀ k, k ≤ l.length → sumTo (l ++ [n]) k = sumTo l k
  | 0, _ => rfl
  | k + 1, h => by
    unfold sumTo
    rw [sumTo_app l n k (by omega)]
    have : ig (l ++ [n]) k = ig l k := by
      rw [← ig_eq (show k < (l ++ [n]).length by simp; omega), ← ig_eq (show k < l.length by omega), List.getElem_append_left (by omega)]
    rw [this]
theorem ig_snoc (l : List Int) (n : Int) : ig (l ++ [n]) l.length = n := by
  rw [← ig_eq (show l.length < (l ++ [n]).length by simp)]; simp
theorem ig_snoc_lt (l : List Int) (n : Int) {k : Nat} (h : k < l.length) : ig (l ++ [n]) k = ig l k := by
  rw [← ig_eq (show k < (l ++ [n]).length by simp; omega), ← ig_eq h, List.getElem_append_left h]
theorem sumA_snoc (l : List Int) (n : Int) : sumA (l ++ [n]) = sumA l + n := by
  unfold sumA
  rw [List.length_append, List.length_singleton]
  show sumTo (l ++ [n]) l.length + ig (l ++ [n]) l.length = _
  rw [sumTo_app l n _ (Nat.le_refl _), ig_snoc]
/-- Steps so far, within the limits. -/
structure Pre (lim l : List Int) : Prop where
  len : l.length ≤ lim.length
  at_ : ∀ k, k < l.length → 0 ≤ ig l k ∧ ig l k ≤ ig lim k
theorem Pre.nil (lim : List Int) : Pre lim [] := ⟨by simp, fun k h => by simp at h⟩
theorem Pre.snoc {lim l : List Int} {n : Int} (h : Pre lim l) (hl : l.length < lim.length) (h0 : 0 ≤ n) (h1 : n ≤ ig lim l.length) : Pre lim (l ++ [n]) := by
  refine ⟨by simp; omega, fun k hk => ?_⟩
  by_cases e : k < l.length
  · rw [ig_snoc_lt l n e]; exact h.at_ k e
  · have e2 : k = l.length := by simp at hk; omega
    subst e2; rw [ig_snoc]; exact ⟨h0, h1⟩
theorem Pre.all {lim l : List Int} {c : Int} (h : Pre lim l) (hc : ∀ k, 0 ≤ ig lim k ∧ ig lim k ≤ c) : ∀ k, 0 ≤ ig l k ∧ ig l k ≤ c := by
  have := hc 0
  refine ig_all (fun k hk => ?_) (by omega) (by omega)
  have := h.at_ k hk; have := hc k; omega
/-- What a search never breaks. -/
structure Inv (lim : List Int) (s : S) : Prop where
  l0 : 0 ≤ s.left
  c0 : 0 ≤ s.count
  sum : s.count + s.left ≤ 20000
  fnd : s.found = [] ∨ (Pre lim s.found ∧ s.found.length = lim.length)
  le : -1 ≤ s.least ∧ s.least ≤ 4000000000000000000
theorem Inv.node {lim : List Int} {s : S} (h : Inv lim s) (h0 : s.left ≠ 0) : Inv lim { s with left := s.left - 1 } ∧ s.count + (s.left - 1) + 1 ≤ 20000 := by
  have a := h.l0; have b := h.sum
  exact ⟨⟨by simp only; omega, h.c0, by simp only; omega, h.fnd, h.le⟩, by omega⟩
/-- A look that never breaks what a search holds. -/
def LookOK (lim : List Int) (look : List Int → S → S) : Prop := ∀ l s, Pre lim l → l.length = lim.length → Inv lim s → s.count + s.left + 1 ≤ 20000 → Inv lim (look l s)
theorem srch_inv {q : Q} (hq : LookOK q.lim q.look) (hlim : ∀ k, 0 ≤ ig q.lim k) : ∀ (f : Nat) (l : List Int) (s : S), Pre q.lim l → Inv q.lim s → (s.count + s.left + 1 ≤ 20000 ∨ l.length ≠ q.lim.length) → Inv q.lim (srch q f l s) := by
  intro f
  induction f with
  | zero => intro l s _ h _; exact h
  | succ f ih =>
    intro l s hp h hc
    by_cases hl : l.length = q.lim.length
    · rw [srch_full hl]; exact hq l s hp hl h (hc.resolve_right (fun q => q hl))
    · rw [srch_goes hl]
      have key : ∀ (m k : Nat) (s : S), k + m = (ig q.lim l.length).toNat + 1 → Inv q.lim s → Inv q.lim (goK q (srch q f) l m k s) := by
        intro m
        induction m with
        | zero => intro k s _ h; exact h
        | succ m ihm =>
          intro k s hk h
          cases ht : tried q (l ++ [(k : Int)])
          · rw [goK_not ht]; exact ihm (k + 1) s (by omega) h
          · cases he : ended q s
            · by_cases h0 : s.left = 0
              · rw [goK_spent ht he h0]; exact ⟨h.l0, h.c0, h.sum, h.fnd, h.le⟩
              · have hn := h.node h0
                cases hlow : q.low (l ++ [(k : Int)])
                · rw [goK_go ht he h0 hlow]
                  refine ihm (k + 1) _ (by omega) (ih _ _ (hp.snoc (by have := hp.len; omega) (by omega) (by have := hlim l.length; omega)) hn.1 (.inl hn.2))
                · rw [goK_low ht he h0 hlow]; exact hn.1
            · rw [goK_ended he]; exact h
      exact key _ 0 s (by omega) h
/-- The look of a search for plans. -/
def lookP (plan : List Int → Bool) (l : List Int) (s : S) : S := if plan l then { s with count := s.count + 1, found := if s.count == 0 then l else s.found } else s
theorem lookP_ok (lim : List Int) (plan : List Int → Bool) : LookOK lim (lookP plan) := by
  intro l s hp hl h hc
  unfold lookP
  split
  · refine ⟨h.l0, by have := h.c0; simp only; omega, by simp only; omega, ?_, h.le⟩
    simp only
    split
    · exact .inr ⟨hp, hl⟩
    · exact h.fnd
  · exact h
/-- The look of a search for the least deviation. -/
def lookC (snd : List Int → Bool) (dev : List Int → Int) (l : List Int) (s : S) : S := if snd l then (if s.least < 0 ∨ dev l < s.least then { s with found := l, least := dev l } else s) else s
theorem lookC_ok (lim : List Int) (snd : List Int → Bool) (dev : List Int → Int) (hd : ∀ l, 0 ≤ dev l ∧ dev l ≤ 4000000000000000000) : LookOK lim (lookC snd dev) := by
  intro l s hp hl h hc
  unfold lookC
  split
  · split
    · exact ⟨h.l0, h.c0, h.sum, .inr ⟨hp, hl⟩, by have := hd l; simp only; omega⟩
    · exact h
  · exact h
end Go.Proofs.YtnefgafmnpblpaaGreat.Pn
