/- The search for a layout, no program in sight. -/
namespace Go.Proofs.Ytjklhacffdhgaaa.Ly

/-- What a search knows: the nodes left, whether they were too few, whether all have a place, and the places. -/
structure S (α : Type) where
  left : Int
  spent : Bool
  got : Bool
  list : List α
section
variable {α : Type}
def ended (s : S α) : Bool := s.spent || s.got
def rounds (stp : Nat → S α → S α) : Nat → Nat → S α → S α
  | 0, _, s => s
  | m + 1, k, s => rounds stp m (k + 1) (stp k s)
def visit (free : List α → α → Bool) (mk : Nat → Nat → Nat → α) (m nx ny : Nat) : Nat → List α → S α → S α
  | 0, _, s => s
  | f + 1, l, s =>
    if ended s then s
    else if s.left == 0 then { s with spent := true }
    else if l.length == m then { s with left := s.left - 1, got := true, list := l }
    else rounds (fun i s => rounds (fun j s => if free l (mk l.length i j) then visit free mk m nx ny f (l ++ [mk l.length i j]) s else s) ny 0 s) nx 0 { s with left := s.left - 1 }
variable {free : List α → α → Bool} {mk : Nat → Nat → Nat → α} {m nx ny : Nat}
def cell (free : List α → α → Bool) (mk : Nat → Nat → Nat → α) (m nx ny f : Nat) (l : List α) (i j : Nat) (s : S α) : S α :=
  if free l (mk l.length i j) then visit free mk m nx ny f (l ++ [mk l.length i j]) s else s
def col (free : List α → α → Bool) (mk : Nat → Nat → Nat → α) (m nx ny f : Nat) (l : List α) (i : Nat) (s : S α) : S α := rounds (cell free mk m nx ny f l i) ny 0 s
theorem rounds_more {stp : Nat → S α → S α} {n k : Nat} {s : S α} (h : k < n) : rounds stp (n - k) k s = rounds stp (n - (k + 1)) (k + 1) (stp k s) := by
  rw [show n - k = (n - (k + 1)) + 1 by omega]; rfl
theorem rounds_none {stp : Nat → S α → S α} {n k : Nat} {s : S α} (h : n ≤ k) : rounds stp (n - k) k s = s := by
  rw [show n - k = 0 by omega]; rfl
theorem rounds_same {stp : Nat → S α → S α} {s : S α} (h : ∀ k, stp k s = s) (n : Nat) : ∀ k, rounds stp n k s = s := by
  induction n with
  | zero => intro k; rfl
  | succ n ih => intro k; simp only [rounds]; rw [h]; exact ih _
theorem visit_ended {f : Nat} {l : List α} {s : S α} (h : ended s = true) : visit free mk m nx ny f l s = s := by
  cases f with
  | zero => rfl
  | succ f => simp only [visit, h, if_true]
theorem visit_spent {f : Nat} {l : List α} {s : S α} (h : ended s = false) (h0 : s.left = 0) : visit free mk m nx ny (f + 1) l s = { s with spent := true } := by simp [visit, h, h0]
theorem visit_full {f : Nat} {l : List α} {s : S α} (h : ended s = false) (h0 : s.left ≠ 0) (hl : l.length = m) : visit free mk m nx ny (f + 1) l s = { s with left := s.left - 1, got := true, list := l } := by
  have e : (s.left == 0) = false := by simpa using h0
  simp [visit, h, e, hl]
theorem visit_goes {f : Nat} {l : List α} {s : S α} (h : ended s = false) (h0 : s.left ≠ 0) (hl : l.length ≠ m) : visit free mk m nx ny (f + 1) l s = rounds (col free mk m nx ny f l) nx 0 { s with left := s.left - 1 } := by
  have e : (s.left == 0) = false := by simpa using h0
  have e2 : (l.length == m) = false := by simpa using hl
  rw [visit, h, e, e2]; rfl
theorem cell_yes {f : Nat} {l : List α} {i j : Nat} {s : S α} (h : free l (mk l.length i j) = true) : cell free mk m nx ny f l i j s = visit free mk m nx ny f (l ++ [mk l.length i j]) s := by unfold cell; rw [if_pos h]
theorem cell_no {f : Nat} {l : List α} {i j : Nat} {s : S α} (h : free l (mk l.length i j) = false) : cell free mk m nx ny f l i j s = s := by unfold cell; rw [h]; rfl
theorem cell_ended {f : Nat} {l : List α} {i j : Nat} {s : S α} (h : ended s = true) : cell free mk m nx ny f l i j s = s := by unfold cell; rw [visit_ended h, ite_self]
theorem cells_ended {f : Nat} {l : List α} {i : Nat} {s : S α} (h : ended s = true) (n k : Nat) : rounds (cell free mk m nx ny f l i) n k s = s := rounds_same (fun _ => cell_ended h) n k
theorem cols_ended {f : Nat} {l : List α} {s : S α} (h : ended s = true) (n k : Nat) : rounds (col free mk m nx ny f l) n k s = s := rounds_same (fun _ => cells_ended h _ _) n k
/-- What a search never breaks. -/
def Inv (s : S α) : Prop := 0 ≤ s.left ∧ s.left ≤ 20000
theorem rounds_inv {P : S α → Prop} {stp : Nat → S α → S α} (h : ∀ k s, P s → P (stp k s)) (n : Nat) : ∀ (k : Nat) {s : S α}, P s → P (rounds stp n k s) := by
  induction n with
  | zero => intro k s hs; exact hs
  | succ n ih => intro k s hs; exact ih _ (h _ _ hs)
theorem rounds_inv' {P : S α → Prop} {stp : Nat → S α → S α} (N : Nat) (h : ∀ k s, k < N → P s → P (stp k s)) (n : Nat) : ∀ (k : Nat) {s : S α}, k + n ≤ N → P s → P (rounds stp n k s) := by
  induction n with
  | zero => intro k s _ hs; exact hs
  | succ n ih => intro k s hk hs; exact ih _ (by omega) (h _ _ (by omega) hs)
theorem visit_inv : ∀ (f : Nat) {l : List α} {s : S α}, Inv s → Inv (visit free mk m nx ny f l s) := by
  intro f
  induction f with
  | zero => intro l s h; exact h
  | succ f ih =>
    intro l s h
    cases e : ended s
    · by_cases h0 : s.left = 0
      · rw [visit_spent e h0]; exact h
      · by_cases hl : l.length = m
        · rw [visit_full e h0 hl]
          obtain ⟨a, b⟩ := h
          exact ⟨by simp only; omega, by simp only; omega⟩
        · rw [visit_goes e h0 hl]
          refine rounds_inv (fun i s hs => rounds_inv (fun j s hs => ?_) _ _ hs) _ _ ?_
          · unfold cell
            split
            · exact ih hs
            · exact hs
          · obtain ⟨a, b⟩ := h
            exact ⟨by simp only; omega, by simp only; omega⟩
    · rw [visit_ended e]; exact h
/-- The places of a list: each one made for its number, each one free behind those ahead of it. -/
def Laid (free : List α → α → Bool) (mk : Nat → Nat → Nat → α) (nx ny : Nat) (l : List α) : Prop := ∀ (k : Nat) (h : k < l.length), ∃ i j, i < nx ∧ j < ny ∧ l[k] = mk k i j ∧ free (l.take k) l[k] = true
theorem Laid.snoc {l : List α} {i j : Nat} (h : Laid free mk nx ny l) (hi : i < nx) (hj : j < ny) (hf : free l (mk l.length i j) = true) : Laid free mk nx ny (l ++ [mk l.length i j]) := by
  intro k hk
  by_cases e : k < l.length
  · obtain ⟨i', j', a, b, c, d⟩ := h k e
    refine ⟨i', j', a, b, ?_, ?_⟩
    · rw [List.getElem_append_left e]; exact c
    · rw [List.getElem_append_left e, List.take_append_of_le_length (by omega)]; exact d
  · have e2 : k = l.length := by simp at hk; omega
    subst e2
    refine ⟨i, j, hi, hj, ?_, ?_⟩
    · simp
    · simpa using hf
/-- What is found is laid, and complete. -/
def Fine (free : List α → α → Bool) (mk : Nat → Nat → Nat → α) (m nx ny : Nat) (s : S α) : Prop := s.got = true → Laid free mk nx ny s.list ∧ s.list.length = m
theorem visit_fine : ∀ (f : Nat) {l : List α} {s : S α}, Laid free mk nx ny l → Fine free mk m nx ny s → Fine free mk m nx ny (visit free mk m nx ny f l s) := by
  intro f
  induction f with
  | zero => intro l s _ h; exact h
  | succ f ih =>
    intro l s hl h
    cases e : ended s
    · by_cases h0 : s.left = 0
      · rw [visit_spent e h0]; exact h
      · by_cases hm : l.length = m
        · rw [visit_full e h0 hm]
          exact fun _ => ⟨hl, hm⟩
        · rw [visit_goes e h0 hm]
          refine rounds_inv' nx (fun i s hi hs => rounds_inv' ny (fun j s hj hs => ?_) _ _ (by omega) hs) _ _ (by omega) (show Fine free mk m nx ny { s with left := s.left - 1 } from h)
          cases hf : free l (mk l.length i j)
          · rw [cell_no hf]; exact hs
          · rw [cell_yes hf]; exact ih (hl.snoc hi hj hf) hs
    · rw [visit_ended e]; exact h
end
end Go.Proofs.Ytjklhacffdhgaaa.Ly
