/- The greatest number of swings: stable order, greedy choice, rising list. No program in sight. -/
import Derived.Sort.Defs
namespace Go.Proofs.Ytjklhacffdhgaaa.Mo
open Go.Sort

/-- Insertion from the right: behind all that are not greater. -/
def insRr (lt : Nat → Nat → Bool) (x : Nat) : List Nat → List Nat
  | [] => [x]
  | b :: q => if lt x b then b :: insRr lt x q else x :: b :: q
def insR (lt : Nat → Nat → Bool) (p : List Nat) (x : Nat) : List Nat := (insRr lt x p.reverse).reverse
section
variable {lt lt' : Nat → Nat → Bool} {p q : List Nat} {x b : Nat}
theorem insR_nil : insR lt [] x = [x] := rfl
theorem insR_snoc : insR lt (p ++ [b]) x = if lt x b then insR lt p x ++ [b] else p ++ [b] ++ [x] := by
  unfold insR
  rw [List.reverse_append]
  simp only [List.reverse_cons, List.reverse_nil, List.nil_append, List.singleton_append, insRr]
  split <;> simp
theorem insRr_perm : (insRr lt x q).Perm (x :: q) := by
  induction q with
  | nil => exact List.Perm.refl _
  | cons b q ih =>
    simp only [insRr]
    split
    · exact (ih.cons b).trans (List.Perm.swap _ _ _)
    · exact List.Perm.refl _
theorem insR_perm : (insR lt p x).Perm (x :: p) := ((List.reverse_perm _).trans insRr_perm).trans ((List.reverse_perm p).cons x)
theorem insR_len : (insR lt p x).length = p.length + 1 := insR_perm.length_eq
theorem insRr_congr (h : ∀ y ∈ q, lt x y = lt' x y) : insRr lt x q = insRr lt' x q := by
  induction q with
  | nil => rfl
  | cons b q ih =>
    simp only [insRr]
    rw [h b (by simp), ih fun y hy => h y (by simp [hy])]
theorem insR_congr (h : ∀ y ∈ p, lt x y = lt' x y) : insR lt p x = insR lt' p x := by
  unfold insR
  rw [insRr_congr fun y hy => h y (by simpa using hy)]
end
/-- The places in the stable order of what stands there. -/
def ltA (al : List Int) (x y : Nat) : Bool := decide (al.getD x 0 < al.getD y 0)
def ordA (lt : Nat → Nat → Bool) (n : Nat) : List Nat := (List.range n).foldl (insR lt) []
section
variable {lt lt' : Nat → Nat → Bool} {n : Nat}
theorem ordA_zero : ordA lt 0 = [] := rfl
theorem ordA_succ : ordA lt (n + 1) = insR lt (ordA lt n) n := by
  unfold ordA
  rw [List.range_succ, List.foldl_append]
  rfl
theorem ordA_perm : (ordA lt n).Perm (List.range n) := by
  induction n with
  | zero => exact List.Perm.refl _
  | succ n ih =>
    rw [ordA_succ, List.range_succ]
    exact insR_perm.trans ((ih.cons n).trans (List.perm_append_singleton n (List.range n)).symm)
theorem ordA_len : (ordA lt n).length = n := by rw [ordA_perm.length_eq, List.length_range]
theorem ordA_lt {k : Nat} (h : k ∈ ordA lt n) : k < n := by
  have := ordA_perm.mem_iff.1 h
  simpa using this
theorem ordA_nodup : (ordA lt n).Nodup := ordA_perm.nodup_iff.2 List.nodup_range
theorem ordA_congr (h : ∀ x y, x < n → y < n → lt x y = lt' x y) : ordA lt n = ordA lt' n := by
  induction n with
  | zero => rfl
  | succ n ih =>
    have e := ih fun x y hx hy => h x y (by omega) (by omega)
    rw [ordA_succ, ordA_succ, e]
    exact insR_congr fun y hy => h n y (by omega) (by have := ordA_lt hy; omega)
end
/-- The same by exchanges. -/
theorem swp_cat (p r : List Nat) (b x : Nat) : swp (p ++ b :: x :: r).toArray (p.length + 1) p.length = (p ++ x :: b :: r).toArray := by
  unfold swp
  simp
theorem insInner_eq (lt : Nat → Nat → Bool) (x : Nat) (n : Nat) : ∀ (p r : List Nat), p.length = n → insInner lt 0 n (p ++ x :: r).toArray = (insR lt p x ++ r).toArray := by
  induction n with
  | zero =>
    intro p r h
    have : p = [] := List.length_eq_zero_iff.1 h
    subst this
    rfl
  | succ n ih =>
    intro p r h
    rcases List.eq_nil_or_concat p with rfl | ⟨q, b, rfl⟩
    · simp at h
    · have hq : q.length = n := by simpa using h
      subst hq
      rw [List.concat_eq_append]
      rw [insR_snoc]
      simp only [insInner]
      have e1 : (q ++ [b] ++ x :: r).toArray[q.length + 1]! = x := by simp
      have e2 : (q ++ [b] ++ x :: r).toArray[q.length]! = b := by simp
      rw [e1, e2]
      by_cases hl : lt x b = true
      · have hg : (decide (q.length + 1 > 0) && lt x b) = true := by rw [hl]; simp
        rw [if_pos hg, if_pos hl]
        have := swp_cat q r b x
        rw [List.append_assoc, List.singleton_append, this, ih q (b :: r) rfl, List.append_assoc, List.singleton_append]
      · have hg : ¬ (decide (q.length + 1 > 0) && lt x b) = true := by simp [hl]
        rw [if_neg hg, if_neg hl]
        simp
theorem insOuter_eq (lt : Nat → Nat → Bool) (n : Nat) (m : Nat) : ∀ i, n - i = m → i ≤ n → insOuter lt 0 n i (ordA lt i ++ List.range' i (n - i)).toArray = (ordA lt n).toArray := by
  induction m with
  | zero =>
    intro i h hi
    obtain rfl : i = n := by omega
    rw [insOuter, if_neg (by omega)]
    simp
  | succ m ih =>
    intro i h hi
    rw [insOuter, if_pos (by omega)]
    have e : List.range' i (n - i) = i :: List.range' (i + 1) (n - (i + 1)) := by
      rw [show n - i = n - (i + 1) + 1 by omega, List.range'_succ]
    rw [e, insInner_eq lt i i _ _ ordA_len, ← ordA_succ]
    exact ih (i + 1) (by omega) (by omega)
theorem insertionSort_eq (lt : Nat → Nat → Bool) (n : Nat) (h : 0 < n) : insertionSort lt (List.range n).toArray 0 n = (ordA lt n).toArray := by
  unfold insertionSort
  have q := insOuter_eq lt n (n - 1) 1 rfl (by omega)
  have e : ordA lt 1 = [0] := rfl
  have e2 : (List.range n) = [0] ++ List.range' 1 (n - 1) := by
    rw [List.range_eq_range', show n = n - 1 + 1 by omega, List.range'_succ]
    rfl
  rw [e2, ← e]
  exact q
/-- As many as the limit bears, in an order. -/
def takeG (al : List Int) (lim : Int) : List Nat → Int → List Nat
  | [], _ => []
  | k :: l, s => if lim < s + al.getD k 0 then [] else k :: takeG al lim l (s + al.getD k 0)
section
variable {al : List Int} {lim : Int}
theorem takeG_sub : ∀ (l : List Nat) (s : Int), (takeG al lim l s).Sublist l := by
  intro l
  induction l with
  | nil => intro s; exact List.Sublist.refl _
  | cons k l ih =>
    intro s
    simp only [takeG]
    split
    · exact List.nil_sublist _
    · exact (ih _).cons_cons k
end
/-- A number is put into a rising list, once. -/
def put (x : Int) : List Int → List Int
  | [] => [x]
  | y :: l => if y < x then y :: put x l else if x < y then x :: y :: l else y :: l
section
variable {x y : Int} {l : List Int}
theorem put_mem (h : y ∈ put x l) : y = x ∨ y ∈ l := by
  induction l with
  | nil => simpa [put] using h
  | cons z l ih =>
    simp only [put] at h
    split at h
    · rcases List.mem_cons.1 h with h | h
      · right; simp [h]
      · rcases ih h with h | h
        · left; exact h
        · right; simp [h]
    · split at h
      · simpa using h
      · right; exact h
theorem put_sorted (h : l.Pairwise (· ≤ ·)) : (put x l).Pairwise (· ≤ ·) := by
  induction l with
  | nil => simp [put]
  | cons z l ih =>
    obtain ⟨h1, h2⟩ := List.pairwise_cons.1 h
    simp only [put]
    split
    · rename_i hz
      refine List.pairwise_cons.2 ⟨fun y hy => ?_, ih h2⟩
      rcases put_mem hy with rfl | hy
      · omega
      · exact h1 y hy
    · split
      · rename_i hz hx
        refine List.pairwise_cons.2 ⟨fun y hy => ?_, h⟩
        rcases List.mem_cons.1 hy with rfl | hy
        · omega
        · have := h1 y hy; omega
      · exact h
theorem put_perm (h : x ∉ l) : (put x l).Perm (x :: l) := by
  induction l with
  | nil => exact List.Perm.refl _
  | cons z l ih =>
    simp only [put]
    split
    · exact ((ih fun q => h (by simp [q])).cons z).trans (List.Perm.swap _ _ _)
    · split
      · exact List.Perm.refl _
      · rename_i h1 h2
        exact absurd (show x = z by omega) fun q => h (by simp [q])
end
/-- The rising list of some numbers. -/
def rise (l : List Int) : List Int := l.foldl (fun a x => put x a) []
theorem rise_snoc (l : List Int) (x : Int) : rise (l ++ [x]) = put x (rise l) := by
  unfold rise
  rw [List.foldl_append]
  rfl
theorem foldl_put : ∀ (l a : List Int), a.Pairwise (· ≤ ·) → (a ++ l).Nodup → (l.foldl (fun a x => put x a) a).Pairwise (· ≤ ·) ∧ (l.foldl (fun a x => put x a) a).Perm (a ++ l) := by
  intro l
  induction l with
  | nil => intro a h _; simp only [List.foldl_nil, List.append_nil]; exact ⟨h, List.Perm.refl _⟩
  | cons x l ih =>
    intro a h hd
    have hxa : x ∉ a := fun q => by
      have := (List.nodup_append.1 hd).2.2 x q x (by simp)
      exact this rfl
    have hp := put_perm hxa
    have hpm : (put x a ++ l).Perm (a ++ x :: l) := (hp.append_right l).trans List.perm_middle.symm
    obtain ⟨h1, h2⟩ := ih (put x a) (put_sorted h) (hpm.nodup_iff.2 hd)
    exact ⟨h1, h2.trans hpm⟩
theorem rise_sorted {l : List Int} (h : l.Nodup) : (rise l).Pairwise (· ≤ ·) := (foldl_put l [] List.Pairwise.nil (by simpa using h)).1
theorem rise_perm {l : List Int} (h : l.Nodup) : (rise l).Perm l := by
  have := (foldl_put l [] List.Pairwise.nil (by simpa using h)).2
  rwa [List.nil_append] at this
theorem rise_merge {l : List Int} (h : l.Nodup) : l.mergeSort (fun x y => decide (x ≤ y)) = rise l := by
  have hs := List.pairwise_mergeSort (le := fun x y : Int => decide (x ≤ y)) (fun a b c h1 h2 => by simp at *; omega) (fun a b => by simp; omega) l
  refine List.Perm.eq_of_pairwise (le := fun x y : Int => x ≤ y) (fun a b _ _ h1 h2 => by omega) ?_ (rise_sorted h) ((List.mergeSort_perm l _).trans (rise_perm h).symm)
  exact hs.imp (fun h => by simpa using h)
/-- The greatest number of swings that are permitted together. -/
def most (al : List Int) (lim : Int) : List Int := rise ((takeG al lim (ordA (ltA al) al.length) 0).map fun k : Nat => (k : Int))
theorem nodup_cast {l : List Nat} (h : l.Nodup) : (l.map fun k : Nat => (k : Int)).Nodup := by
  rw [List.nodup_iff_pairwise_ne, List.pairwise_map]
  exact (List.nodup_iff_pairwise_ne.1 h).imp fun q e => q (by omega)
theorem most_nodup {al : List Int} {lim : Int} : ((takeG al lim (ordA (ltA al) al.length) 0).map fun k : Nat => (k : Int)).Nodup := nodup_cast ((takeG_sub _ _).nodup ordA_nodup)
end Go.Proofs.Ytjklhacffdhgaaa.Mo
