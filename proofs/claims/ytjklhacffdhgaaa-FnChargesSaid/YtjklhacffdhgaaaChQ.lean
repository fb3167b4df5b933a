/- The search for charges told by the list of all choices that it visits: what the first one, the best one and the count are. -/
import Derived.Test.YtjklhacffdhgaaaChP
namespace Go.Proofs.Ytjklhacffdhgaaa
open Go.RowKit

namespace Ch
/-- The choices that a visit without end looks at, in its order, each with its mass. -/
def pre (ms : List Int) (most : Int) : Nat → List Int → Int → Nat → List (List Int × Int)
  | 0, _, _, _ => []
  | f + 1, ch, mass, k0 => (ch, mass) :: (List.range' k0 (ms.length - k0)).flatMap fun k => if mass + ms.getD k 0 ≤ most then pre ms most f (ch ++ [(k : Int)]) (mass + ms.getD k 0) (k + 1) else []
/-- One choice is looked at. -/
def one (fit : List Int → Bool) (s : S) (p : List Int × Int) : S := look (fit p.1) p.1 p.2 { s with left := s.left - 1 }
theorem one_left (fit : List Int → Bool) (s : S) (p : List Int × Int) : (one fit s p).left = s.left - 1 ∧ (one fit s p).spent = s.spent := by
  unfold one look; split <;> exact ⟨rfl, rfl⟩
theorem foldl_left (fit : List Int → Bool) : ∀ (l : List (List Int × Int)) (s : S), (l.foldl (one fit) s).left = s.left - l.length ∧ (l.foldl (one fit) s).spent = s.spent := by
  intro l
  induction l with
  | nil => intro s; simp
  | cons p l ih =>
    intro s
    obtain ⟨a, b⟩ := ih (one fit s p)
    obtain ⟨c, d⟩ := one_left fit s p
    simp only [List.foldl_cons, List.length_cons]
    rw [a, b, c, d]
    exact ⟨by push_cast; omega, rfl⟩
/-- All choices are looked at, where there are nodes enough and not the first one alone is asked for. -/
theorem srch_all {fit : List Int → Bool} {ms : List Int} {most : Int} : ∀ (f : Nat) (ch : List Int) (mass : Int) (k0 : Nat) (s : S), s.spent = false → ((pre ms most f ch mass k0).length : Int) ≤ s.left → srch false fit ms most f ch mass k0 s = (pre ms most f ch mass k0).foldl (one fit) s := by
  intro f
  induction f with
  | zero => intro ch mass k0 s _ _; rfl
  | succ f ih =>
    intro ch mass k0 s hs hl
    have he : ended false s = false := by simp [ended, hs]
    have h0 : s.left ≠ 0 := by simp only [pre, List.length_cons] at hl; omega
    rw [srch_goes he h0]
    simp only [pre, List.foldl_cons]
    have hr : ∀ (m k : Nat) (s : S), s.spent = false → (((List.range' k m).flatMap fun k => if mass + ms.getD k 0 ≤ most then pre ms most f (ch ++ [(k : Int)]) (mass + ms.getD k 0) (k + 1) else []).length : Int) ≤ s.left →
        rounds (step false fit ms most f ch mass) m k s = ((List.range' k m).flatMap fun k => if mass + ms.getD k 0 ≤ most then pre ms most f (ch ++ [(k : Int)]) (mass + ms.getD k 0) (k + 1) else []).foldl (one fit) s := by
      intro m
      induction m with
      | zero => intro k s _ _; rfl
      | succ m ihm =>
        intro k s hs hl
        rw [List.range'_succ, List.flatMap_cons, List.foldl_append]
        rw [List.range'_succ, List.flatMap_cons, List.length_append] at hl
        have e : step false fit ms most f ch mass k s = (if mass + ms.getD k 0 ≤ most then pre ms most f (ch ++ [(k : Int)]) (mass + ms.getD k 0) (k + 1) else []).foldl (one fit) s := by
          unfold step
          split
          · rename_i hm
            rw [if_pos hm] at hl
            exact ih _ _ _ _ hs (by omega)
          · rfl
        have q := foldl_left fit (if mass + ms.getD k 0 ≤ most then pre ms most f (ch ++ [(k : Int)]) (mass + ms.getD k 0) (k + 1) else []) s
        simp only [rounds]
        rw [e]
        exact ihm (k + 1) _ (by rw [q.2]; exact hs) (by rw [q.1]; omega)
    have q := one_left fit s (ch, mass)
    refine hr _ _ _ (by rw [look_spent]; exact hs) ?_
    have q1 : (look (fit ch) ch mass { s with left := s.left - 1 }).left = s.left - 1 := q.1
    rw [q1]
    simp only [pre, List.length_cons] at hl
    omega
/-- The first one that fits, and then no more. -/
def oneF (fit : List Int → Bool) (s : S) (p : List Int × Int) : S := if ended true s then s else one fit s p
theorem oneF_ended {fit : List Int → Bool} : ∀ (l : List (List Int × Int)) (s : S), ended true s = true → l.foldl (oneF fit) s = s := by
  intro l
  induction l with
  | nil => intro s _; rfl
  | cons p l ih => intro s h; rw [List.foldl_cons, show oneF fit s p = s from by unfold oneF; rw [if_pos h]]; exact ih s h
theorem oneF_left (fit : List Int → Bool) : ∀ (l : List (List Int × Int)) (s : S), s.left - l.length ≤ (l.foldl (oneF fit) s).left ∧ (l.foldl (oneF fit) s).spent = s.spent := by
  intro l
  induction l with
  | nil => intro s; simp
  | cons p l ih =>
    intro s
    obtain ⟨a, b⟩ := ih (oneF fit s p)
    obtain ⟨c, d⟩ := one_left fit s p
    simp only [List.foldl_cons, List.length_cons]
    rw [b]
    unfold oneF at a ⊢
    split at a
    · rename_i h
      rw [if_pos h]
      exact ⟨by push_cast; omega, rfl⟩
    · rename_i h
      rw [if_neg h]
      rw [c] at a
      exact ⟨by push_cast; omega, d⟩
theorem srch_first {fit : List Int → Bool} {ms : List Int} {most : Int} : ∀ (f : Nat) (ch : List Int) (mass : Int) (k0 : Nat) (s : S), s.spent = false → ((pre ms most f ch mass k0).length : Int) ≤ s.left → srch true fit ms most f ch mass k0 s = (pre ms most f ch mass k0).foldl (oneF fit) s := by
  intro f
  induction f with
  | zero => intro ch mass k0 s _ _; rfl
  | succ f ih =>
    intro ch mass k0 s hs hl
    cases he : ended true s
    · have h0 : s.left ≠ 0 := by simp only [pre, List.length_cons] at hl; omega
      rw [srch_goes he h0]
      simp only [pre, List.foldl_cons]
      have hr : ∀ (m k : Nat) (s : S), s.spent = false → (((List.range' k m).flatMap fun k => if mass + ms.getD k 0 ≤ most then pre ms most f (ch ++ [(k : Int)]) (mass + ms.getD k 0) (k + 1) else []).length : Int) ≤ s.left →
          rounds (step true fit ms most f ch mass) m k s = ((List.range' k m).flatMap fun k => if mass + ms.getD k 0 ≤ most then pre ms most f (ch ++ [(k : Int)]) (mass + ms.getD k 0) (k + 1) else []).foldl (oneF fit) s := by
        intro m
        induction m with
        | zero => intro k s _ _; rfl
        | succ m ihm =>
          intro k s hs hl
          rw [List.range'_succ, List.flatMap_cons, List.foldl_append]
          rw [List.range'_succ, List.flatMap_cons, List.length_append] at hl
          have e : step true fit ms most f ch mass k s = (if mass + ms.getD k 0 ≤ most then pre ms most f (ch ++ [(k : Int)]) (mass + ms.getD k 0) (k + 1) else []).foldl (oneF fit) s := by
            unfold step
            split
            · rename_i hm
              rw [if_pos hm] at hl
              exact ih _ _ _ _ hs (by omega)
            · rfl
          have q := oneF_left fit (if mass + ms.getD k 0 ≤ most then pre ms most f (ch ++ [(k : Int)]) (mass + ms.getD k 0) (k + 1) else []) s
          simp only [rounds]
          rw [e]
          exact ihm (k + 1) _ (by rw [q.2]; exact hs) (by have := q.1; omega)
      have q := one_left fit s (ch, mass)
      have e1 : oneF fit s (ch, mass) = look (fit ch) ch mass { s with left := s.left - 1 } := by unfold oneF; rw [he]; rfl
      rw [e1]
      refine hr _ _ _ (by rw [look_spent]; exact hs) ?_
      have q1 : (look (fit ch) ch mass { s with left := s.left - 1 }).left = s.left - 1 := q.1
      rw [q1]
      simp only [pre, List.length_cons] at hl
      omega
    · rw [srch_ended he, oneF_ended _ _ he]
end Ch
end Go.Proofs.Ytjklhacffdhgaaa
