/- What the searches for charges say of each other: the first one, the best one, the count. -/
import Derived.Test.YtjklhacffdhgaaaChQ
namespace Go.Proofs.Ytjklhacffdhgaaa
open Go.RowKit

namespace Ch
/-- What is known of the choices that fit among those that were looked at. -/
def Known (h : List (List Int × Int)) (s : S) : Prop := s.count = h.length ∧ (h ≠ [] → (s.best, s.least) ∈ h ∧ ∀ q ∈ h, s.least ≤ q.2)
theorem foldA (fit : List Int → Bool) : ∀ (l h : List (List Int × Int)) (s : S), Known h s → Known (h ++ l.filter fun p => fit p.1) (l.foldl (one fit) s) := by
  intro l
  induction l with
  | nil => intro h s k; simpa using k
  | cons p l ih =>
    intro h s ⟨k1, k2⟩
    rw [List.foldl_cons]
    cases hf : fit p.1
    · rw [List.filter_cons_of_neg (by simp [hf])]
      refine ih h _ ?_
      unfold one look
      rw [hf]
      exact ⟨k1, k2⟩
    · rw [List.filter_cons_of_pos (by simp [hf]), show h ++ p :: l.filter (fun p => fit p.1) = (h ++ [p]) ++ l.filter (fun p => fit p.1) by simp]
      refine ih (h ++ [p]) _ ?_
      unfold one look
      rw [hf]
      refine ⟨by simp [k1], fun _ => ?_⟩
      simp only [if_true]
      by_cases hh : h = []
      · subst hh
        have h0 : s.count = 0 := by simpa using k1
        have hb : better p.2 { s with left := s.left - 1 } = true := by simp [better, h0]
        simp only [hb, if_true]
        simp
      · have hc : (s.count == 0) = false := by
          have : h.length ≠ 0 := fun e => hh (List.eq_nil_of_length_eq_zero e)
          simp only [beq_eq_false_iff_ne, ne_eq]
          omega
        obtain ⟨k3, k4⟩ := k2 hh
        by_cases hm : p.2 < s.least
        · have hb : better p.2 { s with left := s.left - 1 } = true := by simp [better, hm]
          simp only [hb, if_true]
          refine ⟨by simp, fun q hq => ?_⟩
          rcases List.mem_append.1 hq with hq | hq
          · have := k4 q hq; omega
          · simp at hq; subst hq; exact Int.le_refl _
        · have hm2 : decide (p.2 < s.least) = false := by simp; omega
          have hb : better p.2 { s with left := s.left - 1 } = false := by simp only [better, hc, hm2, Bool.or_false]
          simp only [hb, Bool.false_eq_true, if_false]
          refine ⟨by simp [k3], fun q hq => ?_⟩
          rcases List.mem_append.1 hq with hq | hq
          · exact k4 q hq
          · simp at hq; subst hq; omega
theorem foldF (fit : List Int → Bool) : ∀ (l : List (List Int × Int)) (s : S), s.count = 0 → s.spent = false → (l.filter (fun p => fit p.1) = [] ∧ (l.foldl (oneF fit) s).count = 0) ∨ ∃ p r, l.filter (fun p => fit p.1) = p :: r ∧ (l.foldl (oneF fit) s).count = 1 ∧ (l.foldl (oneF fit) s).best = p.1 := by
  intro l
  induction l with
  | nil => intro s h _; exact .inl ⟨rfl, h⟩
  | cons p l ih =>
    intro s h0 hs
    rw [List.foldl_cons]
    have he : ended true s = false := by simp [ended, hs, h0]
    have e1 : oneF fit s p = one fit s p := by unfold oneF; rw [he]; rfl
    rw [e1]
    cases hf : fit p.1
    · rw [List.filter_cons_of_neg (by simp [hf])]
      refine ih _ ?_ ?_
      · unfold one look; rw [hf]; exact h0
      · unfold one look; rw [hf]; exact hs
    · rw [List.filter_cons_of_pos (by simp [hf])]
      have e2 : ended true (one fit s p) = true := by
        unfold one look; rw [hf]; simp [ended, h0]
      rw [oneF_ended _ _ e2]
      refine .inr ⟨p, _, rfl, ?_, ?_⟩
      · unfold one look; rw [hf]; simp [h0]
      · unfold one look; rw [hf]; simp [better, h0]
/-- Rising numbers from lo on, below n. -/
def rising (lo : Int) (n : Int) : List Int → Prop
  | [] => True
  | x :: xs => lo ≤ x ∧ x < n ∧ rising (x + 1) n xs
theorem rising_snoc {n : Int} {k : Nat} (hk : (k : Int) < n) : ∀ (ch : List Int) (lo : Int), rising lo k ch → lo ≤ k → rising lo n (ch ++ [(k : Int)]) := by
  intro ch
  induction ch with
  | nil => intro lo _ hl; exact ⟨hl, hk, trivial⟩
  | cons x ch ih => intro lo ⟨a, b, c⟩ hl; exact ⟨a, by omega, ih _ c (by omega)⟩
theorem rising_more {n n' : Int} (h : n ≤ n') : ∀ (ch : List Int) (lo : Int), rising lo n ch → rising lo n' ch := by
  intro ch
  induction ch with
  | nil => intro lo _; trivial
  | cons x ch ih => intro lo ⟨a, b, c⟩; exact ⟨a, by omega, ih _ c⟩
theorem pre_len (ms : List Int) (most : Int) : ∀ (f : Nat) (ch : List Int) (mass : Int) (k0 : Nat), (pre ms most f ch mass k0).length ≤ 2 ^ (ms.length - k0) := by
  intro f
  induction f with
  | zero => intro ch mass k0; simp [pre]
  | succ f ih =>
    intro ch mass k0
    simp only [pre, List.length_cons]
    have hr : ∀ (m k : Nat), k + m = ms.length → ((List.range' k m).flatMap fun k => if mass + ms.getD k 0 ≤ most then pre ms most f (ch ++ [(k : Int)]) (mass + ms.getD k 0) (k + 1) else []).length + 1 ≤ 2 ^ m := by
      intro m
      induction m with
      | zero => intro k _; simp
      | succ m ihm =>
        intro k hk
        rw [List.range'_succ, List.flatMap_cons, List.length_append]
        have a := ihm (k + 1) (by omega)
        have b : (if mass + ms.getD k 0 ≤ most then pre ms most f (ch ++ [(k : Int)]) (mass + ms.getD k 0) (k + 1) else []).length ≤ 2 ^ m := by
          split
          · have := ih (ch ++ [(k : Int)]) (mass + ms.getD k 0) (k + 1)
            rwa [show ms.length - (k + 1) = m by omega] at this
          · simp
        rw [Nat.pow_succ]
        omega
    by_cases h : k0 ≤ ms.length
    · exact hr (ms.length - k0) k0 (by omega)
    · rw [show ms.length - k0 = 0 by omega]; simp
end Ch
/-- The choices that are looked at rise, and their masses are sums. -/
theorem pre_says (xs : List IngotR) (most : Int) : ∀ (f : Nat) (ch : List Int) (mass : Int) (k0 : Nat), Ch.rising 0 k0 ch → mass = sumB fM xs ch → k0 ≤ xs.length → ∀ p ∈ Ch.pre (xs.map fM) most f ch mass k0, Ch.rising 0 xs.length p.1 ∧ p.2 = sumB fM xs p.1 := by
  intro f
  induction f with
  | zero => intro ch mass k0 _ _ _ p hp; simp [Ch.pre] at hp
  | succ f ih =>
    intro ch mass k0 hr hm hk p hp
    simp only [Ch.pre, List.mem_cons, List.mem_flatMap, List.length_map] at hp
    rcases hp with rfl | ⟨k, hk2, hp⟩
    · exact ⟨Ch.rising_more (by omega) _ _ hr, hm⟩
    · rw [List.mem_range'_1] at hk2
      split at hp
      · have hlt : k < xs.length := by omega
        refine ih _ _ _ (Ch.rising_snoc (by omega) _ _ (Ch.rising_more (by omega) _ _ hr) (by omega)) ?_ (by omega) p hp
        rw [sumB_snoc, ← hm, pickI_get hlt rfl]
        congr 1
        rw [List.getD_eq_getElem?_getD, List.getElem?_map, List.getElem?_eq_getElem hlt]
        rfl
      · simp at hp
/-- What the two searches find among few ingots. -/
theorem charges_say {d0 d1 d2 d3 d4 : Int} {xs : List IngotR} (h7 : xs.length ≤ 7) :
    (lastC d0 d1 d2 d3 d4 xs 1000 true).spent = false ∧ (lastC d0 d1 d2 d3 d4 xs 1000 false).spent = false ∧ 0 ≤ (lastC d0 d1 d2 d3 d4 xs 1000 false).count ∧ (lastC d0 d1 d2 d3 d4 xs 1000 false).count ≤ 128 ∧
    (((lastC d0 d1 d2 d3 d4 xs 1000 true).count = 0 ∧ (lastC d0 d1 d2 d3 d4 xs 1000 false).count = 0) ∨
     ((lastC d0 d1 d2 d3 d4 xs 1000 true).count = 1 ∧ 0 < (lastC d0 d1 d2 d3 d4 xs 1000 false).count ∧
      Ch.rising 0 xs.length (lastC d0 d1 d2 d3 d4 xs 1000 true).best ∧ Ch.rising 0 xs.length (lastC d0 d1 d2 d3 d4 xs 1000 false).best ∧
      fitC d0 d1 d2 d3 d4 xs (lastC d0 d1 d2 d3 d4 xs 1000 true).best = true ∧ fitC d0 d1 d2 d3 d4 xs (lastC d0 d1 d2 d3 d4 xs 1000 false).best = true ∧
      sumB fM xs (lastC d0 d1 d2 d3 d4 xs 1000 false).best ≤ sumB fM xs (lastC d0 d1 d2 d3 d4 xs 1000 true).best ∧
      (1 < (lastC d0 d1 d2 d3 d4 xs 1000 false).count ∨ (lastC d0 d1 d2 d3 d4 xs 1000 true).best = (lastC d0 d1 d2 d3 d4 xs 1000 false).best))) := by
  have hl := Ch.pre_len (xs.map fM) d1 (xs.length + 1) [] 0 0
  rw [List.length_map, Nat.sub_zero] at hl
  have h128 : 2 ^ xs.length ≤ 2 ^ 7 := Nat.pow_le_pow_right (by decide) h7
  have hpl : (Ch.pre (xs.map fM) d1 (xs.length + 1) [] 0 0).length ≤ 128 := by omega
  have eA : lastC d0 d1 d2 d3 d4 xs 1000 false = (Ch.pre (xs.map fM) d1 (xs.length + 1) [] 0 0).foldl (Ch.one (fitC d0 d1 d2 d3 d4 xs)) ⟨1000, false, 0, [], 0⟩ := Ch.srch_all _ _ _ _ _ rfl (by simp only; omega)
  have eF : lastC d0 d1 d2 d3 d4 xs 1000 true = (Ch.pre (xs.map fM) d1 (xs.length + 1) [] 0 0).foldl (Ch.oneF (fitC d0 d1 d2 d3 d4 xs)) ⟨1000, false, 0, [], 0⟩ := Ch.srch_first _ _ _ _ _ rfl (by simp only; omega)
  have hsays := pre_says xs d1 (xs.length + 1) [] 0 0 trivial rfl (by omega)
  generalize Ch.pre (xs.map fM) d1 (xs.length + 1) [] 0 0 = l at *
  have hA := Ch.foldA (fitC d0 d1 d2 d3 d4 xs) l [] ⟨1000, false, 0, [], 0⟩ ⟨rfl, fun h => absurd rfl h⟩
  have hF := Ch.foldF (fitC d0 d1 d2 d3 d4 xs) l ⟨1000, false, 0, [], 0⟩ rfl rfl
  rw [← eA, List.nil_append] at hA
  rw [← eF] at hF
  have sA : (lastC d0 d1 d2 d3 d4 xs 1000 false).spent = false := by rw [eA]; exact (Ch.foldl_left _ l _).2
  have sF : (lastC d0 d1 d2 d3 d4 xs 1000 true).spent = false := by rw [eF]; exact (Ch.oneF_left _ l _).2
  have hmem : ∀ p ∈ l.filter (fun p => fitC d0 d1 d2 d3 d4 xs p.1), fitC d0 d1 d2 d3 d4 xs p.1 = true ∧ Ch.rising 0 xs.length p.1 ∧ p.2 = sumB fM xs p.1 := fun p hp => by
    rw [List.mem_filter] at hp
    exact ⟨hp.2, hsays p hp.1⟩
  have hfl : (l.filter fun p => fitC d0 d1 d2 d3 d4 xs p.1).length ≤ l.length := List.length_filter_le _ _
  obtain ⟨a1, a2⟩ := hA
  refine ⟨sF, sA, by rw [a1]; omega, by rw [a1]; omega, ?_⟩
  rcases hF with ⟨f1, f2⟩ | ⟨p, r, f1, f2, f3⟩
  · left
    rw [f1] at a1
    exact ⟨f2, by simpa using a1⟩
  · right
    obtain ⟨b1, b2⟩ := a2 (by rw [f1]; simp)
    have hp : p ∈ l.filter (fun p => fitC d0 d1 d2 d3 d4 xs p.1) := by rw [f1]; simp
    obtain ⟨m1, m2, m3⟩ := hmem _ hp
    obtain ⟨n1, n2, n3⟩ := hmem _ b1
    have hle := b2 p hp
    simp only at n1 n2 n3
    refine ⟨f2, by rw [a1, f1]; simp, by rw [f3]; exact m2, n2, by rw [f3]; exact m1, n1, by rw [f3, ← n3, ← m3]; exact hle, ?_⟩
    cases r with
    | nil =>
      right
      rw [f1] at b1
      simp at b1
      rw [f3, ← b1]
    | cons q r => left; rw [a1, f1]; simp; omega
end Go.Proofs.Ytjklhacffdhgaaa
