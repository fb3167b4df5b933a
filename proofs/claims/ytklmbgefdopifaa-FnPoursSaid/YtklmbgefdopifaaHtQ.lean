/- Plain laws of the search for schedules: it finds one exactly if there is one, none ends earlier than the best, and few nodes are visited. -/
import Derived.Test.YtklmbgefdopifaaHtP
namespace Go.Proofs.Ytklmbgefdopifaa
namespace Ht
section
variable {first : Bool} {nx : Int → Int → List HeatR → Int × Int × Int} {n m f : Nat} {hs : List HeatR} {s : S} {stp : Nat → S → S}
/-- Heats of which each may follow those before it. -/
def Path (nx : Int → Int → List HeatR → Int × Int × Int) (n m : Nat) (hs : List HeatR) : Prop :=
  ∀ k (hk : k < hs.length), ∃ p c : Nat, p < n ∧ c < m ∧ hs[k].pr = p ∧ hs[k].cr = c ∧ hasP (hs.take k) p = false ∧ nx p c (hs.take k) = (hs[k].st, hs[k].en, 0)
theorem path_nil : Path nx n m [] := fun k hk => by simp at hk
theorem path_snoc {p c : Nat} {a b : Int} (h : Path nx n m hs) (hp : p < n) (hc : c < m) (hh : hasP hs p = false) (hx : nx p c hs = (a, b, 0)) : Path nx n m (hs ++ [⟨p, c, a, b⟩]) := by
  intro k hk
  rw [List.length_append, List.length_singleton] at hk
  by_cases e : k < hs.length
  · obtain ⟨p', c', h1, h2, h3, h4, h5, h6⟩ := h k e
    refine ⟨p', c', h1, h2, ?_, ?_, ?_, ?_⟩
    · rw [List.getElem_append_left e]; exact h3
    · rw [List.getElem_append_left e]; exact h4
    · rw [List.take_append_of_le_length (by omega)]; exact h5
    · rw [List.take_append_of_le_length (by omega), List.getElem_append_left e]; exact h6
  · obtain rfl : k = hs.length := by omega
    refine ⟨p, c, hp, hc, ?_, ?_, ?_, ?_⟩
    · simp
    · simp
    · rw [List.take_left]; exact hh
    · rw [List.take_left, hx]; simp
theorem path_take (h : Path nx n m hs) (j : Nat) : Path nx n m (hs.take j) := by
  intro k hk
  rw [List.length_take] at hk
  obtain ⟨p, c, h1, h2, h3, h4, h5, h6⟩ := h k (by omega)
  have e : (hs.take j).take k = hs.take k := by rw [List.take_take, Nat.min_eq_left (by omega)]
  refine ⟨p, c, h1, h2, ?_, ?_, ?_, ?_⟩
  · rw [List.getElem_take]; exact h3
  · rw [List.getElem_take]; exact h4
  · rw [e]; exact h5
  · rw [e, List.getElem_take]; exact h6
theorem rounds_keep {P : S → Prop} (j : Nat) : ∀ (k : Nat) {s : S}, (∀ i s, k ≤ i → i < k + j → P s → P (stp i s)) → P s → P (rounds stp j k s) := by
  induction j with
  | zero => intro k s _ h; exact h
  | succ j ih =>
    intro k s hst h
    exact ih (k + 1) (fun i s h1 h2 => hst i s (by omega) (by omega)) (hst k s (Nat.le_refl _) (by omega) h)
theorem rounds_split (i r : Nat) : ∀ (k : Nat) (s : S), rounds stp (i + (r + 1)) k s = rounds stp r (k + i + 1) (stp (k + i) (rounds stp i k s)) := by
  induction i with
  | zero => intro k s; rw [Nat.zero_add]; rfl
  | succ i ih =>
    intro k s
    rw [show i + 1 + (r + 1) = (i + (r + 1)) + 1 by omega]
    show rounds stp (i + (r + 1)) (k + 1) (stp k s) = _
    rw [ih, show k + 1 + i = k + (i + 1) by omega]
    rfl
/-- What is found is a schedule. -/
def Sound (nx : Int → Int → List HeatR → Int × Int × Int) (n m : Nat) (s : S) : Prop := 0 ≤ s.count ∧ (0 < s.count → Path nx n m s.best ∧ s.best.length = n)
theorem look_sound (h : Sound nx n m s) (hp : Path nx n m hs) (hl : hs.length = n) : Sound nx n m (look hs { s with left := s.left - 1 }) := by
  obtain ⟨h0, h1⟩ := h
  refine ⟨by simp only [look]; omega, fun _ => ?_⟩
  cases e : better hs { s with left := s.left - 1 }
  · have hc : s.count ≠ 0 := fun q => by simp [better, q] at e
    simp only [look, e]
    exact h1 (by omega)
  · simp only [look, e]
    exact ⟨hp, hl⟩
theorem srch_sound : ∀ (f : Nat) {hs : List HeatR} {s : S}, Path nx n m hs → Sound nx n m s → Sound nx n m (srch first nx n m f hs s) := by
  intro f
  induction f with
  | zero => intro hs s _ h; exact h
  | succ f ih =>
    intro hs s hp h
    cases e : ended first s
    · by_cases h0 : s.left = 0
      · rw [srch_spent e h0]; exact h
      · by_cases hl : hs.length = n
        · rw [srch_full e h0 hl]; exact look_sound h hp hl
        · rw [srch_goes e h0 hl]
          refine rounds_keep n 0 (fun p s _ hpn hs => ?_) h
          refine rounds_keep m 0 (fun c s _ hcm hs => ?_) hs
          cases hh : hasP _ p
          · generalize hx : nx p c _ = r
            obtain ⟨a, b, cd⟩ := r
            by_cases hcd : cd = 0
            · subst hcd
              rw [stepC_yes hh hx]
              exact ih (path_snoc hp (by omega) (by omega) hh hx) hs
            · rw [stepC_no (by rw [hx]; exact hcd)]; exact hs
          · rw [stepC_has hh]; exact hs
    · rw [srch_ended e]; exact h
/-- One state knows no less than another, and nothing worse. -/
def Bet (s s' : S) : Prop := s.count ≤ s'.count ∧ (0 < s.count → lastE s'.best ≤ lastE s.best) ∧ (s.spent = true → s'.spent = true)
theorem Bet.refl : Bet s s := ⟨Int.le_refl _, fun _ => Int.le_refl _, fun h => h⟩
theorem Bet.trans {a b c : S} (h : Bet a b) (k : Bet b c) : Bet a c := ⟨Int.le_trans h.1 k.1, fun q => Int.le_trans (k.2.1 (by have := h.1; omega)) (h.2.1 q), fun q => k.2.2 (h.2.2 q)⟩
theorem look_bet : Bet s (look hs { s with left := s.left - 1 }) := by
  refine ⟨by simp only [look]; omega, fun h => ?_, fun h => h⟩
  cases e : better hs { s with left := s.left - 1 }
  · simp [look, e]
  · have hc : (s.count == 0) = false := by simp; omega
    simp only [better, hc, Bool.false_or, decide_eq_true_eq] at e
    have e2 : better hs { s with left := s.left - 1 } = true := by simp [better, e]
    simp only [look, e2, if_true]
    omega
theorem rounds_bet (h : ∀ k s, Bet s (stp k s)) (j : Nat) : ∀ (k : Nat) (s : S), Bet s (rounds stp j k s) := by
  induction j with
  | zero => intro k s; exact Bet.refl
  | succ j ih => intro k s; exact (h k s).trans (ih _ _)
theorem stepC_bet (h : ∀ hs s, Bet s (srch first nx n m f hs s)) (p c : Nat) (s : S) : Bet s (stepC first nx n m f hs p c s) := by
  unfold stepC
  split
  · exact Bet.refl
  · split
    · exact h _ _
    · exact Bet.refl
theorem srch_bet : ∀ (f : Nat) (hs : List HeatR) (s : S), Bet s (srch first nx n m f hs s) := by
  intro f
  induction f with
  | zero => intro hs s; exact Bet.refl
  | succ f ih =>
    intro hs s
    cases e : ended first s
    · by_cases h0 : s.left = 0
      · rw [srch_spent e h0]; exact ⟨Int.le_refl _, fun _ => Int.le_refl _, fun _ => rfl⟩
      · by_cases hl : hs.length = n
        · rw [srch_full e h0 hl]; exact look_bet
        · rw [srch_goes e h0 hl]
          exact Bet.trans (b := { s with left := s.left - 1 }) ⟨Int.le_refl _, fun _ => Int.le_refl _, fun h => h⟩ (rounds_bet (fun p s => rounds_bet (fun c s => stepC_bet ih p c s) _ _ _) _ _ _)
    · rw [srch_ended e]; exact Bet.refl
/-- Where there is a schedule, one is found, and the best one ends no later. -/
theorem srch_finds {q : List HeatR} (hq : Path nx n m q) (hql : q.length = n) : ∀ (f : Nat) {hs : List HeatR} {s : S}, n < f + hs.length → hs.length ≤ n → q.take hs.length = hs → 0 ≤ s.count → (srch first nx n m f hs s).spent = false → 0 < (srch first nx n m f hs s).count ∧ (first = false → lastE (srch first nx n m f hs s).best ≤ lastE q) := by
  intro f
  induction f with
  | zero => intro hs s h1 h2; omega
  | succ f ih =>
    intro hs s hf hle ht h0 hsp
    cases e : ended first s
    · by_cases hl0 : s.left = 0
      · rw [srch_spent e hl0] at hsp; simp at hsp
      · by_cases hl : hs.length = n
        · rw [srch_full e hl0 hl]
          have hqs : q = hs := by rw [← ht, hl, ← hql, List.take_length]
          refine ⟨by simp only [look]; omega, fun _ => ?_⟩
          cases eb : better hs { s with left := s.left - 1 }
          · have hc : (s.count == 0) = false := by
              cases q : (s.count == 0)
              · rfl
              · simp [better, q] at eb
            have eb' := eb
            simp only [better, hc, Bool.false_or, decide_eq_false_iff_not] at eb'
            simp only [look, eb]
            rw [hqs]
            simp only [Bool.false_eq_true, if_false]
            omega
          · simp only [look, eb, if_true]; rw [hqs]; omega
        · rw [srch_goes e hl0 hl] at hsp ⊢
          have hlt : hs.length < q.length := by omega
          obtain ⟨p, c, hp, hc, h1, h2, h3, h4⟩ := hq hs.length hlt
          rw [ht] at h3 h4
          have hel : q[hs.length] = ⟨p, c, q[hs.length].st, q[hs.length].en⟩ := by rw [← h1, ← h2]
          have htk : q.take (hs ++ [(⟨p, c, q[hs.length].st, q[hs.length].en⟩ : HeatR)]).length = hs ++ [⟨p, c, q[hs.length].st, q[hs.length].en⟩] := by
            rw [List.length_append, List.length_singleton, List.take_succ_eq_append_getElem hlt, ht, ← hel]
          have es : rounds (stepP first nx n m f hs) n 0 { s with left := s.left - 1 } = rounds (stepP first nx n m f hs) (n - p - 1) (0 + p + 1) (stepP first nx n m f hs (0 + p) (rounds (stepP first nx n m f hs) p 0 { s with left := s.left - 1 })) := by
            rw [← rounds_split, show p + (n - p - 1 + 1) = n by omega]
          have ec : ∀ t : S, stepP first nx n m f hs (0 + p) t = rounds (stepC first nx n m f hs p) (m - c - 1) (0 + c + 1) (stepC first nx n m f hs p (0 + c) (rounds (stepC first nx n m f hs p) c 0 t)) := fun t => by
            rw [← rounds_split, show c + (m - c - 1 + 1) = m by omega, Nat.zero_add]; rfl
          rw [es, ec] at hsp ⊢
          simp only [Nat.zero_add] at hsp ⊢
          rw [stepC_yes h3 h4] at hsp ⊢
          have b0 := rounds_bet (fun p s => rounds_bet (fun c s => stepC_bet (hs := hs) (srch_bet (first := first) (nx := nx) (n := n) (m := m) f) p c s) m 0 s) p 0 { s with left := s.left - 1 }
          have b1 := rounds_bet (fun c s => stepC_bet (hs := hs) (srch_bet (first := first) (nx := nx) (n := n) (m := m) f) p c s) c 0 (rounds (stepP first nx n m f hs) p 0 { s with left := s.left - 1 })
          have hc0 := Int.le_trans b0.1 b1.1
          simp only at hc0
          generalize rounds (stepC first nx n m f hs p) c 0 (rounds (stepP first nx n m f hs) p 0 { s with left := s.left - 1 }) = t at *
          have b2 := rounds_bet (fun c s => stepC_bet (hs := hs) (srch_bet (first := first) (nx := nx) (n := n) (m := m) f) p c s) (m - c - 1) (c + 1) (srch first nx n m f (hs ++ [⟨p, c, q[hs.length].st, q[hs.length].en⟩]) t)
          have b3 := b2.trans (rounds_bet (fun p s => rounds_bet (fun c s => stepC_bet (hs := hs) (srch_bet (first := first) (nx := nx) (n := n) (m := m) f) p c s) m 0 s) (n - p - 1) (p + 1) _)
          have hi := ih (hs := hs ++ [⟨p, c, q[hs.length].st, q[hs.length].en⟩]) (s := t) (by simp; omega) (by simp; omega) htk (by omega) (by
            cases hh : (srch first nx n m f (hs ++ [⟨p, c, q[hs.length].st, q[hs.length].en⟩]) t).spent
            · rfl
            · have := b3.2.2 hh
              exact absurd hsp (by rw [show (rounds (stepP first nx n m f hs) (n - p - 1) (p + 1) (rounds (stepC first nx n m f hs p) (m - c - 1) (c + 1) (srch first nx n m f (hs ++ [⟨p, c, q[hs.length].st, q[hs.length].en⟩]) t))).spent = true from this]; simp))
          exact ⟨Int.lt_of_lt_of_le hi.1 b3.1, fun hf => Int.le_trans (b3.2.1 hi.1) (hi.2 hf)⟩
    · rw [srch_ended e] at hsp ⊢
      unfold ended at e
      rw [hsp, Bool.false_or, Bool.and_eq_true, decide_eq_true_eq] at e
      exact ⟨e.2, fun q => by rw [e.1] at q; cases q⟩
end
end Ht
end Go.Proofs.Ytklmbgefdopifaa
