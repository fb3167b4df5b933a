/- Plain laws of clappers: strokes are evenly spaced, what is least is just enough, texts are read back. -/
import Derived.Test.YtobcjhbfkanakaaDoorStrike
import Derived.Test.YtobcjhbfkanakaaDoorGap
import Derived.Test.YtobcjhbfkanakaaDoorReadClapper
namespace Go.Proofs.YtobcjhbfkanakaaDoor
open Go.RowKit Go.Lib

theorem least_int {P : Int → Prop} {a : Int} : ∀ (n : Nat) (r : Int), (r - a).toNat = n → a ≤ r → P r → ∃ q, a ≤ q ∧ q ≤ r ∧ P q ∧ ∀ j, a ≤ j → j < q → ¬ P j := by
  intro n
  induction n using Nat.strongRecOn with
  | ind n ih =>
    intro r hn ha hp
    by_cases h : ∃ j, a ≤ j ∧ j < r ∧ P j
    · obtain ⟨j, h1, h2, h3⟩ := h
      obtain ⟨q, q1, q2, q3, q4⟩ := ih (j - a).toNat (by omega) j rfl h1 h3
      exact ⟨q, q1, by omega, q3, q4⟩
    · exact ⟨r, ha, Int.le_refl _, hp, fun j h1 h2 h3 => h ⟨j, h1, h2, h3⟩⟩
theorem cT_top : 3475 ≤ cT 300000 := by
  unfold cT
  have e : Pl.nr (40257 * 300000) 1000 = 12077100 := by decide
  rw [e]
  exact (Pl.rt_le_iff (by omega) (by omega)).2 (by decide)
/-- What the least length is. -/
theorem lenFor_say {t : Int} (h : inB t 1 10000 = true) : (lenFor t = (0, 3) ∧ 3475 < t) ∨ ∃ r, lenFor t = (r, 0) ∧ 1 ≤ r ∧ r ≤ 300000 ∧ t ≤ cT r ∧ (1 < r → cT (r - 1) < t) := by
  by_cases hx : ∃ r, 1 ≤ r ∧ r ≤ 300000 ∧ t ≤ cT r
  · obtain ⟨r, h1, h2, h3⟩ := hx
    obtain ⟨q, q1, q2, q3, q4⟩ := least_int (P := fun j => t ≤ cT j) (a := 1) _ r rfl h1 h3
    refine .inr ⟨q, lenFor_some h q1 (by omega) q3 (fun j a b => by have := q4 j a b; omega), q1, by omega, q3, fun hq => by have := q4 (q - 1) (by omega) (by omega); omega⟩
  · refine .inl ⟨lenFor_none h (fun j a b => by by_cases e : t ≤ cT j; exact absurd ⟨j, a, b, e⟩ hx; omega), ?_⟩
    by_cases e : t ≤ cT 300000
    · exact absurd ⟨300000, by omega, by omega, e⟩ hx
    · have := cT_top; omega
/-- What the least gap is. -/
theorem gapFor_say {m l g t : Int} : (∃ c, gapFor m l g t = (0, c) ∧ c ≠ 0) ∨ ∃ r, gapFor m l g t = (r, 0) ∧ vClap m l r = true ∧ t ≤ cEn m l r ∧ (10 < r → vClap m l (r - 1) = true ∧ cEn m l (r - 1) < t) := by
  cases h : vClap m l g
  · exact .inl ⟨1, gapFor_1 h, by omega⟩
  · cases h2 : inB t 0 1000000000000
    · exact .inl ⟨2, gapFor_2 h h2, by omega⟩
    · by_cases hx : ∃ r, 10 ≤ r ∧ r ≤ 50000 ∧ t ≤ cEn m l r
      · obtain ⟨r, h1, h3, h4⟩ := hx
        obtain ⟨q, q1, q2, q3, q4⟩ := least_int (P := fun j => t ≤ cEn m l j) (a := 10) _ r rfl h1 h4
        obtain ⟨v1, v2, -, -⟩ := vClap_true h
        refine .inr ⟨q, gapFor_some h h2 q1 (by omega) q3 (fun j a b => by have := q4 j a b; omega), ?_, q3, fun hq => ⟨?_, by have := q4 (q - 1) (by omega) (by omega); omega⟩⟩
        · unfold vClap inB; simp; omega
        · unfold vClap inB; simp; omega
      · exact .inl ⟨3, gapFor_none h h2 (fun j a b => by by_cases e : t ≤ cEn m l j; exact absurd ⟨j, a, b, e⟩ hx; omega), by omega⟩
/-- Times in bounds, evenly spaced. -/
def Even (P f u : Int) (xs : List Int) : Prop := (∀ i (h : i < xs.length), f ≤ xs[i] ∧ xs[i] < u) ∧ ∀ i (h : i + 1 < xs.length), -2 ≤ 2 * (xs[i + 1] - xs[i]) - P ∧ 2 * (xs[i + 1] - xs[i]) - P ≤ 2
theorem stT_next {P k : Int} (hP : 0 ≤ P) (h : 1 ≤ k) : -2 ≤ 2 * (stT P k - stT P (k - 1)) - P ∧ 2 * (stT P k - stT P (k - 1)) - P ≤ 2 := by
  have e : (k - 1) * P = k * P - P := by rw [Int.sub_mul, Int.one_mul]
  have d : 0 ≤ (k - 1) * P := Int.mul_nonneg (by omega) hP
  unfold stT Pl.nr
  rw [if_pos d, if_pos (show 0 ≤ k * P by omega)]
  rw [e] at d ⊢
  generalize k * P = x at *
  omega
theorem strk_even {P f u : Int} (hP : 4 ≤ P) {k : Int} {acc : List Int} {R : List Int × Int} (h : Strk P f u k acc R) : 1 ≤ k → Even P f u acc → (∀ h : 0 < acc.length, acc[acc.length - 1] = stT P (k - 1)) → R.2 = 0 → Even P f u R.1 := by
  induction h with
  | stop _ => intro _ he _ _; exact he
  | @skip k acc R h1 h2 h3 ih =>
    intro hk he hl hr
    have hn : acc.length = 0 := by
      rcases Nat.eq_zero_or_pos acc.length with e | e
      · exact e
      · have q := hl e
        have w := (he.1 (acc.length - 1) (by omega)).1
        have n := stT_next (P := P) (k := k) (by omega) hk
        omega
    exact ih (by omega) he (fun h => by omega) hr
  | full _ _ _ => intro _ _ _ hr; simp at hr
  | @take k acc R h1 h2 h3 _ ih =>
    intro hk he hl hr
    refine ih (by omega) ⟨fun i hi => ?_, fun i hi => ?_⟩ (fun h => ?_) hr
    · by_cases e : i < acc.length
      · rw [List.getElem_append_left e]; exact he.1 i e
      · have : i = acc.length := by simp at hi; omega
        subst this
        rw [List.getElem_append_right (Nat.le_refl _)]
        simp only [Nat.sub_self, List.getElem_cons_zero]
        exact ⟨h2, h1⟩
    · by_cases e : i + 1 < acc.length
      · rw [List.getElem_append_left e, List.getElem_append_left (by omega)]; exact he.2 i e
      · have : i + 1 = acc.length := by simp at hi; omega
        have q := hl (by omega)
        have hi' : i = acc.length - 1 := by omega
        subst hi'
        rw [List.getElem_append_right (by omega), List.getElem_append_left (by omega), q]
        simp only [show acc.length - 1 + 1 - acc.length = 0 by omega, List.getElem_cons_zero]
        exact stT_next (by omega) hk
    · rw [List.getElem_append_right (by simp)]
      simp [show k + 1 - 1 = k by omega]
/-- Strokes are in order and evenly spaced. -/
theorem strike_say {m l g f u : Int} {xs : List Int} (h : StrikeR m l g f u xs 0) : vClap m l g = true ∧ Even (cT l) f u xs := by
  rcases h with ⟨_, _, e⟩ | ⟨_, _, _, e⟩ | ⟨hv, h1, h2, h3, h4⟩
  · omega
  · omega
  · obtain ⟨-, v2, -⟩ := vClap_true hv
    have hb := cT_bd v2.1 v2.2
    exact ⟨hv, strk_even (by omega) h4 (le_mx (.inl (by omega))) ⟨fun i hi => by simp at hi, fun i hi => by simp at hi⟩ (fun h => by simp at h) rfl⟩
/-- A clapper's text is read back. -/
theorem read_back {m l g : Int} (h : vClap m l g = true) : oClapper (txClapper m l g).data.toList = some (m, l, g) := by
  have hv : ([m, l, g] : List Int).all isVal = true := by
    rw [List.all_eq_true]
    intro x hx
    have := vClap_vals h x hx
    unfold isVal
    simp
    omega
  have hr : rowText [m, l, g] = Lib.join ([m, l, g].map itoa) [44] := by unfold rowText; rw [if_neg (by simp)]
  have hs : splitL 44 (rowText [m, l, g]) = [m, l, g].map itoa := by
    rw [hr]
    exact split_join _ (by simp) (fun y hy => by
      rw [List.mem_map] at hy
      obtain ⟨x, _, rfl⟩ := hy
      exact itoa_comma x)
  have hne : rowText [m, l, g] ≠ [45] := fun e => join_minus (xs := [m, l, g]) (by rw [← hr]; exact e)
  have hl : listO (rowText [m, l, g]) = some [m, l, g] := by
    unfold listO
    rw [if_neg hne, hs, if_neg (by simp)]
    exact (allO_vals _ _).2 ⟨rfl, hv⟩
  unfold oClapper txClapper
  rw [if_pos h]
  simp only [hl]
  rw [if_pos h]
end Go.Proofs.YtobcjhbfkanakaaDoor
