/- Plain laws of sways: a stiffer tower sways less; what the sums and the safe rate say. -/
import Derived.Test.YtjklhacffdhgaaaTotal
import Derived.Test.YtjklhacffdhgaaaAmp2
import Derived.Test.YtjklhacffdhgaaaSafe
namespace Go.Proofs.Ytjklhacffdhgaaa
open Go.RowKit

theorem nr_anti {a b b' : Int} (ha : 0 ≤ a) (hb : 0 < b) (h : b ≤ b') : Pl.nr a b' ≤ Pl.nr a b := by
  have hb' : 0 < b' := by omega
  unfold Pl.nr
  rw [if_pos ha, if_pos ha]
  have h1 := Int.ediv_mul_le (2 * a + b') (show 2 * b' ≠ 0 by omega)
  have h0 : 0 ≤ (2 * a + b) / (2 * b) := Int.ediv_nonneg (by omega) (by omega)
  generalize (2 * a + b') / (2 * b') = q at h1
  by_cases hq : q ≤ 0
  · omega
  · refine Int.le_ediv_of_mul_le (by omega) ?_
    have h2 : b * (2 * q - 1) ≤ b' * (2 * q - 1) := Int.mul_le_mul_of_nonneg_right h (by omega)
    have e1 : q * (2 * b') = b' * (2 * q - 1) + b' := by rw [Int.mul_sub, Int.mul_comm q, Int.mul_assoc 2, ← Int.mul_assoc b' 2, Int.mul_comm b' 2, Int.mul_assoc 2]; omega
    have e2 : q * (2 * b) = b * (2 * q - 1) + b := by rw [Int.mul_sub, Int.mul_comm q, Int.mul_assoc 2, ← Int.mul_assoc b 2, Int.mul_comm b 2, Int.mul_assoc 2]; omega
    omega
theorem fac_pos (sw dp rate : Int) : 0 ≤ fac sw dp rate := by
  unfold fac
  exact Pl.nr_nonneg (by omega) (by unfold mx; split <;> omega)
theorem amp_anti {sw dp sf sf' rate force : Int} (s1 : 1 ≤ sf) (h : sf ≤ sf') (f : 0 ≤ force) : amp sw dp sf' rate force ≤ amp sw dp sf rate force := by
  unfold amp am1 am3
  have a := nr_anti (a := fac sw dp rate * force) (b := 1000 * sf) (b' := 1000 * sf') (Int.mul_nonneg (fac_pos _ _ _) f) (by omega) (by omega)
  have b := nr_anti (a := fac sw dp (3 * rate) * force) (b := 9000 * sf) (b' := 9000 * sf') (Int.mul_nonneg (fac_pos _ _ _) f) (by omega) (by omega)
  omega
theorem amps_anti {sw dp sf sf' : Int} {xs : List SwingR} (s1 : 1 ≤ sf) (h : sf ≤ sf') (f : ∀ x ∈ xs, 0 ≤ x.force) : sumI (amps sw dp sf' xs) ≤ sumI (amps sw dp sf xs) := by
  induction xs with
  | nil => simp [amps, sumI]
  | cons x xs ih =>
    have a := amp_anti (sw := sw) (dp := dp) (rate := x.rate) s1 h (f x (by simp))
    have b := ih fun y hy => f y (by simp [hy])
    simp only [amps, List.map_cons, sumI] at b ⊢
    omega
/-- What TotalSway's answer says. -/
theorem totR_says {nm : ByteArray} {sw dp sf lim : Int} {xs : List SwingR} (h : (totR nm sw dp sf lim xs).2 = 0) : vTower nm sw dp sf lim = true ∧ rowsB vSwingR SwingR.nm 16 xs = true ∧ totR nm sw dp sf lim xs = (sumI (amps sw dp sf xs), 0) := by
  cases h1 : vTower nm sw dp sf lim
  · rw [totR_1 h1] at h; simp at h
  · cases h2 : rowsB vSwingR SwingR.nm 16 xs
    · rw [totR_2 h2] at h; simp at h
    · exact ⟨rfl, rfl, totR_3 h1 h2⟩
/-- A stiffer tower sways less. -/
theorem totR_stiff {nm : ByteArray} {sw dp sf lim : Int} {xs : List SwingR} (h : (totR nm sw dp sf lim xs).2 = 0) (h' : (totR nm sw dp (sf * 2) lim xs).2 = 0) : (totR nm sw dp (sf * 2) lim xs).1 ≤ (totR nm sw dp sf lim xs).1 := by
  obtain ⟨v, r, e⟩ := totR_says h
  obtain ⟨-, -, e'⟩ := totR_says h'
  obtain ⟨-, -, -, ⟨a5, -⟩, -⟩ := vTower_true _ _ _ _ _ v
  rw [e, e']
  refine amps_anti a5 (by omega) fun x hx => ?_
  have := (rowsB_true r).1 x hx
  obtain ⟨-, -, f1, -⟩ := vSwing_true _ _ _ this
  omega
/-- What SafeRate's answer says. -/
theorem safeOf_says {nm bell : ByteArray} {sw dp sf lim rate force away : Int} :
    ((safeOf nm bell sw dp sf lim rate force away).2 ≠ 0 ∧ (safeOf nm bell sw dp sf lim rate force away).1 = 0) ∨
    ∃ r a b : Int, safeOf nm bell sw dp sf lim rate force away = (r, 0) ∧ ampOf nm bell sw dp sf lim r force = (a, 0) ∧ a ≤ away ∧ ampOf nm bell sw dp sf lim rate force = (b, 0) ∧ (away < b ∨ r = rate) := by
  cases h1 : vTower nm sw dp sf lim
  · left; rw [safeOf_1 (.inl h1)]; simp
  · cases h2 : vSwing bell rate force
    · left; rw [safeOf_1 (.inr h2)]; simp
    · cases h3 : inB away 0 1000000
      · left; rw [safeOf_2 h1 h2 h3]; simp
      · by_cases hx : ∃ n : Nat, n < 10002 ∧ okRate sw dp sf force away (candR rate n) = true
        · have hmin : ∃ n : Nat, n < 10002 ∧ okRate sw dp sf force away (candR rate n) = true ∧ ∀ j : Int, 0 ≤ j → j < n → okRate sw dp sf force away (candR rate j) = false := by
            obtain ⟨d0, p1, p2⟩ := hx
            induction d0 using Nat.strongRecOn with
            | ind n ih =>
              by_cases hs : ∃ j : Nat, j < n ∧ okRate sw dp sf force away (candR rate j) = true
              · obtain ⟨j, q1, q2⟩ := hs
                exact ih j q1 (by omega) q2
              · refine ⟨n, p1, p2, fun j a b => ?_⟩
                obtain ⟨m, rfl⟩ := Int.eq_ofNat_of_zero_le a
                cases e : okRate sw dp sf force away (candR rate (m : Int))
                · rfl
                · exact absurd ⟨m, by omega, e⟩ hs
          obtain ⟨n, n1, n2, n3⟩ := hmin
          right
          have ok := n2
          unfold okRate at ok
          simp only [Bool.and_eq_true, decide_eq_true_eq] at ok
          have v2 : vSwing bell (candR rate n) force = true := by rw [vSwing_rate h2]; exact ok.1
          refine ⟨candR rate n, _, _, safeOf_some h1 h2 h3 (by omega) (by omega) rfl n2 n3, by unfold ampOf; rw [if_pos (by rw [h1, v2]; rfl)], ok.2, by unfold ampOf; rw [if_pos (by rw [h1, h2]; rfl)], ?_⟩
          by_cases hn : n = 0
          · right; subst hn; unfold candR; simp
          · left
            have := n3 0 (by omega) (by omega)
            have e0 : candR rate 0 = rate := by unfold candR; simp
            rw [e0] at this
            obtain ⟨-, ⟨r1, r2⟩, -⟩ := vSwing_true _ _ _ h2
            unfold okRate at this
            rw [inB_mk r1 r2] at this
            simpa using this
        · left
          rw [safeOf_none h1 h2 h3 fun j a b => ?_]
          · simp
          · obtain ⟨m, rfl⟩ := Int.eq_ofNat_of_zero_le a
            cases e : okRate sw dp sf force away (candR rate (m : Int))
            · rfl
            · exact absurd ⟨m, by omega, e⟩ hx
end Go.Proofs.Ytjklhacffdhgaaa
