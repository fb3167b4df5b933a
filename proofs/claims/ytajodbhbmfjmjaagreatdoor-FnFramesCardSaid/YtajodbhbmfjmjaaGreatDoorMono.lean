/- A deeper beam is stressed no more and bends no more; what the least depth says. -/
import Derived.Test.YtajodbhbmfjmjaaGreatDoorMom3
namespace Go.Proofs.YtajodbhbmfjmjaaGreatDoor
open Go.RowKit

theorem nr_anti {a b b' : Int} (ha : 0 ≤ a) (hb : 0 < b) (h : b ≤ b') : Pl.nr a b' ≤ Pl.nr a b := by
  have hb' : 0 < b' := by omega
  unfold Pl.nr
  rw [if_pos ha, if_pos ha]
  have h1 := Int.ediv_mul_le (2 * a + b') (show 2 * b' ≠ 0 by omega)
  have h0 : 0 ≤ (2 * a + b) / (2 * b) := Int.ediv_nonneg (by omega) (by omega)
  generalize (2 * a + b') / (2 * b') = q at h1
  by_cases hq : q ≤ 0
  · omega
  · refine Int.le_ediv_of_mul_le (by omega) ?_
    have h2 : b * (2 * q - 1) ≤ b' * (2 * q - 1) := Int.mul_le_mul_of_nonneg_right h (by omega)
    have e1 : q * (2 * b') = b' * (2 * q - 1) + b' := by rw [Int.mul_sub, Int.mul_comm q, Int.mul_assoc 2, ← Int.mul_assoc b' 2, Int.mul_comm b' 2, Int.mul_assoc 2]; omega
    have e2 : q * (2 * b) = b * (2 * q - 1) + b := by rw [Int.mul_sub, Int.mul_comm q, Int.mul_assoc 2, ← Int.mul_assoc b 2, Int.mul_comm b 2, Int.mul_assoc 2]; omega
    omega
theorem cube_mono {m d d' : Int} (hm : 0 ≤ m) (h0 : 0 ≤ d) (h : d ≤ d') : m * d ≤ m * d' ∧ m * d * d ≤ m * d' * d' ∧ m * d * d * d ≤ m * d' * d' * d' := by
  have a1 : m * d ≤ m * d' := Int.mul_le_mul_of_nonneg_left h hm
  have n1 : 0 ≤ m * d := Int.mul_nonneg hm h0
  have n1' : 0 ≤ m * d' := by omega
  have a2 : m * d * d ≤ m * d' * d' := Int.mul_le_mul a1 h h0 n1'
  have n2 : 0 ≤ m * d * d := Int.mul_nonneg n1 h0
  have a3 : m * d * d * d ≤ m * d' * d' * d' := Int.mul_le_mul a2 h h0 (by omega)
  exact ⟨a1, a2, a3⟩
theorem sumB_nonneg {f : LoadR → Int} {l : List LoadR} (h : ∀ x ∈ l, 0 ≤ f x) : 0 ≤ sumB f l := by
  induction l with
  | nil => simp [sumB]
  | cons x l ih =>
    have a := h x (by simp)
    have b := ih fun y hy => h y (by simp [hy])
    simp only [sumB]; omega
theorem stressB_anti {span wd d d' wood : Int} {ls : List LoadR} (hg : GoodB span wd d wood ls) (h : d ≤ d') : stressB span wd d' ls ≤ stressB span wd d ls := by
  have b := gmB_bd' hg
  have n := nr_most hg.s1 b.2.1 b.2.2
  have w1 := hg.w1
  have d1 := hg.d1
  have c := cube_mono (m := wd) (d := d) (d' := d') (by omega) (by omega) h
  have p : 0 < wd * d * d := Int.mul_pos (Int.mul_pos (by omega) (by omega)) (by omega)
  unfold stressB
  exact nr_anti (by omega) p c.2.1
theorem bendB_anti {span wd d d' wood : Int} {ls : List LoadR} (hg : GoodB span wd d wood ls) (h : d ≤ d') : bendB span wd d' wood ls ≤ bendB span wd d wood ls := by
  have s1 := hg.s1
  have s2 := hg.s2
  have w1 := hg.w1
  have d1 := hg.d1
  have o1 := hg.o1
  have c := cube_mono (m := wood * wd) (d := d) (d' := d') (Int.mul_nonneg (by omega) (by omega)) (by omega) h
  have k0 : 1000 * 20 ≤ wood * wd := Int.mul_le_mul o1 w1 (by omega) (by omega)
  have k1 : 1000 * 20 * 20 ≤ wood * wd * d := Int.mul_le_mul k0 d1 (by omega) (by omega)
  have k2 : 1000 * 20 * 20 * 20 ≤ wood * wd * d * d := Int.mul_le_mul k1 d1 (by omega) (by omega)
  have k3 : 1000 * 20 * 20 * 20 * 20 ≤ wood * wd * d * d * d := Int.mul_le_mul k2 d1 (by omega) (by omega)
  unfold bendB
  refine nr_anti (sumB_nonneg fun x hx => ?_) (by omega) (by have := c.2.2; omega)
  exact (bTerm_bd s1 s2 (hg.l x hx)).1
theorem carB_mono {span wd d d' wood : Int} {ls : List LoadR} {st be : Int} (hg : GoodB span wd d wood ls) (h : d ≤ d') (hc : carB span wd d wood ls st be = true) : carB span wd d' wood ls st be = true := by
  have a := stressB_anti hg h
  have b := bendB_anti hg h
  simp only [carB, Bool.and_eq_true, decide_eq_true_eq] at hc ⊢
  omega
theorem vBeam_depth {nm : ByteArray} {span wd dp d wood : Int} {ls : List LoadR} (h : vBeam nm span wd dp wood ls = true) (h1 : 20 ≤ d) (h2 : d ≤ 1000) : vBeam nm span wd d wood ls = true := by
  obtain ⟨hn, ⟨a1, a2⟩, ⟨a3, a4⟩, ⟨a5, a6⟩, ⟨a7, a8⟩, hl, hs, hb⟩ := vBeam_true h
  rw [vBeam_fin (by simp [bmB, hn, inB]; omega) fun k _ => hb k]
  simp; omega
/-- What the least depth is, for a valid beam. -/
theorem depthR_says {nm : ByteArray} {span wd dp wood : Int} {ls : List LoadR} {st be : Int} (h : vBeam nm span wd dp wood ls = true) :
    (∃ x : Int, depthR nm span wd dp wood ls st be = (x, 0) ∧ 20 ≤ x ∧ x ≤ 1000 ∧ carR nm span wd x wood ls st be = true ∧ carR nm span wd dp wood ls st be = decide (x ≤ dp) ∧ (x ≠ 20 → carR nm span wd (x - 1) wood ls st be = false)) ∨
    (depthR nm span wd dp wood ls st be = (0, 3) ∧ carR nm span wd 1000 wood ls st be = false) := by
  have hg := good_of h
  have hC : ∀ d, 20 ≤ d → d ≤ 1000 → carR nm span wd d wood ls st be = carB span wd d wood ls st be := fun d a b => by unfold carR; rw [vBeam_depth h a b]; simp
  by_cases hx : ∃ d : Nat, 20 ≤ d ∧ d ≤ 1000 ∧ carB span wd d wood ls st be = true
  · obtain ⟨d0, p0, p1, p2⟩ := hx
    have hmin : ∃ x : Nat, 20 ≤ x ∧ x ≤ 1000 ∧ carB span wd x wood ls st be = true ∧ ∀ j : Int, 20 ≤ j → j < x → carB span wd j wood ls st be = false := by
      clear hC
      induction d0 using Nat.strongRecOn with
      | ind n ih =>
        by_cases hs : ∃ j : Nat, 20 ≤ j ∧ j < n ∧ carB span wd j wood ls st be = true
        · obtain ⟨j, q0, q1, q2⟩ := hs
          exact ih j q1 q0 (by omega) q2
        · refine ⟨n, p0, p1, p2, fun j a b => ?_⟩
          obtain ⟨m, rfl⟩ := Int.eq_ofNat_of_zero_le (show 0 ≤ j by omega)
          cases e : carB span wd (m : Int) wood ls st be
          · rfl
          · exact absurd ⟨m, by omega, by omega, e⟩ hs
    obtain ⟨x, x0, x1, x2, x3⟩ := hmin
    refine .inl ⟨x, depthR_some h (by omega) (by omega) x2 x3, by omega, by omega, ?_, ?_, fun hne => ?_⟩
    · rw [hC _ (by omega) (by omega)]; exact x2
    · rw [hC _ hg.d1 hg.d2]
      by_cases hd : (x : Int) ≤ dp
      · rw [carB_mono (hg.depth (by omega) (by omega)) hd x2]; simp [hd]
      · rw [x3 dp hg.d1 (by omega)]; simp [hd]
    · rw [hC _ (by omega) (by omega)]; exact x3 _ (by omega) (by omega)
  · refine .inr ⟨depthR_none h fun j a b => ?_, ?_⟩
    · obtain ⟨m, rfl⟩ := Int.eq_ofNat_of_zero_le (show 0 ≤ j by omega)
      cases e : carB span wd (m : Int) wood ls st be
      · rfl
      · exact absurd ⟨m, by omega, by omega, e⟩ hx
    · rw [hC _ (by omega) (by omega)]
      cases e : carB span wd 1000 wood ls st be
      · rfl
      · exact absurd ⟨1000, by omega, by omega, e⟩ hx
end Go.Proofs.YtajodbhbmfjmjaaGreatDoor
