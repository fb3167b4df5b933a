/- Contracts: logarithms and intervals, on both sides. -/
import Derived.Test.YtnefgafmnpblpaaGreatPnL
import Derived.Test.YtnefgafmnpblpaaGreatArith
import Derived.Test.YtnefgafmnpblpaaGreatShelf
import Derived.Deep.DeepCutAuto
namespace Go.Proofs.YtnefgafmnpblpaaGreat
open Go.RowKit

theorem bitLenAux_eq : ∀ (f x : Nat), x < 2 ^ f → Lib.bitLenAux f x = if x = 0 then 0 else Nat.log2 x + 1
  | 0, x, h => by simp at h; simp [Lib.bitLenAux, h]
  | f + 1, x, h => by
    unfold Lib.bitLenAux
    split
    · rfl
    · rename_i h0
      rw [bitLenAux_eq f (x / 2) (by rw [Nat.pow_succ] at h; omega)]
      by_cases h2 : x / 2 = 0
      · have : x = 1 := by omega
        subst this
        simp; decide
      · rw [if_neg h2, Nat.log2_def x, if_pos (by omega)]; omega
theorem bitLen_eq {n : Int} (h0 : 1 ≤ n) (h : n ≤ 100000000) : Lib.bitLen n.toNat = Nat.log2 n.toNat + 1 := by
  unfold Lib.bitLen
  rw [bitLenAux_eq 64 n.toNat (by omega), if_neg (by omega)]
theorem log2_le {n : Int} (h0 : 1 ≤ n) (h : n ≤ 100000000) : Nat.log2 n.toNat ≤ 26 := by
  have := (Nat.log2_lt (n := n.toNat) (by omega) (k := 27)).2 (by omega)
  omega
/-- A round of the logarithm: what is known of its two numbers. -/
def LgAt (n : Int) (k : Nat) (P Q : Int) : Prop := (P, Q) = Pn.lgIter k (Pn.lgMan n, 0) ∧ 1073741824 ≤ P ∧ P < 2147483648 ∧ 0 ≤ Q ∧ (k ≤ 24 → Q < 16777216) ∧ (k < 24 → Q < 8388608)
theorem LgAt.mk {n : Int} {k : Nat} {P Q : Int} (h0 : 1 ≤ n) (h1 : n ≤ 100000000) (h : (P, Q) = Pn.lgIter k (Pn.lgMan n, 0)) : LgAt n k P Q := by
  have a := Pn.iter_ok (p := (Pn.lgMan n, 0)) (Pn.man_ok (n := n) (by omega) (by omega)) k
  have b := Pn.iter_lt (Pn.lgMan n) k
  rw [← h] at a b
  simp only at a b
  refine ⟨h, a.1, a.2, b.1, fun hk => ?_, fun hk => ?_⟩
  · have h3 : (2 : Nat) ^ k ≤ 16777216 := Nat.le_trans (Nat.pow_le_pow_right (by omega) hk) (by decide)
    have h4 : ((2 ^ k : Nat) : Int) = 2 ^ k := by simp
    omega
  · have h3 : (2 : Nat) ^ k ≤ 8388608 := Nat.le_trans (Nat.pow_le_pow_right (by omega) (show k ≤ 23 by omega)) (by decide)
    have h4 : ((2 ^ k : Nat) : Int) = 2 ^ k := by simp
    omega
theorem LgAt.start {n : Int} (h0 : 1 ≤ n) (h1 : n ≤ 100000000) : LgAt n 0 (Pn.lgMan n) 0 := LgAt.mk h0 h1 rfl
theorem LgAt.next {n : Int} {k : Nat} {P Q P' Q' : Int} (h0 : 1 ≤ n) (h1 : n ≤ 100000000) (h : LgAt n k P Q) (e : Pn.lgStep (P, Q) = (P', Q')) : LgAt n (k + 1) P' Q' := LgAt.mk h0 h1 (by rw [Pn.lgIter, ← h.1, e])
theorem step_hi {P Q Y : Int} (hY : Y = P * P / 1073741824) (h : 2147483648 ≤ Y) : Pn.lgStep (P, Q) = (Y / 2, Q * 2 + 1) := by
  subst hY; unfold Pn.lgStep; simp only; rw [if_pos h, Int.mul_comm Q]
theorem step_lo {P Q Y : Int} (hY : Y = P * P / 1073741824) (h : ¬ 2147483648 ≤ Y) : Pn.lgStep (P, Q) = (Y, Q * 2) := by
  subst hY; unfold Pn.lgStep; simp only; rw [if_neg h, Int.mul_comm Q]
theorem LgAt.sq {n : Int} {k : Nat} {P Q : Int} (h : LgAt n k P Q) : 0 ≤ P * P ∧ P * P ≤ 4611686014132420609 ∧ 1073741824 ≤ P * P / 1073741824 ∧ P * P / 1073741824 < 4294967296 := by
  obtain ⟨_, a, b, _⟩ := h
  have h1 : 1073741824 * 1073741824 ≤ P * P := Pn.sq_lo (by omega) a
  have h2 : P * P ≤ 2147483647 * 2147483647 := Pn.sq_lo (by omega) (by omega)
  omega
theorem lgI_of {n : Int} {P Q : Int} {e : Nat} (h : LgAt n 24 P Q) (he : e = Nat.log2 n.toNat) : Pn.lgI n = (e : Int) * 16777216 + Q := by
  unfold Pn.lgI
  rw [← h.1, he]
set_option maxRecDepth 100000 in
theorem fineLog_is (n : Int) (w : World) (h0 : 1 ≤ n) (h1 : n ≤ 100000000) : Calls Tryz.prog 182 #[.int .i64 n] w fun e w' => e = .returned (.int .i64 (Pn.lgI n)) ∧ w = w' := by
  have hb := bitLen_eq h0 h1
  have hl := log2_le h0 h1
  have HS := hide (LgAt.start h0 h1)
  have HN := hide (fun (k : Nat) (P Q P' Q' : Int) => @LgAt.next n k P Q P' Q' h0 h1)
  have hm := Pn.man_ok (n := n) (by omega) (by omega)
  obtain ⟨e, he⟩ : ∃ e, e = Nat.log2 n.toNat := ⟨_, rfl⟩
  have HM := hide (show Pn.lgMan n = n * 2 ^ (30 - e) from by rw [he]; rfl)
  rw [← he] at hb hl
  have HE := hide he
  have HB := hide hm
  clear he hm
  go_enter Tryz.func182, Tryz.ntmps182
  go_wp2_with (go_at_call 190; refine (Tryz.bits_Len64 _ _ (by omega) (by omega)).mono ?_; rintro e2 w2 ⟨rfl, hw⟩; obtain rfl := hw.symm; rw [hb])
  clear hb h0 h1
  go_loopw [21, 4, 5] (fun v x r wr => ∃ (k : Nat) (P Q : Int), v = .int .i64 k ∧ x = .int .i64 P ∧ r = .int .i64 Q ∧ k ≤ 24 ∧ Hid (LgAt n k P Q) ∧ w = wr) (fun v _ _ _ => 24 - (intOf v).toNat)
  case atStart =>
    refine ⟨0, Pn.lgMan n, 0, rfl, ?_, rfl, by omega, HS, rfl⟩
    have := HB.out
    rw [HM.out] at this ⊢
    rw [IntWalk.wrap64_in _ (by omega)]
  case round =>
    obtain ⟨k, P, Q, rfl, rfl, rfl, hk, HP, rfl⟩ := hrel
    by_cases hlt : k < 24
    · obtain ⟨s1, s2, s3, s4⟩ := HP.out.sq
      have hq1 := HP.out.2.2.2.1
      have hq2 := HP.out.2.2.2.2.2 hlt
      go_upto_region 9 with fail
      obtain ⟨Y, hY⟩ : ∃ Y : Int, Y = P * P / 1073741824 := ⟨_, rfl⟩
      rw [← hY] at s3 s4 ⊢
      have HH := hide (fun h => HN.out k P Q _ _ HP.out (step_hi hY h))
      have HL := hide (fun h => HN.out k P Q _ _ HP.out (step_lo hY h))
      generalize P * P = pp at *
      clear hY
      by_cases hb2 : 2147483648 ≤ Y
      · go_wp2_with fail
        go_roundw
        case rel => exact ⟨k + 1, Y / 2, Q * 2 + 1, by go_num, by go_num, by go_num, by omega, hide (HH.out hb2), trivial⟩
        case measure => simp [intOf]; omega
      · go_wp2_with fail
        go_roundw
        case rel => exact ⟨k + 1, Y, Q * 2, by go_num, by go_num, by go_num, by omega, hide (HL.out hb2), trivial⟩
        case measure => simp [intOf]; omega
    · obtain rfl : k = 24 := by omega
      have hq1 := HP.out.2.2.2.1
      have hq2 := HP.out.2.2.2.2.1 (by omega)
      have e2 := hide (lgI_of HP.out HE.out)
      go_wp2_with fail
      go_ret
      exact ⟨ret_int e2.out.symm, rfl⟩
theorem pow_gt {n : Int} {k : Nat} (h0 : 1 ≤ n) : (0 < n / 2 ^ (k + 1)) ↔ k < Nat.log2 n.toNat := by
  have e : (n / 2 ^ (k + 1) : Int) = ((n.toNat / 2 ^ (k + 1) : Nat) : Int) := by
    rw [Int.natCast_ediv, Int.toNat_of_nonneg (by omega)]; simp
  rw [e]
  have h2 := Nat.le_log2 (n := n.toNat) (k := k + 1) (by omega)
  have h3 : 0 < 2 ^ (k + 1) := Nat.pos_of_ne_zero (by simp)
  constructor
  · intro h
    have : 2 ^ (k + 1) ≤ n.toNat := by
      rcases Nat.lt_or_ge n.toNat (2 ^ (k + 1)) with h4 | h4
      · rw [Nat.div_eq_of_lt h4] at h; simp at h
      · exact h4
    have := h2.2 this; omega
  · intro h
    have h4 : 2 ^ (k + 1) ≤ n.toNat := h2.1 (by omega)
    have := Nat.div_pos h4 h3
    omega
set_option maxRecDepth 100000 in
theorem l02Fine_is (n : Int) (w : World) (h0 : 1 ≤ n) (h1 : n ≤ 100000000) : Calls Tryz.prog 188 #[.int .i64 n] w fun e w' => e = .returned (.int .i64 (Pn.lgI n)) ∧ w = w' := by
  have hl := log2_le h0 h1
  have HS := hide (LgAt.start h0 h1)
  have HN := hide (fun (k : Nat) (P Q P' Q' : Int) => @LgAt.next n k P Q P' Q' h0 h1)
  have hm := Pn.man_ok (n := n) (by omega) (by omega)
  have HG := hide (fun k : Nat => pow_gt (n := n) (k := k) h0)
  obtain ⟨e, he⟩ : ∃ e, e = Nat.log2 n.toNat := ⟨_, rfl⟩
  have HM := hide (show Pn.lgMan n = n * 2 ^ (30 - e) from by rw [he]; rfl)
  rw [← he] at hl HG
  have HE := hide he
  have HB := hide hm
  clear he hm
  go_enter Tryz.func188, Tryz.ntmps188
  go_wp2_with fail
  go_loopw [3] (fun v wr => ∃ (k : Nat), v = .int .i64 k ∧ k ≤ e ∧ w = wr) (fun v _ => 30 - (intOf v).toNat)
  case atStart => exact ⟨0, rfl, by omega, rfl⟩
  case round =>
    obtain ⟨k, rfl, hk, rfl⟩ := hrel
    have hg := HG.out k
    by_cases hlt : k < e
    · have hp : 0 < n / 2 ^ (k + 1) := hg.2 hlt
      clear hg
      go_wp2_with fail
      go_roundw
      case rel => exact ⟨k + 1, by go_num, by omega, trivial⟩
      case measure => simp [intOf]; omega
    · obtain rfl : k = e := by omega
      have hp : ¬ 0 < n / 2 ^ (k + 1) := fun h => hlt (hg.1 h)
      clear hg hlt
      go_wp2_with fail
      clear hp h0 h1
      go_loopw [6, 4, 5] (fun v x r wr => ∃ (j : Nat) (P Q : Int), v = .int .i64 j ∧ x = .int .i64 P ∧ r = .int .i64 Q ∧ j ≤ 24 ∧ Hid (LgAt n j P Q) ∧ w = wr) (fun v _ _ _ => 24 - (intOf v).toNat)
      case atStart =>
        refine ⟨0, Pn.lgMan n, 0, rfl, ?_, rfl, by omega, HS, rfl⟩
        have := HB.out
        rw [HM.out] at this ⊢
        rw [IntWalk.wrap64_in _ (by omega)]
      case round =>
        obtain ⟨j, P, Q, rfl, rfl, rfl, hj, HP, rfl⟩ := hrel
        by_cases hlt : j < 24
        · obtain ⟨s1, s2, s3, s4⟩ := HP.out.sq
          have hq1 := HP.out.2.2.2.1
          have hq2 := HP.out.2.2.2.2.2 hlt
          go_upto_region 13 with fail
          obtain ⟨Y, hY⟩ : ∃ Y : Int, Y = P * P / 1073741824 := ⟨_, rfl⟩
          rw [← hY] at s3 s4 ⊢
          have HH := hide (fun h => HN.out j P Q _ _ HP.out (step_hi hY h))
          have HL := hide (fun h => HN.out j P Q _ _ HP.out (step_lo hY h))
          generalize P * P = pp at *
          clear hY
          by_cases hb2 : 2147483648 ≤ Y
          · go_wp2_with fail
            go_roundw
            case rel => exact ⟨j + 1, Y / 2, Q * 2 + 1, by go_num, by go_num, by go_num, by omega, hide (HH.out hb2), trivial⟩
            case measure => simp [intOf]; omega
          · go_wp2_with fail
            go_roundw
            case rel => exact ⟨j + 1, Y, Q * 2, by go_num, by go_num, by go_num, by omega, hide (HL.out hb2), trivial⟩
            case measure => simp [intOf]; omega
        · obtain rfl : j = 24 := by omega
          have hq1 := HP.out.2.2.2.1
          have hq2 := HP.out.2.2.2.2.1 (by omega)
          have e2 := hide (lgI_of HP.out HE.out)
          go_wp2_with fail
          go_ret
          exact ⟨ret_int e2.out.symm, rfl⟩
set_option maxRecDepth 100000 in
theorem impllogTenths_is (n : Int) (w : World) (h0 : 1 ≤ n) (h1 : n ≤ 100000000) : Calls Tryz.prog 158 #[.int .i64 n] w fun e w' => e = .returned (.int .i64 (Pn.lgT n)) ∧ w = w' := by
  have e1 := Pn.lgI_nonneg n
  have e2 := Pn.lgI_lt (n := n) (by omega) (by omega)
  have E := hide (show Pn.lgT n = 12000 * Pn.lgI n / 16777216 by unfold Pn.lgT; rfl)
  have HC := hide (fineLog_is n w h0 h1)
  generalize Pn.lgI n = L at *
  go_enter Tryz.func158, Tryz.ntmps158
  go_wp2_with (go_at_call 182; refine HC.out.mono ?_; rintro e2 w2 ⟨rfl, rfl⟩)
  go_ret
  exact ⟨ret_int E.out.symm, rfl⟩
set_option maxRecDepth 100000 in
theorem specl02Log_is (n : Int) (w : World) (h0 : 1 ≤ n) (h1 : n ≤ 100000000) : Calls Tryz.prog 187 #[.int .i64 n] w fun e w' => e = .returned (.int .i64 (Pn.lgT n)) ∧ w = w' := by
  have e1 := Pn.lgI_nonneg n
  have e2 := Pn.lgI_lt (n := n) (by omega) (by omega)
  have E := hide (show Pn.lgT n = 12000 * Pn.lgI n / 16777216 by unfold Pn.lgT; rfl)
  have HC := hide (l02Fine_is n w h0 h1)
  generalize Pn.lgI n = L at *
  go_enter Tryz.func187, Tryz.ntmps187
  go_wp2_with (go_at_call 188; refine HC.out.mono ?_; rintro e2 w2 ⟨rfl, rfl⟩)
  go_ret
  exact ⟨ret_int E.out.symm, rfl⟩
set_option maxRecDepth 100000 in
theorem implcents_is (f g : Int) (w : World) (h0 : 1 ≤ f) (h1 : f ≤ 100000000) (h2 : 1 ≤ g) (h3 : g ≤ 100000000) : Calls Tryz.prog 108 #[.int .i64 f, .int .i64 g] w fun e w' => e = .returned (.int .i64 (Pn.ctB f g)) ∧ w = w' := by
  have a1 := Pn.lgT_nonneg f
  have a2 := Pn.lgT_lt (n := f) (by omega) (by omega)
  have b1 := Pn.lgT_nonneg g
  have b2 := Pn.lgT_lt (n := g) (by omega) (by omega)
  have E := hide (show Pn.ctB f g = Pn.lgT g - Pn.lgT f by rfl)
  have HF := hide (impllogTenths_is f w h0 h1)
  have HG := hide (impllogTenths_is g w h2 h3)
  generalize Pn.lgT f = F at *
  generalize Pn.lgT g = G at *
  go_enter Tryz.func108, Tryz.ntmps108
  go_wp2_with (go_at_call 158; first | (refine HG.out.mono ?_; rintro e2 w2 ⟨rfl, rfl⟩) | (refine HF.out.mono ?_; rintro e2 w2 ⟨rfl, rfl⟩))
  go_ret
  exact ⟨ret_int E.out.symm, rfl⟩
set_option maxRecDepth 100000 in
theorem specl02Between_is (f g : Int) (w : World) (h0 : 1 ≤ f) (h1 : f ≤ 100000000) (h2 : 1 ≤ g) (h3 : g ≤ 100000000) : Calls Tryz.prog 176 #[.int .i64 f, .int .i64 g] w fun e w' => e = .returned (.int .i64 (Pn.ctB f g)) ∧ w = w' := by
  have a1 := Pn.lgT_nonneg f
  have a2 := Pn.lgT_lt (n := f) (by omega) (by omega)
  have b1 := Pn.lgT_nonneg g
  have b2 := Pn.lgT_lt (n := g) (by omega) (by omega)
  have E := hide (show Pn.ctB f g = Pn.lgT g - Pn.lgT f by rfl)
  have HF := hide (specl02Log_is f w h0 h1)
  have HG := hide (specl02Log_is g w h2 h3)
  generalize Pn.lgT f = F at *
  generalize Pn.lgT g = G at *
  go_enter Tryz.func176, Tryz.ntmps176
  go_wp2_with (go_at_call 187; first | (refine HG.out.mono ?_; rintro e2 w2 ⟨rfl, rfl⟩) | (refine HF.out.mono ?_; rintro e2 w2 ⟨rfl, rfl⟩))
  go_ret
  exact ⟨ret_int E.out.symm, rfl⟩
end Go.Proofs.YtnefgafmnpblpaaGreat
