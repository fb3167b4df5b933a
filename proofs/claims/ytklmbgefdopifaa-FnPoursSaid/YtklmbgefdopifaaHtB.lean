/- The walk of laws.FnPours out of contracts. -/
import Derived.Test.YtklmbgefdopifaaHtC
import Derived.Test.YtklmbgefdopifaaHtK
import Derived.Test.YtklmbgefdopifaaHtM2
import Derived.Test.YtklmbgefdopifaaHtRI
namespace Go.Proofs.Ytklmbgefdopifaa
open Go.RowKit

theorem lawsr8LongH (A A' : Option Addr) (n c n' c' : Nat) (w : World) : Calls Try.prog 33 #[.slice A n c, .slice A' n' c'] w fun e w' => e = .returned (.bool (decide ((1048576 : Int) < n) || decide ((1048576 : Int) < n'))) ∧ w = w' := by
  by_cases h : (1048576 : Int) < n <;> by_cases h' : (1048576 : Int) < n'
  all_goals
    go_enter Try.func33, Try.ntmps33
    go_wp2
    go_ret
    exact ⟨by simp [*], rfl⟩
theorem byAt_mono {w : World} {B B' : Nat} {A : Option Addr} {n : Nat} (h : ByAt w B A n) (hB : B ≤ B') : ByAt w B' A n := fun k hk => by
  obtain ⟨b, off, x, h1, h2, h3⟩ := h k hk
  exact ⟨b, off, x, h1, Nat.lt_of_lt_of_le h2 hB, h3⟩
set_option maxRecDepth 100000 in
set_option maxHeartbeats 4000000 in
theorem lawFnPours (A A' : Option Addr) (n c n' c' : Nat) (w : World) (h : ByAt w w.heap.size A n) (h' : ByAt w w.heap.size A' n') (hn : n ≤ 9223372036854775807) (hn' : n' ≤ 9223372036854775807) :
    Calls Try.prog 7 #[.slice A n c, .slice A' n' c'] w fun e w' => e = .returned (.bool true) ∧ Below w.heap.size w w' := by
  have HX := hide h
  have HY := hide h'
  clear h h'
  go_enter Try.func7, Try.ntmps7
  go_wp2_with fail
  refine (lawsr8LongH A A' n c n' c' w).mono ?_
  rintro e w0 ⟨rfl, rfl⟩
  cases hq : (decide ((1048576 : Int) < n) || decide ((1048576 : Int) < n'))
  · clear hq
    go_wp2_with fail
    refine (specR8Pours A n c w HX.out hn).mono ?_
    rintro e w1 ⟨Ap, cp, ps, rfl, hl, hrw, hnm, hA, hb1⟩
    have P1 := hide hA
    have HY1 := hide (byAt_mono (HY.out.below hb1) hb1.size)
    have B1 := hide hb1
    have HRW := hide hrw
    have HNM := hide (show ∀ x ∈ ps, x.nm.size ≤ maxLen from fun x hx => Nat.le_trans (hnm x hx) (by decide))
    have z1 : w.heap.size ≤ w1.heap.size := hb1.size
    clear hA hb1 hrw hnm HX HY
    go_wp2_with fail
    refine (specR8Crucibles A' n' c' w1 HY1.out hn').mono ?_
    rintro e w2 ⟨Ac, cc, cs, rfl, hm, hok, hnm, hC, hb2⟩
    have P2 := hide (P1.out.below hb2)
    have C2 := hide hC
    have B2 := hide (B1.out.trans (hb2.mono z1))
    have z2 : w.heap.size ≤ w2.heap.size := B2.out.size
    have HOK := hide hok
    have HMM := hide (show ∀ x ∈ cs, x.nm.size ≤ maxLen from fun x hx => Nat.le_trans (hnm x hx) (by decide))
    clear hC hb2 hok hnm P1 B1 HY1
    go_wp2_with fail
    refine (implFirstHeats Ap Ac cp cc ps cs 2000 _ P2.out C2.out (by omega) (by omega) HNM.out HMM.out).mono ?_
    rintro e w3 ⟨Af, cf, xs, a, rfl, h1, hxl, ho3, hb3⟩
    have P3 := hide (P2.out.below hb3)
    have C3 := hide (C2.out.below hb3)
    have B3 := hide (B2.out.trans (hb3.mono z2))
    have z3 : w.heap.size ≤ w3.heap.size := B3.out.size
    have F3 := hide ho3
    have H1 := hide h1
    clear ho3 h1
    clear hb3 B2 P2 C2
    go_wp2_with fail
    refine (implBestHeats Ap Ac cp cc ps cs 2000 _ P3.out C3.out (by omega) (by omega) HNM.out HMM.out).mono ?_
    rintro e w4 ⟨Ag, cg, ys, b, rfl, h2, hyl, ho4, hb4⟩
    have P4 := hide (P3.out.below hb4)
    have C4 := hide (C3.out.below hb4)
    have F4 := hide (F3.out.below hb4)
    have B4 := hide (B3.out.trans (hb4.mono z3))
    have z4 : w.heap.size ≤ w4.heap.size := B4.out.size
    have G4 := hide ho4
    clear hb4 B3 P3 C3 F3
    obtain ⟨k, hk, hcase⟩ := pours_say HRW.out HOK.out hl hm H1.out h2
    have HCA := hide hcase
    have hcnt := implCountSchedules Ap Ac cp cc ps cs 2000 w4 P4.out C4.out (by omega) (by omega) HNM.out HMM.out
    rw [hk] at hcnt
    have HCN := hide hcnt
    clear hk hcase hcnt ho4 h2
    go_wp2_with fail
    refine (HCN.out).mono ?_
    rintro e w5 ⟨rfl, hb5⟩
    have P5 := hide (P4.out.below hb5)
    have C5 := hide (C4.out.below hb5)
    have F5 := hide (F4.out.below hb5)
    have G5 := hide (G4.out.below hb5)
    have B5 := hide (B4.out.trans (hb5.mono z4))
    have z5 : w.heap.size ≤ w5.heap.size := B5.out.size
    clear HCN
    clear hb5 B4 P4 C4 F4 G4
    go_wp2_with fail
    refine (implGreedyHeats Ap Ac cp cc ps cs _ P5.out C5.out HRW.out HOK.out HNM.out HMM.out).mono ?_
    rintro e w6 ⟨Ar, cr, rs, d, rfl, hd, hrl, ho6, hb6⟩
    have P6 := hide (P5.out.below hb6)
    have C6 := hide (C5.out.below hb6)
    have F6 := hide (F5.out.below hb6)
    have G6 := hide (G5.out.below hb6)
    have B6 := hide (B5.out.trans (hb6.mono z5))
    have z6 : w.heap.size ≤ w6.heap.size := B6.out.size
    have R6 := hide ho6
    have HD := hide hd
    clear ho6 hd
    clear hb6 B5 P5 C5 F5 G5
    rcases HCA.out with ⟨e1, e2, e3, hno⟩ | ⟨e1, e2, hk0, hpx, hpy, hall⟩
    · have hd0 : (d == 0) = false := by
        cases q : (d == 0)
        · rfl
        · exact absurd (HD.out (by simpa using q)) (hno rs)
      subst e1; subst e2; subst e3
      clear hno
      go_wp2_with fail
      go_ret
      exact ⟨rfl, B6.out⟩
    · have hkp : decide ((0 : Int) < k) = true := by simp [hk0]
      have HPX := hide hpx
      have HPY := hide hpy
      have HAL := hide hall
      subst e1; subst e2
      clear hpx hpy hall hk0
      have hle1 : decide (Ht.lastE xs < Ht.lastE ys) = false := by have := HAL.out xs HPX.out; simp; omega
      go_wp2_with fail
      refine (implFirstWrong_ok w3.heap.size Ap Ac Ag cp cc cg ps cs ys _ P6.out C6.out G6.out HRW.out HOK.out HNM.out HMM.out HPY.out).mono ?_
      rintro e w7 ⟨rfl, hb7⟩
      have P7 := hide (P6.out.below hb7)
      have C7 := hide (C6.out.below hb7)
      have F7 := hide (F6.out.below hb7)
      have G7 := hide (G6.out.below hb7)
      have R7 := hide (R6.out.below hb7)
      have B7 := hide (B6.out.trans (hb7.mono z6))
      have z7 : w.heap.size ≤ w7.heap.size := B7.out.size
      clear hb7 B6 P6 C6 F6 G6 R6
      go_wp2_with fail
      refine (implIsSchedule_ok w2.heap.size Ap Ac Af cp cc cf ps cs xs _ P7.out C7.out F7.out HRW.out HOK.out HNM.out HMM.out HPX.out).mono ?_
      rintro e w8 ⟨rfl, hb8⟩
      have P8 := hide (P7.out.below hb8)
      have C8 := hide (C7.out.below hb8)
      have F8 := hide (F7.out.below hb8)
      have G8 := hide (G7.out.below hb8)
      have R8 := hide (R7.out.below hb8)
      have B8 := hide (B7.out.trans (hb8.mono z7))
      have z8 : w.heap.size ≤ w8.heap.size := B8.out.size
      clear hb8 B7 P7 C7 F7 G7 R7
      go_wp2_with fail
      refine (implIsSchedule_ok w3.heap.size Ap Ac Ag cp cc cg ps cs ys _ P8.out C8.out G8.out HRW.out HOK.out HNM.out HMM.out HPY.out).mono ?_
      rintro e w9 ⟨rfl, hb9⟩
      have P9 := hide (P8.out.below hb9)
      have C9 := hide (C8.out.below hb9)
      have F9 := hide (F8.out.below hb9)
      have G9 := hide (G8.out.below hb9)
      have R9 := hide (R8.out.below hb9)
      have B9 := hide (B8.out.trans (hb9.mono z8))
      have z9 : w.heap.size ≤ w9.heap.size := B9.out.size
      clear hb9 B8 P8 C8 F8 G8 R8
      go_wp2_with fail
      refine (implLastEnd Ag cg ys _ (Own.at_ (enc := encHeat) (sz := 4) (fun _ => rfl) G9.out) (by omega)).mono ?_
      rintro e w10 ⟨rfl, hb10⟩
      have P10 := hide (P9.out.below hb10)
      have C10 := hide (C9.out.below hb10)
      have F10 := hide (F9.out.below hb10)
      have G10 := hide (G9.out.below hb10)
      have R10 := hide (R9.out.below hb10)
      have B10 := hide (B9.out.trans (hb10.mono z9))
      have z10 : w.heap.size ≤ w10.heap.size := B10.out.size
      clear hb10 B9 P9 C9 F9 G9 R9
      go_wp2_with fail
      refine (implLastEnd Af cf xs _ (Own.at_ (enc := encHeat) (sz := 4) (fun _ => rfl) F10.out) (by omega)).mono ?_
      rintro e w11 ⟨rfl, hb11⟩
      have P11 := hide (P10.out.below hb11)
      have C11 := hide (C10.out.below hb11)
      have F11 := hide (F10.out.below hb11)
      have G11 := hide (G10.out.below hb11)
      have R11 := hide (R10.out.below hb11)
      have B11 := hide (B10.out.trans (hb11.mono z10))
      have z11 : w.heap.size ≤ w11.heap.size := B11.out.size
      clear hb11 B10 P10 C10 F10 G10 R10
      by_cases hd0 : d = 0
      · have hpr := HD.out hd0
        have HPR := hide hpr
        have hle2 : decide (Ht.lastE ys ≤ Ht.lastE rs) = true := by have := HAL.out rs hpr; simp; omega
        subst hd0
        clear hpr
        go_wp2_with fail
        refine (implIsSchedule_ok w5.heap.size Ap Ac Ar cp cc cr ps cs rs _ P11.out C11.out R11.out HRW.out HOK.out HNM.out HMM.out HPR.out).mono ?_
        rintro e w12 ⟨rfl, hb12⟩
        have P12 := hide (P11.out.below hb12)
        have C12 := hide (C11.out.below hb12)
        have F12 := hide (F11.out.below hb12)
        have G12 := hide (G11.out.below hb12)
        have R12 := hide (R11.out.below hb12)
        have B12 := hide (B11.out.trans (hb12.mono z11))
        have z12 : w.heap.size ≤ w12.heap.size := B12.out.size
        clear hb12 B11 P11 C11 F11 G11 R11
        go_wp2_with fail
        refine (implLastEnd Ag cg ys _ (Own.at_ (enc := encHeat) (sz := 4) (fun _ => rfl) G12.out) (by omega)).mono ?_
        rintro e w13 ⟨rfl, hb13⟩
        have P13 := hide (P12.out.below hb13)
        have C13 := hide (C12.out.below hb13)
        have F13 := hide (F12.out.below hb13)
        have G13 := hide (G12.out.below hb13)
        have R13 := hide (R12.out.below hb13)
        have B13 := hide (B12.out.trans (hb13.mono z12))
        have z13 : w.heap.size ≤ w13.heap.size := B13.out.size
        clear hb13 B12 P12 C12 F12 G12 R12
        go_wp2_with fail
        refine (implLastEnd Ar cr rs _ (Own.at_ (enc := encHeat) (sz := 4) (fun _ => rfl) R13.out) (by omega)).mono ?_
        rintro e w14 ⟨rfl, hb14⟩
        have P14 := hide (P13.out.below hb14)
        have C14 := hide (C13.out.below hb14)
        have F14 := hide (F13.out.below hb14)
        have G14 := hide (G13.out.below hb14)
        have R14 := hide (R13.out.below hb14)
        have B14 := hide (B13.out.trans (hb14.mono z13))
        have z14 : w.heap.size ≤ w14.heap.size := B14.out.size
        clear hb14 B13 P13 C13 F13 G13 R13
        go_wp2_with fail
        go_ret
        exact ⟨ret_bool (by simp), B14.out⟩
      · have hd1 : (d == 0) = false := by simpa using hd0
        go_wp2_with fail
        go_ret
        exact ⟨rfl, B11.out⟩
  · clear hq
    go_wp2_with fail
    go_ret
    exact ⟨rfl, Below.refl _ _⟩
end Go.Proofs.Ytklmbgefdopifaa
