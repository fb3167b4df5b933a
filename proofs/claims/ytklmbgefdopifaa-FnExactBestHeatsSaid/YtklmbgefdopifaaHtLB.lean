/- The law of BestHeats, walked out of the contracts of both sides. -/
import Derived.Test.YtklmbgefdopifaaHtRI
import Derived.Test.YtklmbgefdopifaaHtRX
import Derived.Test.YtklmbgefdopifaaHtE
namespace Go.Proofs.Ytklmbgefdopifaa
open Go.RowKit

set_option maxRecDepth 100000 in
set_option maxHeartbeats 8000000 in
theorem lawBestHeats (A AQ : Option Addr) (c cQ : Nat) (ps : List PourR) (cs : List CrucR) (bud : Int) (w : World) (hx : SlAt encPour 4 w A ps) (hy : SlAt encCruc 4 w AQ cs) (hl : ps.length ≤ 9223372036854775807) (hk : cs.length ≤ 9223372036854775807) (hxs : ∀ x ∈ ps, x.nm.size ≤ maxLen) (hys : ∀ x ∈ cs, x.nm.size ≤ maxLen) :
    Calls Try.prog 5 #[.slice A ps.length c, .slice AQ cs.length cQ, .int .i64 bud] w fun e w' => e = .returned (.bool true) ∧ Below w.heap.size w w' := by
  have hbW : Below w.heap.size w w := (by repeat (first | with_reducible exact Below.refl _ _ | with_reducible assumption | (with_reducible refine Below.drew ?_) | (with_reducible refine below_drewN ?_ _) | ((with_reducible refine Below.alloc ?_ ?_ _); rotate_left; (focus (first | omega | (simp; omega) | simp))) | ((with_reducible refine Below.setCell ?_ ?_ _); rotate_left; (focus (first | omega | (simp; omega) | simp))) | (refine Below.trans ?_ (Below.mono (by assumption) (by first | omega | (simp; omega) | simp)))))
  have HBW := hide hbW
  have HX := hide (hx.below hbW)
  have HY := hide (hy.below hbW)
  have HS := hide hxs
  have HT := hide hys
  clear hxs hys
  clear hbW hx hy
  go_enter Try.func5, Try.ntmps5
  go_wp2_with fail
  refine (lawsszPourS_any A c ps _ _ HX.out hl HS.out (by omega) (by omega)).mono ?_
  rintro e w1 ⟨r1, rfl, ra1, rb1, hr1, hb1⟩
  have z1 := hb1.size
  have B1 : Hid (Below w.heap.size w w1) := hide hb1
  clear hb1
  by_cases hq1 : 0 ≤ r1
  · have _hq := hq1
    have hn : ps.length ≤ 1048576 := by have := hr1 hq1; omega
    clear hr1
    go_wp2_with fail
    refine (lawsszCrucibleS_any AQ cQ cs _ _ (HY.out.below B1.out) hk HT.out (by omega) (by omega)).mono ?_
    rintro e w2 ⟨r2, rfl, ra2, rb2, hr2, hb2⟩
    have z2 : w.heap.size ≤ w2.heap.size := Nat.le_trans z1 hb2.size
    have y2 : w1.heap.size ≤ w2.heap.size := hb2.size
    have B2 : Hid (Below w.heap.size w w2) := hide (B1.out.trans (hb2.mono z1))
    clear B1 hb2
    by_cases hq2 : 0 ≤ r2
    · have _hq := hq2
      have hm : cs.length ≤ 1048576 := by have := hr2 hq2; omega
      clear hr2
      go_wp2_with fail
      refine (lawstoPourS_o A c ps _ (HX.out.below B2.out) hn).mono ?_
      rintro e w3 ⟨bY, rfl, hOY, hb3⟩
      have z3 : w.heap.size ≤ w3.heap.size := Nat.le_trans z2 hb3.size
      have y3 : w2.heap.size ≤ w3.heap.size := hb3.size
      have B3 : Hid (Below w.heap.size w w3) := hide (B2.out.trans (hb3.mono z2))
      clear B2 hb3
      have Y_3 := hide hOY
      have Y_lt := hide (fun k hk => ((hOY).lt k hk).2)
      clear hOY
      go_wp2_with fail
      refine (lawstoCrucibleS_o AQ cQ cs _ (HY.out.below B3.out) hm).mono ?_
      rintro e w4 ⟨bZ, rfl, hOZ, hb4⟩
      have z4 : w.heap.size ≤ w4.heap.size := Nat.le_trans z3 hb4.size
      have y4 : w3.heap.size ≤ w4.heap.size := hb4.size
      have B4 : Hid (Below w.heap.size w w4) := hide (B3.out.trans (hb4.mono z3))
      have Y_4 := hide (Y_3.out.below hb4)
      clear Y_3 B3 hb4
      have Z_4 := hide hOZ
      have Z_lt := hide (fun k hk => ((hOZ).lt k hk).2)
      clear hOZ
      go_wp2_with fail
      refine (specBestHeats _ _ _ _ ps cs bud _ ((Y_4.out).at_ (fun _ => rfl)) ((Z_4.out).at_ (fun _ => rfl)) hn hm HS.out HT.out).mono ?_
      rintro e w5 ⟨A0, c0, xs0, code0, rfl, hR0, hn0, hO0, hb5⟩
      have z5 : w.heap.size ≤ w5.heap.size := Nat.le_trans z4 hb5.size
      have y5 : w4.heap.size ≤ w5.heap.size := hb5.size
      have B5 : Hid (Below w.heap.size w w5) := hide (B4.out.trans (hb5.mono z4))
      have Y_5 := hide (Y_4.out.below hb5)
      have Z_5 := hide (Z_4.out.below hb5)
      clear Y_4 Z_4 B4 hb5
      clear Y_5 Y_lt
      clear Z_5 Z_lt
      have S0_5 := hide hO0
      have S0_lt := hide (fun k hk => ((hO0).lt k hk).2)
      clear hO0
      go_wp2_with fail
      refine (lawstoPourS_o A c ps _ (HX.out.below B5.out) hn).mono ?_
      rintro e w6 ⟨bX, rfl, hOX, hb6⟩
      have z6 : w.heap.size ≤ w6.heap.size := Nat.le_trans z5 hb6.size
      have y6 : w5.heap.size ≤ w6.heap.size := hb6.size
      have B6 : Hid (Below w.heap.size w w6) := hide (B5.out.trans (hb6.mono z5))
      have S0_6 := hide (S0_5.out.below hb6)
      clear S0_5 B5 hb6
      have X_6 := hide hOX
      have X_lt := hide (fun k hk => ((hOX).lt k hk).2)
      clear hOX
      go_wp2_with fail
      refine (lawstoCrucibleS_o AQ cQ cs _ (HY.out.below B6.out) hm).mono ?_
      rintro e w7 ⟨bV, rfl, hOV, hb7⟩
      have z7 : w.heap.size ≤ w7.heap.size := Nat.le_trans z6 hb7.size
      have y7 : w6.heap.size ≤ w7.heap.size := hb7.size
      have B7 : Hid (Below w.heap.size w w7) := hide (B6.out.trans (hb7.mono z6))
      have S0_7 := hide (S0_6.out.below hb7)
      have X_7 := hide (X_6.out.below hb7)
      clear S0_6 X_6 B6 hb7
      have V_7 := hide hOV
      have V_lt := hide (fun k hk => ((hOV).lt k hk).2)
      clear hOV
      go_wp2_with fail
      refine (implBestHeats _ _ _ _ ps cs bud _ ((X_7.out).at_ (fun _ => rfl)) ((V_7.out).at_ (fun _ => rfl)) hn hm HS.out HT.out).mono ?_
      rintro e w8 ⟨A1, c1, xs1, code1, rfl, hR1, hn1, hO1, hb8⟩
      have z8 : w.heap.size ≤ w8.heap.size := Nat.le_trans z7 hb8.size
      have y8 : w7.heap.size ≤ w8.heap.size := hb8.size
      have B8 : Hid (Below w.heap.size w w8) := hide (B7.out.trans (hb8.mono z7))
      have S0_8 := hide (S0_7.out.below hb8)
      have X_8 := hide (X_7.out.below hb8)
      have V_8 := hide (V_7.out.below hb8)
      clear S0_7 X_7 V_7 B7 hb8
      have G0_8 := hide hO1
      have G0_lt := hide (fun k hk => ((hO1).lt k hk).2)
      clear hO1
      obtain ⟨rfl, rfl⟩ := pair_detH hR0 hR1
      clear hR1 hn1
      have hR0 := hide hR0
      go_wp2_with fail
      refine (lawseqHeatS_same _ _ _ _ xs0 _ ((G0_8.out).at_ (fun _ => rfl)) ((S0_8.out).at_ (fun _ => rfl)) hn0).mono ?_
      rintro e w9 ⟨rfl, hb9⟩
      have z9 : w.heap.size ≤ w9.heap.size := Nat.le_trans z8 hb9.size
      have y9 : w8.heap.size ≤ w9.heap.size := hb9.size
      have B9 : Hid (Below w.heap.size w w9) := hide (B8.out.trans (hb9.mono z8))
      have S0_9 := hide (S0_8.out.below hb9)
      have X_9 := hide (X_8.out.below hb9)
      have V_9 := hide (V_8.out.below hb9)
      have G0_9 := hide (G0_8.out.below hb9)
      clear S0_8 X_8 V_8 G0_8 B8 hb9
      go_wp2_with fail
      refine (lawstoPourS_o A c ps _ (HX.out.below B9.out) hn).mono ?_
      rintro e w10 ⟨bXe, rfl, hOXe, hb10⟩
      have z10 : w.heap.size ≤ w10.heap.size := Nat.le_trans z9 hb10.size
      have y10 : w9.heap.size ≤ w10.heap.size := hb10.size
      have B10 : Hid (Below w.heap.size w w10) := hide (B9.out.trans (hb10.mono z9))
      have S0_10 := hide (S0_9.out.below hb10)
      have X_10 := hide (X_9.out.below hb10)
      have V_10 := hide (V_9.out.below hb10)
      have G0_10 := hide (G0_9.out.below hb10)
      clear S0_9 X_9 V_9 G0_9 B9 hb10
      have Xe_10 := hide hOXe
      have Xe_lt := hide (fun k hk => ((hOXe).lt k hk).2)
      clear hOXe
      go_wp2_with fail
      refine (lawseqPourS_same _ _ _ _ ps _ ((X_10.out).at_ (fun _ => rfl)) ((Xe_10.out).at_ (fun _ => rfl)) hn).mono ?_
      rintro e w11 ⟨rfl, hb11⟩
      have z11 : w.heap.size ≤ w11.heap.size := Nat.le_trans z10 hb11.size
      have y11 : w10.heap.size ≤ w11.heap.size := hb11.size
      have B11 : Hid (Below w.heap.size w w11) := hide (B10.out.trans (hb11.mono z10))
      have S0_11 := hide (S0_10.out.below hb11)
      have X_11 := hide (X_10.out.below hb11)
      have V_11 := hide (V_10.out.below hb11)
      have G0_11 := hide (G0_10.out.below hb11)
      have Xe_11 := hide (Xe_10.out.below hb11)
      clear S0_10 X_10 V_10 G0_10 Xe_10 B10 hb11
      clear Xe_11 Xe_lt
      go_wp2_with fail
      refine (lawstoCrucibleS_o AQ cQ cs _ (HY.out.below B11.out) hm).mono ?_
      rintro e w12 ⟨bVe, rfl, hOVe, hb12⟩
      have z12 : w.heap.size ≤ w12.heap.size := Nat.le_trans z11 hb12.size
      have y12 : w11.heap.size ≤ w12.heap.size := hb12.size
      have B12 : Hid (Below w.heap.size w w12) := hide (B11.out.trans (hb12.mono z11))
      have S0_12 := hide (S0_11.out.below hb12)
      have X_12 := hide (X_11.out.below hb12)
      have V_12 := hide (V_11.out.below hb12)
      have G0_12 := hide (G0_11.out.below hb12)
      clear S0_11 X_11 V_11 G0_11 B11 hb12
      have Ve_12 := hide hOVe
      have Ve_lt := hide (fun k hk => ((hOVe).lt k hk).2)
      clear hOVe
      go_wp2_with fail
      refine (lawseqCrucibleS_same _ _ _ _ cs _ ((V_12.out).at_ (fun _ => rfl)) ((Ve_12.out).at_ (fun _ => rfl)) hm).mono ?_
      rintro e w13 ⟨rfl, hb13⟩
      have z13 : w.heap.size ≤ w13.heap.size := Nat.le_trans z12 hb13.size
      have y13 : w12.heap.size ≤ w13.heap.size := hb13.size
      have B13 : Hid (Below w.heap.size w w13) := hide (B12.out.trans (hb13.mono z12))
      have S0_13 := hide (S0_12.out.below hb13)
      have X_13 := hide (X_12.out.below hb13)
      have V_13 := hide (V_12.out.below hb13)
      have G0_13 := hide (G0_12.out.below hb13)
      have Ve_13 := hide (Ve_12.out.below hb13)
      clear S0_12 X_12 V_12 G0_12 Ve_12 B12 hb13
      clear Ve_13 Ve_lt
      go_wp2_with fail
      refine (lawsmarkPourS _ _ _ ps _ _ X_13.out hn (by omega) (by omega)).mono ?_
      rintro e w14 ⟨rfl, hO, hg⟩
      have hge := fun k hk => (X_13.out.lt k hk).1
      have y14 := hg.size
      have z14 : w.heap.size ≤ w14.heap.size := Nat.le_trans z13 y14
      have B14 : Hid (Below w.heap.size w w14) := hide (Below.grown B13.out hg z13 fun k hk => Nat.le_trans z5 (hge k hk))
      have S0_14 := hide (kept_older S0_13.out S0_lt.out hg hge (by omega))
      have X_14 := hide hO
      have V_14 := hide (kept_newer V_13.out hg X_lt.out (by omega))
      have G0_14 := hide (kept_newer G0_13.out hg X_lt.out (by omega))
      clear S0_13 X_13 V_13 G0_13 B13 hO hg hge
      clear X_14 X_lt
      go_wp2_with fail
      refine (lawsmarkCrucibleS _ _ _ cs _ _ V_14.out hm (by omega) (by omega)).mono ?_
      rintro e w15 ⟨rfl, hO, hg⟩
      have hge := fun k hk => (V_14.out.lt k hk).1
      have y15 := hg.size
      have z15 : w.heap.size ≤ w15.heap.size := Nat.le_trans z14 y15
      have B15 : Hid (Below w.heap.size w w15) := hide (Below.grown B14.out hg z14 fun k hk => Nat.le_trans z6 (hge k hk))
      have S0_15 := hide (kept_older S0_14.out S0_lt.out hg hge (by omega))
      have V_15 := hide hO
      have G0_15 := hide (kept_newer G0_14.out hg V_lt.out (by omega))
      clear S0_14 V_14 G0_14 B14 hO hg hge
      clear V_15 V_lt
      go_wp2_with fail
      refine (lawseqHeatS_same _ _ _ _ xs0 _ ((G0_15.out).at_ (fun _ => rfl)) ((S0_15.out).at_ (fun _ => rfl)) hn0).mono ?_
      rintro e w16 ⟨rfl, hb16⟩
      have z16 : w.heap.size ≤ w16.heap.size := Nat.le_trans z15 hb16.size
      have y16 : w15.heap.size ≤ w16.heap.size := hb16.size
      have B16 : Hid (Below w.heap.size w w16) := hide (B15.out.trans (hb16.mono z15))
      have S0_16 := hide (S0_15.out.below hb16)
      have G0_16 := hide (G0_15.out.below hb16)
      clear S0_15 G0_15 B15 hb16
      go_wp2_with fail
      refine (lawsmarkHeatS _ _ _ xs0 _ _ G0_16.out hn0 (by omega) (by omega)).mono ?_
      rintro e w17 ⟨rfl, hO, hg⟩
      have hge := fun k hk => (G0_16.out.lt k hk).1
      have y17 := hg.size
      have z17 : w.heap.size ≤ w17.heap.size := Nat.le_trans z16 y17
      have B17 : Hid (Below w.heap.size w w17) := hide (Below.grown B16.out hg z16 fun k hk => Nat.le_trans z7 (hge k hk))
      have S0_17 := hide (kept_older S0_16.out S0_lt.out hg hge (by omega))
      have G0_17 := hide hO
      clear S0_16 G0_16 B16 hO hg hge
      go_wp2_with fail
      refine (held_own_Heat G0_17.out hn0 (by omega) (by omega)).mono ?_
      rintro e w18 ⟨rfl, hb18⟩
      have z18 : w.heap.size ≤ w18.heap.size := Nat.le_trans z17 hb18.size
      have y18 : w17.heap.size ≤ w18.heap.size := hb18.size
      have B18 : Hid (Below w.heap.size w w18) := hide (B17.out.trans (hb18.mono z17))
      have S0_18 := hide (S0_17.out.below hb18)
      have G0_18 := hide (G0_17.out.below hb18)
      clear S0_17 G0_17 B17 hb18
      go_wp2_with fail
      refine (lawstoPourS_o A c ps _ (HX.out.below B18.out) hn).mono ?_
      rintro e w19 ⟨bYh, rfl, hOYh, hb19⟩
      have z19 : w.heap.size ≤ w19.heap.size := Nat.le_trans z18 hb19.size
      have y19 : w18.heap.size ≤ w19.heap.size := hb19.size
      have B19 : Hid (Below w.heap.size w w19) := hide (B18.out.trans (hb19.mono z18))
      have S0_19 := hide (S0_18.out.below hb19)
      have G0_19 := hide (G0_18.out.below hb19)
      clear S0_18 G0_18 B18 hb19
      have Yh_19 := hide hOYh
      have Yh_lt := hide (fun k hk => ((hOYh).lt k hk).2)
      clear hOYh
      go_wp2_with fail
      refine (lawstoCrucibleS_o AQ cQ cs _ (HY.out.below B19.out) hm).mono ?_
      rintro e w20 ⟨bZh, rfl, hOZh, hb20⟩
      have z20 : w.heap.size ≤ w20.heap.size := Nat.le_trans z19 hb20.size
      have y20 : w19.heap.size ≤ w20.heap.size := hb20.size
      have B20 : Hid (Below w.heap.size w w20) := hide (B19.out.trans (hb20.mono z19))
      have S0_20 := hide (S0_19.out.below hb20)
      have G0_20 := hide (G0_19.out.below hb20)
      have Yh_20 := hide (Yh_19.out.below hb20)
      clear S0_19 G0_19 Yh_19 B19 hb20
      have Zh_20 := hide hOZh
      have Zh_lt := hide (fun k hk => ((hOZh).lt k hk).2)
      clear hOZh
      go_wp2_with fail
      refine (implBestHeats _ _ _ _ ps cs bud _ ((Yh_20.out).at_ (fun _ => rfl)) ((Zh_20.out).at_ (fun _ => rfl)) hn hm HS.out HT.out).mono ?_
      rintro e w21 ⟨A2, c2, xs2, code2, rfl, hR2, hn2, hO2, hb21⟩
      have z21 : w.heap.size ≤ w21.heap.size := Nat.le_trans z20 hb21.size
      have y21 : w20.heap.size ≤ w21.heap.size := hb21.size
      have B21 : Hid (Below w.heap.size w w21) := hide (B20.out.trans (hb21.mono z20))
      have S0_21 := hide (S0_20.out.below hb21)
      have G0_21 := hide (G0_20.out.below hb21)
      have Yh_21 := hide (Yh_20.out.below hb21)
      have Zh_21 := hide (Zh_20.out.below hb21)
      clear S0_20 G0_20 Yh_20 Zh_20 B20 hb21
      clear Yh_21 Yh_lt
      clear Zh_21 Zh_lt
      have H0_21 := hide hO2
      have H0_lt := hide (fun k hk => ((hO2).lt k hk).2)
      clear hO2
      obtain ⟨rfl, rfl⟩ := pair_detH hR0.out hR2
      go_wp2_with fail
      refine (lawseqHeatS_same _ _ _ _ xs0 _ ((H0_21.out).at_ (fun _ => rfl)) ((S0_21.out).at_ (fun _ => rfl)) hn0).mono ?_
      rintro e w22 ⟨rfl, hb22⟩
      have z22 : w.heap.size ≤ w22.heap.size := Nat.le_trans z21 hb22.size
      have y22 : w21.heap.size ≤ w22.heap.size := hb22.size
      have B22 : Hid (Below w.heap.size w w22) := hide (B21.out.trans (hb22.mono z21))
      have S0_22 := hide (S0_21.out.below hb22)
      have G0_22 := hide (G0_21.out.below hb22)
      have H0_22 := hide (H0_21.out.below hb22)
      clear S0_21 G0_21 H0_21 B21 hb22
      go_wp2_with fail
      refine (held_own_Heat G0_22.out hn0 (by omega) (by omega)).mono ?_
      rintro e w23 ⟨rfl, hb23⟩
      have z23 : w.heap.size ≤ w23.heap.size := Nat.le_trans z22 hb23.size
      have y23 : w22.heap.size ≤ w23.heap.size := hb23.size
      have B23 : Hid (Below w.heap.size w w23) := hide (B22.out.trans (hb23.mono z22))
      have S0_23 := hide (S0_22.out.below hb23)
      have G0_23 := hide (G0_22.out.below hb23)
      have H0_23 := hide (H0_22.out.below hb23)
      clear S0_22 G0_22 H0_22 B22 hb23
      go_wp2_with fail
      go_ret
      exact ⟨rfl, Below.trans HBW.out (B23.out.mono (by simp))⟩
    · go_wp2_with fail
      go_ret
      exact ⟨rfl, Below.trans HBW.out (B2.out.mono (by simp))⟩
  · go_wp2_with fail
    go_ret
    exact ⟨rfl, Below.trans HBW.out (B1.out.mono (by simp))⟩
end Go.Proofs.Ytklmbgefdopifaa
