/- The law of FirstLayout, walked out of the contracts of both sides. -/
import Derived.Test.YtjklhacffdhgaaaLyZ
import Derived.Test.YtjklhacffdhgaaaRows2
import Derived.Test.YtjklhacffdhgaaaMarks
namespace Go.Proofs.Ytjklhacffdhgaaa
open Go.RowKit

set_option maxRecDepth 100000 in
set_option maxHeartbeats 2000000 in
theorem lawFirstLayout (a b cc : Int) (A : Option Addr) (c : Nat) (xs : List Int) (g sp z bud : Int) (w : World) (hx : SlAt encI 1 w A xs) (hn : xs.length ≤ 1048576) :
    Calls Try.prog 11 #[.agg #[.int .i64 a, .int .i64 b, .int .i64 cc], .slice A xs.length c, .int .i64 g, .int .i64 sp, .int .i64 z, .int .i64 bud] w fun e w' => e = .returned (.bool true) ∧ Below w.heap.size w w' := by
  have hbW : Below w.heap.size w (w.alloc (.cells #[.int .i64 a, .int .i64 b, .int .i64 cc] 82)) := (by repeat (first | with_reducible exact Below.refl _ _ | with_reducible assumption | (with_reducible refine Below.drew ?_) | (with_reducible refine below_drewN ?_ _) | ((with_reducible refine Below.alloc ?_ ?_ _); rotate_left; (focus (first | omega | (simp; omega) | simp))) | ((with_reducible refine Below.setCell ?_ ?_ _); rotate_left; (focus (first | omega | (simp; omega) | simp))) | (refine Below.trans ?_ (Below.mono (by assumption) (by first | omega | (simp; omega) | simp)))))
  have HBW := hide hbW
  have HX := hide (hx.below hbW)
  have hq : ¬ (1048576 : Int) < (xs.length : Int) := by omega
  clear hbW hx
  go_enter Try.func11, Try.ntmps11
  go_wp2_with fail
  refine (lawstoChamber a b cc _).mono ?_
  rintro e w1 ⟨rfl, hb1⟩
  have z1 := hb1.size
  have B1 : Hid (Below (w.alloc (.cells #[.int .i64 a, .int .i64 b, .int .i64 cc] 82)).heap.size (w.alloc (.cells #[.int .i64 a, .int .i64 b, .int .i64 cc] 82)) w1) := hide hb1
  clear hb1
  go_wp2_with fail
  refine (lawstoInt64S A c xs _ (HX.out.below B1.out) hn).mono ?_
  rintro e w2 ⟨bY, rfl, hOY, hb2⟩
  have z2 : (w.alloc (.cells #[.int .i64 a, .int .i64 b, .int .i64 cc] 82)).heap.size ≤ w2.heap.size := Nat.le_trans z1 hb2.size
  have y2 : w1.heap.size ≤ w2.heap.size := hb2.size
  have B2 : Hid (Below (w.alloc (.cells #[.int .i64 a, .int .i64 b, .int .i64 cc] 82)).heap.size (w.alloc (.cells #[.int .i64 a, .int .i64 b, .int .i64 cc] 82)) w2) := hide (B1.out.trans (hb2.mono z1))
  clear B1 hb2
  have Y_2 := hide hOY
  have Y_lt := hide (fun k hk => ((hOY).lt k hk).2)
  clear hOY
  go_wp2_with fail
  refine (specFirstLayout a b cc _ _ xs g sp z bud _ ((Y_2.out).at_ (fun _ => rfl)) hn).mono ?_
  rintro e w3 ⟨A0, c0, xs0, code0, rfl, hR0, hn0, hO0, hb3⟩
  have z3 : (w.alloc (.cells #[.int .i64 a, .int .i64 b, .int .i64 cc] 82)).heap.size ≤ w3.heap.size := Nat.le_trans z2 hb3.size
  have y3 : w2.heap.size ≤ w3.heap.size := hb3.size
  have B3 : Hid (Below (w.alloc (.cells #[.int .i64 a, .int .i64 b, .int .i64 cc] 82)).heap.size (w.alloc (.cells #[.int .i64 a, .int .i64 b, .int .i64 cc] 82)) w3) := hide (B2.out.trans (hb3.mono z2))
  have Y_3 := hide (Y_2.out.below hb3)
  clear Y_2 B2 hb3
  have S0_3 := hide hO0
  have S0_lt := hide (fun k hk => ((hO0).lt k hk).2)
  clear hO0
  go_wp2_with fail
  refine (lawstoInt64S A c xs _ (HX.out.below B3.out) hn).mono ?_
  rintro e w4 ⟨bX, rfl, hOX, hb4⟩
  have z4 : (w.alloc (.cells #[.int .i64 a, .int .i64 b, .int .i64 cc] 82)).heap.size ≤ w4.heap.size := Nat.le_trans z3 hb4.size
  have y4 : w3.heap.size ≤ w4.heap.size := hb4.size
  have B4 : Hid (Below (w.alloc (.cells #[.int .i64 a, .int .i64 b, .int .i64 cc] 82)).heap.size (w.alloc (.cells #[.int .i64 a, .int .i64 b, .int .i64 cc] 82)) w4) := hide (B3.out.trans (hb4.mono z3))
  have Y_4 := hide (Y_3.out.below hb4)
  have S0_4 := hide (S0_3.out.below hb4)
  clear Y_3 S0_3 B3 hb4
  have X_4 := hide hOX
  have X_lt := hide (fun k hk => ((hOX).lt k hk).2)
  clear hOX
  have p0_0 := B4.out.cell (p := ⟨w.heap.size, 0, none⟩) (by simp)
  have p0_1 := B4.out.cell (p := ⟨w.heap.size, 1, none⟩) (by simp)
  have p0_2 := B4.out.cell (p := ⟨w.heap.size, 2, none⟩) (by simp)
  simp at p0_0 p0_1 p0_2
  go_wp2_with fail
  refine (lawstoChamber a b cc _).mono ?_
  rintro e w5 ⟨rfl, hb5⟩
  clear p0_0 p0_1 p0_2
  have z5 : (w.alloc (.cells #[.int .i64 a, .int .i64 b, .int .i64 cc] 82)).heap.size ≤ w5.heap.size := Nat.le_trans z4 hb5.size
  have y5 : w4.heap.size ≤ w5.heap.size := hb5.size
  have B5 : Hid (Below (w.alloc (.cells #[.int .i64 a, .int .i64 b, .int .i64 cc] 82)).heap.size (w.alloc (.cells #[.int .i64 a, .int .i64 b, .int .i64 cc] 82)) w5) := hide (B4.out.trans (hb5.mono z4))
  have Y_5 := hide (Y_4.out.below hb5)
  have S0_5 := hide (S0_4.out.below hb5)
  have X_5 := hide (X_4.out.below hb5)
  clear Y_4 S0_4 X_4 B4 hb5
  go_wp2_with fail
  refine (implFirstLayout a b cc _ _ xs g sp z bud _ ((X_5.out).at_ (fun _ => rfl)) hn).mono ?_
  rintro e w6 ⟨A1, c1, xs1, code1, rfl, hR1, hn1, hO1, hb6⟩
  have z6 : (w.alloc (.cells #[.int .i64 a, .int .i64 b, .int .i64 cc] 82)).heap.size ≤ w6.heap.size := Nat.le_trans z5 hb6.size
  have y6 : w5.heap.size ≤ w6.heap.size := hb6.size
  have B6 : Hid (Below (w.alloc (.cells #[.int .i64 a, .int .i64 b, .int .i64 cc] 82)).heap.size (w.alloc (.cells #[.int .i64 a, .int .i64 b, .int .i64 cc] 82)) w6) := hide (B5.out.trans (hb6.mono z5))
  have Y_6 := hide (Y_5.out.below hb6)
  have S0_6 := hide (S0_5.out.below hb6)
  have X_6 := hide (X_5.out.below hb6)
  clear Y_5 S0_5 X_5 B5 hb6
  have G0_6 := hide hO1
  have G0_lt := hide (fun k hk => ((hO1).lt k hk).2)
  clear hO1
  obtain ⟨rfl, rfl⟩ := pair_det hR0 hR1
  clear hR1 hn1
  have hR0 := hide hR0
  go_wp2_with fail
  refine (lawseqPlaceS_same _ _ _ _ xs0 _ ((G0_6.out).at_ (fun _ => rfl)) ((S0_6.out).at_ (fun _ => rfl)) hn0).mono ?_
  rintro e w7 ⟨rfl, hb7⟩
  have z7 : (w.alloc (.cells #[.int .i64 a, .int .i64 b, .int .i64 cc] 82)).heap.size ≤ w7.heap.size := Nat.le_trans z6 hb7.size
  have y7 : w6.heap.size ≤ w7.heap.size := hb7.size
  have B7 : Hid (Below (w.alloc (.cells #[.int .i64 a, .int .i64 b, .int .i64 cc] 82)).heap.size (w.alloc (.cells #[.int .i64 a, .int .i64 b, .int .i64 cc] 82)) w7) := hide (B6.out.trans (hb7.mono z6))
  have Y_7 := hide (Y_6.out.below hb7)
  have S0_7 := hide (S0_6.out.below hb7)
  have X_7 := hide (X_6.out.below hb7)
  have G0_7 := hide (G0_6.out.below hb7)
  clear Y_6 S0_6 X_6 G0_6 B6 hb7
  go_wp2_with fail
  refine (lawstoInt64S A c xs _ (HX.out.below B7.out) hn).mono ?_
  rintro e w8 ⟨bXe, rfl, hOXe, hb8⟩
  have z8 : (w.alloc (.cells #[.int .i64 a, .int .i64 b, .int .i64 cc] 82)).heap.size ≤ w8.heap.size := Nat.le_trans z7 hb8.size
  have y8 : w7.heap.size ≤ w8.heap.size := hb8.size
  have B8 : Hid (Below (w.alloc (.cells #[.int .i64 a, .int .i64 b, .int .i64 cc] 82)).heap.size (w.alloc (.cells #[.int .i64 a, .int .i64 b, .int .i64 cc] 82)) w8) := hide (B7.out.trans (hb8.mono z7))
  have Y_8 := hide (Y_7.out.below hb8)
  have S0_8 := hide (S0_7.out.below hb8)
  have X_8 := hide (X_7.out.below hb8)
  have G0_8 := hide (G0_7.out.below hb8)
  clear Y_7 S0_7 X_7 G0_7 B7 hb8
  have Xe_8 := hide hOXe
  have Xe_lt := hide (fun k hk => ((hOXe).lt k hk).2)
  clear hOXe
  go_wp2_with fail
  refine (lawseqInt64S_same _ _ _ _ xs _ ((X_8.out).at_ (fun _ => rfl)) ((Xe_8.out).at_ (fun _ => rfl)) hn).mono ?_
  rintro e w9 ⟨rfl, hb9⟩
  have z9 : (w.alloc (.cells #[.int .i64 a, .int .i64 b, .int .i64 cc] 82)).heap.size ≤ w9.heap.size := Nat.le_trans z8 hb9.size
  have y9 : w8.heap.size ≤ w9.heap.size := hb9.size
  have B9 : Hid (Below (w.alloc (.cells #[.int .i64 a, .int .i64 b, .int .i64 cc] 82)).heap.size (w.alloc (.cells #[.int .i64 a, .int .i64 b, .int .i64 cc] 82)) w9) := hide (B8.out.trans (hb9.mono z8))
  have Y_9 := hide (Y_8.out.below hb9)
  have S0_9 := hide (S0_8.out.below hb9)
  have X_9 := hide (X_8.out.below hb9)
  have G0_9 := hide (G0_8.out.below hb9)
  have Xe_9 := hide (Xe_8.out.below hb9)
  clear Y_8 S0_8 X_8 G0_8 Xe_8 B8 hb9
  clear Xe_9 Xe_lt
  go_wp2_with fail
  refine (lawsmarkInt64S _ _ _ xs _ _ X_9.out hn (by omega) (by omega)).mono ?_
  rintro e w10 ⟨rfl, hO, hg⟩
  have hge := fun k hk => (X_9.out.lt k hk).1
  have y10 := hg.size
  have z10 : (w.alloc (.cells #[.int .i64 a, .int .i64 b, .int .i64 cc] 82)).heap.size ≤ w10.heap.size := Nat.le_trans z9 y10
  have B10 : Hid (Below (w.alloc (.cells #[.int .i64 a, .int .i64 b, .int .i64 cc] 82)).heap.size (w.alloc (.cells #[.int .i64 a, .int .i64 b, .int .i64 cc] 82)) w10) := hide (Below.grown B9.out hg z9 fun k hk => Nat.le_trans z3 (hge k hk))
  have Y_10 := hide (kept_older Y_9.out Y_lt.out hg hge (by omega))
  have S0_10 := hide (kept_older S0_9.out S0_lt.out hg hge (by omega))
  have X_10 := hide hO
  have G0_10 := hide (kept_newer G0_9.out hg X_lt.out (by omega))
  clear Y_9 S0_9 X_9 G0_9 B9 hO hg hge
  clear X_10 X_lt
  go_wp2_with fail
  refine (lawseqPlaceS_same _ _ _ _ xs0 _ ((G0_10.out).at_ (fun _ => rfl)) ((S0_10.out).at_ (fun _ => rfl)) hn0).mono ?_
  rintro e w11 ⟨rfl, hb11⟩
  have z11 : (w.alloc (.cells #[.int .i64 a, .int .i64 b, .int .i64 cc] 82)).heap.size ≤ w11.heap.size := Nat.le_trans z10 hb11.size
  have y11 : w10.heap.size ≤ w11.heap.size := hb11.size
  have B11 : Hid (Below (w.alloc (.cells #[.int .i64 a, .int .i64 b, .int .i64 cc] 82)).heap.size (w.alloc (.cells #[.int .i64 a, .int .i64 b, .int .i64 cc] 82)) w11) := hide (B10.out.trans (hb11.mono z10))
  have Y_11 := hide (Y_10.out.below hb11)
  have S0_11 := hide (S0_10.out.below hb11)
  have G0_11 := hide (G0_10.out.below hb11)
  clear Y_10 S0_10 G0_10 B10 hb11
  go_wp2_with fail
  refine (lawsmarkPlaceS _ _ _ xs0 _ _ G0_11.out hn0 (by omega) (by omega)).mono ?_
  rintro e w12 ⟨rfl, hO, hg⟩
  have hge := fun k hk => (G0_11.out.lt k hk).1
  have y12 := hg.size
  have z12 : (w.alloc (.cells #[.int .i64 a, .int .i64 b, .int .i64 cc] 82)).heap.size ≤ w12.heap.size := Nat.le_trans z11 y12
  have B12 : Hid (Below (w.alloc (.cells #[.int .i64 a, .int .i64 b, .int .i64 cc] 82)).heap.size (w.alloc (.cells #[.int .i64 a, .int .i64 b, .int .i64 cc] 82)) w12) := hide (Below.grown B11.out hg z11 fun k hk => Nat.le_trans z5 (hge k hk))
  have Y_12 := hide (kept_older Y_11.out Y_lt.out hg hge (by omega))
  have S0_12 := hide (kept_older S0_11.out S0_lt.out hg hge (by omega))
  have G0_12 := hide hO
  clear Y_11 S0_11 G0_11 B11 hO hg hge
  go_wp2_with fail
  refine (held_own_Place G0_12.out hn0 (by omega) (by omega)).mono ?_
  rintro e w13 ⟨rfl, hb13⟩
  have z13 : (w.alloc (.cells #[.int .i64 a, .int .i64 b, .int .i64 cc] 82)).heap.size ≤ w13.heap.size := Nat.le_trans z12 hb13.size
  have y13 : w12.heap.size ≤ w13.heap.size := hb13.size
  have B13 : Hid (Below (w.alloc (.cells #[.int .i64 a, .int .i64 b, .int .i64 cc] 82)).heap.size (w.alloc (.cells #[.int .i64 a, .int .i64 b, .int .i64 cc] 82)) w13) := hide (B12.out.trans (hb13.mono z12))
  have Y_13 := hide (Y_12.out.below hb13)
  have S0_13 := hide (S0_12.out.below hb13)
  have G0_13 := hide (G0_12.out.below hb13)
  clear Y_12 S0_12 G0_12 B12 hb13
  have p0_0 := B13.out.cell (p := ⟨w.heap.size, 0, none⟩) (by simp)
  have p0_1 := B13.out.cell (p := ⟨w.heap.size, 1, none⟩) (by simp)
  have p0_2 := B13.out.cell (p := ⟨w.heap.size, 2, none⟩) (by simp)
  simp at p0_0 p0_1 p0_2
  go_wp2_with fail
  refine (lawstoChamber a b cc _).mono ?_
  rintro e w14 ⟨rfl, hb14⟩
  clear p0_0 p0_1 p0_2
  have z14 : (w.alloc (.cells #[.int .i64 a, .int .i64 b, .int .i64 cc] 82)).heap.size ≤ w14.heap.size := Nat.le_trans z13 hb14.size
  have y14 : w13.heap.size ≤ w14.heap.size := hb14.size
  have B14 : Hid (Below (w.alloc (.cells #[.int .i64 a, .int .i64 b, .int .i64 cc] 82)).heap.size (w.alloc (.cells #[.int .i64 a, .int .i64 b, .int .i64 cc] 82)) w14) := hide (B13.out.trans (hb14.mono z13))
  have Y_14 := hide (Y_13.out.below hb14)
  have S0_14 := hide (S0_13.out.below hb14)
  have G0_14 := hide (G0_13.out.below hb14)
  clear Y_13 S0_13 G0_13 B13 hb14
  go_wp2_with fail
  refine (lawstoInt64S A c xs _ (HX.out.below B14.out) hn).mono ?_
  rintro e w15 ⟨bYh, rfl, hOYh, hb15⟩
  have z15 : (w.alloc (.cells #[.int .i64 a, .int .i64 b, .int .i64 cc] 82)).heap.size ≤ w15.heap.size := Nat.le_trans z14 hb15.size
  have y15 : w14.heap.size ≤ w15.heap.size := hb15.size
  have B15 : Hid (Below (w.alloc (.cells #[.int .i64 a, .int .i64 b, .int .i64 cc] 82)).heap.size (w.alloc (.cells #[.int .i64 a, .int .i64 b, .int .i64 cc] 82)) w15) := hide (B14.out.trans (hb15.mono z14))
  have Y_15 := hide (Y_14.out.below hb15)
  have S0_15 := hide (S0_14.out.below hb15)
  have G0_15 := hide (G0_14.out.below hb15)
  clear Y_14 S0_14 G0_14 B14 hb15
  have Yh_15 := hide hOYh
  have Yh_lt := hide (fun k hk => ((hOYh).lt k hk).2)
  clear hOYh
  go_wp2_with fail
  refine (implFirstLayout a b cc _ _ xs g sp z bud _ ((Yh_15.out).at_ (fun _ => rfl)) hn).mono ?_
  rintro e w16 ⟨A2, c2, xs2, code2, rfl, hR2, hn2, hO2, hb16⟩
  have z16 : (w.alloc (.cells #[.int .i64 a, .int .i64 b, .int .i64 cc] 82)).heap.size ≤ w16.heap.size := Nat.le_trans z15 hb16.size
  have y16 : w15.heap.size ≤ w16.heap.size := hb16.size
  have B16 : Hid (Below (w.alloc (.cells #[.int .i64 a, .int .i64 b, .int .i64 cc] 82)).heap.size (w.alloc (.cells #[.int .i64 a, .int .i64 b, .int .i64 cc] 82)) w16) := hide (B15.out.trans (hb16.mono z15))
  have Y_16 := hide (Y_15.out.below hb16)
  have S0_16 := hide (S0_15.out.below hb16)
  have G0_16 := hide (G0_15.out.below hb16)
  have Yh_16 := hide (Yh_15.out.below hb16)
  clear Y_15 S0_15 G0_15 Yh_15 B15 hb16
  have H0_16 := hide hO2
  have H0_lt := hide (fun k hk => ((hO2).lt k hk).2)
  clear hO2
  obtain ⟨rfl, rfl⟩ := pair_det hR0.out hR2
  go_wp2_with fail
  refine (lawseqPlaceS_same _ _ _ _ xs0 _ ((H0_16.out).at_ (fun _ => rfl)) ((S0_16.out).at_ (fun _ => rfl)) hn0).mono ?_
  rintro e w17 ⟨rfl, hb17⟩
  have z17 : (w.alloc (.cells #[.int .i64 a, .int .i64 b, .int .i64 cc] 82)).heap.size ≤ w17.heap.size := Nat.le_trans z16 hb17.size
  have y17 : w16.heap.size ≤ w17.heap.size := hb17.size
  have B17 : Hid (Below (w.alloc (.cells #[.int .i64 a, .int .i64 b, .int .i64 cc] 82)).heap.size (w.alloc (.cells #[.int .i64 a, .int .i64 b, .int .i64 cc] 82)) w17) := hide (B16.out.trans (hb17.mono z16))
  have Y_17 := hide (Y_16.out.below hb17)
  have S0_17 := hide (S0_16.out.below hb17)
  have G0_17 := hide (G0_16.out.below hb17)
  have Yh_17 := hide (Yh_16.out.below hb17)
  have H0_17 := hide (H0_16.out.below hb17)
  clear Y_16 S0_16 G0_16 Yh_16 H0_16 B16 hb17
  go_wp2_with fail
  refine (held_own_Place G0_17.out hn0 (by omega) (by omega)).mono ?_
  rintro e w18 ⟨rfl, hb18⟩
  have z18 : (w.alloc (.cells #[.int .i64 a, .int .i64 b, .int .i64 cc] 82)).heap.size ≤ w18.heap.size := Nat.le_trans z17 hb18.size
  have y18 : w17.heap.size ≤ w18.heap.size := hb18.size
  have B18 : Hid (Below (w.alloc (.cells #[.int .i64 a, .int .i64 b, .int .i64 cc] 82)).heap.size (w.alloc (.cells #[.int .i64 a, .int .i64 b, .int .i64 cc] 82)) w18) := hide (B17.out.trans (hb18.mono z17))
  have Y_18 := hide (Y_17.out.below hb18)
  have S0_18 := hide (S0_17.out.below hb18)
  have G0_18 := hide (G0_17.out.below hb18)
  have Yh_18 := hide (Yh_17.out.below hb18)
  have H0_18 := hide (H0_17.out.below hb18)
  clear Y_17 S0_17 G0_17 Yh_17 H0_17 B17 hb18
  go_wp2_with fail
  go_ret
  exact ⟨rfl, Below.trans HBW.out (B18.out.mono (by simp))⟩
theorem lawFirstLayout_big (a b cc : Int) (A : Option Addr) (c n : Nat) (g sp z bud : Int) (w : World) (hn : 1048576 < n) :
    Calls Try.prog 11 #[.agg #[.int .i64 a, .int .i64 b, .int .i64 cc], .slice A n c, .int .i64 g, .int .i64 sp, .int .i64 z, .int .i64 bud] w fun e w' => e = .returned (.bool true) ∧ Below w.heap.size w w' := by
  have hq : (1048576 : Int) < (n : Int) := by omega
  go_enter Try.func11, Try.ntmps11
  go_wp2_with fail
  go_ret
  exact ⟨rfl, (by repeat (first | with_reducible exact Below.refl _ _ | with_reducible assumption | (with_reducible refine Below.drew ?_) | (with_reducible refine below_drewN ?_ _) | ((with_reducible refine Below.alloc ?_ ?_ _); rotate_left; (focus (first | omega | (simp; omega) | simp))) | ((with_reducible refine Below.setCell ?_ ?_ _); rotate_left; (focus (first | omega | (simp; omega) | simp))) | (refine Below.trans ?_ (Below.mono (by assumption) (by first | omega | (simp; omega) | simp)))))⟩
theorem lawFirstLayout_any (a b cc : Int) (A : Option Addr) (c : Nat) (xs : List Int) (g sp z bud : Int) (w : World) (hx : SlAt encI 1 w A xs) :
    Calls Try.prog 11 #[.agg #[.int .i64 a, .int .i64 b, .int .i64 cc], .slice A xs.length c, .int .i64 g, .int .i64 sp, .int .i64 z, .int .i64 bud] w fun e w' => e = .returned (.bool true) ∧ Below w.heap.size w w' := by
  by_cases hn : xs.length ≤ 1048576
  · exact lawFirstLayout a b cc A c xs g sp z bud w hx hn
  · exact lawFirstLayout_big a b cc A c xs.length g sp z bud w (by omega)
end Go.Proofs.Ytjklhacffdhgaaa
