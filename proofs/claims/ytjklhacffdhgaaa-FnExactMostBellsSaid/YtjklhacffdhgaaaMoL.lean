/- The law of the greatest number of swings, walked out of the contracts of both sides. -/
import Derived.Test.YtjklhacffdhgaaaMoX
import Derived.Test.YtjklhacffdhgaaaMarks
namespace Go.Proofs.Ytjklhacffdhgaaa
open Go.RowKit

theorem pair_detM {α : Type} {p : α × Int} {x x' : α} {c c' : Int} (h : p = (x, c)) (h' : p = (x', c')) : x = x' ∧ c = c' := by
  rw [h] at h'
  injection h' with h1 h2
  exact ⟨h1, h2⟩
set_option maxRecDepth 100000 in
set_option maxHeartbeats 2000000 in
theorem lawMostBells (nm : ByteArray) (sw dp sf lim : Int) (A : Option Addr) (c : Nat) (xs : List SwingR) (w : World) (hs : nm.size ≤ maxLen) (hx : SlAt encSwing 3 w A xs) (hl : xs.length ≤ 9223372036854775807) (hxs : ∀ x ∈ xs, x.nm.size ≤ maxLen) :
    Calls Try.prog 8 #[.agg #[.string nm, .int .i64 sw, .int .i64 dp, .int .i64 sf, .int .i64 lim], .slice A xs.length c] w fun e w' => e = .returned (.bool true) ∧ Below w.heap.size w w' := by
  have hbW : Below w.heap.size w (w.alloc (.cells #[.string nm, .int .i64 sw, .int .i64 dp, .int .i64 sf, .int .i64 lim] 50)) := (by repeat (first | with_reducible exact Below.refl _ _ | with_reducible assumption | (with_reducible refine Below.drew ?_) | (with_reducible refine below_drewN ?_ _) | ((with_reducible refine Below.alloc ?_ ?_ _); rotate_left; (focus (first | omega | (simp; omega) | simp))) | ((with_reducible refine Below.setCell ?_ ?_ _); rotate_left; (focus (first | omega | (simp; omega) | simp))) | (refine Below.trans ?_ (Below.mono (by assumption) (by first | omega | (simp; omega) | simp)))))
  have HBW := hide hbW
  have HX := hide (hx.below hbW)
  have HS := hide hxs
  clear hxs
  clear hbW hx
  go_enter Try.func8, Try.ntmps8
  go_wp2_with fail
  refine (lawsszTower_any nm sw dp sf lim _ _ hs (by omega) (by omega)).mono ?_
  rintro e w1 ⟨r1, rfl, ra1, rb1, hb1⟩
  have z1 := hb1.size
  have B1 : Hid (Below (w.alloc (.cells #[.string nm, .int .i64 sw, .int .i64 dp, .int .i64 sf, .int .i64 lim] 50)).heap.size (w.alloc (.cells #[.string nm, .int .i64 sw, .int .i64 dp, .int .i64 sf, .int .i64 lim] 50)) w1) := hide hb1
  clear hb1
  by_cases hq1 : 0 ≤ r1
  · have _hq := hq1
    have p0_0 := B1.out.cell (p := ⟨w.heap.size, 0, none⟩) (by simp)
    have p0_1 := B1.out.cell (p := ⟨w.heap.size, 1, none⟩) (by simp)
    have p0_2 := B1.out.cell (p := ⟨w.heap.size, 2, none⟩) (by simp)
    have p0_3 := B1.out.cell (p := ⟨w.heap.size, 3, none⟩) (by simp)
    have p0_4 := B1.out.cell (p := ⟨w.heap.size, 4, none⟩) (by simp)
    simp at p0_0 p0_1 p0_2 p0_3 p0_4
    go_wp2_with fail
    refine (lawsszSwingS_any A c xs _ _ (HX.out.below B1.out) hl HS.out (by omega) (by omega)).mono ?_
    rintro e w2 ⟨r2, rfl, ra2, rb2, hr2, hb2⟩
    clear p0_0 p0_1 p0_2 p0_3 p0_4
    have z2 : (w.alloc (.cells #[.string nm, .int .i64 sw, .int .i64 dp, .int .i64 sf, .int .i64 lim] 50)).heap.size ≤ w2.heap.size := Nat.le_trans z1 hb2.size
    have y2 : w1.heap.size ≤ w2.heap.size := hb2.size
    have B2 : Hid (Below (w.alloc (.cells #[.string nm, .int .i64 sw, .int .i64 dp, .int .i64 sf, .int .i64 lim] 50)).heap.size (w.alloc (.cells #[.string nm, .int .i64 sw, .int .i64 dp, .int .i64 sf, .int .i64 lim] 50)) w2) := hide (B1.out.trans (hb2.mono z1))
    clear B1 hb2
    by_cases hq2 : 0 ≤ r2
    · have _hq := hq2
      have hn : xs.length ≤ 1048576 := by have := hr2 hq2; omega
      clear hr2
      have p0_0 := B2.out.cell (p := ⟨w.heap.size, 0, none⟩) (by simp)
      have p0_1 := B2.out.cell (p := ⟨w.heap.size, 1, none⟩) (by simp)
      have p0_2 := B2.out.cell (p := ⟨w.heap.size, 2, none⟩) (by simp)
      have p0_3 := B2.out.cell (p := ⟨w.heap.size, 3, none⟩) (by simp)
      have p0_4 := B2.out.cell (p := ⟨w.heap.size, 4, none⟩) (by simp)
      simp at p0_0 p0_1 p0_2 p0_3 p0_4
      go_wp2_with fail
      refine (lawstoTower nm sw dp sf lim _).mono ?_
      rintro e w3 ⟨rfl, hb3⟩
      clear p0_0 p0_1 p0_2 p0_3 p0_4
      have z3 : (w.alloc (.cells #[.string nm, .int .i64 sw, .int .i64 dp, .int .i64 sf, .int .i64 lim] 50)).heap.size ≤ w3.heap.size := Nat.le_trans z2 hb3.size
      have y3 : w2.heap.size ≤ w3.heap.size := hb3.size
      have B3 : Hid (Below (w.alloc (.cells #[.string nm, .int .i64 sw, .int .i64 dp, .int .i64 sf, .int .i64 lim] 50)).heap.size (w.alloc (.cells #[.string nm, .int .i64 sw, .int .i64 dp, .int .i64 sf, .int .i64 lim] 50)) w3) := hide (B2.out.trans (hb3.mono z2))
      clear B2 hb3
      go_wp2_with fail
      refine (lawstoSwingS_o A c xs _ (HX.out.below B3.out) hn).mono ?_
      rintro e w4 ⟨bY, rfl, hOY, hb4⟩
      have z4 : (w.alloc (.cells #[.string nm, .int .i64 sw, .int .i64 dp, .int .i64 sf, .int .i64 lim] 50)).heap.size ≤ w4.heap.size := Nat.le_trans z3 hb4.size
      have y4 : w3.heap.size ≤ w4.heap.size := hb4.size
      have B4 : Hid (Below (w.alloc (.cells #[.string nm, .int .i64 sw, .int .i64 dp, .int .i64 sf, .int .i64 lim] 50)).heap.size (w.alloc (.cells #[.string nm, .int .i64 sw, .int .i64 dp, .int .i64 sf, .int .i64 lim] 50)) w4) := hide (B3.out.trans (hb4.mono z3))
      clear B3 hb4
      have Y_4 := hide hOY
      have Y_lt := hide (fun k hk => ((hOY).lt k hk).2)
      clear hOY
      go_wp2_with fail
      refine (specMostBells nm sw dp sf lim _ _ xs _ hs ((Y_4.out).at_ (fun _ => rfl)) hn HS.out).mono ?_
      rintro e w5 ⟨A0, c0, xs0, code0, rfl, hR0, hn0, hO0, hb5⟩
      have z5 : (w.alloc (.cells #[.string nm, .int .i64 sw, .int .i64 dp, .int .i64 sf, .int .i64 lim] 50)).heap.size ≤ w5.heap.size := Nat.le_trans z4 hb5.size
      have y5 : w4.heap.size ≤ w5.heap.size := hb5.size
      have B5 : Hid (Below (w.alloc (.cells #[.string nm, .int .i64 sw, .int .i64 dp, .int .i64 sf, .int .i64 lim] 50)).heap.size (w.alloc (.cells #[.string nm, .int .i64 sw, .int .i64 dp, .int .i64 sf, .int .i64 lim] 50)) w5) := hide (B4.out.trans (hb5.mono z4))
      have Y_5 := hide (Y_4.out.below hb5)
      clear Y_4 B4 hb5
      have S0_5 := hide hO0
      have S0_lt := hide (fun k hk => ((hO0).lt k hk).2)
      clear hO0
      go_wp2_with fail
      refine (lawstoSwingS_o A c xs _ (HX.out.below B5.out) hn).mono ?_
      rintro e w6 ⟨bX, rfl, hOX, hb6⟩
      have z6 : (w.alloc (.cells #[.string nm, .int .i64 sw, .int .i64 dp, .int .i64 sf, .int .i64 lim] 50)).heap.size ≤ w6.heap.size := Nat.le_trans z5 hb6.size
      have y6 : w5.heap.size ≤ w6.heap.size := hb6.size
      have B6 : Hid (Below (w.alloc (.cells #[.string nm, .int .i64 sw, .int .i64 dp, .int .i64 sf, .int .i64 lim] 50)).heap.size (w.alloc (.cells #[.string nm, .int .i64 sw, .int .i64 dp, .int .i64 sf, .int .i64 lim] 50)) w6) := hide (B5.out.trans (hb6.mono z5))
      have Y_6 := hide (Y_5.out.below hb6)
      have S0_6 := hide (S0_5.out.below hb6)
      clear Y_5 S0_5 B5 hb6
      have X_6 := hide hOX
      have X_lt := hide (fun k hk => ((hOX).lt k hk).2)
      clear hOX
      have p0_0 := B6.out.cell (p := ⟨w.heap.size, 0, none⟩) (by simp)
      have p0_1 := B6.out.cell (p := ⟨w.heap.size, 1, none⟩) (by simp)
      have p0_2 := B6.out.cell (p := ⟨w.heap.size, 2, none⟩) (by simp)
      have p0_3 := B6.out.cell (p := ⟨w.heap.size, 3, none⟩) (by simp)
      have p0_4 := B6.out.cell (p := ⟨w.heap.size, 4, none⟩) (by simp)
      simp at p0_0 p0_1 p0_2 p0_3 p0_4
      go_wp2_with fail
      refine (lawstoTower nm sw dp sf lim _).mono ?_
      rintro e w7 ⟨rfl, hb7⟩
      clear p0_0 p0_1 p0_2 p0_3 p0_4
      have z7 : (w.alloc (.cells #[.string nm, .int .i64 sw, .int .i64 dp, .int .i64 sf, .int .i64 lim] 50)).heap.size ≤ w7.heap.size := Nat.le_trans z6 hb7.size
      have y7 : w6.heap.size ≤ w7.heap.size := hb7.size
      have B7 : Hid (Below (w.alloc (.cells #[.string nm, .int .i64 sw, .int .i64 dp, .int .i64 sf, .int .i64 lim] 50)).heap.size (w.alloc (.cells #[.string nm, .int .i64 sw, .int .i64 dp, .int .i64 sf, .int .i64 lim] 50)) w7) := hide (B6.out.trans (hb7.mono z6))
      have Y_7 := hide (Y_6.out.below hb7)
      have S0_7 := hide (S0_6.out.below hb7)
      have X_7 := hide (X_6.out.below hb7)
      clear Y_6 S0_6 X_6 B6 hb7
      go_wp2_with fail
      refine (implMostBells nm sw dp sf lim _ _ xs _ hs ((X_7.out).at_ (fun _ => rfl)) hn HS.out).mono ?_
      rintro e w8 ⟨A1, c1, xs1, code1, rfl, hR1, hn1, hO1, hb8⟩
      have z8 : (w.alloc (.cells #[.string nm, .int .i64 sw, .int .i64 dp, .int .i64 sf, .int .i64 lim] 50)).heap.size ≤ w8.heap.size := Nat.le_trans z7 hb8.size
      have y8 : w7.heap.size ≤ w8.heap.size := hb8.size
      have B8 : Hid (Below (w.alloc (.cells #[.string nm, .int .i64 sw, .int .i64 dp, .int .i64 sf, .int .i64 lim] 50)).heap.size (w.alloc (.cells #[.string nm, .int .i64 sw, .int .i64 dp, .int .i64 sf, .int .i64 lim] 50)) w8) := hide (B7.out.trans (hb8.mono z7))
      have Y_8 := hide (Y_7.out.below hb8)
      have S0_8 := hide (S0_7.out.below hb8)
      have X_8 := hide (X_7.out.below hb8)
      clear Y_7 S0_7 X_7 B7 hb8
      have G0_8 := hide hO1
      have G0_lt := hide (fun k hk => ((hO1).lt k hk).2)
      clear hO1
      obtain ⟨rfl, rfl⟩ := pair_detM hR0 hR1
      clear hR1 hn1
      have hR0 := hide hR0
      go_wp2_with fail
      refine (lawseqInt64S_same _ _ _ _ xs0 _ ((G0_8.out).at_ (fun _ => rfl)) ((S0_8.out).at_ (fun _ => rfl)) hn0).mono ?_
      rintro e w9 ⟨rfl, hb9⟩
      have z9 : (w.alloc (.cells #[.string nm, .int .i64 sw, .int .i64 dp, .int .i64 sf, .int .i64 lim] 50)).heap.size ≤ w9.heap.size := Nat.le_trans z8 hb9.size
      have y9 : w8.heap.size ≤ w9.heap.size := hb9.size
      have B9 : Hid (Below (w.alloc (.cells #[.string nm, .int .i64 sw, .int .i64 dp, .int .i64 sf, .int .i64 lim] 50)).heap.size (w.alloc (.cells #[.string nm, .int .i64 sw, .int .i64 dp, .int .i64 sf, .int .i64 lim] 50)) w9) := hide (B8.out.trans (hb9.mono z8))
      have Y_9 := hide (Y_8.out.below hb9)
      have S0_9 := hide (S0_8.out.below hb9)
      have X_9 := hide (X_8.out.below hb9)
      have G0_9 := hide (G0_8.out.below hb9)
      clear Y_8 S0_8 X_8 G0_8 B8 hb9
      go_wp2_with fail
      refine (lawstoSwingS_o A c xs _ (HX.out.below B9.out) hn).mono ?_
      rintro e w10 ⟨bXe, rfl, hOXe, hb10⟩
      have z10 : (w.alloc (.cells #[.string nm, .int .i64 sw, .int .i64 dp, .int .i64 sf, .int .i64 lim] 50)).heap.size ≤ w10.heap.size := Nat.le_trans z9 hb10.size
      have y10 : w9.heap.size ≤ w10.heap.size := hb10.size
      have B10 : Hid (Below (w.alloc (.cells #[.string nm, .int .i64 sw, .int .i64 dp, .int .i64 sf, .int .i64 lim] 50)).heap.size (w.alloc (.cells #[.string nm, .int .i64 sw, .int .i64 dp, .int .i64 sf, .int .i64 lim] 50)) w10) := hide (B9.out.trans (hb10.mono z9))
      have Y_10 := hide (Y_9.out.below hb10)
      have S0_10 := hide (S0_9.out.below hb10)
      have X_10 := hide (X_9.out.below hb10)
      have G0_10 := hide (G0_9.out.below hb10)
      clear Y_9 S0_9 X_9 G0_9 B9 hb10
      have Xe_10 := hide hOXe
      have Xe_lt := hide (fun k hk => ((hOXe).lt k hk).2)
      clear hOXe
      go_wp2_with fail
      refine (lawseqSwingS_same _ _ _ _ xs _ ((X_10.out).at_ (fun _ => rfl)) ((Xe_10.out).at_ (fun _ => rfl)) hn).mono ?_
      rintro e w11 ⟨rfl, hb11⟩
      have z11 : (w.alloc (.cells #[.string nm, .int .i64 sw, .int .i64 dp, .int .i64 sf, .int .i64 lim] 50)).heap.size ≤ w11.heap.size := Nat.le_trans z10 hb11.size
      have y11 : w10.heap.size ≤ w11.heap.size := hb11.size
      have B11 : Hid (Below (w.alloc (.cells #[.string nm, .int .i64 sw, .int .i64 dp, .int .i64 sf, .int .i64 lim] 50)).heap.size (w.alloc (.cells #[.string nm, .int .i64 sw, .int .i64 dp, .int .i64 sf, .int .i64 lim] 50)) w11) := hide (B10.out.trans (hb11.mono z10))
      have Y_11 := hide (Y_10.out.below hb11)
      have S0_11 := hide (S0_10.out.below hb11)
      have X_11 := hide (X_10.out.below hb11)
      have G0_11 := hide (G0_10.out.below hb11)
      have Xe_11 := hide (Xe_10.out.below hb11)
      clear Y_10 S0_10 X_10 G0_10 Xe_10 B10 hb11
      clear Xe_11 Xe_lt
      go_wp2_with fail
      refine (lawsmarkSwingS _ _ _ xs _ _ X_11.out hn (by omega) (by omega)).mono ?_
      rintro e w12 ⟨rfl, hO, hg⟩
      have hge := fun k hk => (X_11.out.lt k hk).1
      have y12 := hg.size
      have z12 : (w.alloc (.cells #[.string nm, .int .i64 sw, .int .i64 dp, .int .i64 sf, .int .i64 lim] 50)).heap.size ≤ w12.heap.size := Nat.le_trans z11 y12
      have B12 : Hid (Below (w.alloc (.cells #[.string nm, .int .i64 sw, .int .i64 dp, .int .i64 sf, .int .i64 lim] 50)).heap.size (w.alloc (.cells #[.string nm, .int .i64 sw, .int .i64 dp, .int .i64 sf, .int .i64 lim] 50)) w12) := hide (Below.grown B11.out hg z11 fun k hk => Nat.le_trans z5 (hge k hk))
      have Y_12 := hide (kept_older Y_11.out Y_lt.out hg hge (by omega))
      have S0_12 := hide (kept_older S0_11.out S0_lt.out hg hge (by omega))
      have X_12 := hide hO
      have G0_12 := hide (kept_newer G0_11.out hg X_lt.out (by omega))
      clear Y_11 S0_11 X_11 G0_11 B11 hO hg hge
      clear X_12 X_lt
      go_wp2_with fail
      refine (lawseqInt64S_same _ _ _ _ xs0 _ ((G0_12.out).at_ (fun _ => rfl)) ((S0_12.out).at_ (fun _ => rfl)) hn0).mono ?_
      rintro e w13 ⟨rfl, hb13⟩
      have z13 : (w.alloc (.cells #[.string nm, .int .i64 sw, .int .i64 dp, .int .i64 sf, .int .i64 lim] 50)).heap.size ≤ w13.heap.size := Nat.le_trans z12 hb13.size
      have y13 : w12.heap.size ≤ w13.heap.size := hb13.size
      have B13 : Hid (Below (w.alloc (.cells #[.string nm, .int .i64 sw, .int .i64 dp, .int .i64 sf, .int .i64 lim] 50)).heap.size (w.alloc (.cells #[.string nm, .int .i64 sw, .int .i64 dp, .int .i64 sf, .int .i64 lim] 50)) w13) := hide (B12.out.trans (hb13.mono z12))
      have Y_13 := hide (Y_12.out.below hb13)
      have S0_13 := hide (S0_12.out.below hb13)
      have G0_13 := hide (G0_12.out.below hb13)
      clear Y_12 S0_12 G0_12 B12 hb13
      go_wp2_with fail
      refine (lawsmarkInt64S _ _ _ xs0 _ _ G0_13.out hn0 (by omega) (by omega)).mono ?_
      rintro e w14 ⟨rfl, hO, hg⟩
      have hge := fun k hk => (G0_13.out.lt k hk).1
      have y14 := hg.size
      have z14 : (w.alloc (.cells #[.string nm, .int .i64 sw, .int .i64 dp, .int .i64 sf, .int .i64 lim] 50)).heap.size ≤ w14.heap.size := Nat.le_trans z13 y14
      have B14 : Hid (Below (w.alloc (.cells #[.string nm, .int .i64 sw, .int .i64 dp, .int .i64 sf, .int .i64 lim] 50)).heap.size (w.alloc (.cells #[.string nm, .int .i64 sw, .int .i64 dp, .int .i64 sf, .int .i64 lim] 50)) w14) := hide (Below.grown B13.out hg z13 fun k hk => Nat.le_trans z7 (hge k hk))
      have Y_14 := hide (kept_older Y_13.out Y_lt.out hg hge (by omega))
      have S0_14 := hide (kept_older S0_13.out S0_lt.out hg hge (by omega))
      have G0_14 := hide hO
      clear Y_13 S0_13 G0_13 B13 hO hg hge
      go_wp2_with fail
      refine (held_own_I G0_14.out hn0 (by omega) (by omega)).mono ?_
      rintro e w15 ⟨rfl, hb15⟩
      have z15 : (w.alloc (.cells #[.string nm, .int .i64 sw, .int .i64 dp, .int .i64 sf, .int .i64 lim] 50)).heap.size ≤ w15.heap.size := Nat.le_trans z14 hb15.size
      have y15 : w14.heap.size ≤ w15.heap.size := hb15.size
      have B15 : Hid (Below (w.alloc (.cells #[.string nm, .int .i64 sw, .int .i64 dp, .int .i64 sf, .int .i64 lim] 50)).heap.size (w.alloc (.cells #[.string nm, .int .i64 sw, .int .i64 dp, .int .i64 sf, .int .i64 lim] 50)) w15) := hide (B14.out.trans (hb15.mono z14))
      have Y_15 := hide (Y_14.out.below hb15)
      have S0_15 := hide (S0_14.out.below hb15)
      have G0_15 := hide (G0_14.out.below hb15)
      clear Y_14 S0_14 G0_14 B14 hb15
      have p0_0 := B15.out.cell (p := ⟨w.heap.size, 0, none⟩) (by simp)
      have p0_1 := B15.out.cell (p := ⟨w.heap.size, 1, none⟩) (by simp)
      have p0_2 := B15.out.cell (p := ⟨w.heap.size, 2, none⟩) (by simp)
      have p0_3 := B15.out.cell (p := ⟨w.heap.size, 3, none⟩) (by simp)
      have p0_4 := B15.out.cell (p := ⟨w.heap.size, 4, none⟩) (by simp)
      simp at p0_0 p0_1 p0_2 p0_3 p0_4
      go_wp2_with fail
      refine (lawstoTower nm sw dp sf lim _).mono ?_
      rintro e w16 ⟨rfl, hb16⟩
      clear p0_0 p0_1 p0_2 p0_3 p0_4
      have z16 : (w.alloc (.cells #[.string nm, .int .i64 sw, .int .i64 dp, .int .i64 sf, .int .i64 lim] 50)).heap.size ≤ w16.heap.size := Nat.le_trans z15 hb16.size
      have y16 : w15.heap.size ≤ w16.heap.size := hb16.size
      have B16 : Hid (Below (w.alloc (.cells #[.string nm, .int .i64 sw, .int .i64 dp, .int .i64 sf, .int .i64 lim] 50)).heap.size (w.alloc (.cells #[.string nm, .int .i64 sw, .int .i64 dp, .int .i64 sf, .int .i64 lim] 50)) w16) := hide (B15.out.trans (hb16.mono z15))
      have Y_16 := hide (Y_15.out.below hb16)
      have S0_16 := hide (S0_15.out.below hb16)
      have G0_16 := hide (G0_15.out.below hb16)
      clear Y_15 S0_15 G0_15 B15 hb16
      go_wp2_with fail
      refine (lawstoSwingS_o A c xs _ (HX.out.below B16.out) hn).mono ?_
      rintro e w17 ⟨bYh, rfl, hOYh, hb17⟩
      have z17 : (w.alloc (.cells #[.string nm, .int .i64 sw, .int .i64 dp, .int .i64 sf, .int .i64 lim] 50)).heap.size ≤ w17.heap.size := Nat.le_trans z16 hb17.size
      have y17 : w16.heap.size ≤ w17.heap.size := hb17.size
      have B17 : Hid (Below (w.alloc (.cells #[.string nm, .int .i64 sw, .int .i64 dp, .int .i64 sf, .int .i64 lim] 50)).heap.size (w.alloc (.cells #[.string nm, .int .i64 sw, .int .i64 dp, .int .i64 sf, .int .i64 lim] 50)) w17) := hide (B16.out.trans (hb17.mono z16))
      have Y_17 := hide (Y_16.out.below hb17)
      have S0_17 := hide (S0_16.out.below hb17)
      have G0_17 := hide (G0_16.out.below hb17)
      clear Y_16 S0_16 G0_16 B16 hb17
      have Yh_17 := hide hOYh
      have Yh_lt := hide (fun k hk => ((hOYh).lt k hk).2)
      clear hOYh
      go_wp2_with fail
      refine (implMostBells nm sw dp sf lim _ _ xs _ hs ((Yh_17.out).at_ (fun _ => rfl)) hn HS.out).mono ?_
      rintro e w18 ⟨A2, c2, xs2, code2, rfl, hR2, hn2, hO2, hb18⟩
      have z18 : (w.alloc (.cells #[.string nm, .int .i64 sw, .int .i64 dp, .int .i64 sf, .int .i64 lim] 50)).heap.size ≤ w18.heap.size := Nat.le_trans z17 hb18.size
      have y18 : w17.heap.size ≤ w18.heap.size := hb18.size
      have B18 : Hid (Below (w.alloc (.cells #[.string nm, .int .i64 sw, .int .i64 dp, .int .i64 sf, .int .i64 lim] 50)).heap.size (w.alloc (.cells #[.string nm, .int .i64 sw, .int .i64 dp, .int .i64 sf, .int .i64 lim] 50)) w18) := hide (B17.out.trans (hb18.mono z17))
      have Y_18 := hide (Y_17.out.below hb18)
      have S0_18 := hide (S0_17.out.below hb18)
      have G0_18 := hide (G0_17.out.below hb18)
      have Yh_18 := hide (Yh_17.out.below hb18)
      clear Y_17 S0_17 G0_17 Yh_17 B17 hb18
      have H0_18 := hide hO2
      have H0_lt := hide (fun k hk => ((hO2).lt k hk).2)
      clear hO2
      obtain ⟨rfl, rfl⟩ := pair_detM hR0.out hR2
      go_wp2_with fail
      refine (lawseqInt64S_same _ _ _ _ xs0 _ ((H0_18.out).at_ (fun _ => rfl)) ((S0_18.out).at_ (fun _ => rfl)) hn0).mono ?_
      rintro e w19 ⟨rfl, hb19⟩
      have z19 : (w.alloc (.cells #[.string nm, .int .i64 sw, .int .i64 dp, .int .i64 sf, .int .i64 lim] 50)).heap.size ≤ w19.heap.size := Nat.le_trans z18 hb19.size
      have y19 : w18.heap.size ≤ w19.heap.size := hb19.size
      have B19 : Hid (Below (w.alloc (.cells #[.string nm, .int .i64 sw, .int .i64 dp, .int .i64 sf, .int .i64 lim] 50)).heap.size (w.alloc (.cells #[.string nm, .int .i64 sw, .int .i64 dp, .int .i64 sf, .int .i64 lim] 50)) w19) := hide (B18.out.trans (hb19.mono z18))
      have Y_19 := hide (Y_18.out.below hb19)
      have S0_19 := hide (S0_18.out.below hb19)
      have G0_19 := hide (G0_18.out.below hb19)
      have Yh_19 := hide (Yh_18.out.below hb19)
      have H0_19 := hide (H0_18.out.below hb19)
      clear Y_18 S0_18 G0_18 Yh_18 H0_18 B18 hb19
      go_wp2_with fail
      refine (held_own_I G0_19.out hn0 (by omega) (by omega)).mono ?_
      rintro e w20 ⟨rfl, hb20⟩
      have z20 : (w.alloc (.cells #[.string nm, .int .i64 sw, .int .i64 dp, .int .i64 sf, .int .i64 lim] 50)).heap.size ≤ w20.heap.size := Nat.le_trans z19 hb20.size
      have y20 : w19.heap.size ≤ w20.heap.size := hb20.size
      have B20 : Hid (Below (w.alloc (.cells #[.string nm, .int .i64 sw, .int .i64 dp, .int .i64 sf, .int .i64 lim] 50)).heap.size (w.alloc (.cells #[.string nm, .int .i64 sw, .int .i64 dp, .int .i64 sf, .int .i64 lim] 50)) w20) := hide (B19.out.trans (hb20.mono z19))
      have Y_20 := hide (Y_19.out.below hb20)
      have S0_20 := hide (S0_19.out.below hb20)
      have G0_20 := hide (G0_19.out.below hb20)
      have Yh_20 := hide (Yh_19.out.below hb20)
      have H0_20 := hide (H0_19.out.below hb20)
      clear Y_19 S0_19 G0_19 Yh_19 H0_19 B19 hb20
      go_wp2_with fail
      go_ret
      exact ⟨rfl, Below.trans HBW.out (B20.out.mono (by simp))⟩
    · go_wp2_with fail
      go_ret
      exact ⟨rfl, Below.trans HBW.out (B2.out.mono (by simp))⟩
  · go_wp2_with fail
    go_ret
    exact ⟨rfl, Below.trans HBW.out (B1.out.mono (by simp))⟩
end Go.Proofs.Ytjklhacffdhgaaa
