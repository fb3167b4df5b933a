/- The law of CountSchedules, walked out of the contracts of both sides. -/
import Derived.Test.YtklmbgefdopifaaHtRI
import Derived.Test.YtklmbgefdopifaaHtRX
import Derived.Test.YtklmbgefdopifaaHtE
namespace Go.Proofs.Ytklmbgefdopifaa
open Go.RowKit

set_option maxRecDepth 100000 in
set_option maxHeartbeats 8000000 in
theorem lawCountSchedules (A A1 : Option Addr) (c c1 : Nat) (ps : List PourR) (cs : List CrucR) (bud : Int) (w : World) (hx : SlAt encPour 4 w A ps) (hy : SlAt encCruc 4 w A1 cs) (hl : ps.length ≤ 9223372036854775807) (hk : cs.length ≤ 9223372036854775807) (hxs : ∀ x ∈ ps, x.nm.size ≤ maxLen) (hys : ∀ x ∈ cs, x.nm.size ≤ maxLen) :
    Calls Try.prog 4 #[.slice A ps.length c, .slice A1 cs.length c1, .int .i64 bud] w fun e w' => e = .returned (.bool true) ∧ Below w.heap.size w w' := by
  have hbW : Below w.heap.size w w := (by repeat (first | with_reducible exact Below.refl _ _ | with_reducible assumption | (with_reducible refine Below.drew ?_) | (with_reducible refine below_drewN ?_ _) | ((with_reducible refine Below.alloc ?_ ?_ _); rotate_left; (focus (first | omega | (simp; omega) | simp))) | ((with_reducible refine Below.setCell ?_ ?_ _); rotate_left; (focus (first | omega | (simp; omega) | simp))) | (refine Below.trans ?_ (Below.mono (by assumption) (by first | omega | (simp; omega) | simp)))))
  have HBW := hide hbW
  have HX := hide (hx.below hbW)
  have HY := hide (hy.below hbW)
  have HS := hide hxs
  have HT := hide hys
  clear hxs hys
  clear hbW hx hy
  go_enter Try.func4, Try.ntmps4
  go_wp2_with fail
  refine (lawsszPourS_any A c ps _ _ HX.out hl HS.out (by omega) (by omega)).mono ?_
  rintro e w1 ⟨r1, rfl, ra1, rb1, hr1, hb1⟩
  have z1 := hb1.size
  have B1 : Hid (Below w.heap.size w w1) := hide hb1
  clear hb1
  by_cases hq1 : 0 ≤ r1
  · have _hq := hq1
    have hn : ps.length ≤ 1048576 := by have := hr1 hq1; omega
    clear hr1
    go_wp2_with fail
    refine (lawsszCrucibleS_any A1 c1 cs _ _ (HY.out.below B1.out) hk HT.out (by omega) (by omega)).mono ?_
    rintro e w2 ⟨r2, rfl, ra2, rb2, hr2, hb2⟩
    have z2 : w.heap.size ≤ w2.heap.size := Nat.le_trans z1 hb2.size
    have y2 : w1.heap.size ≤ w2.heap.size := hb2.size
    have B2 : Hid (Below w.heap.size w w2) := hide (B1.out.trans (hb2.mono z1))
    clear B1 hb2
    by_cases hq2 : 0 ≤ r2
    · have _hq := hq2
      have hm : cs.length ≤ 1048576 := by have := hr2 hq2; omega
      clear hr2
      go_wp2_with fail
      refine (lawstoPourS_o A c ps _ (HX.out.below B2.out) hn).mono ?_
      rintro e w3 ⟨bY, rfl, hOY, hb3⟩
      have z3 : w.heap.size ≤ w3.heap.size := Nat.le_trans z2 hb3.size
      have y3 : w2.heap.size ≤ w3.heap.size := hb3.size
      have B3 : Hid (Below w.heap.size w w3) := hide (B2.out.trans (hb3.mono z2))
      clear B2 hb3
      have Y_3 := hide hOY
      have Y_lt := hide (fun k hk => ((hOY).lt k hk).2)
      clear hOY
      go_wp2_with fail
      refine (lawstoCrucibleS_o A1 c1 cs _ (HY.out.below B3.out) hm).mono ?_
      rintro e w4 ⟨bZ, rfl, hOZ, hb4⟩
      have z4 : w.heap.size ≤ w4.heap.size := Nat.le_trans z3 hb4.size
      have y4 : w3.heap.size ≤ w4.heap.size := hb4.size
      have B4 : Hid (Below w.heap.size w w4) := hide (B3.out.trans (hb4.mono z3))
      have Y_4 := hide (Y_3.out.below hb4)
      clear Y_3 B3 hb4
      have Z_4 := hide hOZ
      have Z_lt := hide (fun k hk => ((hOZ).lt k hk).2)
      clear hOZ
      go_wp2_with fail
      refine (specCountSchedules _ _ _ _ ps cs bud _ ((Y_4.out).at_ (fun _ => rfl)) ((Z_4.out).at_ (fun _ => rfl)) hn hm HS.out HT.out).mono ?_
      rintro e w5 ⟨rfl, hb5⟩
      have z5 : w.heap.size ≤ w5.heap.size := Nat.le_trans z4 hb5.size
      have y5 : w4.heap.size ≤ w5.heap.size := hb5.size
      have B5 : Hid (Below w.heap.size w w5) := hide (B4.out.trans (hb5.mono z4))
      have Y_5 := hide (Y_4.out.below hb5)
      have Z_5 := hide (Z_4.out.below hb5)
      clear Y_4 Z_4 B4 hb5
      clear Y_5 Y_lt
      clear Z_5 Z_lt
      go_wp2_with fail
      refine (lawstoPourS_o A c ps _ (HX.out.below B5.out) hn).mono ?_
      rintro e w6 ⟨bX, rfl, hOX, hb6⟩
      have z6 : w.heap.size ≤ w6.heap.size := Nat.le_trans z5 hb6.size
      have y6 : w5.heap.size ≤ w6.heap.size := hb6.size
      have B6 : Hid (Below w.heap.size w w6) := hide (B5.out.trans (hb6.mono z5))
      clear B5 hb6
      have X_6 := hide hOX
      have X_lt := hide (fun k hk => ((hOX).lt k hk).2)
      clear hOX
      go_wp2_with fail
      refine (lawstoCrucibleS_o A1 c1 cs _ (HY.out.below B6.out) hm).mono ?_
      rintro e w7 ⟨bV, rfl, hOV, hb7⟩
      have z7 : w.heap.size ≤ w7.heap.size := Nat.le_trans z6 hb7.size
      have y7 : w6.heap.size ≤ w7.heap.size := hb7.size
      have B7 : Hid (Below w.heap.size w w7) := hide (B6.out.trans (hb7.mono z6))
      have X_7 := hide (X_6.out.below hb7)
      clear X_6 B6 hb7
      have V_7 := hide hOV
      have V_lt := hide (fun k hk => ((hOV).lt k hk).2)
      clear hOV
      go_wp2_with fail
      refine (implCountSchedules _ _ _ _ ps cs bud _ ((X_7.out).at_ (fun _ => rfl)) ((V_7.out).at_ (fun _ => rfl)) hn hm HS.out HT.out).mono ?_
      rintro e w8 ⟨rfl, hb8⟩
      have z8 : w.heap.size ≤ w8.heap.size := Nat.le_trans z7 hb8.size
      have y8 : w7.heap.size ≤ w8.heap.size := hb8.size
      have B8 : Hid (Below w.heap.size w w8) := hide (B7.out.trans (hb8.mono z7))
      have X_8 := hide (X_7.out.below hb8)
      have V_8 := hide (V_7.out.below hb8)
      clear X_7 V_7 B7 hb8
      go_wp2_with fail
      refine (lawstoPourS_o A c ps _ (HX.out.below B8.out) hn).mono ?_
      rintro e w9 ⟨bXe, rfl, hOXe, hb9⟩
      have z9 : w.heap.size ≤ w9.heap.size := Nat.le_trans z8 hb9.size
      have y9 : w8.heap.size ≤ w9.heap.size := hb9.size
      have B9 : Hid (Below w.heap.size w w9) := hide (B8.out.trans (hb9.mono z8))
      have X_9 := hide (X_8.out.below hb9)
      have V_9 := hide (V_8.out.below hb9)
      clear X_8 V_8 B8 hb9
      have Xe_9 := hide hOXe
      have Xe_lt := hide (fun k hk => ((hOXe).lt k hk).2)
      clear hOXe
      go_wp2_with fail
      refine (lawseqPourS_same _ _ _ _ ps _ ((X_9.out).at_ (fun _ => rfl)) ((Xe_9.out).at_ (fun _ => rfl)) hn).mono ?_
      rintro e w10 ⟨rfl, hb10⟩
      have z10 : w.heap.size ≤ w10.heap.size := Nat.le_trans z9 hb10.size
      have y10 : w9.heap.size ≤ w10.heap.size := hb10.size
      have B10 : Hid (Below w.heap.size w w10) := hide (B9.out.trans (hb10.mono z9))
      have X_10 := hide (X_9.out.below hb10)
      have V_10 := hide (V_9.out.below hb10)
      have Xe_10 := hide (Xe_9.out.below hb10)
      clear X_9 V_9 Xe_9 B9 hb10
      go_wp2_with fail
      refine (lawstoCrucibleS_o A1 c1 cs _ (HY.out.below B10.out) hm).mono ?_
      rintro e w11 ⟨bVe, rfl, hOVe, hb11⟩
      have z11 : w.heap.size ≤ w11.heap.size := Nat.le_trans z10 hb11.size
      have y11 : w10.heap.size ≤ w11.heap.size := hb11.size
      have B11 : Hid (Below w.heap.size w w11) := hide (B10.out.trans (hb11.mono z10))
      have X_11 := hide (X_10.out.below hb11)
      have V_11 := hide (V_10.out.below hb11)
      have Xe_11 := hide (Xe_10.out.below hb11)
      clear X_10 V_10 Xe_10 B10 hb11
      have Ve_11 := hide hOVe
      have Ve_lt := hide (fun k hk => ((hOVe).lt k hk).2)
      clear hOVe
      go_wp2_with fail
      refine (lawseqCrucibleS_same _ _ _ _ cs _ ((V_11.out).at_ (fun _ => rfl)) ((Ve_11.out).at_ (fun _ => rfl)) hm).mono ?_
      rintro e w12 ⟨rfl, hb12⟩
      have z12 : w.heap.size ≤ w12.heap.size := Nat.le_trans z11 hb12.size
      have y12 : w11.heap.size ≤ w12.heap.size := hb12.size
      have B12 : Hid (Below w.heap.size w w12) := hide (B11.out.trans (hb12.mono z11))
      have X_12 := hide (X_11.out.below hb12)
      have V_12 := hide (V_11.out.below hb12)
      have Xe_12 := hide (Xe_11.out.below hb12)
      have Ve_12 := hide (Ve_11.out.below hb12)
      clear X_11 V_11 Xe_11 Ve_11 B11 hb12
      go_wp2_with fail
      go_ret
      exact ⟨rfl, Below.trans HBW.out (B12.out.mono (by simp))⟩
    · go_wp2_with fail
      go_ret
      exact ⟨rfl, Below.trans HBW.out (B2.out.mono (by simp))⟩
  · go_wp2_with fail
    go_ret
    exact ⟨rfl, Below.trans HBW.out (B1.out.mono (by simp))⟩
end Go.Proofs.Ytklmbgefdopifaa
