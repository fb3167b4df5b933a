/- The laws of charges, walked out of the contracts of both sides. -/
import Derived.Test.YtjklhacffdhgaaaChRX
namespace Go.Proofs.Ytjklhacffdhgaaa
open Go.RowKit

set_option maxRecDepth 100000 in
set_option maxHeartbeats 2000000 in
theorem lawCountCharges (A : Option Addr) (c : Nat) (xs : List IngotR) (d0 d1 d2 d3 d4 bud : Int) (w : World) (hx : SlAt encIngot 5 w A xs) (hl : xs.length ≤ 9223372036854775807) (hxs : ∀ x ∈ xs, x.nm.size ≤ maxLen) :
    Calls Try.prog 3 #[.slice A xs.length c, .agg #[.int .i64 d0, .int .i64 d1, .int .i64 d2, .int .i64 d3, .int .i64 d4], .int .i64 bud] w fun e w' => e = .returned (.bool true) ∧ Below w.heap.size w w' := by
  have hbW : Below w.heap.size w (w.alloc (.cells #[.int .i64 d0, .int .i64 d1, .int .i64 d2, .int .i64 d3, .int .i64 d4] 24)) := (by repeat (first | with_reducible exact Below.refl _ _ | with_reducible assumption | (with_reducible refine Below.drew ?_) | (with_reducible refine below_drewN ?_ _) | ((with_reducible refine Below.alloc ?_ ?_ _); rotate_left; (focus (first | omega | (simp; omega) | simp))) | ((with_reducible refine Below.setCell ?_ ?_ _); rotate_left; (focus (first | omega | (simp; omega) | simp))) | (refine Below.trans ?_ (Below.mono (by assumption) (by first | omega | (simp; omega) | simp)))))
  have HBW := hide hbW
  have HX := hide (hx.below hbW)
  have HS := hide hxs
  clear hxs
  clear hbW hx
  go_enter Try.func3, Try.ntmps3
  go_wp2_with fail
  refine (lawsszIngotS_any A c xs _ _ HX.out hl HS.out (by omega) (by omega)).mono ?_
  rintro e w1 ⟨r2, rfl, ra2, rb2, hr2, hb1⟩
  have z1 := hb1.size
  have B1 : Hid (Below (w.alloc (.cells #[.int .i64 d0, .int .i64 d1, .int .i64 d2, .int .i64 d3, .int .i64 d4] 24)).heap.size (w.alloc (.cells #[.int .i64 d0, .int .i64 d1, .int .i64 d2, .int .i64 d3, .int .i64 d4] 24)) w1) := hide hb1
  clear hb1
  by_cases hq2 : 0 ≤ r2
  · have _hq := hq2
    have hn : xs.length ≤ 1048576 := by have := hr2 hq2; omega
    clear hr2
    have p0_0 := B1.out.cell (p := ⟨w.heap.size, 0, none⟩) (by simp)
    have p0_1 := B1.out.cell (p := ⟨w.heap.size, 1, none⟩) (by simp)
    have p0_2 := B1.out.cell (p := ⟨w.heap.size, 2, none⟩) (by simp)
    have p0_3 := B1.out.cell (p := ⟨w.heap.size, 3, none⟩) (by simp)
    have p0_4 := B1.out.cell (p := ⟨w.heap.size, 4, none⟩) (by simp)
    simp at p0_0 p0_1 p0_2 p0_3 p0_4
    have zw : w.heap.size < w1.heap.size := by first | omega | (simp at z1; omega)
    go_wp2_with fail
    go_region_held3 (fun w' => w'.cell? ⟨w.heap.size, 0, none⟩ = some (.int .i64 d0) ∧ w'.cell? ⟨w.heap.size, 1, none⟩ = some (.int .i64 d1) ∧ w'.cell? ⟨w.heap.size, 2, none⟩ = some (.int .i64 d2) ∧ w'.cell? ⟨w.heap.size, 3, none⟩ = some (.int .i64 d3) ∧ w'.cell? ⟨w.heap.size, 4, none⟩ = some (.int .i64 d4) ∧ w.heap.size < w'.heap.size ∧ Below (w.alloc (.cells #[.int .i64 d0, .int .i64 d1, .int .i64 d2, .int .i64 d3, .int .i64 d4] 24)).heap.size (w.alloc (.cells #[.int .i64 d0, .int .i64 d1, .int .i64 d2, .int .i64 d3, .int .i64 d4] 24)) w')
      ((first | exact ⟨p0_0, p0_1, p0_2, p0_3, p0_4, zw, B1.out.drew⟩ | (go_split_ands; (repeat' apply And.intro); all_goals (first | exact (hbK.cell (by first | omega | (simp; omega) | simp)).trans (by assumption) | (have hq := hbK.size; (try simp at hq); omega) | (exact Below.trans (by assumption) (hbK.mono (by first | omega | (simp; omega) | simp)))))))
      (first | (go_at_call 16; refine (lawstoIngotS_o A c xs _ ?_ hn).mono ?_; (focus (go_split_ands; exact HX.out.below (by assumption))); rintro e wK ⟨bY, rfl, hOY, hbK⟩; have hbT := hbK) | (go_at_call 17; refine (lawstoDemand d0 d1 d2 d3 d4 _).mono ?_; rintro e wK ⟨rfl, hbK⟩; have hbT := hbT.trans (hbK.mono hbT.size); have hOY := hOY.below hbK) | (go_at_call 15; refine (specCountCharges d0 d1 d2 d3 d4 _ _ xs bud _ (hOY.at_ (fun _ => rfl)) hn HS.out).mono ?_; rintro e w2 ⟨rfl, hbK⟩; have hzT := hbT.size; have hbU := hbT.trans (hbK.mono hbT.size)))
    have hb2 : Below w1.heap.size w1 w2 := (Below.refl _ _).drew.trans hbU
    clear p0_0 p0_1 p0_2 p0_3 p0_4
    have z2 : (w.alloc (.cells #[.int .i64 d0, .int .i64 d1, .int .i64 d2, .int .i64 d3, .int .i64 d4] 24)).heap.size ≤ w2.heap.size := Nat.le_trans z1 hb2.size
    have y2 : w1.heap.size ≤ w2.heap.size := hb2.size
    have B2 : Hid (Below (w.alloc (.cells #[.int .i64 d0, .int .i64 d1, .int .i64 d2, .int .i64 d3, .int .i64 d4] 24)).heap.size (w.alloc (.cells #[.int .i64 d0, .int .i64 d1, .int .i64 d2, .int .i64 d3, .int .i64 d4] 24)) w2) := hide (B1.out.trans (hb2.mono z1))
    clear B1 hb2
    clear hbU hbT hzT hbK zw hOY
    go_wp2_with fail
    refine (lawstoIngotS_o A c xs _ (HX.out.below B2.out) hn).mono ?_
    rintro e w3 ⟨bX, rfl, hOX, hb3⟩
    have z3 : (w.alloc (.cells #[.int .i64 d0, .int .i64 d1, .int .i64 d2, .int .i64 d3, .int .i64 d4] 24)).heap.size ≤ w3.heap.size := Nat.le_trans z2 hb3.size
    have y3 : w2.heap.size ≤ w3.heap.size := hb3.size
    have B3 : Hid (Below (w.alloc (.cells #[.int .i64 d0, .int .i64 d1, .int .i64 d2, .int .i64 d3, .int .i64 d4] 24)).heap.size (w.alloc (.cells #[.int .i64 d0, .int .i64 d1, .int .i64 d2, .int .i64 d3, .int .i64 d4] 24)) w3) := hide (B2.out.trans (hb3.mono z2))
    clear B2 hb3
    have X_3 := hide hOX
    have X_lt := hide (fun k hk => ((hOX).lt k hk).2)
    clear hOX
    have p0_0 := B3.out.cell (p := ⟨w.heap.size, 0, none⟩) (by simp)
    have p0_1 := B3.out.cell (p := ⟨w.heap.size, 1, none⟩) (by simp)
    have p0_2 := B3.out.cell (p := ⟨w.heap.size, 2, none⟩) (by simp)
    have p0_3 := B3.out.cell (p := ⟨w.heap.size, 3, none⟩) (by simp)
    have p0_4 := B3.out.cell (p := ⟨w.heap.size, 4, none⟩) (by simp)
    simp at p0_0 p0_1 p0_2 p0_3 p0_4
    go_wp2_with fail
    refine (lawstoDemand d0 d1 d2 d3 d4 _).mono ?_
    rintro e w4 ⟨rfl, hb4⟩
    clear p0_0 p0_1 p0_2 p0_3 p0_4
    have z4 : (w.alloc (.cells #[.int .i64 d0, .int .i64 d1, .int .i64 d2, .int .i64 d3, .int .i64 d4] 24)).heap.size ≤ w4.heap.size := Nat.le_trans z3 hb4.size
    have y4 : w3.heap.size ≤ w4.heap.size := hb4.size
    have B4 : Hid (Below (w.alloc (.cells #[.int .i64 d0, .int .i64 d1, .int .i64 d2, .int .i64 d3, .int .i64 d4] 24)).heap.size (w.alloc (.cells #[.int .i64 d0, .int .i64 d1, .int .i64 d2, .int .i64 d3, .int .i64 d4] 24)) w4) := hide (B3.out.trans (hb4.mono z3))
    have X_4 := hide (X_3.out.below hb4)
    clear X_3 B3 hb4
    go_wp2_with fail
    refine (implCountCharges d0 d1 d2 d3 d4 _ _ xs bud _ ((X_4.out).at_ (fun _ => rfl)) hn HS.out).mono ?_
    rintro e w5 ⟨rfl, hb5⟩
    have z5 : (w.alloc (.cells #[.int .i64 d0, .int .i64 d1, .int .i64 d2, .int .i64 d3, .int .i64 d4] 24)).heap.size ≤ w5.heap.size := Nat.le_trans z4 hb5.size
    have y5 : w4.heap.size ≤ w5.heap.size := hb5.size
    have B5 : Hid (Below (w.alloc (.cells #[.int .i64 d0, .int .i64 d1, .int .i64 d2, .int .i64 d3, .int .i64 d4] 24)).heap.size (w.alloc (.cells #[.int .i64 d0, .int .i64 d1, .int .i64 d2, .int .i64 d3, .int .i64 d4] 24)) w5) := hide (B4.out.trans (hb5.mono z4))
    have X_5 := hide (X_4.out.below hb5)
    clear X_4 B4 hb5
    go_wp2_with fail
    refine (lawstoIngotS_o A c xs _ (HX.out.below B5.out) hn).mono ?_
    rintro e w6 ⟨bXe, rfl, hOXe, hb6⟩
    have z6 : (w.alloc (.cells #[.int .i64 d0, .int .i64 d1, .int .i64 d2, .int .i64 d3, .int .i64 d4] 24)).heap.size ≤ w6.heap.size := Nat.le_trans z5 hb6.size
    have y6 : w5.heap.size ≤ w6.heap.size := hb6.size
    have B6 : Hid (Below (w.alloc (.cells #[.int .i64 d0, .int .i64 d1, .int .i64 d2, .int .i64 d3, .int .i64 d4] 24)).heap.size (w.alloc (.cells #[.int .i64 d0, .int .i64 d1, .int .i64 d2, .int .i64 d3, .int .i64 d4] 24)) w6) := hide (B5.out.trans (hb6.mono z5))
    have X_6 := hide (X_5.out.below hb6)
    clear X_5 B5 hb6
    have Xe_6 := hide hOXe
    have Xe_lt := hide (fun k hk => ((hOXe).lt k hk).2)
    clear hOXe
    go_wp2_with fail
    refine (lawseqIngotS_same _ _ _ _ xs _ ((X_6.out).at_ (fun _ => rfl)) ((Xe_6.out).at_ (fun _ => rfl)) hn).mono ?_
    rintro e w7 ⟨rfl, hb7⟩
    have z7 : (w.alloc (.cells #[.int .i64 d0, .int .i64 d1, .int .i64 d2, .int .i64 d3, .int .i64 d4] 24)).heap.size ≤ w7.heap.size := Nat.le_trans z6 hb7.size
    have y7 : w6.heap.size ≤ w7.heap.size := hb7.size
    have B7 : Hid (Below (w.alloc (.cells #[.int .i64 d0, .int .i64 d1, .int .i64 d2, .int .i64 d3, .int .i64 d4] 24)).heap.size (w.alloc (.cells #[.int .i64 d0, .int .i64 d1, .int .i64 d2, .int .i64 d3, .int .i64 d4] 24)) w7) := hide (B6.out.trans (hb7.mono z6))
    have X_7 := hide (X_6.out.below hb7)
    have Xe_7 := hide (Xe_6.out.below hb7)
    clear X_6 Xe_6 B6 hb7
    go_wp2_with fail
    go_ret
    exact ⟨rfl, Below.trans HBW.out (B7.out.mono (by simp))⟩
  · go_wp2_with fail
    go_ret
    exact ⟨rfl, Below.trans HBW.out (B1.out.mono (by simp))⟩
set_option maxRecDepth 100000 in
set_option maxHeartbeats 2000000 in
theorem lawFirstCharge (A : Option Addr) (c : Nat) (xs : List IngotR) (d0 d1 d2 d3 d4 bud : Int) (w : World) (hx : SlAt encIngot 5 w A xs) (hl : xs.length ≤ 9223372036854775807) (hxs : ∀ x ∈ xs, x.nm.size ≤ maxLen) :
    Calls Try.prog 4 #[.slice A xs.length c, .agg #[.int .i64 d0, .int .i64 d1, .int .i64 d2, .int .i64 d3, .int .i64 d4], .int .i64 bud] w fun e w' => e = .returned (.bool true) ∧ Below w.heap.size w w' := by
  have hbW : Below w.heap.size w (w.alloc (.cells #[.int .i64 d0, .int .i64 d1, .int .i64 d2, .int .i64 d3, .int .i64 d4] 24)) := (by repeat (first | with_reducible exact Below.refl _ _ | with_reducible assumption | (with_reducible refine Below.drew ?_) | (with_reducible refine below_drewN ?_ _) | ((with_reducible refine Below.alloc ?_ ?_ _); rotate_left; (focus (first | omega | (simp; omega) | simp))) | ((with_reducible refine Below.setCell ?_ ?_ _); rotate_left; (focus (first | omega | (simp; omega) | simp))) | (refine Below.trans ?_ (Below.mono (by assumption) (by first | omega | (simp; omega) | simp)))))
  have HBW := hide hbW
  have HX := hide (hx.below hbW)
  have HS := hide hxs
  clear hxs
  clear hbW hx
  go_enter Try.func4, Try.ntmps4
  go_wp2_with fail
  refine (lawsszIngotS_any A c xs _ _ HX.out hl HS.out (by omega) (by omega)).mono ?_
  rintro e w1 ⟨r2, rfl, ra2, rb2, hr2, hb1⟩
  have z1 := hb1.size
  have B1 : Hid (Below (w.alloc (.cells #[.int .i64 d0, .int .i64 d1, .int .i64 d2, .int .i64 d3, .int .i64 d4] 24)).heap.size (w.alloc (.cells #[.int .i64 d0, .int .i64 d1, .int .i64 d2, .int .i64 d3, .int .i64 d4] 24)) w1) := hide hb1
  clear hb1
  by_cases hq2 : 0 ≤ r2
  · have _hq := hq2
    have hn : xs.length ≤ 1048576 := by have := hr2 hq2; omega
    clear hr2
    have p0_0 := B1.out.cell (p := ⟨w.heap.size, 0, none⟩) (by simp)
    have p0_1 := B1.out.cell (p := ⟨w.heap.size, 1, none⟩) (by simp)
    have p0_2 := B1.out.cell (p := ⟨w.heap.size, 2, none⟩) (by simp)
    have p0_3 := B1.out.cell (p := ⟨w.heap.size, 3, none⟩) (by simp)
    have p0_4 := B1.out.cell (p := ⟨w.heap.size, 4, none⟩) (by simp)
    simp at p0_0 p0_1 p0_2 p0_3 p0_4
    have zw : w.heap.size < w1.heap.size := by first | omega | (simp at z1; omega)
    go_wp2_with fail
    go_region_held3 (fun w' => w'.cell? ⟨w.heap.size, 0, none⟩ = some (.int .i64 d0) ∧ w'.cell? ⟨w.heap.size, 1, none⟩ = some (.int .i64 d1) ∧ w'.cell? ⟨w.heap.size, 2, none⟩ = some (.int .i64 d2) ∧ w'.cell? ⟨w.heap.size, 3, none⟩ = some (.int .i64 d3) ∧ w'.cell? ⟨w.heap.size, 4, none⟩ = some (.int .i64 d4) ∧ w.heap.size < w'.heap.size ∧ Below (w.alloc (.cells #[.int .i64 d0, .int .i64 d1, .int .i64 d2, .int .i64 d3, .int .i64 d4] 24)).heap.size (w.alloc (.cells #[.int .i64 d0, .int .i64 d1, .int .i64 d2, .int .i64 d3, .int .i64 d4] 24)) w')
      ((first | exact ⟨p0_0, p0_1, p0_2, p0_3, p0_4, zw, B1.out.drew⟩ | (go_split_ands; (repeat' apply And.intro); all_goals (first | exact (hbK.cell (by first | omega | (simp; omega) | simp)).trans (by assumption) | (have hq := hbK.size; (try simp at hq); omega) | (exact Below.trans (by assumption) (hbK.mono (by first | omega | (simp; omega) | simp)))))))
      (first | (go_at_call 16; refine (lawstoIngotS_o A c xs _ ?_ hn).mono ?_; (focus (go_split_ands; exact HX.out.below (by assumption))); rintro e wK ⟨bY, rfl, hOY, hbK⟩; have hbT := hbK) | (go_at_call 17; refine (lawstoDemand d0 d1 d2 d3 d4 _).mono ?_; rintro e wK ⟨rfl, hbK⟩; have hbT := hbT.trans (hbK.mono hbT.size); have hOY := hOY.below hbK) | (go_at_call 20; refine (specFirstCharge d0 d1 d2 d3 d4 _ _ xs bud _ (hOY.at_ (fun _ => rfl)) hn HS.out).mono ?_; rintro e w2 ⟨A0, c0, xs0, code0, rfl, hR0, hn0, hO0, hbK⟩; have hzT := hbT.size; have hbU := hbT.trans (hbK.mono hbT.size)))
    have hb2 : Below w1.heap.size w1 w2 := (Below.refl _ _).drew.trans hbU
    have hO0 := hO0.mono (B' := w1.heap.size) hzT
    clear p0_0 p0_1 p0_2 p0_3 p0_4
    have z2 : (w.alloc (.cells #[.int .i64 d0, .int .i64 d1, .int .i64 d2, .int .i64 d3, .int .i64 d4] 24)).heap.size ≤ w2.heap.size := Nat.le_trans z1 hb2.size
    have y2 : w1.heap.size ≤ w2.heap.size := hb2.size
    have B2 : Hid (Below (w.alloc (.cells #[.int .i64 d0, .int .i64 d1, .int .i64 d2, .int .i64 d3, .int .i64 d4] 24)).heap.size (w.alloc (.cells #[.int .i64 d0, .int .i64 d1, .int .i64 d2, .int .i64 d3, .int .i64 d4] 24)) w2) := hide (B1.out.trans (hb2.mono z1))
    clear B1 hb2
    clear hbU hbT hzT hbK zw hOY
    have S0_2 := hide hO0
    have S0_lt := hide (fun k hk => ((hO0).lt k hk).2)
    clear hO0
    go_wp2_with fail
    refine (lawstoIngotS_o A c xs _ (HX.out.below B2.out) hn).mono ?_
    rintro e w3 ⟨bX, rfl, hOX, hb3⟩
    have z3 : (w.alloc (.cells #[.int .i64 d0, .int .i64 d1, .int .i64 d2, .int .i64 d3, .int .i64 d4] 24)).heap.size ≤ w3.heap.size := Nat.le_trans z2 hb3.size
    have y3 : w2.heap.size ≤ w3.heap.size := hb3.size
    have B3 : Hid (Below (w.alloc (.cells #[.int .i64 d0, .int .i64 d1, .int .i64 d2, .int .i64 d3, .int .i64 d4] 24)).heap.size (w.alloc (.cells #[.int .i64 d0, .int .i64 d1, .int .i64 d2, .int .i64 d3, .int .i64 d4] 24)) w3) := hide (B2.out.trans (hb3.mono z2))
    have S0_3 := hide (S0_2.out.below hb3)
    clear S0_2 B2 hb3
    have X_3 := hide hOX
    have X_lt := hide (fun k hk => ((hOX).lt k hk).2)
    clear hOX
    have p0_0 := B3.out.cell (p := ⟨w.heap.size, 0, none⟩) (by simp)
    have p0_1 := B3.out.cell (p := ⟨w.heap.size, 1, none⟩) (by simp)
    have p0_2 := B3.out.cell (p := ⟨w.heap.size, 2, none⟩) (by simp)
    have p0_3 := B3.out.cell (p := ⟨w.heap.size, 3, none⟩) (by simp)
    have p0_4 := B3.out.cell (p := ⟨w.heap.size, 4, none⟩) (by simp)
    simp at p0_0 p0_1 p0_2 p0_3 p0_4
    go_wp2_with fail
    refine (lawstoDemand d0 d1 d2 d3 d4 _).mono ?_
    rintro e w4 ⟨rfl, hb4⟩
    clear p0_0 p0_1 p0_2 p0_3 p0_4
    have z4 : (w.alloc (.cells #[.int .i64 d0, .int .i64 d1, .int .i64 d2, .int .i64 d3, .int .i64 d4] 24)).heap.size ≤ w4.heap.size := Nat.le_trans z3 hb4.size
    have y4 : w3.heap.size ≤ w4.heap.size := hb4.size
    have B4 : Hid (Below (w.alloc (.cells #[.int .i64 d0, .int .i64 d1, .int .i64 d2, .int .i64 d3, .int .i64 d4] 24)).heap.size (w.alloc (.cells #[.int .i64 d0, .int .i64 d1, .int .i64 d2, .int .i64 d3, .int .i64 d4] 24)) w4) := hide (B3.out.trans (hb4.mono z3))
    have S0_4 := hide (S0_3.out.below hb4)
    have X_4 := hide (X_3.out.below hb4)
    clear S0_3 X_3 B3 hb4
    go_wp2_with fail
    refine (implFirstCharge d0 d1 d2 d3 d4 _ _ xs bud _ ((X_4.out).at_ (fun _ => rfl)) hn HS.out).mono ?_
    rintro e w5 ⟨A1, c1, xs1, code1, rfl, hR1, hn1, hO1, hb5⟩
    have z5 : (w.alloc (.cells #[.int .i64 d0, .int .i64 d1, .int .i64 d2, .int .i64 d3, .int .i64 d4] 24)).heap.size ≤ w5.heap.size := Nat.le_trans z4 hb5.size
    have y5 : w4.heap.size ≤ w5.heap.size := hb5.size
    have B5 : Hid (Below (w.alloc (.cells #[.int .i64 d0, .int .i64 d1, .int .i64 d2, .int .i64 d3, .int .i64 d4] 24)).heap.size (w.alloc (.cells #[.int .i64 d0, .int .i64 d1, .int .i64 d2, .int .i64 d3, .int .i64 d4] 24)) w5) := hide (B4.out.trans (hb5.mono z4))
    have S0_5 := hide (S0_4.out.below hb5)
    have X_5 := hide (X_4.out.below hb5)
    clear S0_4 X_4 B4 hb5
    have G0_5 := hide hO1
    have G0_lt := hide (fun k hk => ((hO1).lt k hk).2)
    clear hO1
    obtain ⟨rfl, rfl⟩ := pair_detC hR0 hR1
    clear hR1 hn1
    have hR0 := hide hR0
    go_wp2_with fail
    refine (lawseqInt64S_same _ _ _ _ xs0 _ ((G0_5.out).at_ (fun _ => rfl)) ((S0_5.out).at_ (fun _ => rfl)) hn0).mono ?_
    rintro e w6 ⟨rfl, hb6⟩
    have z6 : (w.alloc (.cells #[.int .i64 d0, .int .i64 d1, .int .i64 d2, .int .i64 d3, .int .i64 d4] 24)).heap.size ≤ w6.heap.size := Nat.le_trans z5 hb6.size
    have y6 : w5.heap.size ≤ w6.heap.size := hb6.size
    have B6 : Hid (Below (w.alloc (.cells #[.int .i64 d0, .int .i64 d1, .int .i64 d2, .int .i64 d3, .int .i64 d4] 24)).heap.size (w.alloc (.cells #[.int .i64 d0, .int .i64 d1, .int .i64 d2, .int .i64 d3, .int .i64 d4] 24)) w6) := hide (B5.out.trans (hb6.mono z5))
    have S0_6 := hide (S0_5.out.below hb6)
    have X_6 := hide (X_5.out.below hb6)
    have G0_6 := hide (G0_5.out.below hb6)
    clear S0_5 X_5 G0_5 B5 hb6
    go_wp2_with fail
    refine (lawstoIngotS_o A c xs _ (HX.out.below B6.out) hn).mono ?_
    rintro e w7 ⟨bXe, rfl, hOXe, hb7⟩
    have z7 : (w.alloc (.cells #[.int .i64 d0, .int .i64 d1, .int .i64 d2, .int .i64 d3, .int .i64 d4] 24)).heap.size ≤ w7.heap.size := Nat.le_trans z6 hb7.size
    have y7 : w6.heap.size ≤ w7.heap.size := hb7.size
    have B7 : Hid (Below (w.alloc (.cells #[.int .i64 d0, .int .i64 d1, .int .i64 d2, .int .i64 d3, .int .i64 d4] 24)).heap.size (w.alloc (.cells #[.int .i64 d0, .int .i64 d1, .int .i64 d2, .int .i64 d3, .int .i64 d4] 24)) w7) := hide (B6.out.trans (hb7.mono z6))
    have S0_7 := hide (S0_6.out.below hb7)
    have X_7 := hide (X_6.out.below hb7)
    have G0_7 := hide (G0_6.out.below hb7)
    clear S0_6 X_6 G0_6 B6 hb7
    have Xe_7 := hide hOXe
    have Xe_lt := hide (fun k hk => ((hOXe).lt k hk).2)
    clear hOXe
    go_wp2_with fail
    refine (lawseqIngotS_same _ _ _ _ xs _ ((X_7.out).at_ (fun _ => rfl)) ((Xe_7.out).at_ (fun _ => rfl)) hn).mono ?_
    rintro e w8 ⟨rfl, hb8⟩
    have z8 : (w.alloc (.cells #[.int .i64 d0, .int .i64 d1, .int .i64 d2, .int .i64 d3, .int .i64 d4] 24)).heap.size ≤ w8.heap.size := Nat.le_trans z7 hb8.size
    have y8 : w7.heap.size ≤ w8.heap.size := hb8.size
    have B8 : Hid (Below (w.alloc (.cells #[.int .i64 d0, .int .i64 d1, .int .i64 d2, .int .i64 d3, .int .i64 d4] 24)).heap.size (w.alloc (.cells #[.int .i64 d0, .int .i64 d1, .int .i64 d2, .int .i64 d3, .int .i64 d4] 24)) w8) := hide (B7.out.trans (hb8.mono z7))
    have S0_8 := hide (S0_7.out.below hb8)
    have X_8 := hide (X_7.out.below hb8)
    have G0_8 := hide (G0_7.out.below hb8)
    have Xe_8 := hide (Xe_7.out.below hb8)
    clear S0_7 X_7 G0_7 Xe_7 B7 hb8
    clear Xe_8 Xe_lt
    go_wp2_with fail
    refine (lawsmarkIngotS _ _ _ xs _ _ X_8.out hn (by omega) (by omega)).mono ?_
    rintro e w9 ⟨rfl, hO, hg⟩
    have hge := fun k hk => (X_8.out.lt k hk).1
    have y9 := hg.size
    have z9 : (w.alloc (.cells #[.int .i64 d0, .int .i64 d1, .int .i64 d2, .int .i64 d3, .int .i64 d4] 24)).heap.size ≤ w9.heap.size := Nat.le_trans z8 y9
    have B9 : Hid (Below (w.alloc (.cells #[.int .i64 d0, .int .i64 d1, .int .i64 d2, .int .i64 d3, .int .i64 d4] 24)).heap.size (w.alloc (.cells #[.int .i64 d0, .int .i64 d1, .int .i64 d2, .int .i64 d3, .int .i64 d4] 24)) w9) := hide (Below.grown B8.out hg z8 fun k hk => Nat.le_trans z2 (hge k hk))
    have S0_9 := hide (kept_older S0_8.out S0_lt.out hg hge (by omega))
    have X_9 := hide hO
    have G0_9 := hide (kept_newer G0_8.out hg X_lt.out (by omega))
    clear S0_8 X_8 G0_8 B8 hO hg hge
    clear X_9 X_lt
    go_wp2_with fail
    refine (lawseqInt64S_same _ _ _ _ xs0 _ ((G0_9.out).at_ (fun _ => rfl)) ((S0_9.out).at_ (fun _ => rfl)) hn0).mono ?_
    rintro e w10 ⟨rfl, hb10⟩
    have z10 : (w.alloc (.cells #[.int .i64 d0, .int .i64 d1, .int .i64 d2, .int .i64 d3, .int .i64 d4] 24)).heap.size ≤ w10.heap.size := Nat.le_trans z9 hb10.size
    have y10 : w9.heap.size ≤ w10.heap.size := hb10.size
    have B10 : Hid (Below (w.alloc (.cells #[.int .i64 d0, .int .i64 d1, .int .i64 d2, .int .i64 d3, .int .i64 d4] 24)).heap.size (w.alloc (.cells #[.int .i64 d0, .int .i64 d1, .int .i64 d2, .int .i64 d3, .int .i64 d4] 24)) w10) := hide (B9.out.trans (hb10.mono z9))
    have S0_10 := hide (S0_9.out.below hb10)
    have G0_10 := hide (G0_9.out.below hb10)
    clear S0_9 G0_9 B9 hb10
    go_wp2_with fail
    refine (lawsmarkInt64S _ _ _ xs0 _ _ G0_10.out hn0 (by omega) (by omega)).mono ?_
    rintro e w11 ⟨rfl, hO, hg⟩
    have hge := fun k hk => (G0_10.out.lt k hk).1
    have y11 := hg.size
    have z11 : (w.alloc (.cells #[.int .i64 d0, .int .i64 d1, .int .i64 d2, .int .i64 d3, .int .i64 d4] 24)).heap.size ≤ w11.heap.size := Nat.le_trans z10 y11
    have B11 : Hid (Below (w.alloc (.cells #[.int .i64 d0, .int .i64 d1, .int .i64 d2, .int .i64 d3, .int .i64 d4] 24)).heap.size (w.alloc (.cells #[.int .i64 d0, .int .i64 d1, .int .i64 d2, .int .i64 d3, .int .i64 d4] 24)) w11) := hide (Below.grown B10.out hg z10 fun k hk => Nat.le_trans z4 (hge k hk))
    have S0_11 := hide (kept_older S0_10.out S0_lt.out hg hge (by omega))
    have G0_11 := hide hO
    clear S0_10 G0_10 B10 hO hg hge
    go_wp2_with fail
    refine (held_own_I G0_11.out hn0 (by omega) (by omega)).mono ?_
    rintro e w12 ⟨rfl, hb12⟩
    have z12 : (w.alloc (.cells #[.int .i64 d0, .int .i64 d1, .int .i64 d2, .int .i64 d3, .int .i64 d4] 24)).heap.size ≤ w12.heap.size := Nat.le_trans z11 hb12.size
    have y12 : w11.heap.size ≤ w12.heap.size := hb12.size
    have B12 : Hid (Below (w.alloc (.cells #[.int .i64 d0, .int .i64 d1, .int .i64 d2, .int .i64 d3, .int .i64 d4] 24)).heap.size (w.alloc (.cells #[.int .i64 d0, .int .i64 d1, .int .i64 d2, .int .i64 d3, .int .i64 d4] 24)) w12) := hide (B11.out.trans (hb12.mono z11))
    have S0_12 := hide (S0_11.out.below hb12)
    have G0_12 := hide (G0_11.out.below hb12)
    clear S0_11 G0_11 B11 hb12
    have p0_0 := B12.out.cell (p := ⟨w.heap.size, 0, none⟩) (by simp)
    have p0_1 := B12.out.cell (p := ⟨w.heap.size, 1, none⟩) (by simp)
    have p0_2 := B12.out.cell (p := ⟨w.heap.size, 2, none⟩) (by simp)
    have p0_3 := B12.out.cell (p := ⟨w.heap.size, 3, none⟩) (by simp)
    have p0_4 := B12.out.cell (p := ⟨w.heap.size, 4, none⟩) (by simp)
    simp at p0_0 p0_1 p0_2 p0_3 p0_4
    have zw : w.heap.size < w12.heap.size := by first | omega | (simp at z12; omega)
    go_wp2_with fail
    go_region_held3 (fun w' => w'.cell? ⟨w.heap.size, 0, none⟩ = some (.int .i64 d0) ∧ w'.cell? ⟨w.heap.size, 1, none⟩ = some (.int .i64 d1) ∧ w'.cell? ⟨w.heap.size, 2, none⟩ = some (.int .i64 d2) ∧ w'.cell? ⟨w.heap.size, 3, none⟩ = some (.int .i64 d3) ∧ w'.cell? ⟨w.heap.size, 4, none⟩ = some (.int .i64 d4) ∧ w.heap.size < w'.heap.size ∧ Below (w.alloc (.cells #[.int .i64 d0, .int .i64 d1, .int .i64 d2, .int .i64 d3, .int .i64 d4] 24)).heap.size (w.alloc (.cells #[.int .i64 d0, .int .i64 d1, .int .i64 d2, .int .i64 d3, .int .i64 d4] 24)) w')
      ((first | exact ⟨p0_0, p0_1, p0_2, p0_3, p0_4, zw, B12.out.drew⟩ | (go_split_ands; (repeat' apply And.intro); all_goals (first | exact (hbK.cell (by first | omega | (simp; omega) | simp)).trans (by assumption) | (have hq := hbK.size; (try simp at hq); omega) | (exact Below.trans (by assumption) (hbK.mono (by first | omega | (simp; omega) | simp)))))))
      (first | (go_at_call 16; refine (lawstoIngotS_o A c xs _ ?_ hn).mono ?_; (focus (go_split_ands; exact HX.out.below (by assumption))); rintro e wK ⟨bYh, rfl, hOYh, hbK⟩; have hbT := hbK) | (go_at_call 17; refine (lawstoDemand d0 d1 d2 d3 d4 _).mono ?_; rintro e wK ⟨rfl, hbK⟩; have hbT := hbT.trans (hbK.mono hbT.size); have hOYh := hOYh.below hbK) | (go_at_call 21; refine (implFirstCharge d0 d1 d2 d3 d4 _ _ xs bud _ (hOYh.at_ (fun _ => rfl)) hn HS.out).mono ?_; rintro e w13 ⟨A2, c2, xs2, code2, rfl, hR2, hn2, hO2, hbK⟩; have hzT := hbT.size; have hbU := hbT.trans (hbK.mono hbT.size)))
    have hb13 : Below w12.heap.size w12 w13 := (Below.refl _ _).drew.trans hbU
    have hO2 := hO2.mono (B' := w12.heap.size) hzT
    clear p0_0 p0_1 p0_2 p0_3 p0_4
    have z13 : (w.alloc (.cells #[.int .i64 d0, .int .i64 d1, .int .i64 d2, .int .i64 d3, .int .i64 d4] 24)).heap.size ≤ w13.heap.size := Nat.le_trans z12 hb13.size
    have y13 : w12.heap.size ≤ w13.heap.size := hb13.size
    have B13 : Hid (Below (w.alloc (.cells #[.int .i64 d0, .int .i64 d1, .int .i64 d2, .int .i64 d3, .int .i64 d4] 24)).heap.size (w.alloc (.cells #[.int .i64 d0, .int .i64 d1, .int .i64 d2, .int .i64 d3, .int .i64 d4] 24)) w13) := hide (B12.out.trans (hb13.mono z12))
    have S0_13 := hide (S0_12.out.below hb13)
    have G0_13 := hide (G0_12.out.below hb13)
    clear S0_12 G0_12 B12 hb13
    clear hbU hbT hzT hbK zw hOYh
    have H0_13 := hide hO2
    have H0_lt := hide (fun k hk => ((hO2).lt k hk).2)
    clear hO2
    obtain ⟨rfl, rfl⟩ := pair_detC hR0.out hR2
    go_wp2_with fail
    refine (lawseqInt64S_same _ _ _ _ xs0 _ ((H0_13.out).at_ (fun _ => rfl)) ((S0_13.out).at_ (fun _ => rfl)) hn0).mono ?_
    rintro e w14 ⟨rfl, hb14⟩
    have z14 : (w.alloc (.cells #[.int .i64 d0, .int .i64 d1, .int .i64 d2, .int .i64 d3, .int .i64 d4] 24)).heap.size ≤ w14.heap.size := Nat.le_trans z13 hb14.size
    have y14 : w13.heap.size ≤ w14.heap.size := hb14.size
    have B14 : Hid (Below (w.alloc (.cells #[.int .i64 d0, .int .i64 d1, .int .i64 d2, .int .i64 d3, .int .i64 d4] 24)).heap.size (w.alloc (.cells #[.int .i64 d0, .int .i64 d1, .int .i64 d2, .int .i64 d3, .int .i64 d4] 24)) w14) := hide (B13.out.trans (hb14.mono z13))
    have S0_14 := hide (S0_13.out.below hb14)
    have G0_14 := hide (G0_13.out.below hb14)
    have H0_14 := hide (H0_13.out.below hb14)
    clear S0_13 G0_13 H0_13 B13 hb14
    go_wp2_with fail
    refine (held_own_I G0_14.out hn0 (by omega) (by omega)).mono ?_
    rintro e w15 ⟨rfl, hb15⟩
    have z15 : (w.alloc (.cells #[.int .i64 d0, .int .i64 d1, .int .i64 d2, .int .i64 d3, .int .i64 d4] 24)).heap.size ≤ w15.heap.size := Nat.le_trans z14 hb15.size
    have y15 : w14.heap.size ≤ w15.heap.size := hb15.size
    have B15 : Hid (Below (w.alloc (.cells #[.int .i64 d0, .int .i64 d1, .int .i64 d2, .int .i64 d3, .int .i64 d4] 24)).heap.size (w.alloc (.cells #[.int .i64 d0, .int .i64 d1, .int .i64 d2, .int .i64 d3, .int .i64 d4] 24)) w15) := hide (B14.out.trans (hb15.mono z14))
    have S0_15 := hide (S0_14.out.below hb15)
    have G0_15 := hide (G0_14.out.below hb15)
    have H0_15 := hide (H0_14.out.below hb15)
    clear S0_14 G0_14 H0_14 B14 hb15
    go_wp2_with fail
    go_ret
    exact ⟨rfl, Below.trans HBW.out (B15.out.mono (by simp))⟩
  · go_wp2_with fail
    go_ret
    exact ⟨rfl, Below.trans HBW.out (B1.out.mono (by simp))⟩
set_option maxRecDepth 100000 in
set_option maxHeartbeats 2000000 in
theorem lawLeastCharge (A : Option Addr) (c : Nat) (xs : List IngotR) (d0 d1 d2 d3 d4 bud : Int) (w : World) (hx : SlAt encIngot 5 w A xs) (hl : xs.length ≤ 9223372036854775807) (hxs : ∀ x ∈ xs, x.nm.size ≤ maxLen) :
    Calls Try.prog 5 #[.slice A xs.length c, .agg #[.int .i64 d0, .int .i64 d1, .int .i64 d2, .int .i64 d3, .int .i64 d4], .int .i64 bud] w fun e w' => e = .returned (.bool true) ∧ Below w.heap.size w w' := by
  have hbW : Below w.heap.size w (w.alloc (.cells #[.int .i64 d0, .int .i64 d1, .int .i64 d2, .int .i64 d3, .int .i64 d4] 24)) := (by repeat (first | with_reducible exact Below.refl _ _ | with_reducible assumption | (with_reducible refine Below.drew ?_) | (with_reducible refine below_drewN ?_ _) | ((with_reducible refine Below.alloc ?_ ?_ _); rotate_left; (focus (first | omega | (simp; omega) | simp))) | ((with_reducible refine Below.setCell ?_ ?_ _); rotate_left; (focus (first | omega | (simp; omega) | simp))) | (refine Below.trans ?_ (Below.mono (by assumption) (by first | omega | (simp; omega) | simp)))))
  have HBW := hide hbW
  have HX := hide (hx.below hbW)
  have HS := hide hxs
  clear hxs
  clear hbW hx
  go_enter Try.func5, Try.ntmps5
  go_wp2_with fail
  refine (lawsszIngotS_any A c xs _ _ HX.out hl HS.out (by omega) (by omega)).mono ?_
  rintro e w1 ⟨r2, rfl, ra2, rb2, hr2, hb1⟩
  have z1 := hb1.size
  have B1 : Hid (Below (w.alloc (.cells #[.int .i64 d0, .int .i64 d1, .int .i64 d2, .int .i64 d3, .int .i64 d4] 24)).heap.size (w.alloc (.cells #[.int .i64 d0, .int .i64 d1, .int .i64 d2, .int .i64 d3, .int .i64 d4] 24)) w1) := hide hb1
  clear hb1
  by_cases hq2 : 0 ≤ r2
  · have _hq := hq2
    have hn : xs.length ≤ 1048576 := by have := hr2 hq2; omega
    clear hr2
    have p0_0 := B1.out.cell (p := ⟨w.heap.size, 0, none⟩) (by simp)
    have p0_1 := B1.out.cell (p := ⟨w.heap.size, 1, none⟩) (by simp)
    have p0_2 := B1.out.cell (p := ⟨w.heap.size, 2, none⟩) (by simp)
    have p0_3 := B1.out.cell (p := ⟨w.heap.size, 3, none⟩) (by simp)
    have p0_4 := B1.out.cell (p := ⟨w.heap.size, 4, none⟩) (by simp)
    simp at p0_0 p0_1 p0_2 p0_3 p0_4
    have zw : w.heap.size < w1.heap.size := by first | omega | (simp at z1; omega)
    go_wp2_with fail
    go_region_held3 (fun w' => w'.cell? ⟨w.heap.size, 0, none⟩ = some (.int .i64 d0) ∧ w'.cell? ⟨w.heap.size, 1, none⟩ = some (.int .i64 d1) ∧ w'.cell? ⟨w.heap.size, 2, none⟩ = some (.int .i64 d2) ∧ w'.cell? ⟨w.heap.size, 3, none⟩ = some (.int .i64 d3) ∧ w'.cell? ⟨w.heap.size, 4, none⟩ = some (.int .i64 d4) ∧ w.heap.size < w'.heap.size ∧ Below (w.alloc (.cells #[.int .i64 d0, .int .i64 d1, .int .i64 d2, .int .i64 d3, .int .i64 d4] 24)).heap.size (w.alloc (.cells #[.int .i64 d0, .int .i64 d1, .int .i64 d2, .int .i64 d3, .int .i64 d4] 24)) w')
      ((first | exact ⟨p0_0, p0_1, p0_2, p0_3, p0_4, zw, B1.out.drew⟩ | (go_split_ands; (repeat' apply And.intro); all_goals (first | exact (hbK.cell (by first | omega | (simp; omega) | simp)).trans (by assumption) | (have hq := hbK.size; (try simp at hq); omega) | (exact Below.trans (by assumption) (hbK.mono (by first | omega | (simp; omega) | simp)))))))
      (first | (go_at_call 16; refine (lawstoIngotS_o A c xs _ ?_ hn).mono ?_; (focus (go_split_ands; exact HX.out.below (by assumption))); rintro e wK ⟨bY, rfl, hOY, hbK⟩; have hbT := hbK) | (go_at_call 17; refine (lawstoDemand d0 d1 d2 d3 d4 _).mono ?_; rintro e wK ⟨rfl, hbK⟩; have hbT := hbT.trans (hbK.mono hbT.size); have hOY := hOY.below hbK) | (go_at_call 26; refine (specLeastCharge d0 d1 d2 d3 d4 _ _ xs bud _ (hOY.at_ (fun _ => rfl)) hn HS.out).mono ?_; rintro e w2 ⟨A0, c0, xs0, code0, rfl, hR0, hn0, hO0, hbK⟩; have hzT := hbT.size; have hbU := hbT.trans (hbK.mono hbT.size)))
    have hb2 : Below w1.heap.size w1 w2 := (Below.refl _ _).drew.trans hbU
    have hO0 := hO0.mono (B' := w1.heap.size) hzT
    clear p0_0 p0_1 p0_2 p0_3 p0_4
    have z2 : (w.alloc (.cells #[.int .i64 d0, .int .i64 d1, .int .i64 d2, .int .i64 d3, .int .i64 d4] 24)).heap.size ≤ w2.heap.size := Nat.le_trans z1 hb2.size
    have y2 : w1.heap.size ≤ w2.heap.size := hb2.size
    have B2 : Hid (Below (w.alloc (.cells #[.int .i64 d0, .int .i64 d1, .int .i64 d2, .int .i64 d3, .int .i64 d4] 24)).heap.size (w.alloc (.cells #[.int .i64 d0, .int .i64 d1, .int .i64 d2, .int .i64 d3, .int .i64 d4] 24)) w2) := hide (B1.out.trans (hb2.mono z1))
    clear B1 hb2
    clear hbU hbT hzT hbK zw hOY
    have S0_2 := hide hO0
    have S0_lt := hide (fun k hk => ((hO0).lt k hk).2)
    clear hO0
    go_wp2_with fail
    refine (lawstoIngotS_o A c xs _ (HX.out.below B2.out) hn).mono ?_
    rintro e w3 ⟨bX, rfl, hOX, hb3⟩
    have z3 : (w.alloc (.cells #[.int .i64 d0, .int .i64 d1, .int .i64 d2, .int .i64 d3, .int .i64 d4] 24)).heap.size ≤ w3.heap.size := Nat.le_trans z2 hb3.size
    have y3 : w2.heap.size ≤ w3.heap.size := hb3.size
    have B3 : Hid (Below (w.alloc (.cells #[.int .i64 d0, .int .i64 d1, .int .i64 d2, .int .i64 d3, .int .i64 d4] 24)).heap.size (w.alloc (.cells #[.int .i64 d0, .int .i64 d1, .int .i64 d2, .int .i64 d3, .int .i64 d4] 24)) w3) := hide (B2.out.trans (hb3.mono z2))
    have S0_3 := hide (S0_2.out.below hb3)
    clear S0_2 B2 hb3
    have X_3 := hide hOX
    have X_lt := hide (fun k hk => ((hOX).lt k hk).2)
    clear hOX
    have p0_0 := B3.out.cell (p := ⟨w.heap.size, 0, none⟩) (by simp)
    have p0_1 := B3.out.cell (p := ⟨w.heap.size, 1, none⟩) (by simp)
    have p0_2 := B3.out.cell (p := ⟨w.heap.size, 2, none⟩) (by simp)
    have p0_3 := B3.out.cell (p := ⟨w.heap.size, 3, none⟩) (by simp)
    have p0_4 := B3.out.cell (p := ⟨w.heap.size, 4, none⟩) (by simp)
    simp at p0_0 p0_1 p0_2 p0_3 p0_4
    go_wp2_with fail
    refine (lawstoDemand d0 d1 d2 d3 d4 _).mono ?_
    rintro e w4 ⟨rfl, hb4⟩
    clear p0_0 p0_1 p0_2 p0_3 p0_4
    have z4 : (w.alloc (.cells #[.int .i64 d0, .int .i64 d1, .int .i64 d2, .int .i64 d3, .int .i64 d4] 24)).heap.size ≤ w4.heap.size := Nat.le_trans z3 hb4.size
    have y4 : w3.heap.size ≤ w4.heap.size := hb4.size
    have B4 : Hid (Below (w.alloc (.cells #[.int .i64 d0, .int .i64 d1, .int .i64 d2, .int .i64 d3, .int .i64 d4] 24)).heap.size (w.alloc (.cells #[.int .i64 d0, .int .i64 d1, .int .i64 d2, .int .i64 d3, .int .i64 d4] 24)) w4) := hide (B3.out.trans (hb4.mono z3))
    have S0_4 := hide (S0_3.out.below hb4)
    have X_4 := hide (X_3.out.below hb4)
    clear S0_3 X_3 B3 hb4
    go_wp2_with fail
    refine (implLeastCharge d0 d1 d2 d3 d4 _ _ xs bud _ ((X_4.out).at_ (fun _ => rfl)) hn HS.out).mono ?_
    rintro e w5 ⟨A1, c1, xs1, code1, rfl, hR1, hn1, hO1, hb5⟩
    have z5 : (w.alloc (.cells #[.int .i64 d0, .int .i64 d1, .int .i64 d2, .int .i64 d3, .int .i64 d4] 24)).heap.size ≤ w5.heap.size := Nat.le_trans z4 hb5.size
    have y5 : w4.heap.size ≤ w5.heap.size := hb5.size
    have B5 : Hid (Below (w.alloc (.cells #[.int .i64 d0, .int .i64 d1, .int .i64 d2, .int .i64 d3, .int .i64 d4] 24)).heap.size (w.alloc (.cells #[.int .i64 d0, .int .i64 d1, .int .i64 d2, .int .i64 d3, .int .i64 d4] 24)) w5) := hide (B4.out.trans (hb5.mono z4))
    have S0_5 := hide (S0_4.out.below hb5)
    have X_5 := hide (X_4.out.below hb5)
    clear S0_4 X_4 B4 hb5
    have G0_5 := hide hO1
    have G0_lt := hide (fun k hk => ((hO1).lt k hk).2)
    clear hO1
    obtain ⟨rfl, rfl⟩ := pair_detC hR0 hR1
    clear hR1 hn1
    have hR0 := hide hR0
    go_wp2_with fail
    refine (lawseqInt64S_same _ _ _ _ xs0 _ ((G0_5.out).at_ (fun _ => rfl)) ((S0_5.out).at_ (fun _ => rfl)) hn0).mono ?_
    rintro e w6 ⟨rfl, hb6⟩
    have z6 : (w.alloc (.cells #[.int .i64 d0, .int .i64 d1, .int .i64 d2, .int .i64 d3, .int .i64 d4] 24)).heap.size ≤ w6.heap.size := Nat.le_trans z5 hb6.size
    have y6 : w5.heap.size ≤ w6.heap.size := hb6.size
    have B6 : Hid (Below (w.alloc (.cells #[.int .i64 d0, .int .i64 d1, .int .i64 d2, .int .i64 d3, .int .i64 d4] 24)).heap.size (w.alloc (.cells #[.int .i64 d0, .int .i64 d1, .int .i64 d2, .int .i64 d3, .int .i64 d4] 24)) w6) := hide (B5.out.trans (hb6.mono z5))
    have S0_6 := hide (S0_5.out.below hb6)
    have X_6 := hide (X_5.out.below hb6)
    have G0_6 := hide (G0_5.out.below hb6)
    clear S0_5 X_5 G0_5 B5 hb6
    go_wp2_with fail
    refine (lawstoIngotS_o A c xs _ (HX.out.below B6.out) hn).mono ?_
    rintro e w7 ⟨bXe, rfl, hOXe, hb7⟩
    have z7 : (w.alloc (.cells #[.int .i64 d0, .int .i64 d1, .int .i64 d2, .int .i64 d3, .int .i64 d4] 24)).heap.size ≤ w7.heap.size := Nat.le_trans z6 hb7.size
    have y7 : w6.heap.size ≤ w7.heap.size := hb7.size
    have B7 : Hid (Below (w.alloc (.cells #[.int .i64 d0, .int .i64 d1, .int .i64 d2, .int .i64 d3, .int .i64 d4] 24)).heap.size (w.alloc (.cells #[.int .i64 d0, .int .i64 d1, .int .i64 d2, .int .i64 d3, .int .i64 d4] 24)) w7) := hide (B6.out.trans (hb7.mono z6))
    have S0_7 := hide (S0_6.out.below hb7)
    have X_7 := hide (X_6.out.below hb7)
    have G0_7 := hide (G0_6.out.below hb7)
    clear S0_6 X_6 G0_6 B6 hb7
    have Xe_7 := hide hOXe
    have Xe_lt := hide (fun k hk => ((hOXe).lt k hk).2)
    clear hOXe
    go_wp2_with fail
    refine (lawseqIngotS_same _ _ _ _ xs _ ((X_7.out).at_ (fun _ => rfl)) ((Xe_7.out).at_ (fun _ => rfl)) hn).mono ?_
    rintro e w8 ⟨rfl, hb8⟩
    have z8 : (w.alloc (.cells #[.int .i64 d0, .int .i64 d1, .int .i64 d2, .int .i64 d3, .int .i64 d4] 24)).heap.size ≤ w8.heap.size := Nat.le_trans z7 hb8.size
    have y8 : w7.heap.size ≤ w8.heap.size := hb8.size
    have B8 : Hid (Below (w.alloc (.cells #[.int .i64 d0, .int .i64 d1, .int .i64 d2, .int .i64 d3, .int .i64 d4] 24)).heap.size (w.alloc (.cells #[.int .i64 d0, .int .i64 d1, .int .i64 d2, .int .i64 d3, .int .i64 d4] 24)) w8) := hide (B7.out.trans (hb8.mono z7))
    have S0_8 := hide (S0_7.out.below hb8)
    have X_8 := hide (X_7.out.below hb8)
    have G0_8 := hide (G0_7.out.below hb8)
    have Xe_8 := hide (Xe_7.out.below hb8)
    clear S0_7 X_7 G0_7 Xe_7 B7 hb8
    clear Xe_8 Xe_lt
    go_wp2_with fail
    refine (lawsmarkIngotS _ _ _ xs _ _ X_8.out hn (by omega) (by omega)).mono ?_
    rintro e w9 ⟨rfl, hO, hg⟩
    have hge := fun k hk => (X_8.out.lt k hk).1
    have y9 := hg.size
    have z9 : (w.alloc (.cells #[.int .i64 d0, .int .i64 d1, .int .i64 d2, .int .i64 d3, .int .i64 d4] 24)).heap.size ≤ w9.heap.size := Nat.le_trans z8 y9
    have B9 : Hid (Below (w.alloc (.cells #[.int .i64 d0, .int .i64 d1, .int .i64 d2, .int .i64 d3, .int .i64 d4] 24)).heap.size (w.alloc (.cells #[.int .i64 d0, .int .i64 d1, .int .i64 d2, .int .i64 d3, .int .i64 d4] 24)) w9) := hide (Below.grown B8.out hg z8 fun k hk => Nat.le_trans z2 (hge k hk))
    have S0_9 := hide (kept_older S0_8.out S0_lt.out hg hge (by omega))
    have X_9 := hide hO
    have G0_9 := hide (kept_newer G0_8.out hg X_lt.out (by omega))
    clear S0_8 X_8 G0_8 B8 hO hg hge
    clear X_9 X_lt
    go_wp2_with fail
    refine (lawseqInt64S_same _ _ _ _ xs0 _ ((G0_9.out).at_ (fun _ => rfl)) ((S0_9.out).at_ (fun _ => rfl)) hn0).mono ?_
    rintro e w10 ⟨rfl, hb10⟩
    have z10 : (w.alloc (.cells #[.int .i64 d0, .int .i64 d1, .int .i64 d2, .int .i64 d3, .int .i64 d4] 24)).heap.size ≤ w10.heap.size := Nat.le_trans z9 hb10.size
    have y10 : w9.heap.size ≤ w10.heap.size := hb10.size
    have B10 : Hid (Below (w.alloc (.cells #[.int .i64 d0, .int .i64 d1, .int .i64 d2, .int .i64 d3, .int .i64 d4] 24)).heap.size (w.alloc (.cells #[.int .i64 d0, .int .i64 d1, .int .i64 d2, .int .i64 d3, .int .i64 d4] 24)) w10) := hide (B9.out.trans (hb10.mono z9))
    have S0_10 := hide (S0_9.out.below hb10)
    have G0_10 := hide (G0_9.out.below hb10)
    clear S0_9 G0_9 B9 hb10
    go_wp2_with fail
    refine (lawsmarkInt64S _ _ _ xs0 _ _ G0_10.out hn0 (by omega) (by omega)).mono ?_
    rintro e w11 ⟨rfl, hO, hg⟩
    have hge := fun k hk => (G0_10.out.lt k hk).1
    have y11 := hg.size
    have z11 : (w.alloc (.cells #[.int .i64 d0, .int .i64 d1, .int .i64 d2, .int .i64 d3, .int .i64 d4] 24)).heap.size ≤ w11.heap.size := Nat.le_trans z10 y11
    have B11 : Hid (Below (w.alloc (.cells #[.int .i64 d0, .int .i64 d1, .int .i64 d2, .int .i64 d3, .int .i64 d4] 24)).heap.size (w.alloc (.cells #[.int .i64 d0, .int .i64 d1, .int .i64 d2, .int .i64 d3, .int .i64 d4] 24)) w11) := hide (Below.grown B10.out hg z10 fun k hk => Nat.le_trans z4 (hge k hk))
    have S0_11 := hide (kept_older S0_10.out S0_lt.out hg hge (by omega))
    have G0_11 := hide hO
    clear S0_10 G0_10 B10 hO hg hge
    go_wp2_with fail
    refine (held_own_I G0_11.out hn0 (by omega) (by omega)).mono ?_
    rintro e w12 ⟨rfl, hb12⟩
    have z12 : (w.alloc (.cells #[.int .i64 d0, .int .i64 d1, .int .i64 d2, .int .i64 d3, .int .i64 d4] 24)).heap.size ≤ w12.heap.size := Nat.le_trans z11 hb12.size
    have y12 : w11.heap.size ≤ w12.heap.size := hb12.size
    have B12 : Hid (Below (w.alloc (.cells #[.int .i64 d0, .int .i64 d1, .int .i64 d2, .int .i64 d3, .int .i64 d4] 24)).heap.size (w.alloc (.cells #[.int .i64 d0, .int .i64 d1, .int .i64 d2, .int .i64 d3, .int .i64 d4] 24)) w12) := hide (B11.out.trans (hb12.mono z11))
    have S0_12 := hide (S0_11.out.below hb12)
    have G0_12 := hide (G0_11.out.below hb12)
    clear S0_11 G0_11 B11 hb12
    have p0_0 := B12.out.cell (p := ⟨w.heap.size, 0, none⟩) (by simp)
    have p0_1 := B12.out.cell (p := ⟨w.heap.size, 1, none⟩) (by simp)
    have p0_2 := B12.out.cell (p := ⟨w.heap.size, 2, none⟩) (by simp)
    have p0_3 := B12.out.cell (p := ⟨w.heap.size, 3, none⟩) (by simp)
    have p0_4 := B12.out.cell (p := ⟨w.heap.size, 4, none⟩) (by simp)
    simp at p0_0 p0_1 p0_2 p0_3 p0_4
    have zw : w.heap.size < w12.heap.size := by first | omega | (simp at z12; omega)
    go_wp2_with fail
    go_region_held3 (fun w' => w'.cell? ⟨w.heap.size, 0, none⟩ = some (.int .i64 d0) ∧ w'.cell? ⟨w.heap.size, 1, none⟩ = some (.int .i64 d1) ∧ w'.cell? ⟨w.heap.size, 2, none⟩ = some (.int .i64 d2) ∧ w'.cell? ⟨w.heap.size, 3, none⟩ = some (.int .i64 d3) ∧ w'.cell? ⟨w.heap.size, 4, none⟩ = some (.int .i64 d4) ∧ w.heap.size < w'.heap.size ∧ Below (w.alloc (.cells #[.int .i64 d0, .int .i64 d1, .int .i64 d2, .int .i64 d3, .int .i64 d4] 24)).heap.size (w.alloc (.cells #[.int .i64 d0, .int .i64 d1, .int .i64 d2, .int .i64 d3, .int .i64 d4] 24)) w')
      ((first | exact ⟨p0_0, p0_1, p0_2, p0_3, p0_4, zw, B12.out.drew⟩ | (go_split_ands; (repeat' apply And.intro); all_goals (first | exact (hbK.cell (by first | omega | (simp; omega) | simp)).trans (by assumption) | (have hq := hbK.size; (try simp at hq); omega) | (exact Below.trans (by assumption) (hbK.mono (by first | omega | (simp; omega) | simp)))))))
      (first | (go_at_call 16; refine (lawstoIngotS_o A c xs _ ?_ hn).mono ?_; (focus (go_split_ands; exact HX.out.below (by assumption))); rintro e wK ⟨bYh, rfl, hOYh, hbK⟩; have hbT := hbK) | (go_at_call 17; refine (lawstoDemand d0 d1 d2 d3 d4 _).mono ?_; rintro e wK ⟨rfl, hbK⟩; have hbT := hbT.trans (hbK.mono hbT.size); have hOYh := hOYh.below hbK) | (go_at_call 27; refine (implLeastCharge d0 d1 d2 d3 d4 _ _ xs bud _ (hOYh.at_ (fun _ => rfl)) hn HS.out).mono ?_; rintro e w13 ⟨A2, c2, xs2, code2, rfl, hR2, hn2, hO2, hbK⟩; have hzT := hbT.size; have hbU := hbT.trans (hbK.mono hbT.size)))
    have hb13 : Below w12.heap.size w12 w13 := (Below.refl _ _).drew.trans hbU
    have hO2 := hO2.mono (B' := w12.heap.size) hzT
    clear p0_0 p0_1 p0_2 p0_3 p0_4
    have z13 : (w.alloc (.cells #[.int .i64 d0, .int .i64 d1, .int .i64 d2, .int .i64 d3, .int .i64 d4] 24)).heap.size ≤ w13.heap.size := Nat.le_trans z12 hb13.size
    have y13 : w12.heap.size ≤ w13.heap.size := hb13.size
    have B13 : Hid (Below (w.alloc (.cells #[.int .i64 d0, .int .i64 d1, .int .i64 d2, .int .i64 d3, .int .i64 d4] 24)).heap.size (w.alloc (.cells #[.int .i64 d0, .int .i64 d1, .int .i64 d2, .int .i64 d3, .int .i64 d4] 24)) w13) := hide (B12.out.trans (hb13.mono z12))
    have S0_13 := hide (S0_12.out.below hb13)
    have G0_13 := hide (G0_12.out.below hb13)
    clear S0_12 G0_12 B12 hb13
    clear hbU hbT hzT hbK zw hOYh
    have H0_13 := hide hO2
    have H0_lt := hide (fun k hk => ((hO2).lt k hk).2)
    clear hO2
    obtain ⟨rfl, rfl⟩ := pair_detC hR0.out hR2
    go_wp2_with fail
    refine (lawseqInt64S_same _ _ _ _ xs0 _ ((H0_13.out).at_ (fun _ => rfl)) ((S0_13.out).at_ (fun _ => rfl)) hn0).mono ?_
    rintro e w14 ⟨rfl, hb14⟩
    have z14 : (w.alloc (.cells #[.int .i64 d0, .int .i64 d1, .int .i64 d2, .int .i64 d3, .int .i64 d4] 24)).heap.size ≤ w14.heap.size := Nat.le_trans z13 hb14.size
    have y14 : w13.heap.size ≤ w14.heap.size := hb14.size
    have B14 : Hid (Below (w.alloc (.cells #[.int .i64 d0, .int .i64 d1, .int .i64 d2, .int .i64 d3, .int .i64 d4] 24)).heap.size (w.alloc (.cells #[.int .i64 d0, .int .i64 d1, .int .i64 d2, .int .i64 d3, .int .i64 d4] 24)) w14) := hide (B13.out.trans (hb14.mono z13))
    have S0_14 := hide (S0_13.out.below hb14)
    have G0_14 := hide (G0_13.out.below hb14)
    have H0_14 := hide (H0_13.out.below hb14)
    clear S0_13 G0_13 H0_13 B13 hb14
    go_wp2_with fail
    refine (held_own_I G0_14.out hn0 (by omega) (by omega)).mono ?_
    rintro e w15 ⟨rfl, hb15⟩
    have z15 : (w.alloc (.cells #[.int .i64 d0, .int .i64 d1, .int .i64 d2, .int .i64 d3, .int .i64 d4] 24)).heap.size ≤ w15.heap.size := Nat.le_trans z14 hb15.size
    have y15 : w14.heap.size ≤ w15.heap.size := hb15.size
    have B15 : Hid (Below (w.alloc (.cells #[.int .i64 d0, .int .i64 d1, .int .i64 d2, .int .i64 d3, .int .i64 d4] 24)).heap.size (w.alloc (.cells #[.int .i64 d0, .int .i64 d1, .int .i64 d2, .int .i64 d3, .int .i64 d4] 24)) w15) := hide (B14.out.trans (hb15.mono z14))
    have S0_15 := hide (S0_14.out.below hb15)
    have G0_15 := hide (G0_14.out.below hb15)
    have H0_15 := hide (H0_14.out.below hb15)
    clear S0_14 G0_14 H0_14 B14 hb15
    go_wp2_with fail
    go_ret
    exact ⟨rfl, Below.trans HBW.out (B15.out.mono (by simp))⟩
  · go_wp2_with fail
    go_ret
    exact ⟨rfl, Below.trans HBW.out (B1.out.mono (by simp))⟩
end Go.Proofs.Ytjklhacffdhgaaa
