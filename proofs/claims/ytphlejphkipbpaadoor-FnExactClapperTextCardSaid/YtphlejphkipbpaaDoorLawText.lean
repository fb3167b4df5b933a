/- The walks of the laws of the texts of a tower, a swing, a place and a clapper. Condition: the library's table of powers of ten is laid. -/
import Derived.Test.YtphlejphkipbpaaDoorTextTower
import Derived.Test.YtphlejphkipbpaaDoorTextSwing
import Derived.Test.YtphlejphkipbpaaDoorTextPlace
import Derived.Test.YtphlejphkipbpaaDoorTextClapper
namespace Go.Proofs.YtphlejphkipbpaaDoor
open Go.RowKit Go.Lib

set_option maxRecDepth 100000 in
theorem lawTowerText (x0 : ByteArray) (x1 x2 x3 x4 : Int) (w : World) (hE : EnvT w) (hs : x0.size ≤ maxLen) :
    Calls Tryd.prog 5 #[.agg #[.string x0, .int .i64 x1, .int .i64 x2, .int .i64 x3, .int .i64 x4]] w fun e w' => e = .returned (.bool true) ∧ Below w.heap.size w w' := by
  have HE := hide hE
  clear hE
  go_enter Tryd.func5, Tryd.ntmps5
  go_wp2_with fail
  refine (lawsszTower_any x0 x1 x2 x3 x4 _ _ hs (by omega) (by omega)).mono ?_
  rintro e w1 ⟨r, rfl, r0, r1, hb1⟩
  obtain ⟨fcb1, ffb1, fzb1⟩ := bfacts hb1 (by first | exact Nat.le_refl _ | omega | (simp; omega) | simp); have fsb1 := hb1.size; try simp at fcb1 ffb1 fzb1 fsb1 hb1
  by_cases hq : 0 ≤ r
  · have _q := hq
    go_wp2_with fail
    refine (lawstoTower x0 x1 x2 x3 x4 _).mono ?_
    rintro e w2 ⟨rfl, hb2⟩
    have hbn := Below.trans (by first | exact hb1 | exact below_drewN hb1 _) (Below.mono hb2 (by first | omega | (simp; omega) | simp))
    clear hb2 fcb1 ffb1 fzb1 fsb1
    clear hb1
    have hb2 := hbn
    clear hbn
    obtain ⟨fcb2, ffb2, fzb2⟩ := bfacts hb2 (by first | exact Nat.le_refl _ | omega | (simp; omega) | simp); have fsb2 := hb2.size; try simp at fcb2 ffb2 fzb2 fsb2 hb2
    go_wp2_with fail
    refine (specTowerText x0 x1 x2 x3 x4 _ hs).mono ?_
    rintro e w3 ⟨rfl, hb3⟩
    have hbn := Below.trans (by first | exact hb2 | exact below_drewN hb2 _) (Below.mono hb3 (by first | omega | (simp; omega) | simp))
    clear hb3 fcb2 ffb2 fzb2 fsb2
    clear hb2
    have hb3 := hbn
    clear hbn
    obtain ⟨fcb3, ffb3, fzb3⟩ := bfacts hb3 (by first | exact Nat.le_refl _ | omega | (simp; omega) | simp); have fsb3 := hb3.size; try simp at fcb3 ffb3 fzb3 fsb3 hb3
    go_wp2_with fail
    refine (lawstoTower x0 x1 x2 x3 x4 _).mono ?_
    rintro e w4 ⟨rfl, hb4⟩
    have hbn := Below.trans (by first | exact hb3 | exact below_drewN hb3 _) (Below.mono hb4 (by first | omega | (simp; omega) | simp))
    clear hb4 fcb3 ffb3 fzb3 fsb3
    clear hb3
    have hb4 := hbn
    clear hbn
    obtain ⟨fcb4, ffb4, fzb4⟩ := bfacts hb4 (by first | exact Nat.le_refl _ | omega | (simp; omega) | simp); have fsb4 := hb4.size; try simp at fcb4 ffb4 fzb4 fsb4 hb4
    go_wp2_with fail
    refine (implTowerText x0 x1 x2 x3 x4 _ (HE.out.below (by repeat (first | with_reducible exact Below.refl _ _ | with_reducible assumption | (with_reducible refine Below.drew ?_) | (with_reducible refine below_drewN ?_ _) | ((with_reducible refine Below.alloc ?_ ?_ _); rotate_left; (focus (first | omega | (simp; omega) | simp))) | ((with_reducible refine Below.setCell ?_ ?_ _); rotate_left; (focus (first | omega | (simp; omega) | simp))) | (refine Below.trans ?_ (Below.mono (by assumption) (by first | omega | (simp; omega) | simp)))))) hs).mono ?_
    rintro e w5 ⟨rfl, hb5⟩
    have hbn := Below.trans (by first | exact hb4 | exact below_drewN hb4 _) (Below.mono hb5 (by first | omega | (simp; omega) | simp))
    clear hb5 fcb4 ffb4 fzb4 fsb4
    clear hb4
    have hb5 := hbn
    clear hbn
    obtain ⟨fcb5, ffb5, fzb5⟩ := bfacts hb5 (by first | exact Nat.le_refl _ | omega | (simp; omega) | simp); have fsb5 := hb5.size; try simp at fcb5 ffb5 fzb5 fsb5 hb5
    go_wp2_with fail
    go_ret
    exact ⟨rfl, (by repeat (first | with_reducible exact Below.refl _ _ | with_reducible assumption | (with_reducible refine Below.drew ?_) | (with_reducible refine below_drewN ?_ _) | ((with_reducible refine Below.alloc ?_ ?_ _); rotate_left; (focus (first | omega | (simp; omega) | simp))) | ((with_reducible refine Below.setCell ?_ ?_ _); rotate_left; (focus (first | omega | (simp; omega) | simp))) | (refine Below.trans ?_ (Below.mono (by assumption) (by first | omega | (simp; omega) | simp)))))⟩
  · go_wp2_with fail
    go_ret
    exact ⟨rfl, (by repeat (first | with_reducible exact Below.refl _ _ | with_reducible assumption | (with_reducible refine Below.drew ?_) | (with_reducible refine below_drewN ?_ _) | ((with_reducible refine Below.alloc ?_ ?_ _); rotate_left; (focus (first | omega | (simp; omega) | simp))) | ((with_reducible refine Below.setCell ?_ ?_ _); rotate_left; (focus (first | omega | (simp; omega) | simp))) | (refine Below.trans ?_ (Below.mono (by assumption) (by first | omega | (simp; omega) | simp)))))⟩
set_option maxRecDepth 100000 in
theorem lawSwingText (x0 : ByteArray) (x1 x2 : Int) (w : World) (hE : EnvT w) (hs : x0.size ≤ maxLen) :
    Calls Tryd.prog 4 #[.agg #[.string x0, .int .i64 x1, .int .i64 x2]] w fun e w' => e = .returned (.bool true) ∧ Below w.heap.size w w' := by
  have HE := hide hE
  clear hE
  go_enter Tryd.func4, Tryd.ntmps4
  go_wp2_with fail
  refine (lawsszSwing_any x0 x1 x2 _ _ hs (by omega) (by omega)).mono ?_
  rintro e w1 ⟨r, rfl, r0, r1, hb1⟩
  obtain ⟨fcb1, ffb1, fzb1⟩ := bfacts hb1 (by first | exact Nat.le_refl _ | omega | (simp; omega) | simp); have fsb1 := hb1.size; try simp at fcb1 ffb1 fzb1 fsb1 hb1
  by_cases hq : 0 ≤ r
  · have _q := hq
    go_wp2_with fail
    refine (lawstoSwing x0 x1 x2 _).mono ?_
    rintro e w2 ⟨rfl, hb2⟩
    have hbn := Below.trans (by first | exact hb1 | exact below_drewN hb1 _) (Below.mono hb2 (by first | omega | (simp; omega) | simp))
    clear hb2 fcb1 ffb1 fzb1 fsb1
    clear hb1
    have hb2 := hbn
    clear hbn
    obtain ⟨fcb2, ffb2, fzb2⟩ := bfacts hb2 (by first | exact Nat.le_refl _ | omega | (simp; omega) | simp); have fsb2 := hb2.size; try simp at fcb2 ffb2 fzb2 fsb2 hb2
    go_wp2_with fail
    refine (specSwingText x0 x1 x2 _ hs).mono ?_
    rintro e w3 ⟨rfl, hb3⟩
    have hbn := Below.trans (by first | exact hb2 | exact below_drewN hb2 _) (Below.mono hb3 (by first | omega | (simp; omega) | simp))
    clear hb3 fcb2 ffb2 fzb2 fsb2
    clear hb2
    have hb3 := hbn
    clear hbn
    obtain ⟨fcb3, ffb3, fzb3⟩ := bfacts hb3 (by first | exact Nat.le_refl _ | omega | (simp; omega) | simp); have fsb3 := hb3.size; try simp at fcb3 ffb3 fzb3 fsb3 hb3
    go_wp2_with fail
    refine (lawstoSwing x0 x1 x2 _).mono ?_
    rintro e w4 ⟨rfl, hb4⟩
    have hbn := Below.trans (by first | exact hb3 | exact below_drewN hb3 _) (Below.mono hb4 (by first | omega | (simp; omega) | simp))
    clear hb4 fcb3 ffb3 fzb3 fsb3
    clear hb3
    have hb4 := hbn
    clear hbn
    obtain ⟨fcb4, ffb4, fzb4⟩ := bfacts hb4 (by first | exact Nat.le_refl _ | omega | (simp; omega) | simp); have fsb4 := hb4.size; try simp at fcb4 ffb4 fzb4 fsb4 hb4
    go_wp2_with fail
    refine (implSwingText x0 x1 x2 _ (HE.out.below (by repeat (first | with_reducible exact Below.refl _ _ | with_reducible assumption | (with_reducible refine Below.drew ?_) | (with_reducible refine below_drewN ?_ _) | ((with_reducible refine Below.alloc ?_ ?_ _); rotate_left; (focus (first | omega | (simp; omega) | simp))) | ((with_reducible refine Below.setCell ?_ ?_ _); rotate_left; (focus (first | omega | (simp; omega) | simp))) | (refine Below.trans ?_ (Below.mono (by assumption) (by first | omega | (simp; omega) | simp)))))) hs).mono ?_
    rintro e w5 ⟨rfl, hb5⟩
    have hbn := Below.trans (by first | exact hb4 | exact below_drewN hb4 _) (Below.mono hb5 (by first | omega | (simp; omega) | simp))
    clear hb5 fcb4 ffb4 fzb4 fsb4
    clear hb4
    have hb5 := hbn
    clear hbn
    obtain ⟨fcb5, ffb5, fzb5⟩ := bfacts hb5 (by first | exact Nat.le_refl _ | omega | (simp; omega) | simp); have fsb5 := hb5.size; try simp at fcb5 ffb5 fzb5 fsb5 hb5
    go_wp2_with fail
    go_ret
    exact ⟨rfl, (by repeat (first | with_reducible exact Below.refl _ _ | with_reducible assumption | (with_reducible refine Below.drew ?_) | (with_reducible refine below_drewN ?_ _) | ((with_reducible refine Below.alloc ?_ ?_ _); rotate_left; (focus (first | omega | (simp; omega) | simp))) | ((with_reducible refine Below.setCell ?_ ?_ _); rotate_left; (focus (first | omega | (simp; omega) | simp))) | (refine Below.trans ?_ (Below.mono (by assumption) (by first | omega | (simp; omega) | simp)))))⟩
  · go_wp2_with fail
    go_ret
    exact ⟨rfl, (by repeat (first | with_reducible exact Below.refl _ _ | with_reducible assumption | (with_reducible refine Below.drew ?_) | (with_reducible refine below_drewN ?_ _) | ((with_reducible refine Below.alloc ?_ ?_ _); rotate_left; (focus (first | omega | (simp; omega) | simp))) | ((with_reducible refine Below.setCell ?_ ?_ _); rotate_left; (focus (first | omega | (simp; omega) | simp))) | (refine Below.trans ?_ (Below.mono (by assumption) (by first | omega | (simp; omega) | simp)))))⟩
set_option maxRecDepth 100000 in
theorem lawPlaceText (x0 : ByteArray) (x1 x2 x3 x4 : Int) (w : World) (hE : EnvT w) (hs : x0.size ≤ maxLen) :
    Calls Tryd.prog 6 #[.agg #[.string x0, .int .i64 x1, .int .i64 x2, .int .i64 x3, .int .i64 x4]] w fun e w' => e = .returned (.bool true) ∧ Below w.heap.size w w' := by
  have HE := hide hE
  clear hE
  go_enter Tryd.func6, Tryd.ntmps6
  go_wp2_with fail
  refine (lawsszPlace_any x0 x1 x2 x3 x4 _ _ hs (by omega) (by omega)).mono ?_
  rintro e w1 ⟨r, rfl, r0, r1, hb1⟩
  obtain ⟨fcb1, ffb1, fzb1⟩ := bfacts hb1 (by first | exact Nat.le_refl _ | omega | (simp; omega) | simp); have fsb1 := hb1.size; try simp at fcb1 ffb1 fzb1 fsb1 hb1
  by_cases hq : 0 ≤ r
  · have _q := hq
    go_wp2_with fail
    refine (lawstoPlace x0 x1 x2 x3 x4 _).mono ?_
    rintro e w2 ⟨rfl, hb2⟩
    have hbn := Below.trans (by first | exact hb1 | exact below_drewN hb1 _) (Below.mono hb2 (by first | omega | (simp; omega) | simp))
    clear hb2 fcb1 ffb1 fzb1 fsb1
    clear hb1
    have hb2 := hbn
    clear hbn
    obtain ⟨fcb2, ffb2, fzb2⟩ := bfacts hb2 (by first | exact Nat.le_refl _ | omega | (simp; omega) | simp); have fsb2 := hb2.size; try simp at fcb2 ffb2 fzb2 fsb2 hb2
    go_wp2_with fail
    refine (specPlaceText x0 x1 x2 x3 x4 _ hs).mono ?_
    rintro e w3 ⟨rfl, hb3⟩
    have hbn := Below.trans (by first | exact hb2 | exact below_drewN hb2 _) (Below.mono hb3 (by first | omega | (simp; omega) | simp))
    clear hb3 fcb2 ffb2 fzb2 fsb2
    clear hb2
    have hb3 := hbn
    clear hbn
    obtain ⟨fcb3, ffb3, fzb3⟩ := bfacts hb3 (by first | exact Nat.le_refl _ | omega | (simp; omega) | simp); have fsb3 := hb3.size; try simp at fcb3 ffb3 fzb3 fsb3 hb3
    go_wp2_with fail
    refine (lawstoPlace x0 x1 x2 x3 x4 _).mono ?_
    rintro e w4 ⟨rfl, hb4⟩
    have hbn := Below.trans (by first | exact hb3 | exact below_drewN hb3 _) (Below.mono hb4 (by first | omega | (simp; omega) | simp))
    clear hb4 fcb3 ffb3 fzb3 fsb3
    clear hb3
    have hb4 := hbn
    clear hbn
    obtain ⟨fcb4, ffb4, fzb4⟩ := bfacts hb4 (by first | exact Nat.le_refl _ | omega | (simp; omega) | simp); have fsb4 := hb4.size; try simp at fcb4 ffb4 fzb4 fsb4 hb4
    go_wp2_with fail
    refine (implPlaceText x0 x1 x2 x3 x4 _ (HE.out.below (by repeat (first | with_reducible exact Below.refl _ _ | with_reducible assumption | (with_reducible refine Below.drew ?_) | (with_reducible refine below_drewN ?_ _) | ((with_reducible refine Below.alloc ?_ ?_ _); rotate_left; (focus (first | omega | (simp; omega) | simp))) | ((with_reducible refine Below.setCell ?_ ?_ _); rotate_left; (focus (first | omega | (simp; omega) | simp))) | (refine Below.trans ?_ (Below.mono (by assumption) (by first | omega | (simp; omega) | simp)))))) hs).mono ?_
    rintro e w5 ⟨rfl, hb5⟩
    have hbn := Below.trans (by first | exact hb4 | exact below_drewN hb4 _) (Below.mono hb5 (by first | omega | (simp; omega) | simp))
    clear hb5 fcb4 ffb4 fzb4 fsb4
    clear hb4
    have hb5 := hbn
    clear hbn
    obtain ⟨fcb5, ffb5, fzb5⟩ := bfacts hb5 (by first | exact Nat.le_refl _ | omega | (simp; omega) | simp); have fsb5 := hb5.size; try simp at fcb5 ffb5 fzb5 fsb5 hb5
    go_wp2_with fail
    go_ret
    exact ⟨rfl, (by repeat (first | with_reducible exact Below.refl _ _ | with_reducible assumption | (with_reducible refine Below.drew ?_) | (with_reducible refine below_drewN ?_ _) | ((with_reducible refine Below.alloc ?_ ?_ _); rotate_left; (focus (first | omega | (simp; omega) | simp))) | ((with_reducible refine Below.setCell ?_ ?_ _); rotate_left; (focus (first | omega | (simp; omega) | simp))) | (refine Below.trans ?_ (Below.mono (by assumption) (by first | omega | (simp; omega) | simp)))))⟩
  · go_wp2_with fail
    go_ret
    exact ⟨rfl, (by repeat (first | with_reducible exact Below.refl _ _ | with_reducible assumption | (with_reducible refine Below.drew ?_) | (with_reducible refine below_drewN ?_ _) | ((with_reducible refine Below.alloc ?_ ?_ _); rotate_left; (focus (first | omega | (simp; omega) | simp))) | ((with_reducible refine Below.setCell ?_ ?_ _); rotate_left; (focus (first | omega | (simp; omega) | simp))) | (refine Below.trans ?_ (Below.mono (by assumption) (by first | omega | (simp; omega) | simp)))))⟩
set_option maxRecDepth 100000 in
theorem lawClapperText (x0 x1 x2 : Int) (w : World) (hE : EnvT w) :
    Calls Tryd.prog 3 #[.agg #[.int .i64 x0, .int .i64 x1, .int .i64 x2]] w fun e w' => e = .returned (.bool true) ∧ Below w.heap.size w w' := by
  have HE := hide hE
  clear hE
  go_enter Tryd.func3, Tryd.ntmps3
  go_wp2_with fail
  refine (lawstoClapper x0 x1 x2 _).mono ?_
  rintro e w2 ⟨rfl, hb2⟩
  obtain ⟨fcb2, ffb2, fzb2⟩ := bfacts hb2 (by first | exact Nat.le_refl _ | omega | (simp; omega) | simp); have fsb2 := hb2.size; try simp at fcb2 ffb2 fzb2 fsb2 hb2
  go_wp2_with fail
  refine (specClapperText x0 x1 x2 _).mono ?_
  rintro e w3 ⟨rfl, hb3⟩
  have hbn := Below.trans (by first | exact hb2 | exact below_drewN hb2 _) (Below.mono hb3 (by first | omega | (simp; omega) | simp))
  clear hb3 fcb2 ffb2 fzb2 fsb2
  clear hb2
  have hb3 := hbn
  clear hbn
  obtain ⟨fcb3, ffb3, fzb3⟩ := bfacts hb3 (by first | exact Nat.le_refl _ | omega | (simp; omega) | simp); have fsb3 := hb3.size; try simp at fcb3 ffb3 fzb3 fsb3 hb3
  go_wp2_with fail
  refine (lawstoClapper x0 x1 x2 _).mono ?_
  rintro e w4 ⟨rfl, hb4⟩
  have hbn := Below.trans (by first | exact hb3 | exact below_drewN hb3 _) (Below.mono hb4 (by first | omega | (simp; omega) | simp))
  clear hb4 fcb3 ffb3 fzb3 fsb3
  clear hb3
  have hb4 := hbn
  clear hbn
  obtain ⟨fcb4, ffb4, fzb4⟩ := bfacts hb4 (by first | exact Nat.le_refl _ | omega | (simp; omega) | simp); have fsb4 := hb4.size; try simp at fcb4 ffb4 fzb4 fsb4 hb4
  go_wp2_with fail
  refine (implClapperText x0 x1 x2 _ (HE.out.below (by repeat (first | with_reducible exact Below.refl _ _ | with_reducible assumption | (with_reducible refine Below.drew ?_) | (with_reducible refine below_drewN ?_ _) | ((with_reducible refine Below.alloc ?_ ?_ _); rotate_left; (focus (first | omega | (simp; omega) | simp))) | ((with_reducible refine Below.setCell ?_ ?_ _); rotate_left; (focus (first | omega | (simp; omega) | simp))) | (refine Below.trans ?_ (Below.mono (by assumption) (by first | omega | (simp; omega) | simp))))))).mono ?_
  rintro e w5 ⟨rfl, hb5⟩
  have hbn := Below.trans (by first | exact hb4 | exact below_drewN hb4 _) (Below.mono hb5 (by first | omega | (simp; omega) | simp))
  clear hb5 fcb4 ffb4 fzb4 fsb4
  clear hb4
  have hb5 := hbn
  clear hbn
  obtain ⟨fcb5, ffb5, fzb5⟩ := bfacts hb5 (by first | exact Nat.le_refl _ | omega | (simp; omega) | simp); have fsb5 := hb5.size; try simp at fcb5 ffb5 fzb5 fsb5 hb5
  go_wp2_with fail
  go_ret
  exact ⟨rfl, (by repeat (first | with_reducible exact Below.refl _ _ | with_reducible assumption | (with_reducible refine Below.drew ?_) | (with_reducible refine below_drewN ?_ _) | ((with_reducible refine Below.alloc ?_ ?_ _); rotate_left; (focus (first | omega | (simp; omega) | simp))) | ((with_reducible refine Below.setCell ?_ ?_ _); rotate_left; (focus (first | omega | (simp; omega) | simp))) | (refine Below.trans ?_ (Below.mono (by assumption) (by first | omega | (simp; omega) | simp)))))⟩
end Go.Proofs.YtphlejphkipbpaaDoor
