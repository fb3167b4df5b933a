/- ResonanceOf on both sides, and its law's walk. -/
import Derived.Test.YtdimapcecdffnaaSway
namespace Go.Proofs.Ytdimapcecdffnaa
open Go.RowKit

@[irreducible] def resOf (nm : ByteArray) (sw dp sf lim rate : Int) : Int × Int := if vTower nm sw dp sf lim then (if inB rate 1 15000 then (fac sw dp rate, 0) else (0, 2)) else (0, 1)
theorem implResonanceOf (nm : ByteArray) (sw dp sf lim rate : Int) (w : World) (hs : nm.size ≤ maxLen) :
    Calls Try.prog 18 #[.agg #[.string nm, .int .i64 sw, .int .i64 dp, .int .i64 sf, .int .i64 lim], .int .i64 rate] w fun e w' =>
    e = .returned (.tuple #[.int .i64 (resOf nm sw dp sf lim rate).1, .int .i64 (resOf nm sw dp sf lim rate).2]) ∧ Below w.heap.size w w' := by
  cases h : vTower nm sw dp sf lim
  · have e : Hid (resOf nm sw dp sf lim rate = (0, 1)) := by unfold Hid resOf; simp [h]
    go_enter Try.func18, Try.ntmps18
    go_wp2_with fail
    refine (implValidTower _ _ _ _ _ _ hs).mono ?_
    rintro e w1 ⟨rfl, hb1⟩
    obtain ⟨fcb1, ffb1, fzb1⟩ := bfacts hb1 (by first | exact Nat.le_refl _ | omega | (simp; omega) | simp); have fsb1 := hb1.size; try simp at fcb1 ffb1 fzb1 fsb1 hb1
    go_wp2_with fail
    go_ret2
    exact ⟨ret_two e.out, (by repeat (first | with_reducible exact Below.refl _ _ | with_reducible assumption | (with_reducible refine Below.drew ?_) | (with_reducible refine below_drewN ?_ _) | ((with_reducible refine Below.alloc ?_ ?_ _); rotate_left; (focus (first | omega | (simp; omega) | simp))) | ((with_reducible refine Below.setCell ?_ ?_ _); rotate_left; (focus (first | omega | (simp; omega) | simp))) | (refine Below.trans ?_ (Below.mono (by assumption) (by first | omega | (simp; omega) | simp)))))⟩
  · cases h' : inB rate 1 15000
    · have e : Hid (resOf nm sw dp sf lim rate = (0, 2)) := by unfold Hid resOf; simp [h, h']
      go_enter Try.func18, Try.ntmps18
      go_wp2_with fail
      refine (implValidTower _ _ _ _ _ _ hs).mono ?_
      rintro e w1 ⟨rfl, hb1⟩
      obtain ⟨fcb1, ffb1, fzb1⟩ := bfacts hb1 (by first | exact Nat.le_refl _ | omega | (simp; omega) | simp); have fsb1 := hb1.size; try simp at fcb1 ffb1 fzb1 fsb1 hb1
      go_wp2_with fail
      refine (implwithin_any _ _ _ _).mono ?_; rintro e w2 ⟨rfl, rfl⟩
      go_wp2_with fail
      go_ret2
      exact ⟨ret_two e.out, (by repeat (first | with_reducible exact Below.refl _ _ | with_reducible assumption | (with_reducible refine Below.drew ?_) | (with_reducible refine below_drewN ?_ _) | ((with_reducible refine Below.alloc ?_ ?_ _); rotate_left; (focus (first | omega | (simp; omega) | simp))) | ((with_reducible refine Below.setCell ?_ ?_ _); rotate_left; (focus (first | omega | (simp; omega) | simp))) | (refine Below.trans ?_ (Below.mono (by assumption) (by first | omega | (simp; omega) | simp)))))⟩
    · have e : Hid (resOf nm sw dp sf lim rate = (fac sw dp rate, 0)) := by unfold Hid resOf; simp [h, h']
      obtain ⟨-, ⟨a1, a2⟩, ⟨a3, a4⟩, -, -⟩ := vTower_true _ _ _ _ _ h
      have b := inB_true h'
      go_enter Try.func18, Try.ntmps18
      go_wp2_with fail
      refine (implValidTower _ _ _ _ _ _ hs).mono ?_
      rintro e w1 ⟨rfl, hb1⟩
      obtain ⟨fcb1, ffb1, fzb1⟩ := bfacts hb1 (by first | exact Nat.le_refl _ | omega | (simp; omega) | simp); have fsb1 := hb1.size; try simp at fcb1 ffb1 fzb1 fsb1 hb1
      go_wp2_with fail
      refine (implwithin_any _ _ _ _).mono ?_; rintro e w2 ⟨rfl, rfl⟩
      go_wp2_with fail
      refine (implfactor _ _ _ _ _ _ _ a1 a2 a3 a4 b.1 b.2).mono ?_
      rintro e w3 ⟨rfl, hb3⟩
      have hbn := Below.trans (by first | exact hb1 | exact below_drewN hb1 _) (Below.mono hb3 (by first | omega | (simp; omega) | simp))
      clear hb3 fcb1 ffb1 fzb1 fsb1
      clear hb1
      have hb3 := hbn
      clear hbn
      obtain ⟨fcb3, ffb3, fzb3⟩ := bfacts hb3 (by first | exact Nat.le_refl _ | omega | (simp; omega) | simp); have fsb3 := hb3.size; try simp at fcb3 ffb3 fzb3 fsb3 hb3
      go_wp2_with fail
      go_ret2
      exact ⟨ret_two e.out, (by repeat (first | with_reducible exact Below.refl _ _ | with_reducible assumption | (with_reducible refine Below.drew ?_) | (with_reducible refine below_drewN ?_ _) | ((with_reducible refine Below.alloc ?_ ?_ _); rotate_left; (focus (first | omega | (simp; omega) | simp))) | ((with_reducible refine Below.setCell ?_ ?_ _); rotate_left; (focus (first | omega | (simp; omega) | simp))) | (refine Below.trans ?_ (Below.mono (by assumption) (by first | omega | (simp; omega) | simp)))))⟩
theorem specResonanceOf (nm : ByteArray) (sw dp sf lim rate : Int) (w : World) (hs : nm.size ≤ maxLen) :
    Calls Try.prog 16 #[.agg #[.string nm, .int .i64 sw, .int .i64 dp, .int .i64 sf, .int .i64 lim], .int .i64 rate] w fun e w' =>
    e = .returned (.tuple #[.int .i64 (resOf nm sw dp sf lim rate).1, .int .i64 (resOf nm sw dp sf lim rate).2]) ∧ Below w.heap.size w w' := by
  cases h : vTower nm sw dp sf lim
  · have e : Hid (resOf nm sw dp sf lim rate = (0, 1)) := by unfold Hid resOf; simp [h]
    go_enter Try.func16, Try.ntmps16
    go_wp2_with fail
    refine (specl22Tower _ 0 nm sw dp sf lim _ hs (by simp) (by simp) (by simp) (by simp) (by simp)).mono ?_; rintro e w1 ⟨rfl, rfl⟩
    go_wp2_with fail
    go_ret2
    exact ⟨ret_two e.out, (by repeat (first | with_reducible exact Below.refl _ _ | with_reducible assumption | (with_reducible refine Below.drew ?_) | (with_reducible refine below_drewN ?_ _) | ((with_reducible refine Below.alloc ?_ ?_ _); rotate_left; (focus (first | omega | (simp; omega) | simp))) | ((with_reducible refine Below.setCell ?_ ?_ _); rotate_left; (focus (first | omega | (simp; omega) | simp))) | (refine Below.trans ?_ (Below.mono (by assumption) (by first | omega | (simp; omega) | simp)))))⟩
  · cases h' : inB rate 1 15000
    · have e : Hid (resOf nm sw dp sf lim rate = (0, 2)) := by unfold Hid resOf; simp [h, h']
      go_enter Try.func16, Try.ntmps16
      go_wp2_with fail
      refine (specl22Tower _ 0 nm sw dp sf lim _ hs (by simp) (by simp) (by simp) (by simp) (by simp)).mono ?_; rintro e w1 ⟨rfl, rfl⟩
      go_wp2_with fail
      refine (specl00In_any _ _ _ _).mono ?_; rintro e w2 ⟨rfl, rfl⟩
      go_wp2_with fail
      go_ret2
      exact ⟨ret_two e.out, (by repeat (first | with_reducible exact Below.refl _ _ | with_reducible assumption | (with_reducible refine Below.drew ?_) | (with_reducible refine below_drewN ?_ _) | ((with_reducible refine Below.alloc ?_ ?_ _); rotate_left; (focus (first | omega | (simp; omega) | simp))) | ((with_reducible refine Below.setCell ?_ ?_ _); rotate_left; (focus (first | omega | (simp; omega) | simp))) | (refine Below.trans ?_ (Below.mono (by assumption) (by first | omega | (simp; omega) | simp)))))⟩
    · have e : Hid (resOf nm sw dp sf lim rate = (fac sw dp rate, 0)) := by unfold Hid resOf; simp [h, h']
      obtain ⟨-, ⟨a1, a2⟩, ⟨a3, a4⟩, -, -⟩ := vTower_true _ _ _ _ _ h
      have b := inB_true h'
      go_enter Try.func16, Try.ntmps16
      go_wp2_with fail
      refine (specl22Tower _ 0 nm sw dp sf lim _ hs (by simp) (by simp) (by simp) (by simp) (by simp)).mono ?_; rintro e w1 ⟨rfl, rfl⟩
      go_wp2_with fail
      refine (specl00In_any _ _ _ _).mono ?_; rintro e w2 ⟨rfl, rfl⟩
      go_wp2_with fail
      refine (specl22Factor sw dp rate _ _ a1 a2 a3 a4 b.1 b.2 (by simp) (by simp)).mono ?_; rintro e w3 ⟨rfl, rfl⟩
      go_wp2_with fail
      go_ret2
      exact ⟨ret_two e.out, (by repeat (first | with_reducible exact Below.refl _ _ | with_reducible assumption | (with_reducible refine Below.drew ?_) | (with_reducible refine below_drewN ?_ _) | ((with_reducible refine Below.alloc ?_ ?_ _); rotate_left; (focus (first | omega | (simp; omega) | simp))) | ((with_reducible refine Below.setCell ?_ ?_ _); rotate_left; (focus (first | omega | (simp; omega) | simp))) | (refine Below.trans ?_ (Below.mono (by assumption) (by first | omega | (simp; omega) | simp)))))⟩
theorem lawResonanceOf (nm : ByteArray) (sw dp sf lim rate : Int) (w : World) (hs : nm.size ≤ maxLen) :
    Calls Try.prog 3 #[.agg #[.string nm, .int .i64 sw, .int .i64 dp, .int .i64 sf, .int .i64 lim], .int .i64 rate] w fun e w' => e = .returned (.bool true) ∧ Below w.heap.size w w' := by
  by_cases hz : (nm.size : Int) ≤ 1048576
  · go_enter Try.func3, Try.ntmps3
    go_wp2_with fail
    refine (lawsszTower_ok _ _ _ _ _ _ _ hz (by omega)).mono ?_
    rintro e w1 ⟨rfl, hb1⟩
    obtain ⟨fcb1, ffb1, fzb1⟩ := bfacts hb1 (by first | exact Nat.le_refl _ | omega | (simp; omega) | simp); have fsb1 := hb1.size; try simp at fcb1 ffb1 fzb1 fsb1 hb1
    go_wp2_with fail
    refine (lawstoTower _ _ _ _ _ _).mono ?_
    rintro e w2 ⟨rfl, hb2⟩
    have hbn := Below.trans (by first | exact hb1 | exact below_drewN hb1 _) (Below.mono hb2 (by first | omega | (simp; omega) | simp))
    clear hb2 fcb1 ffb1 fzb1 fsb1
    clear hb1
    have hb2 := hbn
    clear hbn
    obtain ⟨fcb2, ffb2, fzb2⟩ := bfacts hb2 (by first | exact Nat.le_refl _ | omega | (simp; omega) | simp); have fsb2 := hb2.size; try simp at fcb2 ffb2 fzb2 fsb2 hb2
    go_wp2_with fail
    refine (specResonanceOf _ _ _ _ _ _ _ hs).mono ?_
    rintro e w3 ⟨rfl, hb3⟩
    have hbn := Below.trans (by first | exact hb2 | exact below_drewN hb2 _) (Below.mono hb3 (by first | omega | (simp; omega) | simp))
    clear hb3 fcb2 ffb2 fzb2 fsb2
    clear hb2
    have hb3 := hbn
    clear hbn
    obtain ⟨fcb3, ffb3, fzb3⟩ := bfacts hb3 (by first | exact Nat.le_refl _ | omega | (simp; omega) | simp); have fsb3 := hb3.size; try simp at fcb3 ffb3 fzb3 fsb3 hb3
    go_wp2_with fail
    refine (lawstoTower _ _ _ _ _ _).mono ?_
    rintro e w4 ⟨rfl, hb4⟩
    have hbn := Below.trans (by first | exact hb3 | exact below_drewN hb3 _) (Below.mono hb4 (by first | omega | (simp; omega) | simp))
    clear hb4 fcb3 ffb3 fzb3 fsb3
    clear hb3
    have hb4 := hbn
    clear hbn
    obtain ⟨fcb4, ffb4, fzb4⟩ := bfacts hb4 (by first | exact Nat.le_refl _ | omega | (simp; omega) | simp); have fsb4 := hb4.size; try simp at fcb4 ffb4 fzb4 fsb4 hb4
    go_wp2_with fail
    refine (implResonanceOf _ _ _ _ _ _ _ hs).mono ?_
    rintro e w5 ⟨rfl, hb5⟩
    have hbn := Below.trans (by first | exact hb4 | exact below_drewN hb4 _) (Below.mono hb5 (by first | omega | (simp; omega) | simp))
    clear hb5 fcb4 ffb4 fzb4 fsb4
    clear hb4
    have hb5 := hbn
    clear hbn
    obtain ⟨fcb5, ffb5, fzb5⟩ := bfacts hb5 (by first | exact Nat.le_refl _ | omega | (simp; omega) | simp); have fsb5 := hb5.size; try simp at fcb5 ffb5 fzb5 fsb5 hb5
    go_wp2
    go_ret
    exact ⟨rfl, (by repeat (first | with_reducible exact Below.refl _ _ | with_reducible assumption | (with_reducible refine Below.drew ?_) | (with_reducible refine below_drewN ?_ _) | ((with_reducible refine Below.alloc ?_ ?_ _); rotate_left; (focus (first | omega | (simp; omega) | simp))) | ((with_reducible refine Below.setCell ?_ ?_ _); rotate_left; (focus (first | omega | (simp; omega) | simp))) | (refine Below.trans ?_ (Below.mono (by assumption) (by first | omega | (simp; omega) | simp)))))⟩
  · go_enter Try.func3, Try.ntmps3
    go_wp2_with fail
    refine (lawsszTower_big _ _ _ _ _ _ _ hs (by omega) (by omega)).mono ?_
    rintro e w1 ⟨rfl, hb1⟩
    obtain ⟨fcb1, ffb1, fzb1⟩ := bfacts hb1 (by first | exact Nat.le_refl _ | omega | (simp; omega) | simp); have fsb1 := hb1.size; try simp at fcb1 ffb1 fzb1 fsb1 hb1
    go_wp2
    go_ret
    exact ⟨rfl, (by repeat (first | with_reducible exact Below.refl _ _ | with_reducible assumption | (with_reducible refine Below.drew ?_) | (with_reducible refine below_drewN ?_ _) | ((with_reducible refine Below.alloc ?_ ?_ _); rotate_left; (focus (first | omega | (simp; omega) | simp))) | ((with_reducible refine Below.setCell ?_ ?_ _); rotate_left; (focus (first | omega | (simp; omega) | simp))) | (refine Below.trans ?_ (Below.mono (by assumption) (by first | omega | (simp; omega) | simp)))))⟩
end Go.Proofs.Ytdimapcecdffnaa
