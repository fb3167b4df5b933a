/- AmplitudeOf on both sides, and its law's walk. -/
import Derived.Test.YtdimapcecdffnaaAmp
namespace Go.Proofs.Ytdimapcecdffnaa
open Go.RowKit

@[irreducible] def ampOf (nm bell : ByteArray) (sw dp sf lim rate force : Int) : Int × Int := if vTower nm sw dp sf lim && vSwing bell rate force then (amp sw dp sf rate force, 0) else (0, 1)
theorem implAmplitudeOf (nm bell : ByteArray) (sw dp sf lim rate force : Int) (w : World) (hs : nm.size ≤ maxLen) (hs' : bell.size ≤ maxLen) :
    Calls Try.prog 22 #[.agg #[.string nm, .int .i64 sw, .int .i64 dp, .int .i64 sf, .int .i64 lim], .agg #[.string bell, .int .i64 rate, .int .i64 force]] w fun e w' =>
    e = .returned (.tuple #[.int .i64 (ampOf nm bell sw dp sf lim rate force).1, .int .i64 (ampOf nm bell sw dp sf lim rate force).2]) ∧ Below w.heap.size w w' := by
  cases h : vTower nm sw dp sf lim
  · have e : Hid (ampOf nm bell sw dp sf lim rate force = (0, 1)) := by unfold Hid ampOf; simp [h]
    go_enter Try.func22, Try.ntmps22
    go_wp2_with fail
    refine (implValidTower _ _ _ _ _ _ hs).mono ?_
    rintro e w1 ⟨rfl, hb1⟩
    obtain ⟨fcb1, ffb1, fzb1⟩ := bfacts hb1 (by first | exact Nat.le_refl _ | omega | (simp; omega) | simp); have fsb1 := hb1.size; try simp at fcb1 ffb1 fzb1 fsb1 hb1
    go_wp2_with fail
    go_ret2
    exact ⟨ret_two e.out, (by repeat (first | with_reducible exact Below.refl _ _ | with_reducible assumption | (with_reducible refine Below.drew ?_) | (with_reducible refine below_drewN ?_ _) | ((with_reducible refine Below.alloc ?_ ?_ _); rotate_left; (focus (first | omega | (simp; omega) | simp))) | ((with_reducible refine Below.setCell ?_ ?_ _); rotate_left; (focus (first | omega | (simp; omega) | simp))) | (refine Below.trans ?_ (Below.mono (by assumption) (by first | omega | (simp; omega) | simp)))))⟩
  · cases h' : vSwing bell rate force
    · have e : Hid (ampOf nm bell sw dp sf lim rate force = (0, 1)) := by unfold Hid ampOf; simp [h']
      go_enter Try.func22, Try.ntmps22
      go_wp2_with fail
      refine (implValidTower _ _ _ _ _ _ hs).mono ?_
      rintro e w1 ⟨rfl, hb1⟩
      obtain ⟨fcb1, ffb1, fzb1⟩ := bfacts hb1 (by first | exact Nat.le_refl _ | omega | (simp; omega) | simp); have fsb1 := hb1.size; try simp at fcb1 ffb1 fzb1 fsb1 hb1
      go_wp2_with fail
      refine (implvalidSwing _ _ _ _ hs').mono ?_
      rintro e w2 ⟨rfl, hb2⟩
      have hbn := Below.trans (by first | exact hb1 | exact below_drewN hb1 _) (Below.mono hb2 (by first | omega | (simp; omega) | simp))
      clear hb2 fcb1 ffb1 fzb1 fsb1
      clear hb1
      have hb2 := hbn
      clear hbn
      obtain ⟨fcb2, ffb2, fzb2⟩ := bfacts hb2 (by first | exact Nat.le_refl _ | omega | (simp; omega) | simp); have fsb2 := hb2.size; try simp at fcb2 ffb2 fzb2 fsb2 hb2
      go_wp2_with fail
      go_ret2
      exact ⟨ret_two e.out, (by repeat (first | with_reducible exact Below.refl _ _ | with_reducible assumption | (with_reducible refine Below.drew ?_) | (with_reducible refine below_drewN ?_ _) | ((with_reducible refine Below.alloc ?_ ?_ _); rotate_left; (focus (first | omega | (simp; omega) | simp))) | ((with_reducible refine Below.setCell ?_ ?_ _); rotate_left; (focus (first | omega | (simp; omega) | simp))) | (refine Below.trans ?_ (Below.mono (by assumption) (by first | omega | (simp; omega) | simp)))))⟩
    · have e : Hid (ampOf nm bell sw dp sf lim rate force = (amp sw dp sf rate force, 0)) := by unfold Hid ampOf; simp [h, h']
      obtain ⟨-, ⟨a1, a2⟩, ⟨a3, a4⟩, ⟨a5, a6⟩, -⟩ := vTower_true _ _ _ _ _ h
      obtain ⟨-, ⟨b1, b2⟩, ⟨b3, b4⟩⟩ := vSwing_true _ _ _ h'
      go_enter Try.func22, Try.ntmps22
      go_wp2_with fail
      refine (implValidTower _ _ _ _ _ _ hs).mono ?_
      rintro e w1 ⟨rfl, hb1⟩
      obtain ⟨fcb1, ffb1, fzb1⟩ := bfacts hb1 (by first | exact Nat.le_refl _ | omega | (simp; omega) | simp); have fsb1 := hb1.size; try simp at fcb1 ffb1 fzb1 fsb1 hb1
      go_wp2_with fail
      refine (implvalidSwing _ _ _ _ hs').mono ?_
      rintro e w2 ⟨rfl, hb2⟩
      have hbn := Below.trans (by first | exact hb1 | exact below_drewN hb1 _) (Below.mono hb2 (by first | omega | (simp; omega) | simp))
      clear hb2 fcb1 ffb1 fzb1 fsb1
      clear hb1
      have hb2 := hbn
      clear hbn
      obtain ⟨fcb2, ffb2, fzb2⟩ := bfacts hb2 (by first | exact Nat.le_refl _ | omega | (simp; omega) | simp); have fsb2 := hb2.size; try simp at fcb2 ffb2 fzb2 fsb2 hb2
      go_wp2_with fail
      refine (implamplitude _ _ _ _ _ _ _ _ _ a1 a2 a3 a4 a5 a6 b1 b2 b3 b4).mono ?_
      rintro e w3 ⟨rfl, hb3⟩
      have hbn := Below.trans (by first | exact hb2 | exact below_drewN hb2 _) (Below.mono hb3 (by first | omega | (simp; omega) | simp))
      clear hb3 fcb2 ffb2 fzb2 fsb2
      clear hb2
      have hb3 := hbn
      clear hbn
      obtain ⟨fcb3, ffb3, fzb3⟩ := bfacts hb3 (by first | exact Nat.le_refl _ | omega | (simp; omega) | simp); have fsb3 := hb3.size; try simp at fcb3 ffb3 fzb3 fsb3 hb3
      go_wp2_with fail
      go_ret2
      exact ⟨ret_two e.out, (by repeat (first | with_reducible exact Below.refl _ _ | with_reducible assumption | (with_reducible refine Below.drew ?_) | (with_reducible refine below_drewN ?_ _) | ((with_reducible refine Below.alloc ?_ ?_ _); rotate_left; (focus (first | omega | (simp; omega) | simp))) | ((with_reducible refine Below.setCell ?_ ?_ _); rotate_left; (focus (first | omega | (simp; omega) | simp))) | (refine Below.trans ?_ (Below.mono (by assumption) (by first | omega | (simp; omega) | simp)))))⟩
theorem specAmplitudeOf (nm bell : ByteArray) (sw dp sf lim rate force : Int) (w : World) (hs : nm.size ≤ maxLen) (hs' : bell.size ≤ maxLen) :
    Calls Try.prog 20 #[.agg #[.string nm, .int .i64 sw, .int .i64 dp, .int .i64 sf, .int .i64 lim], .agg #[.string bell, .int .i64 rate, .int .i64 force]] w fun e w' =>
    e = .returned (.tuple #[.int .i64 (ampOf nm bell sw dp sf lim rate force).1, .int .i64 (ampOf nm bell sw dp sf lim rate force).2]) ∧ Below w.heap.size w w' := by
  cases h : vTower nm sw dp sf lim
  · have e : Hid (ampOf nm bell sw dp sf lim rate force = (0, 1)) := by unfold Hid ampOf; simp [h]
    go_enter Try.func20, Try.ntmps20
    go_wp2_with fail
    refine (specl22Tower _ 0 nm sw dp sf lim _ hs (by simp) (by simp) (by simp) (by simp) (by simp)).mono ?_; rintro e w1 ⟨rfl, rfl⟩
    go_wp2_with fail
    go_ret2
    exact ⟨ret_two e.out, (by repeat (first | with_reducible exact Below.refl _ _ | with_reducible assumption | (with_reducible refine Below.drew ?_) | (with_reducible refine below_drewN ?_ _) | ((with_reducible refine Below.alloc ?_ ?_ _); rotate_left; (focus (first | omega | (simp; omega) | simp))) | ((with_reducible refine Below.setCell ?_ ?_ _); rotate_left; (focus (first | omega | (simp; omega) | simp))) | (refine Below.trans ?_ (Below.mono (by assumption) (by first | omega | (simp; omega) | simp)))))⟩
  · cases h' : vSwing bell rate force
    · have e : Hid (ampOf nm bell sw dp sf lim rate force = (0, 1)) := by unfold Hid ampOf; simp [h']
      go_enter Try.func20, Try.ntmps20
      go_wp2_with fail
      refine (specl22Tower _ 0 nm sw dp sf lim _ hs (by simp) (by simp) (by simp) (by simp) (by simp)).mono ?_; rintro e w1 ⟨rfl, rfl⟩
      go_wp2_with fail
      refine (specl22One _ 0 bell rate force _ hs' (by simp) (by simp) (by simp)).mono ?_; rintro e w1 ⟨rfl, rfl⟩
      go_wp2_with fail
      go_ret2
      exact ⟨ret_two e.out, (by repeat (first | with_reducible exact Below.refl _ _ | with_reducible assumption | (with_reducible refine Below.drew ?_) | (with_reducible refine below_drewN ?_ _) | ((with_reducible refine Below.alloc ?_ ?_ _); rotate_left; (focus (first | omega | (simp; omega) | simp))) | ((with_reducible refine Below.setCell ?_ ?_ _); rotate_left; (focus (first | omega | (simp; omega) | simp))) | (refine Below.trans ?_ (Below.mono (by assumption) (by first | omega | (simp; omega) | simp)))))⟩
    · have e : Hid (ampOf nm bell sw dp sf lim rate force = (amp sw dp sf rate force, 0)) := by unfold Hid ampOf; simp [h, h']
      obtain ⟨-, ⟨a1, a2⟩, ⟨a3, a4⟩, ⟨a5, a6⟩, -⟩ := vTower_true _ _ _ _ _ h
      obtain ⟨-, ⟨b1, b2⟩, ⟨b3, b4⟩⟩ := vSwing_true _ _ _ h'
      go_enter Try.func20, Try.ntmps20
      go_wp2_with fail
      refine (specl22Tower _ 0 nm sw dp sf lim _ hs (by simp) (by simp) (by simp) (by simp) (by simp)).mono ?_; rintro e w1 ⟨rfl, rfl⟩
      go_wp2_with fail
      refine (specl22One _ 0 bell rate force _ hs' (by simp) (by simp) (by simp)).mono ?_; rintro e w1 ⟨rfl, rfl⟩
      go_wp2_with fail
      refine (specl22Amplitude sw dp sf rate force _ _ _ (by simp; try omega) (by simp) a1 a2 a3 a4 a5 a6 b1 b2 b3 b4 (by simp) (by simp) (by simp) (by simp) (by simp)).mono ?_
      rintro e w3 ⟨rfl, hb3⟩
      obtain ⟨fcb3, ffb3, fzb3⟩ := bfacts hb3 (by first | exact Nat.le_refl _ | omega | (simp; omega) | simp); have fsb3 := hb3.size; try simp at fcb3 ffb3 fzb3 fsb3 hb3
      go_wp2_with fail
      go_ret2
      exact ⟨ret_two e.out, (by repeat (first | with_reducible exact Below.refl _ _ | with_reducible assumption | (with_reducible refine Below.drew ?_) | (with_reducible refine below_drewN ?_ _) | ((with_reducible refine Below.alloc ?_ ?_ _); rotate_left; (focus (first | omega | (simp; omega) | simp))) | ((with_reducible refine Below.setCell ?_ ?_ _); rotate_left; (focus (first | omega | (simp; omega) | simp))) | (refine Below.trans ?_ (Below.mono (by assumption) (by first | omega | (simp; omega) | simp)))))⟩
set_option maxRecDepth 100000 in
theorem lawAmplitudeOf (nm bell : ByteArray) (sw dp sf lim rate force : Int) (w : World) (hs : nm.size ≤ maxLen) (hs' : bell.size ≤ maxLen) :
    Calls Try.prog 4 #[.agg #[.string nm, .int .i64 sw, .int .i64 dp, .int .i64 sf, .int .i64 lim], .agg #[.string bell, .int .i64 rate, .int .i64 force]] w fun e w' => e = .returned (.bool true) ∧ Below w.heap.size w w' := by
  by_cases hz : (nm.size : Int) ≤ 1048576
  · by_cases hz' : (bell.size : Int) ≤ 1048576 - nm.size
    · go_enter Try.func4, Try.ntmps4
      go_wp2_with fail
      refine (lawsszTower_ok _ _ _ _ _ _ _ hz (by omega)).mono ?_
      rintro e w1 ⟨rfl, hb1⟩
      obtain ⟨fcb1, ffb1, fzb1⟩ := bfacts hb1 (by first | exact Nat.le_refl _ | omega | (simp; omega) | simp); have fsb1 := hb1.size; try simp at fcb1 ffb1 fzb1 fsb1 hb1
      go_wp2_with fail
      refine (lawsszSwing_ok _ _ _ _ _ hz' (by omega)).mono ?_
      rintro e w2 ⟨rfl, hb2⟩
      have hbn := Below.trans (by first | exact hb1 | exact below_drewN hb1 _) (Below.mono hb2 (by first | omega | (simp; omega) | simp))
      clear hb2 fcb1 ffb1 fzb1 fsb1
      clear hb1
      have hb2 := hbn
      clear hbn
      obtain ⟨fcb2, ffb2, fzb2⟩ := bfacts hb2 (by first | exact Nat.le_refl _ | omega | (simp; omega) | simp); have fsb2 := hb2.size; try simp at fcb2 ffb2 fzb2 fsb2 hb2
      go_wp2_with fail
      have hzA : w.heap.size < w2.heap.size := by omega
      have hzB : w.heap.size + 1 < w2.heap.size := by omega
      refine wp_region_kept (by kernel_rfl) (by kernel_rfl) ?_
      intro gc gf gz
      repeat (go_big_quiet_step ((first | (go_at_call 17; exact Calls.kept (lawstoTower _ _ _ _ _ _)) | (go_at_call 21; exact Calls.kept (lawstoSwing _ _ _ _)) | (go_at_call 20; exact Calls.kept (specAmplitudeOf _ _ _ _ _ _ _ _ _ hs hs')))))
      refine wpQuiet_nil ?_
      intro w3 hw'
      obtain ⟨⟨_, hb3⟩, rfl⟩ := hw'
      clear gc gf gz
      try dsimp only
      have fs3 := hb3.size
      try simp at fs3 hb3
      have hbn := Below.trans hb2 (Below.mono hb3 (by first | omega | (simp; omega) | simp))
      clear hb2 hb3 fcb2 ffb2 fzb2
      have hb3 := hbn
      clear hbn
      obtain ⟨fcb3, ffb3, fzb3⟩ := bfacts hb3 (by first | exact Nat.le_refl _ | omega | (simp; omega) | simp); have fsb3 := hb3.size; try simp at fcb3 ffb3 fzb3 fsb3 hb3
      go_wp2_with fail
      have hzC : w.heap.size < w3.heap.size := by omega
      have hzD : w.heap.size + 1 < w3.heap.size := by omega
      refine wp_region_kept (by kernel_rfl) (by kernel_rfl) ?_
      intro gc gf gz
      repeat (go_big_quiet_step ((first | (go_at_call 17; exact Calls.kept (lawstoTower _ _ _ _ _ _)) | (go_at_call 21; exact Calls.kept (lawstoSwing _ _ _ _)) | (go_at_call 22; exact Calls.kept (implAmplitudeOf _ _ _ _ _ _ _ _ _ hs hs')))))
      refine wpQuiet_nil ?_
      intro w4 hw'
      obtain ⟨⟨_, hb4⟩, rfl⟩ := hw'
      clear gc gf gz
      try dsimp only
      have fs4 := hb4.size
      try simp at fs4 hb4
      have hbn := Below.trans hb3 (Below.mono hb4 (by first | omega | (simp; omega) | simp))
      clear hb3 hb4 fcb3 ffb3 fzb3
      have hb4 := hbn
      clear hbn
      obtain ⟨fcb4, ffb4, fzb4⟩ := bfacts hb4 (by first | exact Nat.le_refl _ | omega | (simp; omega) | simp); have fsb4 := hb4.size; try simp at fcb4 ffb4 fzb4 fsb4 hb4
      go_wp2_with fail
      go_ret
      exact ⟨rfl, (by repeat (first | with_reducible exact Below.refl _ _ | with_reducible assumption | (with_reducible refine Below.drew ?_) | (with_reducible refine below_drewN ?_ _) | ((with_reducible refine Below.alloc ?_ ?_ _); rotate_left; (focus (first | omega | (simp; omega) | simp))) | ((with_reducible refine Below.setCell ?_ ?_ _); rotate_left; (focus (first | omega | (simp; omega) | simp))) | (refine Below.trans ?_ (Below.mono (by assumption) (by first | omega | (simp; omega) | simp)))))⟩
    · go_enter Try.func4, Try.ntmps4
      go_wp2_with fail
      refine (lawsszTower_ok _ _ _ _ _ _ _ hz (by omega)).mono ?_
      rintro e w1 ⟨rfl, hb1⟩
      obtain ⟨fcb1, ffb1, fzb1⟩ := bfacts hb1 (by first | exact Nat.le_refl _ | omega | (simp; omega) | simp); have fsb1 := hb1.size; try simp at fcb1 ffb1 fzb1 fsb1 hb1
      go_wp2_with fail
      refine (lawsszSwing_big _ _ _ _ _ hs' (by omega) (by omega)).mono ?_
      rintro e w2 ⟨rfl, hb2⟩
      have hbn := Below.trans (by first | exact hb1 | exact below_drewN hb1 _) (Below.mono hb2 (by first | omega | (simp; omega) | simp))
      clear hb2 fcb1 ffb1 fzb1 fsb1
      clear hb1
      have hb2 := hbn
      clear hbn
      obtain ⟨fcb2, ffb2, fzb2⟩ := bfacts hb2 (by first | exact Nat.le_refl _ | omega | (simp; omega) | simp); have fsb2 := hb2.size; try simp at fcb2 ffb2 fzb2 fsb2 hb2
      go_wp2
      go_ret
      exact ⟨rfl, (by repeat (first | with_reducible exact Below.refl _ _ | with_reducible assumption | (with_reducible refine Below.drew ?_) | (with_reducible refine below_drewN ?_ _) | ((with_reducible refine Below.alloc ?_ ?_ _); rotate_left; (focus (first | omega | (simp; omega) | simp))) | ((with_reducible refine Below.setCell ?_ ?_ _); rotate_left; (focus (first | omega | (simp; omega) | simp))) | (refine Below.trans ?_ (Below.mono (by assumption) (by first | omega | (simp; omega) | simp)))))⟩
  · go_enter Try.func4, Try.ntmps4
    go_wp2_with fail
    refine (lawsszTower_big _ _ _ _ _ _ _ hs (by omega) (by omega)).mono ?_
    rintro e w1 ⟨rfl, hb1⟩
    obtain ⟨fcb1, ffb1, fzb1⟩ := bfacts hb1 (by first | exact Nat.le_refl _ | omega | (simp; omega) | simp); have fsb1 := hb1.size; try simp at fcb1 ffb1 fzb1 fsb1 hb1
    go_wp2
    go_ret
    exact ⟨rfl, (by repeat (first | with_reducible exact Below.refl _ _ | with_reducible assumption | (with_reducible refine Below.drew ?_) | (with_reducible refine below_drewN ?_ _) | ((with_reducible refine Below.alloc ?_ ?_ _); rotate_left; (focus (first | omega | (simp; omega) | simp))) | ((with_reducible refine Below.setCell ?_ ?_ _); rotate_left; (focus (first | omega | (simp; omega) | simp))) | (refine Below.trans ?_ (Below.mono (by assumption) (by first | omega | (simp; omega) | simp)))))⟩
end Go.Proofs.Ytdimapcecdffnaa
