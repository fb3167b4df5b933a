/- AmplitudeOf on both sides, and its law's walk. -/
import Derived.Test.YtjklhacffdhgaaaAmp
namespace Go.Proofs.Ytjklhacffdhgaaa
open Go.RowKit

@[irreducible] def ampOf (nm bell : ByteArray) (sw dp sf lim rate force : Int) : Int × Int := if vTower nm sw dp sf lim && vSwing bell rate force then (amp sw dp sf rate force, 0) else (0, 1)
theorem implAmplitudeOf (nm bell : ByteArray) (sw dp sf lim rate force : Int) (w : World) (hs : nm.size ≤ maxLen) (hs' : bell.size ≤ maxLen) :
    Calls Try.prog 52 #[.agg #[.string nm, .int .i64 sw, .int .i64 dp, .int .i64 sf, .int .i64 lim], .agg #[.string bell, .int .i64 rate, .int .i64 force]] w fun e w' =>
    e = .returned (.tuple #[.int .i64 (ampOf nm bell sw dp sf lim rate force).1, .int .i64 (ampOf nm bell sw dp sf lim rate force).2]) ∧ Below w.heap.size w w' := by
  cases h : vTower nm sw dp sf lim
  · have e : Hid (ampOf nm bell sw dp sf lim rate force = (0, 1)) := by unfold Hid ampOf; simp [h]
    go_enter Try.func52, Try.ntmps52
    go_wp2_with fail
    refine (implValidTower _ _ _ _ _ _ hs).mono ?_
    rintro e w1 ⟨rfl, hb1⟩
    obtain ⟨fcb1, ffb1, fzb1⟩ := bfacts hb1 (by first | exact Nat.le_refl _ | omega | (simp; omega) | simp); have fsb1 := hb1.size; try simp at fcb1 ffb1 fzb1 fsb1 hb1
    go_wp2_with fail
    go_ret2
    exact ⟨ret_two e.out, (by repeat (first | with_reducible exact Below.refl _ _ | with_reducible assumption | (with_reducible refine Below.drew ?_) | (with_reducible refine below_drewN ?_ _) | ((with_reducible refine Below.alloc ?_ ?_ _); rotate_left; (focus (first | omega | (simp; omega) | simp))) | ((with_reducible refine Below.setCell ?_ ?_ _); rotate_left; (focus (first | omega | (simp; omega) | simp))) | (refine Below.trans ?_ (Below.mono (by assumption) (by first | omega | (simp; omega) | simp)))))⟩
  · cases h' : vSwing bell rate force
    · have e : Hid (ampOf nm bell sw dp sf lim rate force = (0, 1)) := by unfold Hid ampOf; simp [h']
      go_enter Try.func52, Try.ntmps52
      go_wp2_with fail
      refine (implValidTower _ _ _ _ _ _ hs).mono ?_
      rintro e w1 ⟨rfl, hb1⟩
      obtain ⟨fcb1, ffb1, fzb1⟩ := bfacts hb1 (by first | exact Nat.le_refl _ | omega | (simp; omega) | simp); have fsb1 := hb1.size; try simp at fcb1 ffb1 fzb1 fsb1 hb1
      go_wp2_with fail
      refine (implvalidSwing _ _ _ _ hs').mono ?_
      rintro e w2 ⟨rfl, hb2⟩
      have hbn := Below.trans (by first | exact hb1 | exact below_drewN hb1 _) (Below.mono hb2 (by first | omega | (simp; omega) | simp))
      clear hb2 fcb1 ffb1 fzb1 fsb1
      clear hb1
      have hb2 := hbn
      clear hbn
      obtain ⟨fcb2, ffb2, fzb2⟩ := bfacts hb2 (by first | exact Nat.le_refl _ | omega | (simp; omega) | simp); have fsb2 := hb2.size; try simp at fcb2 ffb2 fzb2 fsb2 hb2
      go_wp2_with fail
      go_ret2
      exact ⟨ret_two e.out, (by repeat (first | with_reducible exact Below.refl _ _ | with_reducible assumption | (with_reducible refine Below.drew ?_) | (with_reducible refine below_drewN ?_ _) | ((with_reducible refine Below.alloc ?_ ?_ _); rotate_left; (focus (first | omega | (simp; omega) | simp))) | ((with_reducible refine Below.setCell ?_ ?_ _); rotate_left; (focus (first | omega | (simp; omega) | simp))) | (refine Below.trans ?_ (Below.mono (by assumption) (by first | omega | (simp; omega) | simp)))))⟩
    · have e : Hid (ampOf nm bell sw dp sf lim rate force = (amp sw dp sf rate force, 0)) := by unfold Hid ampOf; simp [h, h']
      obtain ⟨-, ⟨a1, a2⟩, ⟨a3, a4⟩, ⟨a5, a6⟩, -⟩ := vTower_true _ _ _ _ _ h
      obtain ⟨-, ⟨b1, b2⟩, ⟨b3, b4⟩⟩ := vSwing_true _ _ _ h'
      go_enter Try.func52, Try.ntmps52
      go_wp2_with fail
      refine (implValidTower _ _ _ _ _ _ hs).mono ?_
      rintro e w1 ⟨rfl, hb1⟩
      obtain ⟨fcb1, ffb1, fzb1⟩ := bfacts hb1 (by first | exact Nat.le_refl _ | omega | (simp; omega) | simp); have fsb1 := hb1.size; try simp at fcb1 ffb1 fzb1 fsb1 hb1
      go_wp2_with fail
      refine (implvalidSwing _ _ _ _ hs').mono ?_
      rintro e w2 ⟨rfl, hb2⟩
      have hbn := Below.trans (by first | exact hb1 | exact below_drewN hb1 _) (Below.mono hb2 (by first | omega | (simp; omega) | simp))
      clear hb2 fcb1 ffb1 fzb1 fsb1
      clear hb1
      have hb2 := hbn
      clear hbn
      obtain ⟨fcb2, ffb2, fzb2⟩ := bfacts hb2 (by first | exact Nat.le_refl _ | omega | (simp; omega) | simp); have fsb2 := hb2.size; try simp at fcb2 ffb2 fzb2 fsb2 hb2
      go_wp2_with fail
      refine (implamplitude _ _ _ _ _ _ _ _ _ a1 a2 a3 a4 a5 a6 b1 b2 b3 b4).mono ?_
      rintro e w3 ⟨rfl, hb3⟩
      have hbn := Below.trans (by first | exact hb2 | exact below_drewN hb2 _) (Below.mono hb3 (by first | omega | (simp; omega) | simp))
      clear hb3 fcb2 ffb2 fzb2 fsb2
      clear hb2
      have hb3 := hbn
      clear hbn
      obtain ⟨fcb3, ffb3, fzb3⟩ := bfacts hb3 (by first | exact Nat.le_refl _ | omega | (simp; omega) | simp); have fsb3 := hb3.size; try simp at fcb3 ffb3 fzb3 fsb3 hb3
      go_wp2_with fail
      go_ret2
      exact ⟨ret_two e.out, (by repeat (first | with_reducible exact Below.refl _ _ | with_reducible assumption | (with_reducible refine Below.drew ?_) | (with_reducible refine below_drewN ?_ _) | ((with_reducible refine Below.alloc ?_ ?_ _); rotate_left; (focus (first | omega | (simp; omega) | simp))) | ((with_reducible refine Below.setCell ?_ ?_ _); rotate_left; (focus (first | omega | (simp; omega) | simp))) | (refine Below.trans ?_ (Below.mono (by assumption) (by first | omega | (simp; omega) | simp)))))⟩
end Go.Proofs.Ytjklhacffdhgaaa
