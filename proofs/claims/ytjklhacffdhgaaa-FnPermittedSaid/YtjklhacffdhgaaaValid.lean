/- Contracts: whether a tower, a swing, a place is valid, on both sides; the copies and counts of the laws. -/
import Derived.Test.YtjklhacffdhgaaaName
namespace Go.Proofs.Ytjklhacffdhgaaa
open Go.RowKit

def vTower (x0 : ByteArray) (x1 : Int) (x2 : Int) (x3 : Int) (x4 : Int) : Bool := nameB x0.data.toList && inB x1 (100) 10000 && inB x2 (5) 500 && inB x3 (1) 1000000 && inB x4 (0) 100000
theorem vTower_true (x0 : ByteArray) (x1 : Int) (x2 : Int) (x3 : Int) (x4 : Int) (h : vTower x0 x1 x2 x3 x4 = true) : (nameB x0.data.toList = true) ∧ ((100) ≤ x1 ∧ x1 ≤ 10000) ∧ ((5) ≤ x2 ∧ x2 ≤ 500) ∧ ((1) ≤ x3 ∧ x3 ≤ 1000000) ∧ ((0) ≤ x4 ∧ x4 ≤ 100000) := by
  unfold vTower at h
  simp only [Bool.and_eq_true] at h
  exact ⟨h.1.1.1.1, inB_true h.1.1.1.2, inB_true h.1.1.2, inB_true h.1.2, inB_true h.2⟩
theorem implValidTower (x0 : ByteArray) (x1 : Int) (x2 : Int) (x3 : Int) (x4 : Int) (w : World) (hs0 : x0.size ≤ maxLen) : Calls Try.prog 100 #[.agg #[.string x0, .int .i64 x1, .int .i64 x2, .int .i64 x3, .int .i64 x4]] w fun e w' => e = .returned (.bool (vTower x0 x1 x2 x3 x4)) ∧ Below w.heap.size w w' := by
  cases h0 : nameB x0.data.toList
  · have e : Hid (vTower x0 x1 x2 x3 x4 = false) := by unfold Hid vTower; simp [h0]
    go_enter Try.func100, Try.ntmps100
    go_wp2_with (first
      | (go_at_call 122; refine (implwithin_any _ _ _ _).mono ?_; rintro e w2 ⟨rfl, rfl⟩)
      | (go_at_call 127; refine (implisReach_any _ _).mono ?_; rintro e w2 ⟨rfl, rfl⟩)
      | (go_at_call 178; refine (implisSide_any _ _).mono ?_; rintro e w2 ⟨rfl, rfl⟩)
      | (go_at_call 163; refine (IsName_any _ _ (by assumption)).mono ?_; rintro e w1 ⟨rfl, hb1⟩; obtain ⟨fcb1, ffb1, fzb1⟩ := bfacts hb1 (by first | exact Nat.le_refl _ | omega | (simp; omega) | simp); have fsb1 := hb1.size; try simp at fcb1 ffb1 fzb1 fsb1 hb1))
    go_ret
    exact ⟨ret_bool e.out.symm, (by repeat (first | with_reducible exact Below.refl _ _ | with_reducible assumption | (with_reducible refine Below.drew ?_) | (with_reducible refine below_drewN ?_ _) | ((with_reducible refine Below.alloc ?_ ?_ _); rotate_left; (focus (first | omega | (simp; omega) | simp))) | ((with_reducible refine Below.setCell ?_ ?_ _); rotate_left; (focus (first | omega | (simp; omega) | simp))) | (refine Below.trans ?_ (Below.mono (by assumption) (by first | omega | (simp; omega) | simp)))))⟩
  · cases h1 : inB x1 (100) 10000
    · have e : Hid (vTower x0 x1 x2 x3 x4 = false) := by unfold Hid vTower; simp [h1]
      go_enter Try.func100, Try.ntmps100
      go_wp2_with (first
        | (go_at_call 122; refine (implwithin_any _ _ _ _).mono ?_; rintro e w2 ⟨rfl, rfl⟩)
        | (go_at_call 127; refine (implisReach_any _ _).mono ?_; rintro e w2 ⟨rfl, rfl⟩)
        | (go_at_call 178; refine (implisSide_any _ _).mono ?_; rintro e w2 ⟨rfl, rfl⟩)
        | (go_at_call 163; refine (IsName_any _ _ (by assumption)).mono ?_; rintro e w1 ⟨rfl, hb1⟩; obtain ⟨fcb1, ffb1, fzb1⟩ := bfacts hb1 (by first | exact Nat.le_refl _ | omega | (simp; omega) | simp); have fsb1 := hb1.size; try simp at fcb1 ffb1 fzb1 fsb1 hb1))
      go_ret
      exact ⟨ret_bool e.out.symm, (by repeat (first | with_reducible exact Below.refl _ _ | with_reducible assumption | (with_reducible refine Below.drew ?_) | (with_reducible refine below_drewN ?_ _) | ((with_reducible refine Below.alloc ?_ ?_ _); rotate_left; (focus (first | omega | (simp; omega) | simp))) | ((with_reducible refine Below.setCell ?_ ?_ _); rotate_left; (focus (first | omega | (simp; omega) | simp))) | (refine Below.trans ?_ (Below.mono (by assumption) (by first | omega | (simp; omega) | simp)))))⟩
    · cases h2 : inB x2 (5) 500
      · have e : Hid (vTower x0 x1 x2 x3 x4 = false) := by unfold Hid vTower; simp [h2]
        go_enter Try.func100, Try.ntmps100
        go_wp2_with (first
          | (go_at_call 122; refine (implwithin_any _ _ _ _).mono ?_; rintro e w2 ⟨rfl, rfl⟩)
          | (go_at_call 127; refine (implisReach_any _ _).mono ?_; rintro e w2 ⟨rfl, rfl⟩)
          | (go_at_call 178; refine (implisSide_any _ _).mono ?_; rintro e w2 ⟨rfl, rfl⟩)
          | (go_at_call 163; refine (IsName_any _ _ (by assumption)).mono ?_; rintro e w1 ⟨rfl, hb1⟩; obtain ⟨fcb1, ffb1, fzb1⟩ := bfacts hb1 (by first | exact Nat.le_refl _ | omega | (simp; omega) | simp); have fsb1 := hb1.size; try simp at fcb1 ffb1 fzb1 fsb1 hb1))
        go_ret
        exact ⟨ret_bool e.out.symm, (by repeat (first | with_reducible exact Below.refl _ _ | with_reducible assumption | (with_reducible refine Below.drew ?_) | (with_reducible refine below_drewN ?_ _) | ((with_reducible refine Below.alloc ?_ ?_ _); rotate_left; (focus (first | omega | (simp; omega) | simp))) | ((with_reducible refine Below.setCell ?_ ?_ _); rotate_left; (focus (first | omega | (simp; omega) | simp))) | (refine Below.trans ?_ (Below.mono (by assumption) (by first | omega | (simp; omega) | simp)))))⟩
      · cases h3 : inB x3 (1) 1000000
        · have e : Hid (vTower x0 x1 x2 x3 x4 = false) := by unfold Hid vTower; simp [h3]
          go_enter Try.func100, Try.ntmps100
          go_wp2_with (first
            | (go_at_call 122; refine (implwithin_any _ _ _ _).mono ?_; rintro e w2 ⟨rfl, rfl⟩)
            | (go_at_call 127; refine (implisReach_any _ _).mono ?_; rintro e w2 ⟨rfl, rfl⟩)
            | (go_at_call 178; refine (implisSide_any _ _).mono ?_; rintro e w2 ⟨rfl, rfl⟩)
            | (go_at_call 163; refine (IsName_any _ _ (by assumption)).mono ?_; rintro e w1 ⟨rfl, hb1⟩; obtain ⟨fcb1, ffb1, fzb1⟩ := bfacts hb1 (by first | exact Nat.le_refl _ | omega | (simp; omega) | simp); have fsb1 := hb1.size; try simp at fcb1 ffb1 fzb1 fsb1 hb1))
          go_ret
          exact ⟨ret_bool e.out.symm, (by repeat (first | with_reducible exact Below.refl _ _ | with_reducible assumption | (with_reducible refine Below.drew ?_) | (with_reducible refine below_drewN ?_ _) | ((with_reducible refine Below.alloc ?_ ?_ _); rotate_left; (focus (first | omega | (simp; omega) | simp))) | ((with_reducible refine Below.setCell ?_ ?_ _); rotate_left; (focus (first | omega | (simp; omega) | simp))) | (refine Below.trans ?_ (Below.mono (by assumption) (by first | omega | (simp; omega) | simp)))))⟩
        · cases h4 : inB x4 (0) 100000
          · have e : Hid (vTower x0 x1 x2 x3 x4 = false) := by unfold Hid vTower; simp [h4]
            go_enter Try.func100, Try.ntmps100
            go_wp2_with (first
              | (go_at_call 122; refine (implwithin_any _ _ _ _).mono ?_; rintro e w2 ⟨rfl, rfl⟩)
              | (go_at_call 127; refine (implisReach_any _ _).mono ?_; rintro e w2 ⟨rfl, rfl⟩)
              | (go_at_call 178; refine (implisSide_any _ _).mono ?_; rintro e w2 ⟨rfl, rfl⟩)
              | (go_at_call 163; refine (IsName_any _ _ (by assumption)).mono ?_; rintro e w1 ⟨rfl, hb1⟩; obtain ⟨fcb1, ffb1, fzb1⟩ := bfacts hb1 (by first | exact Nat.le_refl _ | omega | (simp; omega) | simp); have fsb1 := hb1.size; try simp at fcb1 ffb1 fzb1 fsb1 hb1))
            go_ret
            exact ⟨ret_bool e.out.symm, (by repeat (first | with_reducible exact Below.refl _ _ | with_reducible assumption | (with_reducible refine Below.drew ?_) | (with_reducible refine below_drewN ?_ _) | ((with_reducible refine Below.alloc ?_ ?_ _); rotate_left; (focus (first | omega | (simp; omega) | simp))) | ((with_reducible refine Below.setCell ?_ ?_ _); rotate_left; (focus (first | omega | (simp; omega) | simp))) | (refine Below.trans ?_ (Below.mono (by assumption) (by first | omega | (simp; omega) | simp)))))⟩
          · have e : Hid (vTower x0 x1 x2 x3 x4 = true) := by unfold Hid vTower; simp [h0, h1, h2, h3, h4]
            go_enter Try.func100, Try.ntmps100
            go_wp2_with (first
              | (go_at_call 122; refine (implwithin_any _ _ _ _).mono ?_; rintro e w2 ⟨rfl, rfl⟩)
              | (go_at_call 127; refine (implisReach_any _ _).mono ?_; rintro e w2 ⟨rfl, rfl⟩)
              | (go_at_call 178; refine (implisSide_any _ _).mono ?_; rintro e w2 ⟨rfl, rfl⟩)
              | (go_at_call 163; refine (IsName_any _ _ (by assumption)).mono ?_; rintro e w1 ⟨rfl, hb1⟩; obtain ⟨fcb1, ffb1, fzb1⟩ := bfacts hb1 (by first | exact Nat.le_refl _ | omega | (simp; omega) | simp); have fsb1 := hb1.size; try simp at fcb1 ffb1 fzb1 fsb1 hb1))
            go_ret
            exact ⟨ret_bool e.out.symm, (by repeat (first | with_reducible exact Below.refl _ _ | with_reducible assumption | (with_reducible refine Below.drew ?_) | (with_reducible refine below_drewN ?_ _) | ((with_reducible refine Below.alloc ?_ ?_ _); rotate_left; (focus (first | omega | (simp; omega) | simp))) | ((with_reducible refine Below.setCell ?_ ?_ _); rotate_left; (focus (first | omega | (simp; omega) | simp))) | (refine Below.trans ?_ (Below.mono (by assumption) (by first | omega | (simp; omega) | simp)))))⟩
theorem specl22Tower (bl off : Nat) (x0 : ByteArray) (x1 : Int) (x2 : Int) (x3 : Int) (x4 : Int) (w : World) (hs0 : x0.size ≤ maxLen) (c0 : w.cell? ⟨bl, off, none⟩ = some (.string x0)) (c1 : w.cell? ⟨bl, off + 1, none⟩ = some (.int .i64 x1)) (c2 : w.cell? ⟨bl, off + 2, none⟩ = some (.int .i64 x2)) (c3 : w.cell? ⟨bl, off + 3, none⟩ = some (.int .i64 x3)) (c4 : w.cell? ⟨bl, off + 4, none⟩ = some (.int .i64 x4)) : Calls Try.prog 94 #[.pointer (some ⟨bl, off, none⟩)] w fun e w' => e = .returned (.bool (vTower x0 x1 x2 x3 x4)) ∧ w = w' := by
  cases h0 : nameB x0.data.toList
  · have e : Hid (vTower x0 x1 x2 x3 x4 = false) := by unfold Hid vTower; simp [h0]
    go_enter Try.func94, Try.ntmps94
    go_wp2_with (first
      | (go_at_call 96; refine (specl00In_any _ _ _ _).mono ?_; rintro e w2 ⟨rfl, rfl⟩)
      | (go_at_call 160; refine (l01Name_any _ _ (by assumption)).mono ?_; rintro e w1 ⟨rfl, rfl⟩))
    go_ret
    exact ⟨ret_bool e.out.symm, rfl⟩
  · cases h1 : inB x1 (100) 10000
    · have e : Hid (vTower x0 x1 x2 x3 x4 = false) := by unfold Hid vTower; simp [h1]
      go_enter Try.func94, Try.ntmps94
      go_wp2_with (first
        | (go_at_call 96; refine (specl00In_any _ _ _ _).mono ?_; rintro e w2 ⟨rfl, rfl⟩)
        | (go_at_call 160; refine (l01Name_any _ _ (by assumption)).mono ?_; rintro e w1 ⟨rfl, rfl⟩))
      go_ret
      exact ⟨ret_bool e.out.symm, rfl⟩
    · cases h2 : inB x2 (5) 500
      · have e : Hid (vTower x0 x1 x2 x3 x4 = false) := by unfold Hid vTower; simp [h2]
        go_enter Try.func94, Try.ntmps94
        go_wp2_with (first
          | (go_at_call 96; refine (specl00In_any _ _ _ _).mono ?_; rintro e w2 ⟨rfl, rfl⟩)
          | (go_at_call 160; refine (l01Name_any _ _ (by assumption)).mono ?_; rintro e w1 ⟨rfl, rfl⟩))
        go_ret
        exact ⟨ret_bool e.out.symm, rfl⟩
      · cases h3 : inB x3 (1) 1000000
        · have e : Hid (vTower x0 x1 x2 x3 x4 = false) := by unfold Hid vTower; simp [h3]
          go_enter Try.func94, Try.ntmps94
          go_wp2_with (first
            | (go_at_call 96; refine (specl00In_any _ _ _ _).mono ?_; rintro e w2 ⟨rfl, rfl⟩)
            | (go_at_call 160; refine (l01Name_any _ _ (by assumption)).mono ?_; rintro e w1 ⟨rfl, rfl⟩))
          go_ret
          exact ⟨ret_bool e.out.symm, rfl⟩
        · cases h4 : inB x4 (0) 100000
          · have e : Hid (vTower x0 x1 x2 x3 x4 = false) := by unfold Hid vTower; simp [h4]
            go_enter Try.func94, Try.ntmps94
            go_wp2_with (first
              | (go_at_call 96; refine (specl00In_any _ _ _ _).mono ?_; rintro e w2 ⟨rfl, rfl⟩)
              | (go_at_call 160; refine (l01Name_any _ _ (by assumption)).mono ?_; rintro e w1 ⟨rfl, rfl⟩))
            go_ret
            exact ⟨ret_bool e.out.symm, rfl⟩
          · have e : Hid (vTower x0 x1 x2 x3 x4 = true) := by unfold Hid vTower; simp [h0, h1, h2, h3, h4]
            go_enter Try.func94, Try.ntmps94
            go_wp2_with (first
              | (go_at_call 96; refine (specl00In_any _ _ _ _).mono ?_; rintro e w2 ⟨rfl, rfl⟩)
              | (go_at_call 160; refine (l01Name_any _ _ (by assumption)).mono ?_; rintro e w1 ⟨rfl, rfl⟩))
            go_ret
            exact ⟨ret_bool e.out.symm, rfl⟩
theorem lawstoTower (x0 : ByteArray) (x1 : Int) (x2 : Int) (x3 : Int) (x4 : Int) (w : World) : Calls Try.prog 37 #[.agg #[.string x0, .int .i64 x1, .int .i64 x2, .int .i64 x3, .int .i64 x4]] w fun e w' => e = .returned (.agg #[.string x0, .int .i64 x1, .int .i64 x2, .int .i64 x3, .int .i64 x4]) ∧ Below w.heap.size w w' := by
  go_enter Try.func37, Try.ntmps37
  go_wp2
  refine bodyPost_ret (v := .agg #[.string x0, .int .i64 x1, .int .i64 x2, .int .i64 x3, .int .i64 x4]) (by simp [results, Try.results37, go_sem]) rfl ⟨rfl, (by repeat (first | with_reducible exact Below.refl _ _ | with_reducible assumption | (with_reducible refine Below.drew ?_) | (with_reducible refine below_drewN ?_ _) | ((with_reducible refine Below.alloc ?_ ?_ _); rotate_left; (focus (first | omega | (simp; omega) | simp))) | ((with_reducible refine Below.setCell ?_ ?_ _); rotate_left; (focus (first | omega | (simp; omega) | simp))) | (refine Below.trans ?_ (Below.mono (by assumption) (by first | omega | (simp; omega) | simp)))))⟩
theorem lawsszTower_ok (x0 : ByteArray) (x1 : Int) (x2 : Int) (x3 : Int) (x4 : Int) (left : Int) (w : World) (h : (x0.size : Int) ≤ left) (h2 : left ≤ 1048576) : Calls Try.prog 34 #[.agg #[.string x0, .int .i64 x1, .int .i64 x2, .int .i64 x3, .int .i64 x4], .int .i64 left] w fun e w' => e = .returned (.int .i64 (left - x0.size)) ∧ Below w.heap.size w w' := by
  go_enter Try.func34, Try.ntmps34
  go_wp2
  go_ret
  exact ⟨rfl, (by repeat (first | with_reducible exact Below.refl _ _ | with_reducible assumption | (with_reducible refine Below.drew ?_) | (with_reducible refine below_drewN ?_ _) | ((with_reducible refine Below.alloc ?_ ?_ _); rotate_left; (focus (first | omega | (simp; omega) | simp))) | ((with_reducible refine Below.setCell ?_ ?_ _); rotate_left; (focus (first | omega | (simp; omega) | simp))) | (refine Below.trans ?_ (Below.mono (by assumption) (by first | omega | (simp; omega) | simp)))))⟩
theorem lawsszTower_big (x0 : ByteArray) (x1 : Int) (x2 : Int) (x3 : Int) (x4 : Int) (left : Int) (w : World) (hs : x0.size ≤ maxLen) (h : left < x0.size) (h0 : 0 ≤ left) : Calls Try.prog 34 #[.agg #[.string x0, .int .i64 x1, .int .i64 x2, .int .i64 x3, .int .i64 x4], .int .i64 left] w fun e w' => e = .returned (.int .i64 (-1)) ∧ Below w.heap.size w w' := by
  unfold maxLen at hs
  go_enter Try.func34, Try.ntmps34
  go_wp2
  go_ret
  exact ⟨rfl, (by repeat (first | with_reducible exact Below.refl _ _ | with_reducible assumption | (with_reducible refine Below.drew ?_) | (with_reducible refine below_drewN ?_ _) | ((with_reducible refine Below.alloc ?_ ?_ _); rotate_left; (focus (first | omega | (simp; omega) | simp))) | ((with_reducible refine Below.setCell ?_ ?_ _); rotate_left; (focus (first | omega | (simp; omega) | simp))) | (refine Below.trans ?_ (Below.mono (by assumption) (by first | omega | (simp; omega) | simp)))))⟩
theorem lawsszTower_any (x0 : ByteArray) (x1 : Int) (x2 : Int) (x3 : Int) (x4 : Int) (left : Int) (w : World) (hs : x0.size ≤ maxLen) (h0 : 0 ≤ left) (h1 : left ≤ 1048576) : Calls Try.prog 34 #[.agg #[.string x0, .int .i64 x1, .int .i64 x2, .int .i64 x3, .int .i64 x4], .int .i64 left] w fun e w' => ∃ r : Int, e = .returned (.int .i64 r) ∧ -1 ≤ r ∧ r ≤ left ∧ Below w.heap.size w w' := by
  by_cases h : (x0.size : Int) ≤ left
  · exact (lawsszTower_ok x0 x1 x2 x3 x4 left w h h1).mono fun _ _ ⟨a, b⟩ => ⟨_, a, by omega, by omega, b⟩
  · exact (lawsszTower_big x0 x1 x2 x3 x4 left w hs (by omega) h0).mono fun _ _ ⟨a, b⟩ => ⟨_, a, by omega, by omega, b⟩
def vSwing (x0 : ByteArray) (x1 : Int) (x2 : Int) : Bool := nameB x0.data.toList && inB x1 (100) 5000 && inB x2 (1) 1000000
theorem vSwing_true (x0 : ByteArray) (x1 : Int) (x2 : Int) (h : vSwing x0 x1 x2 = true) : (nameB x0.data.toList = true) ∧ ((100) ≤ x1 ∧ x1 ≤ 5000) ∧ ((1) ≤ x2 ∧ x2 ≤ 1000000) := by
  unfold vSwing at h
  simp only [Bool.and_eq_true] at h
  exact ⟨h.1.1, inB_true h.1.2, inB_true h.2⟩
theorem implvalidSwing (x0 : ByteArray) (x1 : Int) (x2 : Int) (w : World) (hs0 : x0.size ≤ maxLen) : Calls Try.prog 117 #[.agg #[.string x0, .int .i64 x1, .int .i64 x2]] w fun e w' => e = .returned (.bool (vSwing x0 x1 x2)) ∧ Below w.heap.size w w' := by
  cases h0 : nameB x0.data.toList
  · have e : Hid (vSwing x0 x1 x2 = false) := by unfold Hid vSwing; simp [h0]
    go_enter Try.func117, Try.ntmps117
    go_wp2_with (first
      | (go_at_call 122; refine (implwithin_any _ _ _ _).mono ?_; rintro e w2 ⟨rfl, rfl⟩)
      | (go_at_call 127; refine (implisReach_any _ _).mono ?_; rintro e w2 ⟨rfl, rfl⟩)
      | (go_at_call 178; refine (implisSide_any _ _).mono ?_; rintro e w2 ⟨rfl, rfl⟩)
      | (go_at_call 163; refine (IsName_any _ _ (by assumption)).mono ?_; rintro e w1 ⟨rfl, hb1⟩; obtain ⟨fcb1, ffb1, fzb1⟩ := bfacts hb1 (by first | exact Nat.le_refl _ | omega | (simp; omega) | simp); have fsb1 := hb1.size; try simp at fcb1 ffb1 fzb1 fsb1 hb1))
    go_ret
    exact ⟨ret_bool e.out.symm, (by repeat (first | with_reducible exact Below.refl _ _ | with_reducible assumption | (with_reducible refine Below.drew ?_) | (with_reducible refine below_drewN ?_ _) | ((with_reducible refine Below.alloc ?_ ?_ _); rotate_left; (focus (first | omega | (simp; omega) | simp))) | ((with_reducible refine Below.setCell ?_ ?_ _); rotate_left; (focus (first | omega | (simp; omega) | simp))) | (refine Below.trans ?_ (Below.mono (by assumption) (by first | omega | (simp; omega) | simp)))))⟩
  · cases h1 : inB x1 (100) 5000
    · have e : Hid (vSwing x0 x1 x2 = false) := by unfold Hid vSwing; simp [h1]
      go_enter Try.func117, Try.ntmps117
      go_wp2_with (first
        | (go_at_call 122; refine (implwithin_any _ _ _ _).mono ?_; rintro e w2 ⟨rfl, rfl⟩)
        | (go_at_call 127; refine (implisReach_any _ _).mono ?_; rintro e w2 ⟨rfl, rfl⟩)
        | (go_at_call 178; refine (implisSide_any _ _).mono ?_; rintro e w2 ⟨rfl, rfl⟩)
        | (go_at_call 163; refine (IsName_any _ _ (by assumption)).mono ?_; rintro e w1 ⟨rfl, hb1⟩; obtain ⟨fcb1, ffb1, fzb1⟩ := bfacts hb1 (by first | exact Nat.le_refl _ | omega | (simp; omega) | simp); have fsb1 := hb1.size; try simp at fcb1 ffb1 fzb1 fsb1 hb1))
      go_ret
      exact ⟨ret_bool e.out.symm, (by repeat (first | with_reducible exact Below.refl _ _ | with_reducible assumption | (with_reducible refine Below.drew ?_) | (with_reducible refine below_drewN ?_ _) | ((with_reducible refine Below.alloc ?_ ?_ _); rotate_left; (focus (first | omega | (simp; omega) | simp))) | ((with_reducible refine Below.setCell ?_ ?_ _); rotate_left; (focus (first | omega | (simp; omega) | simp))) | (refine Below.trans ?_ (Below.mono (by assumption) (by first | omega | (simp; omega) | simp)))))⟩
    · cases h2 : inB x2 (1) 1000000
      · have e : Hid (vSwing x0 x1 x2 = false) := by unfold Hid vSwing; simp [h2]
        go_enter Try.func117, Try.ntmps117
        go_wp2_with (first
          | (go_at_call 122; refine (implwithin_any _ _ _ _).mono ?_; rintro e w2 ⟨rfl, rfl⟩)
          | (go_at_call 127; refine (implisReach_any _ _).mono ?_; rintro e w2 ⟨rfl, rfl⟩)
          | (go_at_call 178; refine (implisSide_any _ _).mono ?_; rintro e w2 ⟨rfl, rfl⟩)
          | (go_at_call 163; refine (IsName_any _ _ (by assumption)).mono ?_; rintro e w1 ⟨rfl, hb1⟩; obtain ⟨fcb1, ffb1, fzb1⟩ := bfacts hb1 (by first | exact Nat.le_refl _ | omega | (simp; omega) | simp); have fsb1 := hb1.size; try simp at fcb1 ffb1 fzb1 fsb1 hb1))
        go_ret
        exact ⟨ret_bool e.out.symm, (by repeat (first | with_reducible exact Below.refl _ _ | with_reducible assumption | (with_reducible refine Below.drew ?_) | (with_reducible refine below_drewN ?_ _) | ((with_reducible refine Below.alloc ?_ ?_ _); rotate_left; (focus (first | omega | (simp; omega) | simp))) | ((with_reducible refine Below.setCell ?_ ?_ _); rotate_left; (focus (first | omega | (simp; omega) | simp))) | (refine Below.trans ?_ (Below.mono (by assumption) (by first | omega | (simp; omega) | simp)))))⟩
      · have e : Hid (vSwing x0 x1 x2 = true) := by unfold Hid vSwing; simp [h0, h1, h2]
        go_enter Try.func117, Try.ntmps117
        go_wp2_with (first
          | (go_at_call 122; refine (implwithin_any _ _ _ _).mono ?_; rintro e w2 ⟨rfl, rfl⟩)
          | (go_at_call 127; refine (implisReach_any _ _).mono ?_; rintro e w2 ⟨rfl, rfl⟩)
          | (go_at_call 178; refine (implisSide_any _ _).mono ?_; rintro e w2 ⟨rfl, rfl⟩)
          | (go_at_call 163; refine (IsName_any _ _ (by assumption)).mono ?_; rintro e w1 ⟨rfl, hb1⟩; obtain ⟨fcb1, ffb1, fzb1⟩ := bfacts hb1 (by first | exact Nat.le_refl _ | omega | (simp; omega) | simp); have fsb1 := hb1.size; try simp at fcb1 ffb1 fzb1 fsb1 hb1))
        go_ret
        exact ⟨ret_bool e.out.symm, (by repeat (first | with_reducible exact Below.refl _ _ | with_reducible assumption | (with_reducible refine Below.drew ?_) | (with_reducible refine below_drewN ?_ _) | ((with_reducible refine Below.alloc ?_ ?_ _); rotate_left; (focus (first | omega | (simp; omega) | simp))) | ((with_reducible refine Below.setCell ?_ ?_ _); rotate_left; (focus (first | omega | (simp; omega) | simp))) | (refine Below.trans ?_ (Below.mono (by assumption) (by first | omega | (simp; omega) | simp)))))⟩
theorem specl22One (bl off : Nat) (x0 : ByteArray) (x1 : Int) (x2 : Int) (w : World) (hs0 : x0.size ≤ maxLen) (c0 : w.cell? ⟨bl, off, none⟩ = some (.string x0)) (c1 : w.cell? ⟨bl, off + 1, none⟩ = some (.int .i64 x1)) (c2 : w.cell? ⟨bl, off + 2, none⟩ = some (.int .i64 x2)) : Calls Try.prog 161 #[.pointer (some ⟨bl, off, none⟩)] w fun e w' => e = .returned (.bool (vSwing x0 x1 x2)) ∧ w = w' := by
  cases h0 : nameB x0.data.toList
  · have e : Hid (vSwing x0 x1 x2 = false) := by unfold Hid vSwing; simp [h0]
    go_enter Try.func161, Try.ntmps161
    go_wp2_with (first
      | (go_at_call 96; refine (specl00In_any _ _ _ _).mono ?_; rintro e w2 ⟨rfl, rfl⟩)
      | (go_at_call 160; refine (l01Name_any _ _ (by assumption)).mono ?_; rintro e w1 ⟨rfl, rfl⟩))
    go_ret
    exact ⟨ret_bool e.out.symm, rfl⟩
  · cases h1 : inB x1 (100) 5000
    · have e : Hid (vSwing x0 x1 x2 = false) := by unfold Hid vSwing; simp [h1]
      go_enter Try.func161, Try.ntmps161
      go_wp2_with (first
        | (go_at_call 96; refine (specl00In_any _ _ _ _).mono ?_; rintro e w2 ⟨rfl, rfl⟩)
        | (go_at_call 160; refine (l01Name_any _ _ (by assumption)).mono ?_; rintro e w1 ⟨rfl, rfl⟩))
      go_ret
      exact ⟨ret_bool e.out.symm, rfl⟩
    · cases h2 : inB x2 (1) 1000000
      · have e : Hid (vSwing x0 x1 x2 = false) := by unfold Hid vSwing; simp [h2]
        go_enter Try.func161, Try.ntmps161
        go_wp2_with (first
          | (go_at_call 96; refine (specl00In_any _ _ _ _).mono ?_; rintro e w2 ⟨rfl, rfl⟩)
          | (go_at_call 160; refine (l01Name_any _ _ (by assumption)).mono ?_; rintro e w1 ⟨rfl, rfl⟩))
        go_ret
        exact ⟨ret_bool e.out.symm, rfl⟩
      · have e : Hid (vSwing x0 x1 x2 = true) := by unfold Hid vSwing; simp [h0, h1, h2]
        go_enter Try.func161, Try.ntmps161
        go_wp2_with (first
          | (go_at_call 96; refine (specl00In_any _ _ _ _).mono ?_; rintro e w2 ⟨rfl, rfl⟩)
          | (go_at_call 160; refine (l01Name_any _ _ (by assumption)).mono ?_; rintro e w1 ⟨rfl, rfl⟩))
        go_ret
        exact ⟨ret_bool e.out.symm, rfl⟩
theorem lawstoSwing (x0 : ByteArray) (x1 : Int) (x2 : Int) (w : World) : Calls Try.prog 99 #[.agg #[.string x0, .int .i64 x1, .int .i64 x2]] w fun e w' => e = .returned (.agg #[.string x0, .int .i64 x1, .int .i64 x2]) ∧ Below w.heap.size w w' := by
  go_enter Try.func99, Try.ntmps99
  go_wp2
  refine bodyPost_ret (v := .agg #[.string x0, .int .i64 x1, .int .i64 x2]) (by simp [results, Try.results99, go_sem]) rfl ⟨rfl, (by repeat (first | with_reducible exact Below.refl _ _ | with_reducible assumption | (with_reducible refine Below.drew ?_) | (with_reducible refine below_drewN ?_ _) | ((with_reducible refine Below.alloc ?_ ?_ _); rotate_left; (focus (first | omega | (simp; omega) | simp))) | ((with_reducible refine Below.setCell ?_ ?_ _); rotate_left; (focus (first | omega | (simp; omega) | simp))) | (refine Below.trans ?_ (Below.mono (by assumption) (by first | omega | (simp; omega) | simp)))))⟩
theorem lawsszSwing_ok (x0 : ByteArray) (x1 : Int) (x2 : Int) (left : Int) (w : World) (h : (x0.size : Int) ≤ left) (h2 : left ≤ 1048576) : Calls Try.prog 93 #[.agg #[.string x0, .int .i64 x1, .int .i64 x2], .int .i64 left] w fun e w' => e = .returned (.int .i64 (left - x0.size)) ∧ Below w.heap.size w w' := by
  go_enter Try.func93, Try.ntmps93
  go_wp2
  go_ret
  exact ⟨rfl, (by repeat (first | with_reducible exact Below.refl _ _ | with_reducible assumption | (with_reducible refine Below.drew ?_) | (with_reducible refine below_drewN ?_ _) | ((with_reducible refine Below.alloc ?_ ?_ _); rotate_left; (focus (first | omega | (simp; omega) | simp))) | ((with_reducible refine Below.setCell ?_ ?_ _); rotate_left; (focus (first | omega | (simp; omega) | simp))) | (refine Below.trans ?_ (Below.mono (by assumption) (by first | omega | (simp; omega) | simp)))))⟩
theorem lawsszSwing_big (x0 : ByteArray) (x1 : Int) (x2 : Int) (left : Int) (w : World) (hs : x0.size ≤ maxLen) (h : left < x0.size) (h0 : 0 ≤ left) : Calls Try.prog 93 #[.agg #[.string x0, .int .i64 x1, .int .i64 x2], .int .i64 left] w fun e w' => e = .returned (.int .i64 (-1)) ∧ Below w.heap.size w w' := by
  unfold maxLen at hs
  go_enter Try.func93, Try.ntmps93
  go_wp2
  go_ret
  exact ⟨rfl, (by repeat (first | with_reducible exact Below.refl _ _ | with_reducible assumption | (with_reducible refine Below.drew ?_) | (with_reducible refine below_drewN ?_ _) | ((with_reducible refine Below.alloc ?_ ?_ _); rotate_left; (focus (first | omega | (simp; omega) | simp))) | ((with_reducible refine Below.setCell ?_ ?_ _); rotate_left; (focus (first | omega | (simp; omega) | simp))) | (refine Below.trans ?_ (Below.mono (by assumption) (by first | omega | (simp; omega) | simp)))))⟩
theorem lawsszSwing_any (x0 : ByteArray) (x1 : Int) (x2 : Int) (left : Int) (w : World) (hs : x0.size ≤ maxLen) (h0 : 0 ≤ left) (h1 : left ≤ 1048576) : Calls Try.prog 93 #[.agg #[.string x0, .int .i64 x1, .int .i64 x2], .int .i64 left] w fun e w' => ∃ r : Int, e = .returned (.int .i64 r) ∧ -1 ≤ r ∧ r ≤ left ∧ Below w.heap.size w w' := by
  by_cases h : (x0.size : Int) ≤ left
  · exact (lawsszSwing_ok x0 x1 x2 left w h h1).mono fun _ _ ⟨a, b⟩ => ⟨_, a, by omega, by omega, b⟩
  · exact (lawsszSwing_big x0 x1 x2 left w hs (by omega) h0).mono fun _ _ ⟨a, b⟩ => ⟨_, a, by omega, by omega, b⟩
def vPlace (x0 : ByteArray) (x1 : Int) (x2 : Int) (x3 : Int) (x4 : Int) : Bool := nameB x0.data.toList && inB x1 (0) 20000 && inB x2 (0) 20000 && inB x3 (0) 20000 && inB x4 (1) 5000
theorem vPlace_true (x0 : ByteArray) (x1 : Int) (x2 : Int) (x3 : Int) (x4 : Int) (h : vPlace x0 x1 x2 x3 x4 = true) : (nameB x0.data.toList = true) ∧ ((0) ≤ x1 ∧ x1 ≤ 20000) ∧ ((0) ≤ x2 ∧ x2 ≤ 20000) ∧ ((0) ≤ x3 ∧ x3 ≤ 20000) ∧ ((1) ≤ x4 ∧ x4 ≤ 5000) := by
  unfold vPlace at h
  simp only [Bool.and_eq_true] at h
  exact ⟨h.1.1.1.1, inB_true h.1.1.1.2, inB_true h.1.1.2, inB_true h.1.2, inB_true h.2⟩
theorem implvalidPlace (x0 : ByteArray) (x1 : Int) (x2 : Int) (x3 : Int) (x4 : Int) (w : World) (hs0 : x0.size ≤ maxLen) : Calls Try.prog 132 #[.agg #[.string x0, .int .i64 x1, .int .i64 x2, .int .i64 x3, .int .i64 x4]] w fun e w' => e = .returned (.bool (vPlace x0 x1 x2 x3 x4)) ∧ Below w.heap.size w w' := by
  cases h0 : nameB x0.data.toList
  · have e : Hid (vPlace x0 x1 x2 x3 x4 = false) := by unfold Hid vPlace; simp [h0]
    go_enter Try.func132, Try.ntmps132
    go_wp2_with (first
      | (go_at_call 122; refine (implwithin_any _ _ _ _).mono ?_; rintro e w2 ⟨rfl, rfl⟩)
      | (go_at_call 127; refine (implisReach_any _ _).mono ?_; rintro e w2 ⟨rfl, rfl⟩)
      | (go_at_call 178; refine (implisSide_any _ _).mono ?_; rintro e w2 ⟨rfl, rfl⟩)
      | (go_at_call 163; refine (IsName_any _ _ (by assumption)).mono ?_; rintro e w1 ⟨rfl, hb1⟩; obtain ⟨fcb1, ffb1, fzb1⟩ := bfacts hb1 (by first | exact Nat.le_refl _ | omega | (simp; omega) | simp); have fsb1 := hb1.size; try simp at fcb1 ffb1 fzb1 fsb1 hb1))
    go_ret
    exact ⟨ret_bool e.out.symm, (by repeat (first | with_reducible exact Below.refl _ _ | with_reducible assumption | (with_reducible refine Below.drew ?_) | (with_reducible refine below_drewN ?_ _) | ((with_reducible refine Below.alloc ?_ ?_ _); rotate_left; (focus (first | omega | (simp; omega) | simp))) | ((with_reducible refine Below.setCell ?_ ?_ _); rotate_left; (focus (first | omega | (simp; omega) | simp))) | (refine Below.trans ?_ (Below.mono (by assumption) (by first | omega | (simp; omega) | simp)))))⟩
  · cases h1 : inB x1 (0) 20000
    · have e : Hid (vPlace x0 x1 x2 x3 x4 = false) := by unfold Hid vPlace; simp [h1]
      go_enter Try.func132, Try.ntmps132
      go_wp2_with (first
        | (go_at_call 122; refine (implwithin_any _ _ _ _).mono ?_; rintro e w2 ⟨rfl, rfl⟩)
        | (go_at_call 127; refine (implisReach_any _ _).mono ?_; rintro e w2 ⟨rfl, rfl⟩)
        | (go_at_call 178; refine (implisSide_any _ _).mono ?_; rintro e w2 ⟨rfl, rfl⟩)
        | (go_at_call 163; refine (IsName_any _ _ (by assumption)).mono ?_; rintro e w1 ⟨rfl, hb1⟩; obtain ⟨fcb1, ffb1, fzb1⟩ := bfacts hb1 (by first | exact Nat.le_refl _ | omega | (simp; omega) | simp); have fsb1 := hb1.size; try simp at fcb1 ffb1 fzb1 fsb1 hb1))
      go_ret
      exact ⟨ret_bool e.out.symm, (by repeat (first | with_reducible exact Below.refl _ _ | with_reducible assumption | (with_reducible refine Below.drew ?_) | (with_reducible refine below_drewN ?_ _) | ((with_reducible refine Below.alloc ?_ ?_ _); rotate_left; (focus (first | omega | (simp; omega) | simp))) | ((with_reducible refine Below.setCell ?_ ?_ _); rotate_left; (focus (first | omega | (simp; omega) | simp))) | (refine Below.trans ?_ (Below.mono (by assumption) (by first | omega | (simp; omega) | simp)))))⟩
    · cases h2 : inB x2 (0) 20000
      · have e : Hid (vPlace x0 x1 x2 x3 x4 = false) := by unfold Hid vPlace; simp [h2]
        go_enter Try.func132, Try.ntmps132
        go_wp2_with (first
          | (go_at_call 122; refine (implwithin_any _ _ _ _).mono ?_; rintro e w2 ⟨rfl, rfl⟩)
          | (go_at_call 127; refine (implisReach_any _ _).mono ?_; rintro e w2 ⟨rfl, rfl⟩)
          | (go_at_call 178; refine (implisSide_any _ _).mono ?_; rintro e w2 ⟨rfl, rfl⟩)
          | (go_at_call 163; refine (IsName_any _ _ (by assumption)).mono ?_; rintro e w1 ⟨rfl, hb1⟩; obtain ⟨fcb1, ffb1, fzb1⟩ := bfacts hb1 (by first | exact Nat.le_refl _ | omega | (simp; omega) | simp); have fsb1 := hb1.size; try simp at fcb1 ffb1 fzb1 fsb1 hb1))
        go_ret
        exact ⟨ret_bool e.out.symm, (by repeat (first | with_reducible exact Below.refl _ _ | with_reducible assumption | (with_reducible refine Below.drew ?_) | (with_reducible refine below_drewN ?_ _) | ((with_reducible refine Below.alloc ?_ ?_ _); rotate_left; (focus (first | omega | (simp; omega) | simp))) | ((with_reducible refine Below.setCell ?_ ?_ _); rotate_left; (focus (first | omega | (simp; omega) | simp))) | (refine Below.trans ?_ (Below.mono (by assumption) (by first | omega | (simp; omega) | simp)))))⟩
      · cases h3 : inB x3 (0) 20000
        · have e : Hid (vPlace x0 x1 x2 x3 x4 = false) := by unfold Hid vPlace; simp [h3]
          go_enter Try.func132, Try.ntmps132
          go_wp2_with (first
            | (go_at_call 122; refine (implwithin_any _ _ _ _).mono ?_; rintro e w2 ⟨rfl, rfl⟩)
            | (go_at_call 127; refine (implisReach_any _ _).mono ?_; rintro e w2 ⟨rfl, rfl⟩)
            | (go_at_call 178; refine (implisSide_any _ _).mono ?_; rintro e w2 ⟨rfl, rfl⟩)
            | (go_at_call 163; refine (IsName_any _ _ (by assumption)).mono ?_; rintro e w1 ⟨rfl, hb1⟩; obtain ⟨fcb1, ffb1, fzb1⟩ := bfacts hb1 (by first | exact Nat.le_refl _ | omega | (simp; omega) | simp); have fsb1 := hb1.size; try simp at fcb1 ffb1 fzb1 fsb1 hb1))
          go_ret
          exact ⟨ret_bool e.out.symm, (by repeat (first | with_reducible exact Below.refl _ _ | with_reducible assumption | (with_reducible refine Below.drew ?_) | (with_reducible refine below_drewN ?_ _) | ((with_reducible refine Below.alloc ?_ ?_ _); rotate_left; (focus (first | omega | (simp; omega) | simp))) | ((with_reducible refine Below.setCell ?_ ?_ _); rotate_left; (focus (first | omega | (simp; omega) | simp))) | (refine Below.trans ?_ (Below.mono (by assumption) (by first | omega | (simp; omega) | simp)))))⟩
        · cases h4 : inB x4 (1) 5000
          · have e : Hid (vPlace x0 x1 x2 x3 x4 = false) := by unfold Hid vPlace; simp [h4]
            go_enter Try.func132, Try.ntmps132
            go_wp2_with (first
              | (go_at_call 122; refine (implwithin_any _ _ _ _).mono ?_; rintro e w2 ⟨rfl, rfl⟩)
              | (go_at_call 127; refine (implisReach_any _ _).mono ?_; rintro e w2 ⟨rfl, rfl⟩)
              | (go_at_call 178; refine (implisSide_any _ _).mono ?_; rintro e w2 ⟨rfl, rfl⟩)
              | (go_at_call 163; refine (IsName_any _ _ (by assumption)).mono ?_; rintro e w1 ⟨rfl, hb1⟩; obtain ⟨fcb1, ffb1, fzb1⟩ := bfacts hb1 (by first | exact Nat.le_refl _ | omega | (simp; omega) | simp); have fsb1 := hb1.size; try simp at fcb1 ffb1 fzb1 fsb1 hb1))
            go_ret
            exact ⟨ret_bool e.out.symm, (by repeat (first | with_reducible exact Below.refl _ _ | with_reducible assumption | (with_reducible refine Below.drew ?_) | (with_reducible refine below_drewN ?_ _) | ((with_reducible refine Below.alloc ?_ ?_ _); rotate_left; (focus (first | omega | (simp; omega) | simp))) | ((with_reducible refine Below.setCell ?_ ?_ _); rotate_left; (focus (first | omega | (simp; omega) | simp))) | (refine Below.trans ?_ (Below.mono (by assumption) (by first | omega | (simp; omega) | simp)))))⟩
          · have e : Hid (vPlace x0 x1 x2 x3 x4 = true) := by unfold Hid vPlace; simp [h0, h1, h2, h3, h4]
            go_enter Try.func132, Try.ntmps132
            go_wp2_with (first
              | (go_at_call 122; refine (implwithin_any _ _ _ _).mono ?_; rintro e w2 ⟨rfl, rfl⟩)
              | (go_at_call 127; refine (implisReach_any _ _).mono ?_; rintro e w2 ⟨rfl, rfl⟩)
              | (go_at_call 178; refine (implisSide_any _ _).mono ?_; rintro e w2 ⟨rfl, rfl⟩)
              | (go_at_call 163; refine (IsName_any _ _ (by assumption)).mono ?_; rintro e w1 ⟨rfl, hb1⟩; obtain ⟨fcb1, ffb1, fzb1⟩ := bfacts hb1 (by first | exact Nat.le_refl _ | omega | (simp; omega) | simp); have fsb1 := hb1.size; try simp at fcb1 ffb1 fzb1 fsb1 hb1))
            go_ret
            exact ⟨ret_bool e.out.symm, (by repeat (first | with_reducible exact Below.refl _ _ | with_reducible assumption | (with_reducible refine Below.drew ?_) | (with_reducible refine below_drewN ?_ _) | ((with_reducible refine Below.alloc ?_ ?_ _); rotate_left; (focus (first | omega | (simp; omega) | simp))) | ((with_reducible refine Below.setCell ?_ ?_ _); rotate_left; (focus (first | omega | (simp; omega) | simp))) | (refine Below.trans ?_ (Below.mono (by assumption) (by first | omega | (simp; omega) | simp)))))⟩
theorem lawstoLoad (x0 : Int) (x1 : Int) (w : World) : Calls Try.prog 69 #[.agg #[.int .i64 x0, .int .i64 x1]] w fun e w' => e = .returned (.agg #[.int .i64 x0, .int .i64 x1]) ∧ Below w.heap.size w w' := by
  go_enter Try.func69, Try.ntmps69
  go_wp2
  refine bodyPost_ret (v := .agg #[.int .i64 x0, .int .i64 x1]) (by simp [results, Try.results69, go_sem]) rfl ⟨rfl, (by repeat (first | with_reducible exact Below.refl _ _ | with_reducible assumption | (with_reducible refine Below.drew ?_) | (with_reducible refine below_drewN ?_ _) | ((with_reducible refine Below.alloc ?_ ?_ _); rotate_left; (focus (first | omega | (simp; omega) | simp))) | ((with_reducible refine Below.setCell ?_ ?_ _); rotate_left; (focus (first | omega | (simp; omega) | simp))) | (refine Below.trans ?_ (Below.mono (by assumption) (by first | omega | (simp; omega) | simp)))))⟩
def vCh (x0 : Int) (x1 : Int) (x2 : Int) : Bool := inB x0 (1) 20000 && inB x1 (1) 20000 && inB x2 (1) 20000
theorem vCh_true (x0 : Int) (x1 : Int) (x2 : Int) (h : vCh x0 x1 x2 = true) : ((1) ≤ x0 ∧ x0 ≤ 20000) ∧ ((1) ≤ x1 ∧ x1 ≤ 20000) ∧ ((1) ≤ x2 ∧ x2 ≤ 20000) := by
  unfold vCh at h
  simp only [Bool.and_eq_true] at h
  exact ⟨inB_true h.1.1, inB_true h.1.2, inB_true h.2⟩
theorem implValidChamber (x0 : Int) (x1 : Int) (x2 : Int) (w : World)  : Calls Try.prog 126 #[.agg #[.int .i64 x0, .int .i64 x1, .int .i64 x2]] w fun e w' => e = .returned (.bool (vCh x0 x1 x2)) ∧ Below w.heap.size w w' := by
  cases h0 : inB x0 (1) 20000
  · have e : Hid (vCh x0 x1 x2 = false) := by unfold Hid vCh; simp [h0]
    go_enter Try.func126, Try.ntmps126
    go_wp2_with (first
      | (go_at_call 122; refine (implwithin_any _ _ _ _).mono ?_; rintro e w2 ⟨rfl, rfl⟩)
      | (go_at_call 127; refine (implisReach_any _ _).mono ?_; rintro e w2 ⟨rfl, rfl⟩)
      | (go_at_call 178; refine (implisSide_any _ _).mono ?_; rintro e w2 ⟨rfl, rfl⟩))
    go_ret
    exact ⟨ret_bool e.out.symm, (by repeat (first | with_reducible exact Below.refl _ _ | with_reducible assumption | (with_reducible refine Below.drew ?_) | (with_reducible refine below_drewN ?_ _) | ((with_reducible refine Below.alloc ?_ ?_ _); rotate_left; (focus (first | omega | (simp; omega) | simp))) | ((with_reducible refine Below.setCell ?_ ?_ _); rotate_left; (focus (first | omega | (simp; omega) | simp))) | (refine Below.trans ?_ (Below.mono (by assumption) (by first | omega | (simp; omega) | simp)))))⟩
  · cases h1 : inB x1 (1) 20000
    · have e : Hid (vCh x0 x1 x2 = false) := by unfold Hid vCh; simp [h1]
      go_enter Try.func126, Try.ntmps126
      go_wp2_with (first
        | (go_at_call 122; refine (implwithin_any _ _ _ _).mono ?_; rintro e w2 ⟨rfl, rfl⟩)
        | (go_at_call 127; refine (implisReach_any _ _).mono ?_; rintro e w2 ⟨rfl, rfl⟩)
        | (go_at_call 178; refine (implisSide_any _ _).mono ?_; rintro e w2 ⟨rfl, rfl⟩))
      go_ret
      exact ⟨ret_bool e.out.symm, (by repeat (first | with_reducible exact Below.refl _ _ | with_reducible assumption | (with_reducible refine Below.drew ?_) | (with_reducible refine below_drewN ?_ _) | ((with_reducible refine Below.alloc ?_ ?_ _); rotate_left; (focus (first | omega | (simp; omega) | simp))) | ((with_reducible refine Below.setCell ?_ ?_ _); rotate_left; (focus (first | omega | (simp; omega) | simp))) | (refine Below.trans ?_ (Below.mono (by assumption) (by first | omega | (simp; omega) | simp)))))⟩
    · cases h2 : inB x2 (1) 20000
      · have e : Hid (vCh x0 x1 x2 = false) := by unfold Hid vCh; simp [h2]
        go_enter Try.func126, Try.ntmps126
        go_wp2_with (first
          | (go_at_call 122; refine (implwithin_any _ _ _ _).mono ?_; rintro e w2 ⟨rfl, rfl⟩)
          | (go_at_call 127; refine (implisReach_any _ _).mono ?_; rintro e w2 ⟨rfl, rfl⟩)
          | (go_at_call 178; refine (implisSide_any _ _).mono ?_; rintro e w2 ⟨rfl, rfl⟩))
        go_ret
        exact ⟨ret_bool e.out.symm, (by repeat (first | with_reducible exact Below.refl _ _ | with_reducible assumption | (with_reducible refine Below.drew ?_) | (with_reducible refine below_drewN ?_ _) | ((with_reducible refine Below.alloc ?_ ?_ _); rotate_left; (focus (first | omega | (simp; omega) | simp))) | ((with_reducible refine Below.setCell ?_ ?_ _); rotate_left; (focus (first | omega | (simp; omega) | simp))) | (refine Below.trans ?_ (Below.mono (by assumption) (by first | omega | (simp; omega) | simp)))))⟩
      · have e : Hid (vCh x0 x1 x2 = true) := by unfold Hid vCh; simp [h0, h1, h2]
        go_enter Try.func126, Try.ntmps126
        go_wp2_with (first
          | (go_at_call 122; refine (implwithin_any _ _ _ _).mono ?_; rintro e w2 ⟨rfl, rfl⟩)
          | (go_at_call 127; refine (implisReach_any _ _).mono ?_; rintro e w2 ⟨rfl, rfl⟩)
          | (go_at_call 178; refine (implisSide_any _ _).mono ?_; rintro e w2 ⟨rfl, rfl⟩))
        go_ret
        exact ⟨ret_bool e.out.symm, (by repeat (first | with_reducible exact Below.refl _ _ | with_reducible assumption | (with_reducible refine Below.drew ?_) | (with_reducible refine below_drewN ?_ _) | ((with_reducible refine Below.alloc ?_ ?_ _); rotate_left; (focus (first | omega | (simp; omega) | simp))) | ((with_reducible refine Below.setCell ?_ ?_ _); rotate_left; (focus (first | omega | (simp; omega) | simp))) | (refine Below.trans ?_ (Below.mono (by assumption) (by first | omega | (simp; omega) | simp)))))⟩
theorem specl23Chamber (bl off : Nat) (x0 : Int) (x1 : Int) (x2 : Int) (w : World)  (c0 : w.cell? ⟨bl, off, none⟩ = some (.int .i64 x0)) (c1 : w.cell? ⟨bl, off + 1, none⟩ = some (.int .i64 x1)) (c2 : w.cell? ⟨bl, off + 2, none⟩ = some (.int .i64 x2)) : Calls Try.prog 123 #[.pointer (some ⟨bl, off, none⟩)] w fun e w' => e = .returned (.bool (vCh x0 x1 x2)) ∧ w = w' := by
  cases h0 : inB x0 (1) 20000
  · have e : Hid (vCh x0 x1 x2 = false) := by unfold Hid vCh; simp [h0]
    go_enter Try.func123, Try.ntmps123
    go_wp2_with (first
      | (go_at_call 96; refine (specl00In_any _ _ _ _).mono ?_; rintro e w2 ⟨rfl, rfl⟩))
    go_ret
    exact ⟨ret_bool e.out.symm, rfl⟩
  · cases h1 : inB x1 (1) 20000
    · have e : Hid (vCh x0 x1 x2 = false) := by unfold Hid vCh; simp [h1]
      go_enter Try.func123, Try.ntmps123
      go_wp2_with (first
        | (go_at_call 96; refine (specl00In_any _ _ _ _).mono ?_; rintro e w2 ⟨rfl, rfl⟩))
      go_ret
      exact ⟨ret_bool e.out.symm, rfl⟩
    · cases h2 : inB x2 (1) 20000
      · have e : Hid (vCh x0 x1 x2 = false) := by unfold Hid vCh; simp [h2]
        go_enter Try.func123, Try.ntmps123
        go_wp2_with (first
          | (go_at_call 96; refine (specl00In_any _ _ _ _).mono ?_; rintro e w2 ⟨rfl, rfl⟩))
        go_ret
        exact ⟨ret_bool e.out.symm, rfl⟩
      · have e : Hid (vCh x0 x1 x2 = true) := by unfold Hid vCh; simp [h0, h1, h2]
        go_enter Try.func123, Try.ntmps123
        go_wp2_with (first
          | (go_at_call 96; refine (specl00In_any _ _ _ _).mono ?_; rintro e w2 ⟨rfl, rfl⟩))
        go_ret
        exact ⟨ret_bool e.out.symm, rfl⟩
theorem lawstoChamber (x0 : Int) (x1 : Int) (x2 : Int) (w : World) : Calls Try.prog 56 #[.agg #[.int .i64 x0, .int .i64 x1, .int .i64 x2]] w fun e w' => e = .returned (.agg #[.int .i64 x0, .int .i64 x1, .int .i64 x2]) ∧ Below w.heap.size w w' := by
  go_enter Try.func56, Try.ntmps56
  go_wp2
  refine bodyPost_ret (v := .agg #[.int .i64 x0, .int .i64 x1, .int .i64 x2]) (by simp [results, Try.results56, go_sem]) rfl ⟨rfl, (by repeat (first | with_reducible exact Below.refl _ _ | with_reducible assumption | (with_reducible refine Below.drew ?_) | (with_reducible refine below_drewN ?_ _) | ((with_reducible refine Below.alloc ?_ ?_ _); rotate_left; (focus (first | omega | (simp; omega) | simp))) | ((with_reducible refine Below.setCell ?_ ?_ _); rotate_left; (focus (first | omega | (simp; omega) | simp))) | (refine Below.trans ?_ (Below.mono (by assumption) (by first | omega | (simp; omega) | simp)))))⟩
end Go.Proofs.Ytjklhacffdhgaaa
