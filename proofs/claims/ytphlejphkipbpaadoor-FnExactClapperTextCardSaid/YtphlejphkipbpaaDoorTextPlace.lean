/- The text of a place, on both sides. Conditions: the name is no longer than a Go string can be; what is read lies in memory; the library's table of powers of ten is laid. -/
import Derived.Test.YtphlejphkipbpaaDoorTexts
namespace Go.Proofs.YtphlejphkipbpaaDoor
open Go.RowKit Go.Lib

theorem vPlace_vals {x0 : ByteArray} {x1 x2 x3 x4 : Int} (h : vPlace x0 x1 x2 x3 x4 = true) : x0.size ≤ 10 ∧ ∀ x ∈ [x1, x2, x3, x4], -1000000000000 ≤ x ∧ x ≤ 1000000000000 := by
  have h2 := vPlace_true x0 x1 x2 x3 x4 h
  exact ⟨name_size h2.1, by simp; omega⟩
/-- The text of a place, empty if it is not valid. -/
def txPlace (x0 : ByteArray) (x1 x2 x3 x4 : Int) : ByteArray := if vPlace x0 x1 x2 x3 x4 = true then twoW x0 [x1, x2, x3, x4] else ByteArray.empty
set_option maxRecDepth 100000 in
set_option maxHeartbeats 2000000 in
theorem specl23Text (bl : Nat) (x0 : ByteArray) (x1 x2 x3 x4 : Int) (w : World) (c0 : w.cell? ⟨bl, 0, none⟩ = some (.string x0)) (c1 : w.cell? ⟨bl, 1, none⟩ = some (.int .i64 x1)) (c2 : w.cell? ⟨bl, 2, none⟩ = some (.int .i64 x2)) (c3 : w.cell? ⟨bl, 3, none⟩ = some (.int .i64 x3)) (c4 : w.cell? ⟨bl, 4, none⟩ = some (.int .i64 x4)) (hs : x0.size ≤ 10) (hx : ∀ x ∈ [x1, x2, x3, x4], -9223372036854775808 ≤ x ∧ x ≤ 9223372036854775807) :
    Calls Tryd.prog 71 #[.pointer (some ⟨bl, 0, none⟩)] w fun e w' => e = .returned (.string (twoW x0 [x1, x2, x3, x4])) ∧ Below w.heap.size w w' := by
  have hbl := World.block_lt_of_cell? w _ c0
  simp only at hbl
  have HS := hide fun W : World => slat_litd W [x1, x2, x3, x4]
  have hrl := rowText_len (xs := [x1, x2, x3, x4]) (by simp) hx
  simp only [List.length_cons, List.length_nil] at hrl
  have HX := hide hx
  have g1 : ¬ 9223372036854775807 < x0.size + 1 := by omega
  have g2 : ¬ 9223372036854775807 < x0.size + 1 + (rowText [x1, x2, x3, x4]).length := by omega
  have P0 : ∀ w', Below w.heap.size w w' → w'.cell? ⟨bl, 0, none⟩ = some (.string x0) := fun w' h => (h.cell (p := ⟨bl, 0, none⟩) hbl).trans c0
  have P1 : ∀ w', Below w.heap.size w w' → w'.cell? ⟨bl, 1, none⟩ = some (.int .i64 x1) := fun w' h => (h.cell (p := ⟨bl, 1, none⟩) hbl).trans c1
  have P2 : ∀ w', Below w.heap.size w w' → w'.cell? ⟨bl, 2, none⟩ = some (.int .i64 x2) := fun w' h => (h.cell (p := ⟨bl, 2, none⟩) hbl).trans c2
  have P3 : ∀ w', Below w.heap.size w w' → w'.cell? ⟨bl, 3, none⟩ = some (.int .i64 x3) := fun w' h => (h.cell (p := ⟨bl, 3, none⟩) hbl).trans c3
  have P4 : ∀ w', Below w.heap.size w w' → w'.cell? ⟨bl, 4, none⟩ = some (.int .i64 x4) := fun w' h => (h.cell (p := ⟨bl, 4, none⟩) hbl).trans c4
  clear hx hrl c0 c1 c2 c3 c4
  go_enter Tryd.func71, Tryd.ntmps71
  go_wp2_with fail
  go_region_held3 (fun w' => Below w.heap.size w w')
    ((first | exact (Below.refl _ _).drew | exact Below.trans (by assumption) (hbK.mono (Below.size (by assumption : Below w.heap.size w _))) | exact ((Below.refl _ _).alloc (Nat.le_refl _) _).drew | exact (Below.alloc (by assumption) (Below.size (by assumption)) _) | exact (by repeat (first | with_reducible exact Below.refl _ _ | with_reducible assumption | (with_reducible refine Below.drew ?_) | (with_reducible refine below_drewN ?_ _) | ((with_reducible refine Below.alloc ?_ ?_ _); rotate_left; (focus (first | omega | (simp; omega) | simp))) | ((with_reducible refine Below.setCell ?_ ?_ _); rotate_left; (focus (first | omega | (simp; omega) | simp))) | (refine Below.trans ?_ (Below.mono (by assumption) (by first | omega | (simp; omega) | simp)))))))
    (first | (go_at_call 103; go_loud (refine (specl01List _ 4 [x1, x2, x3, x4] _ (HS.out _) (by simp) HX.out).mono ?_; rintro e1 wK ⟨rfl, hbK⟩)))
  all_goals
    have hbE : Below w.heap.size w wK := by first | assumption | (go_split_ands; assumption)
    go_wp2_with fail
    go_ret
    exact ⟨rfl, hbE⟩
set_option maxRecDepth 100000 in
theorem specPlaceText (x0 : ByteArray) (x1 x2 x3 x4 : Int) (w : World) (hs : x0.size ≤ maxLen) : Calls Tryd.prog 26 #[.agg #[.string x0, .int .i64 x1, .int .i64 x2, .int .i64 x3, .int .i64 x4]] w fun e w' => e = .returned (.string (txPlace x0 x1 x2 x3 x4)) ∧ Below w.heap.size w w' := by
  cases hv : vPlace x0 x1 x2 x3 x4
  · have e : Hid (txPlace x0 x1 x2 x3 x4 = ByteArray.empty) := by unfold Hid txPlace; rw [if_neg (by rw [hv]; decide)]
    go_enter Tryd.func26, Tryd.ntmps26
    go_wp2_with (go_at_call 70; refine (specl23One _ 0 x0 x1 x2 x3 x4 _ hs (by simp) (by simp) (by simp) (by simp) (by simp)).mono ?_; rintro e1 w1 ⟨rfl, rfl⟩)
    go_ret
    exact ⟨ret_st e.out.symm, (by repeat (first | with_reducible exact Below.refl _ _ | with_reducible assumption | (with_reducible refine Below.drew ?_) | (with_reducible refine below_drewN ?_ _) | ((with_reducible refine Below.alloc ?_ ?_ _); rotate_left; (focus (first | omega | (simp; omega) | simp))) | ((with_reducible refine Below.setCell ?_ ?_ _); rotate_left; (focus (first | omega | (simp; omega) | simp))) | (refine Below.trans ?_ (Below.mono (by assumption) (by first | omega | (simp; omega) | simp)))))⟩
  · have e : Hid (txPlace x0 x1 x2 x3 x4 = twoW x0 [x1, x2, x3, x4]) := by unfold Hid txPlace; rw [if_pos hv]
    have hq := vPlace_vals hv
    have HQ := hide hq
    clear hq
    go_enter Tryd.func26, Tryd.ntmps26
    go_wp2_with (go_at_call 70; refine (specl23One _ 0 x0 x1 x2 x3 x4 _ hs (by simp) (by simp) (by simp) (by simp) (by simp)).mono ?_; rintro e1 w1 ⟨rfl, rfl⟩)
    refine (specl23Text _ x0 x1 x2 x3 x4 _ (by simp) (by simp) (by simp) (by simp) (by simp) HQ.out.1 (fun x hx => by have := HQ.out.2 x hx; omega)).mono ?_
    rintro e2 w2 ⟨rfl, hb2⟩
    obtain ⟨fcb2, ffb2, fzb2⟩ := bfacts hb2 (by first | exact Nat.le_refl _ | omega | (simp; omega) | simp); have fsb2 := hb2.size; try simp at fcb2 ffb2 fzb2 fsb2 hb2
    go_wp2_with fail
    go_ret
    exact ⟨ret_st e.out.symm, (by repeat (first | with_reducible exact Below.refl _ _ | with_reducible assumption | (with_reducible refine Below.drew ?_) | (with_reducible refine below_drewN ?_ _) | ((with_reducible refine Below.alloc ?_ ?_ _); rotate_left; (focus (first | omega | (simp; omega) | simp))) | ((with_reducible refine Below.setCell ?_ ?_ _); rotate_left; (focus (first | omega | (simp; omega) | simp))) | (refine Below.trans ?_ (Below.mono (by assumption) (by first | omega | (simp; omega) | simp)))))⟩
set_option maxRecDepth 100000 in
set_option maxHeartbeats 2000000 in
theorem implPlaceText (x0 : ByteArray) (x1 x2 x3 x4 : Int) (w : World) (hE : EnvT w) (hs : x0.size ≤ maxLen) : Calls Tryd.prog 28 #[.agg #[.string x0, .int .i64 x1, .int .i64 x2, .int .i64 x3, .int .i64 x4]] w fun e w' => e = .returned (.string (txPlace x0 x1 x2 x3 x4)) ∧ Below w.heap.size w w' := by
  have HE := hide hE
  clear hE
  cases hv : vPlace x0 x1 x2 x3 x4
  · have e : Hid (txPlace x0 x1 x2 x3 x4 = ByteArray.empty) := by unfold Hid txPlace; rw [if_neg (by rw [hv]; decide)]
    go_enter Tryd.func28, Tryd.ntmps28
    go_wp2_with (go_at_call 72; refine (implvalidPlace x0 x1 x2 x3 x4 _ hs).mono ?_; rintro e1 w1 ⟨rfl, hb1⟩; obtain ⟨fcb1, ffb1, fzb1⟩ := bfacts hb1 (by first | exact Nat.le_refl _ | omega | (simp; omega) | simp); have fsb1 := hb1.size; try simp at fcb1 ffb1 fzb1 fsb1 hb1)
    go_ret
    exact ⟨ret_st e.out.symm, (by repeat (first | with_reducible exact Below.refl _ _ | with_reducible assumption | (with_reducible refine Below.drew ?_) | (with_reducible refine below_drewN ?_ _) | ((with_reducible refine Below.alloc ?_ ?_ _); rotate_left; (focus (first | omega | (simp; omega) | simp))) | ((with_reducible refine Below.setCell ?_ ?_ _); rotate_left; (focus (first | omega | (simp; omega) | simp))) | (refine Below.trans ?_ (Below.mono (by assumption) (by first | omega | (simp; omega) | simp)))))⟩
  · have e : Hid (txPlace x0 x1 x2 x3 x4 = twoW x0 [x1, x2, x3, x4]) := by unfold Hid txPlace; rw [if_pos hv]
    have hq := vPlace_vals hv
    have hrl := rowText_len (xs := [x1, x2, x3, x4]) (by simp) (fun x hx => by have := hq.2 x hx; omega)
    simp only [List.length_cons, List.length_nil] at hrl
    have g1 : ¬ 9223372036854775807 < x0.size + 1 := by omega
    have g2 : ¬ 9223372036854775807 < x0.size + 1 + (rowText [x1, x2, x3, x4]).length := by omega
    have HQ := hide hq
    clear hq hrl
    go_enter Tryd.func28, Tryd.ntmps28
    go_wp2_with (go_at_call 72; refine (implvalidPlace x0 x1 x2 x3 x4 _ hs).mono ?_; rintro e1 w1 ⟨rfl, hb1⟩; obtain ⟨fcb1, ffb1, fzb1⟩ := bfacts hb1 (by first | exact Nat.le_refl _ | omega | (simp; omega) | simp); have fsb1 := hb1.size; try simp at fcb1 ffb1 fzb1 fsb1 hb1)
    have hz : w.heap.size < w1.heap.size := by omega
    have p0 : w1.cell? ⟨w.heap.size, 0, none⟩ = some (.string x0) := by rw [fcb1 _ _ (by omega)]; simp
    have p1 : w1.cell? ⟨w.heap.size, 1, none⟩ = some (.int .i64 x1) := by rw [fcb1 _ _ (by omega)]; simp
    have p2 : w1.cell? ⟨w.heap.size, 2, none⟩ = some (.int .i64 x2) := by rw [fcb1 _ _ (by omega)]; simp
    have p3 : w1.cell? ⟨w.heap.size, 3, none⟩ = some (.int .i64 x3) := by rw [fcb1 _ _ (by omega)]; simp
    have p4 : w1.cell? ⟨w.heap.size, 4, none⟩ = some (.int .i64 x4) := by rw [fcb1 _ _ (by omega)]; simp
    have P0 : ∀ w', Below w1.heap.size w1 w' → w'.cell? ⟨w.heap.size, 0, none⟩ = some (.string x0) := fun w' h => (h.cell (p := ⟨w.heap.size, 0, none⟩) hz).trans p0
    have P1 : ∀ w', Below w1.heap.size w1 w' → w'.cell? ⟨w.heap.size, 1, none⟩ = some (.int .i64 x1) := fun w' h => (h.cell (p := ⟨w.heap.size, 1, none⟩) hz).trans p1
    have P2 : ∀ w', Below w1.heap.size w1 w' → w'.cell? ⟨w.heap.size, 2, none⟩ = some (.int .i64 x2) := fun w' h => (h.cell (p := ⟨w.heap.size, 2, none⟩) hz).trans p2
    have P3 : ∀ w', Below w1.heap.size w1 w' → w'.cell? ⟨w.heap.size, 3, none⟩ = some (.int .i64 x3) := fun w' h => (h.cell (p := ⟨w.heap.size, 3, none⟩) hz).trans p3
    have P4 : ∀ w', Below w1.heap.size w1 w' → w'.cell? ⟨w.heap.size, 4, none⟩ = some (.int .i64 x4) := fun w' h => (h.cell (p := ⟨w.heap.size, 4, none⟩) hz).trans p4
    have HB1 := hide (show Below w.heap.size w w1 from (by repeat (first | with_reducible exact Below.refl _ _ | with_reducible assumption | (with_reducible refine Below.drew ?_) | (with_reducible refine below_drewN ?_ _) | ((with_reducible refine Below.alloc ?_ ?_ _); rotate_left; (focus (first | omega | (simp; omega) | simp))) | ((with_reducible refine Below.setCell ?_ ?_ _); rotate_left; (focus (first | omega | (simp; omega) | simp))) | (refine Below.trans ?_ (Below.mono (by assumption) (by first | omega | (simp; omega) | simp))))))
    have HE1 := hide (fun w' (h : Below w1.heap.size w1 w') => HE.out.below (HB1.out.trans (h.mono HB1.out.size)))
    have HL := hide (list_row (xs := [x1, x2, x3, x4]) (by simp) HQ.out.2)
    have HS := hide fun W : World => slat_litd W [x1, x2, x3, x4]
    clear hb1 fcb1 ffb1 fzb1 fsb1 HE p0 p1 p2 p3 p4
    go_region_held3 (fun w' => Below w1.heap.size w1 w')
      ((first | exact (Below.refl _ _).drew | exact Below.trans (by assumption) (hbK.mono (Below.size (by assumption : Below w1.heap.size w1 _))) | exact ((Below.refl _ _).alloc (Nat.le_refl _) _).drew | exact (Below.alloc (by assumption) (Below.size (by assumption)) _) | exact (by repeat (first | with_reducible exact Below.refl _ _ | with_reducible assumption | (with_reducible refine Below.drew ?_) | (with_reducible refine below_drewN ?_ _) | ((with_reducible refine Below.alloc ?_ ?_ _); rotate_left; (focus (first | omega | (simp; omega) | simp))) | ((with_reducible refine Below.setCell ?_ ?_ _); rotate_left; (focus (first | omega | (simp; omega) | simp))) | (refine Below.trans ?_ (Below.mono (by assumption) (by first | omega | (simp; omega) | simp)))))))
      (first | (go_at_call 63; go_loud (refine ((implListText_row _ 4 [x1, x2, x3, x4] _ (HS.out _) (HE1.out _ (by repeat (first | with_reducible exact Below.refl _ _ | with_reducible assumption | (with_reducible refine Below.drew ?_) | (with_reducible refine below_drewN ?_ _) | ((with_reducible refine Below.alloc ?_ ?_ _); rotate_left; (focus (first | omega | (simp; omega) | simp))) | ((with_reducible refine Below.setCell ?_ ?_ _); rotate_left; (focus (first | omega | (simp; omega) | simp))) | (refine Below.trans ?_ (Below.mono (by assumption) (by first | omega | (simp; omega) | simp)))))) (by simp) (fun x hx => by have := HQ.out.2 x hx; omega) HL.out)).mono ?_; rintro e1 wK ⟨rfl, hbK⟩)))
    all_goals
      have hbE : Below w1.heap.size w1 wK := by first | assumption | (go_split_ands; assumption)
      have hbF := hide (HB1.out.trans (hbE.mono HB1.out.size))
      clear hbE
      go_wp2_with fail
      go_ret
      exact ⟨ret_st e.out.symm, hbF.out⟩
end Go.Proofs.YtphlejphkipbpaaDoor
