/- The text of a clapper, on both sides. Conditions: the name is no longer than a Go string can be; what is read lies in memory; the library's table of powers of ten is laid. -/
import Derived.Test.YtphlejphkipbpaaDoorTexts
namespace Go.Proofs.YtphlejphkipbpaaDoor
open Go.RowKit Go.Lib

theorem vClap_vals {x0 x1 x2 : Int} (h : vClap x0 x1 x2 = true) : ∀ x ∈ [x0, x1, x2], -1000000000000 ≤ x ∧ x ≤ 1000000000000 := by
  have h2 := vClap_true h
  simp; omega
/-- The text of a clapper, empty if it is not valid. -/
def txClapper (x0 x1 x2 : Int) : ByteArray := if vClap x0 x1 x2 = true then ⟨(rowText [x0, x1, x2]).toArray⟩ else ByteArray.empty
set_option maxRecDepth 100000 in
set_option maxHeartbeats 2000000 in
theorem specl20Text (bl : Nat) (x0 x1 x2 : Int) (w : World) (c0 : w.cell? ⟨bl, 0, none⟩ = some (.int .i64 x0)) (c1 : w.cell? ⟨bl, 1, none⟩ = some (.int .i64 x1)) (c2 : w.cell? ⟨bl, 2, none⟩ = some (.int .i64 x2)) (hx : ∀ x ∈ [x0, x1, x2], -9223372036854775808 ≤ x ∧ x ≤ 9223372036854775807) :
    Calls Tryd.prog 61 #[.pointer (some ⟨bl, 0, none⟩)] w fun e w' => e = .returned (.string (⟨(rowText [x0, x1, x2]).toArray⟩)) ∧ Below w.heap.size w w' := by
  have hbl := World.block_lt_of_cell? w _ c0
  simp only at hbl
  have HS := hide fun W : World => slat_litd W [x0, x1, x2]
  have hrl := rowText_len (xs := [x0, x1, x2]) (by simp) hx
  simp only [List.length_cons, List.length_nil] at hrl
  have HX := hide hx
  have P0 : ∀ w', Below w.heap.size w w' → w'.cell? ⟨bl, 0, none⟩ = some (.int .i64 x0) := fun w' h => (h.cell (p := ⟨bl, 0, none⟩) hbl).trans c0
  have P1 : ∀ w', Below w.heap.size w w' → w'.cell? ⟨bl, 1, none⟩ = some (.int .i64 x1) := fun w' h => (h.cell (p := ⟨bl, 1, none⟩) hbl).trans c1
  have P2 : ∀ w', Below w.heap.size w w' → w'.cell? ⟨bl, 2, none⟩ = some (.int .i64 x2) := fun w' h => (h.cell (p := ⟨bl, 2, none⟩) hbl).trans c2
  clear hx hrl c0 c1 c2
  go_enter Tryd.func61, Tryd.ntmps61
  go_wp2_with fail
  go_region_held3 (fun w' => Below w.heap.size w w')
    ((first | exact (Below.refl _ _).drew | exact Below.trans (by assumption) (hbK.mono (Below.size (by assumption : Below w.heap.size w _))) | exact ((Below.refl _ _).alloc (Nat.le_refl _) _).drew | exact (Below.alloc (by assumption) (Below.size (by assumption)) _) | exact (by repeat (first | with_reducible exact Below.refl _ _ | with_reducible assumption | (with_reducible refine Below.drew ?_) | (with_reducible refine below_drewN ?_ _) | ((with_reducible refine Below.alloc ?_ ?_ _); rotate_left; (focus (first | omega | (simp; omega) | simp))) | ((with_reducible refine Below.setCell ?_ ?_ _); rotate_left; (focus (first | omega | (simp; omega) | simp))) | (refine Below.trans ?_ (Below.mono (by assumption) (by first | omega | (simp; omega) | simp)))))))
    (first | (go_at_call 103; go_loud (refine (specl01List _ 3 [x0, x1, x2] _ (HS.out _) (by simp) HX.out).mono ?_; rintro e1 wK ⟨rfl, hbK⟩)))
  all_goals
    have hbE : Below w.heap.size w wK := by first | assumption | (go_split_ands; assumption)
    go_wp2_with fail
    go_ret
    exact ⟨rfl, hbE⟩
set_option maxRecDepth 100000 in
theorem specClapperText (x0 x1 x2 : Int) (w : World) : Calls Tryd.prog 14 #[.agg #[.int .i64 x0, .int .i64 x1, .int .i64 x2]] w fun e w' => e = .returned (.string (txClapper x0 x1 x2)) ∧ Below w.heap.size w w' := by
  cases hv : vClap x0 x1 x2
  · have e : Hid (txClapper x0 x1 x2 = ByteArray.empty) := by unfold Hid txClapper; rw [if_neg (by rw [hv]; decide)]
    go_enter Tryd.func14, Tryd.ntmps14
    go_wp2_with (go_at_call 60; refine (specl20Ok _ x0 x1 x2 _ (by simp) (by simp) (by simp)).mono ?_; rintro e1 w1 ⟨rfl, rfl⟩)
    go_ret
    exact ⟨ret_st e.out.symm, (by repeat (first | with_reducible exact Below.refl _ _ | with_reducible assumption | (with_reducible refine Below.drew ?_) | (with_reducible refine below_drewN ?_ _) | ((with_reducible refine Below.alloc ?_ ?_ _); rotate_left; (focus (first | omega | (simp; omega) | simp))) | ((with_reducible refine Below.setCell ?_ ?_ _); rotate_left; (focus (first | omega | (simp; omega) | simp))) | (refine Below.trans ?_ (Below.mono (by assumption) (by first | omega | (simp; omega) | simp)))))⟩
  · have e : Hid (txClapper x0 x1 x2 = ⟨(rowText [x0, x1, x2]).toArray⟩) := by unfold Hid txClapper; rw [if_pos hv]
    have hq := vClap_vals hv
    have HQ := hide hq
    clear hq
    go_enter Tryd.func14, Tryd.ntmps14
    go_wp2_with (go_at_call 60; refine (specl20Ok _ x0 x1 x2 _ (by simp) (by simp) (by simp)).mono ?_; rintro e1 w1 ⟨rfl, rfl⟩)
    refine (specl20Text _ x0 x1 x2 _ (by simp) (by simp) (by simp) (fun x hx => by have := HQ.out x hx; omega)).mono ?_
    rintro e2 w2 ⟨rfl, hb2⟩
    obtain ⟨fcb2, ffb2, fzb2⟩ := bfacts hb2 (by first | exact Nat.le_refl _ | omega | (simp; omega) | simp); have fsb2 := hb2.size; try simp at fcb2 ffb2 fzb2 fsb2 hb2
    go_wp2_with fail
    go_ret
    exact ⟨ret_st e.out.symm, (by repeat (first | with_reducible exact Below.refl _ _ | with_reducible assumption | (with_reducible refine Below.drew ?_) | (with_reducible refine below_drewN ?_ _) | ((with_reducible refine Below.alloc ?_ ?_ _); rotate_left; (focus (first | omega | (simp; omega) | simp))) | ((with_reducible refine Below.setCell ?_ ?_ _); rotate_left; (focus (first | omega | (simp; omega) | simp))) | (refine Below.trans ?_ (Below.mono (by assumption) (by first | omega | (simp; omega) | simp)))))⟩
set_option maxRecDepth 100000 in
set_option maxHeartbeats 2000000 in
theorem implClapperText (x0 x1 x2 : Int) (w : World) (hE : EnvT w) : Calls Tryd.prog 16 #[.agg #[.int .i64 x0, .int .i64 x1, .int .i64 x2]] w fun e w' => e = .returned (.string (txClapper x0 x1 x2)) ∧ Below w.heap.size w w' := by
  have HE := hide hE
  clear hE
  cases hv : vClap x0 x1 x2
  · have e : Hid (txClapper x0 x1 x2 = ByteArray.empty) := by unfold Hid txClapper; rw [if_neg (by rw [hv]; decide)]
    go_enter Tryd.func16, Tryd.ntmps16
    go_wp2_with (go_at_call 62; refine (implValidClapper x0 x1 x2 _).mono ?_; rintro e1 w1 ⟨rfl, rfl⟩)
    go_ret
    exact ⟨ret_st e.out.symm, (by repeat (first | with_reducible exact Below.refl _ _ | with_reducible assumption | (with_reducible refine Below.drew ?_) | (with_reducible refine below_drewN ?_ _) | ((with_reducible refine Below.alloc ?_ ?_ _); rotate_left; (focus (first | omega | (simp; omega) | simp))) | ((with_reducible refine Below.setCell ?_ ?_ _); rotate_left; (focus (first | omega | (simp; omega) | simp))) | (refine Below.trans ?_ (Below.mono (by assumption) (by first | omega | (simp; omega) | simp)))))⟩
  · have e : Hid (txClapper x0 x1 x2 = ⟨(rowText [x0, x1, x2]).toArray⟩) := by unfold Hid txClapper; rw [if_pos hv]
    have hq := vClap_vals hv
    have hrl := rowText_len (xs := [x0, x1, x2]) (by simp) (fun x hx => by have := hq x hx; omega)
    simp only [List.length_cons, List.length_nil] at hrl
    have HQ := hide hq
    clear hq hrl
    go_enter Tryd.func16, Tryd.ntmps16
    go_wp2_with (go_at_call 62; refine (implValidClapper x0 x1 x2 _).mono ?_; rintro e1 w1 ⟨rfl, rfl⟩)
    refine (implListText_row _ 3 [x0, x1, x2] _ (by have h := slat_lit ((w.alloc (.cells #[.int .i64 x0, .int .i64 x1, .int .i64 x2] 25)).alloc (.cells #[.int .i64 x0, .int .i64 x1, .int .i64 x2] 25)) [x0, x1, x2]; simpa using h) (HE.out.below (by repeat (first | with_reducible exact Below.refl _ _ | with_reducible assumption | (with_reducible refine Below.drew ?_) | (with_reducible refine below_drewN ?_ _) | ((with_reducible refine Below.alloc ?_ ?_ _); rotate_left; (focus (first | omega | (simp; omega) | simp))) | ((with_reducible refine Below.setCell ?_ ?_ _); rotate_left; (focus (first | omega | (simp; omega) | simp))) | (refine Below.trans ?_ (Below.mono (by assumption) (by first | omega | (simp; omega) | simp)))))) (by simp) (fun x hx => by have := HQ.out x hx; omega) (list_row (by simp) HQ.out)).mono ?_
    rintro e2 w2 ⟨rfl, hb2⟩
    obtain ⟨fcb2, ffb2, fzb2⟩ := bfacts hb2 (by first | exact Nat.le_refl _ | omega | (simp; omega) | simp); have fsb2 := hb2.size; try simp at fcb2 ffb2 fzb2 fsb2 hb2
    go_wp2_with fail
    go_ret
    exact ⟨ret_st e.out.symm, (by repeat (first | with_reducible exact Below.refl _ _ | with_reducible assumption | (with_reducible refine Below.drew ?_) | (with_reducible refine below_drewN ?_ _) | ((with_reducible refine Below.alloc ?_ ?_ _); rotate_left; (focus (first | omega | (simp; omega) | simp))) | ((with_reducible refine Below.setCell ?_ ?_ _); rotate_left; (focus (first | omega | (simp; omega) | simp))) | (refine Below.trans ?_ (Below.mono (by assumption) (by first | omega | (simp; omega) | simp)))))⟩
end Go.Proofs.YtphlejphkipbpaaDoor
