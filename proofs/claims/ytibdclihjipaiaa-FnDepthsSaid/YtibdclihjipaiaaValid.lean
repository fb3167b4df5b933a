/- Contracts: whether a tower, a swing, a place is valid, on both sides; the copies and counts of the laws. -/
import Derived.Test.YtibdclihjipaiaaName
namespace Go.Proofs.Ytibdclihjipaiaa
open Go.RowKit

def vTower (x0 : ByteArray) (x1 : Int) (x2 : Int) (x3 : Int) (x4 : Int) : Bool := nameB x0.data.toList && inB x1 (100) 10000 && inB x2 (5) 500 && inB x3 (1) 1000000 && inB x4 (0) 100000
theorem vTower_true (x0 : ByteArray) (x1 : Int) (x2 : Int) (x3 : Int) (x4 : Int) (h : vTower x0 x1 x2 x3 x4 = true) : (nameB x0.data.toList = true) ∧ ((100) ≤ x1 ∧ x1 ≤ 10000) ∧ ((5) ≤ x2 ∧ x2 ≤ 500) ∧ ((1) ≤ x3 ∧ x3 ≤ 1000000) ∧ ((0) ≤ x4 ∧ x4 ≤ 100000) := by
  unfold vTower at h
  simp only [Bool.and_eq_true] at h
  exact ⟨h.1.1.1.1, inB_true h.1.1.1.2, inB_true h.1.1.2, inB_true h.1.2, inB_true h.2⟩
def vSwing (x0 : ByteArray) (x1 : Int) (x2 : Int) : Bool := nameB x0.data.toList && inB x1 (100) 5000 && inB x2 (1) 1000000
theorem vSwing_true (x0 : ByteArray) (x1 : Int) (x2 : Int) (h : vSwing x0 x1 x2 = true) : (nameB x0.data.toList = true) ∧ ((100) ≤ x1 ∧ x1 ≤ 5000) ∧ ((1) ≤ x2 ∧ x2 ≤ 1000000) := by
  unfold vSwing at h
  simp only [Bool.and_eq_true] at h
  exact ⟨h.1.1, inB_true h.1.2, inB_true h.2⟩
def vPlace (x0 : ByteArray) (x1 : Int) (x2 : Int) (x3 : Int) (x4 : Int) : Bool := nameB x0.data.toList && inB x1 (0) 20000 && inB x2 (0) 20000 && inB x3 (0) 20000 && inB x4 (1) 5000
theorem vPlace_true (x0 : ByteArray) (x1 : Int) (x2 : Int) (x3 : Int) (x4 : Int) (h : vPlace x0 x1 x2 x3 x4 = true) : (nameB x0.data.toList = true) ∧ ((0) ≤ x1 ∧ x1 ≤ 20000) ∧ ((0) ≤ x2 ∧ x2 ≤ 20000) ∧ ((0) ≤ x3 ∧ x3 ≤ 20000) ∧ ((1) ≤ x4 ∧ x4 ≤ 5000) := by
  unfold vPlace at h
  simp only [Bool.and_eq_true] at h
  exact ⟨h.1.1.1.1, inB_true h.1.1.1.2, inB_true h.1.1.2, inB_true h.1.2, inB_true h.2⟩
theorem lawstoLoad (x0 : Int) (x1 : Int) (w : World) : Calls Try.prog 40 #[.agg #[.int .i64 x0, .int .i64 x1]] w fun e w' => e = .returned (.agg #[.int .i64 x0, .int .i64 x1]) ∧ Below w.heap.size w w' := by
  go_enter Try.func40, Try.ntmps40
  go_wp2
  refine bodyPost_ret (v := .agg #[.int .i64 x0, .int .i64 x1]) (by simp [results, Try.results40, go_sem]) rfl ⟨rfl, (by repeat (first | with_reducible exact Below.refl _ _ | with_reducible assumption | (with_reducible refine Below.drew ?_) | (with_reducible refine below_drewN ?_ _) | ((with_reducible refine Below.alloc ?_ ?_ _); rotate_left; (focus (first | omega | (simp; omega) | simp))) | ((with_reducible refine Below.setCell ?_ ?_ _); rotate_left; (focus (first | omega | (simp; omega) | simp))) | (refine Below.trans ?_ (Below.mono (by assumption) (by first | omega | (simp; omega) | simp)))))⟩
def vCh (x0 : Int) (x1 : Int) (x2 : Int) : Bool := inB x0 (1) 20000 && inB x1 (1) 20000 && inB x2 (1) 20000
theorem vCh_true (x0 : Int) (x1 : Int) (x2 : Int) (h : vCh x0 x1 x2 = true) : ((1) ≤ x0 ∧ x0 ≤ 20000) ∧ ((1) ≤ x1 ∧ x1 ≤ 20000) ∧ ((1) ≤ x2 ∧ x2 ≤ 20000) := by
  unfold vCh at h
  simp only [Bool.and_eq_true] at h
  exact ⟨inB_true h.1.1, inB_true h.1.2, inB_true h.2⟩
theorem implValidChamber (x0 : Int) (x1 : Int) (x2 : Int) (w : World)  : Calls Try.prog 90 #[.agg #[.int .i64 x0, .int .i64 x1, .int .i64 x2]] w fun e w' => e = .returned (.bool (vCh x0 x1 x2)) ∧ Below w.heap.size w w' := by
  cases h0 : inB x0 (1) 20000
  · have e : Hid (vCh x0 x1 x2 = false) := by unfold Hid vCh; simp [h0]
    go_enter Try.func90, Try.ntmps90
    go_wp2_with (first
      | (go_at_call 69; refine (implwithin_any _ _ _ _).mono ?_; rintro e w2 ⟨rfl, rfl⟩)
      | (go_at_call 91; refine (implisReach_any _ _).mono ?_; rintro e w2 ⟨rfl, rfl⟩)
      | (go_at_call 100; refine (implisSide_any _ _).mono ?_; rintro e w2 ⟨rfl, rfl⟩))
    go_ret
    exact ⟨ret_bool e.out.symm, (by repeat (first | with_reducible exact Below.refl _ _ | with_reducible assumption | (with_reducible refine Below.drew ?_) | (with_reducible refine below_drewN ?_ _) | ((with_reducible refine Below.alloc ?_ ?_ _); rotate_left; (focus (first | omega | (simp; omega) | simp))) | ((with_reducible refine Below.setCell ?_ ?_ _); rotate_left; (focus (first | omega | (simp; omega) | simp))) | (refine Below.trans ?_ (Below.mono (by assumption) (by first | omega | (simp; omega) | simp)))))⟩
  · cases h1 : inB x1 (1) 20000
    · have e : Hid (vCh x0 x1 x2 = false) := by unfold Hid vCh; simp [h1]
      go_enter Try.func90, Try.ntmps90
      go_wp2_with (first
        | (go_at_call 69; refine (implwithin_any _ _ _ _).mono ?_; rintro e w2 ⟨rfl, rfl⟩)
        | (go_at_call 91; refine (implisReach_any _ _).mono ?_; rintro e w2 ⟨rfl, rfl⟩)
        | (go_at_call 100; refine (implisSide_any _ _).mono ?_; rintro e w2 ⟨rfl, rfl⟩))
      go_ret
      exact ⟨ret_bool e.out.symm, (by repeat (first | with_reducible exact Below.refl _ _ | with_reducible assumption | (with_reducible refine Below.drew ?_) | (with_reducible refine below_drewN ?_ _) | ((with_reducible refine Below.alloc ?_ ?_ _); rotate_left; (focus (first | omega | (simp; omega) | simp))) | ((with_reducible refine Below.setCell ?_ ?_ _); rotate_left; (focus (first | omega | (simp; omega) | simp))) | (refine Below.trans ?_ (Below.mono (by assumption) (by first | omega | (simp; omega) | simp)))))⟩
    · cases h2 : inB x2 (1) 20000
      · have e : Hid (vCh x0 x1 x2 = false) := by unfold Hid vCh; simp [h2]
        go_enter Try.func90, Try.ntmps90
        go_wp2_with (first
          | (go_at_call 69; refine (implwithin_any _ _ _ _).mono ?_; rintro e w2 ⟨rfl, rfl⟩)
          | (go_at_call 91; refine (implisReach_any _ _).mono ?_; rintro e w2 ⟨rfl, rfl⟩)
          | (go_at_call 100; refine (implisSide_any _ _).mono ?_; rintro e w2 ⟨rfl, rfl⟩))
        go_ret
        exact ⟨ret_bool e.out.symm, (by repeat (first | with_reducible exact Below.refl _ _ | with_reducible assumption | (with_reducible refine Below.drew ?_) | (with_reducible refine below_drewN ?_ _) | ((with_reducible refine Below.alloc ?_ ?_ _); rotate_left; (focus (first | omega | (simp; omega) | simp))) | ((with_reducible refine Below.setCell ?_ ?_ _); rotate_left; (focus (first | omega | (simp; omega) | simp))) | (refine Below.trans ?_ (Below.mono (by assumption) (by first | omega | (simp; omega) | simp)))))⟩
      · have e : Hid (vCh x0 x1 x2 = true) := by unfold Hid vCh; simp [h0, h1, h2]
        go_enter Try.func90, Try.ntmps90
        go_wp2_with (first
          | (go_at_call 69; refine (implwithin_any _ _ _ _).mono ?_; rintro e w2 ⟨rfl, rfl⟩)
          | (go_at_call 91; refine (implisReach_any _ _).mono ?_; rintro e w2 ⟨rfl, rfl⟩)
          | (go_at_call 100; refine (implisSide_any _ _).mono ?_; rintro e w2 ⟨rfl, rfl⟩))
        go_ret
        exact ⟨ret_bool e.out.symm, (by repeat (first | with_reducible exact Below.refl _ _ | with_reducible assumption | (with_reducible refine Below.drew ?_) | (with_reducible refine below_drewN ?_ _) | ((with_reducible refine Below.alloc ?_ ?_ _); rotate_left; (focus (first | omega | (simp; omega) | simp))) | ((with_reducible refine Below.setCell ?_ ?_ _); rotate_left; (focus (first | omega | (simp; omega) | simp))) | (refine Below.trans ?_ (Below.mono (by assumption) (by first | omega | (simp; omega) | simp)))))⟩
theorem specl23Chamber (bl off : Nat) (x0 : Int) (x1 : Int) (x2 : Int) (w : World)  (c0 : w.cell? ⟨bl, off, none⟩ = some (.int .i64 x0)) (c1 : w.cell? ⟨bl, off + 1, none⟩ = some (.int .i64 x1)) (c2 : w.cell? ⟨bl, off + 2, none⟩ = some (.int .i64 x2)) : Calls Try.prog 87 #[.pointer (some ⟨bl, off, none⟩)] w fun e w' => e = .returned (.bool (vCh x0 x1 x2)) ∧ w = w' := by
  cases h0 : inB x0 (1) 20000
  · have e : Hid (vCh x0 x1 x2 = false) := by unfold Hid vCh; simp [h0]
    go_enter Try.func87, Try.ntmps87
    go_wp2_with (first
      | (go_at_call 67; refine (specl00In_any _ _ _ _).mono ?_; rintro e w2 ⟨rfl, rfl⟩))
    go_ret
    exact ⟨ret_bool e.out.symm, rfl⟩
  · cases h1 : inB x1 (1) 20000
    · have e : Hid (vCh x0 x1 x2 = false) := by unfold Hid vCh; simp [h1]
      go_enter Try.func87, Try.ntmps87
      go_wp2_with (first
        | (go_at_call 67; refine (specl00In_any _ _ _ _).mono ?_; rintro e w2 ⟨rfl, rfl⟩))
      go_ret
      exact ⟨ret_bool e.out.symm, rfl⟩
    · cases h2 : inB x2 (1) 20000
      · have e : Hid (vCh x0 x1 x2 = false) := by unfold Hid vCh; simp [h2]
        go_enter Try.func87, Try.ntmps87
        go_wp2_with (first
          | (go_at_call 67; refine (specl00In_any _ _ _ _).mono ?_; rintro e w2 ⟨rfl, rfl⟩))
        go_ret
        exact ⟨ret_bool e.out.symm, rfl⟩
      · have e : Hid (vCh x0 x1 x2 = true) := by unfold Hid vCh; simp [h0, h1, h2]
        go_enter Try.func87, Try.ntmps87
        go_wp2_with (first
          | (go_at_call 67; refine (specl00In_any _ _ _ _).mono ?_; rintro e w2 ⟨rfl, rfl⟩))
        go_ret
        exact ⟨ret_bool e.out.symm, rfl⟩
theorem lawstoChamber (x0 : Int) (x1 : Int) (x2 : Int) (w : World) : Calls Try.prog 48 #[.agg #[.int .i64 x0, .int .i64 x1, .int .i64 x2]] w fun e w' => e = .returned (.agg #[.int .i64 x0, .int .i64 x1, .int .i64 x2]) ∧ Below w.heap.size w w' := by
  go_enter Try.func48, Try.ntmps48
  go_wp2
  refine bodyPost_ret (v := .agg #[.int .i64 x0, .int .i64 x1, .int .i64 x2]) (by simp [results, Try.results48, go_sem]) rfl ⟨rfl, (by repeat (first | with_reducible exact Below.refl _ _ | with_reducible assumption | (with_reducible refine Below.drew ?_) | (with_reducible refine below_drewN ?_ _) | ((with_reducible refine Below.alloc ?_ ?_ _); rotate_left; (focus (first | omega | (simp; omega) | simp))) | ((with_reducible refine Below.setCell ?_ ?_ _); rotate_left; (focus (first | omega | (simp; omega) | simp))) | (refine Below.trans ?_ (Below.mono (by assumption) (by first | omega | (simp; omega) | simp)))))⟩
end Go.Proofs.Ytibdclihjipaiaa
