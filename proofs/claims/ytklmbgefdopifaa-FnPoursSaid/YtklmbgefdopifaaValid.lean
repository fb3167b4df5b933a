/- Contracts: whether a tower, a swing, a place is valid, on both sides; the copies and counts of the laws. -/
import Derived.Test.YtklmbgefdopifaaName
namespace Go.Proofs.Ytklmbgefdopifaa
open Go.RowKit

def vTower (x0 : ByteArray) (x1 : Int) (x2 : Int) (x3 : Int) (x4 : Int) : Bool := nameB x0.data.toList && inB x1 (100) 10000 && inB x2 (5) 500 && inB x3 (1) 1000000 && inB x4 (0) 100000
theorem vTower_true (x0 : ByteArray) (x1 : Int) (x2 : Int) (x3 : Int) (x4 : Int) (h : vTower x0 x1 x2 x3 x4 = true) : (nameB x0.data.toList = true) ∧ ((100) ≤ x1 ∧ x1 ≤ 10000) ∧ ((5) ≤ x2 ∧ x2 ≤ 500) ∧ ((1) ≤ x3 ∧ x3 ≤ 1000000) ∧ ((0) ≤ x4 ∧ x4 ≤ 100000) := by
  unfold vTower at h
  simp only [Bool.and_eq_true] at h
  exact ⟨h.1.1.1.1, inB_true h.1.1.1.2, inB_true h.1.1.2, inB_true h.1.2, inB_true h.2⟩
def vSwing (x0 : ByteArray) (x1 : Int) (x2 : Int) : Bool := nameB x0.data.toList && inB x1 (100) 5000 && inB x2 (1) 1000000
theorem vSwing_true (x0 : ByteArray) (x1 : Int) (x2 : Int) (h : vSwing x0 x1 x2 = true) : (nameB x0.data.toList = true) ∧ ((100) ≤ x1 ∧ x1 ≤ 5000) ∧ ((1) ≤ x2 ∧ x2 ≤ 1000000) := by
  unfold vSwing at h
  simp only [Bool.and_eq_true] at h
  exact ⟨h.1.1, inB_true h.1.2, inB_true h.2⟩
def vPlace (x0 : ByteArray) (x1 : Int) (x2 : Int) (x3 : Int) (x4 : Int) : Bool := nameB x0.data.toList && inB x1 (0) 20000 && inB x2 (0) 20000 && inB x3 (0) 20000 && inB x4 (1) 5000
theorem vPlace_true (x0 : ByteArray) (x1 : Int) (x2 : Int) (x3 : Int) (x4 : Int) (h : vPlace x0 x1 x2 x3 x4 = true) : (nameB x0.data.toList = true) ∧ ((0) ≤ x1 ∧ x1 ≤ 20000) ∧ ((0) ≤ x2 ∧ x2 ≤ 20000) ∧ ((0) ≤ x3 ∧ x3 ≤ 20000) ∧ ((1) ≤ x4 ∧ x4 ≤ 5000) := by
  unfold vPlace at h
  simp only [Bool.and_eq_true] at h
  exact ⟨h.1.1.1.1, inB_true h.1.1.1.2, inB_true h.1.1.2, inB_true h.1.2, inB_true h.2⟩
theorem lawstoLoad (x0 : Int) (x1 : Int) (w : World) : Calls Try.prog 11 #[.agg #[.int .i64 x0, .int .i64 x1]] w fun e w' => e = .returned (.agg #[.int .i64 x0, .int .i64 x1]) ∧ Below w.heap.size w w' := by
  go_enter Try.func11, Try.ntmps11
  go_wp2
  refine bodyPost_ret (v := .agg #[.int .i64 x0, .int .i64 x1]) (by simp [results, Try.results11, go_sem]) rfl ⟨rfl, (by repeat (first | with_reducible exact Below.refl _ _ | with_reducible assumption | (with_reducible refine Below.drew ?_) | (with_reducible refine below_drewN ?_ _) | ((with_reducible refine Below.alloc ?_ ?_ _); rotate_left; (focus (first | omega | (simp; omega) | simp))) | ((with_reducible refine Below.setCell ?_ ?_ _); rotate_left; (focus (first | omega | (simp; omega) | simp))) | (refine Below.trans ?_ (Below.mono (by assumption) (by first | omega | (simp; omega) | simp)))))⟩
def vCh (x0 : Int) (x1 : Int) (x2 : Int) : Bool := inB x0 (1) 20000 && inB x1 (1) 20000 && inB x2 (1) 20000
theorem vCh_true (x0 : Int) (x1 : Int) (x2 : Int) (h : vCh x0 x1 x2 = true) : ((1) ≤ x0 ∧ x0 ≤ 20000) ∧ ((1) ≤ x1 ∧ x1 ≤ 20000) ∧ ((1) ≤ x2 ∧ x2 ≤ 20000) := by
  unfold vCh at h
  simp only [Bool.and_eq_true] at h
  exact ⟨inB_true h.1.1, inB_true h.1.2, inB_true h.2⟩
end Go.Proofs.Ytklmbgefdopifaa
