/- Contracts: whether a tower, a swing, a place is valid, on both sides; the copies and counts of the laws. -/
import Derived.Test.YtnefgafmnpblpaaGreatName
namespace Go.Proofs.YtnefgafmnpblpaaGreat
open Go.RowKit

def vTower (x0 : ByteArray) (x1 : Int) (x2 : Int) (x3 : Int) (x4 : Int) : Bool := nameB x0.data.toList && inB x1 (100) 10000 && inB x2 (5) 500 && inB x3 (1) 1000000 && inB x4 (0) 100000
theorem vTower_true (x0 : ByteArray) (x1 : Int) (x2 : Int) (x3 : Int) (x4 : Int) (h : vTower x0 x1 x2 x3 x4 = true) : (nameB x0.data.toList = true) ∧ ((100) ≤ x1 ∧ x1 ≤ 10000) ∧ ((5) ≤ x2 ∧ x2 ≤ 500) ∧ ((1) ≤ x3 ∧ x3 ≤ 1000000) ∧ ((0) ≤ x4 ∧ x4 ≤ 100000) := by
  unfold vTower at h
  simp only [Bool.and_eq_true] at h
  exact ⟨h.1.1.1.1, inB_true h.1.1.1.2, inB_true h.1.1.2, inB_true h.1.2, inB_true h.2⟩
def vSwing (x0 : ByteArray) (x1 : Int) (x2 : Int) : Bool := nameB x0.data.toList && inB x1 (100) 5000 && inB x2 (1) 1000000
theorem vSwing_true (x0 : ByteArray) (x1 : Int) (x2 : Int) (h : vSwing x0 x1 x2 = true) : (nameB x0.data.toList = true) ∧ ((100) ≤ x1 ∧ x1 ≤ 5000) ∧ ((1) ≤ x2 ∧ x2 ≤ 1000000) := by
  unfold vSwing at h
  simp only [Bool.and_eq_true] at h
  exact ⟨h.1.1, inB_true h.1.2, inB_true h.2⟩
def vPlace (x0 : ByteArray) (x1 : Int) (x2 : Int) (x3 : Int) (x4 : Int) : Bool := nameB x0.data.toList && inB x1 (0) 20000 && inB x2 (0) 20000 && inB x3 (0) 20000 && inB x4 (1) 5000
theorem vPlace_true (x0 : ByteArray) (x1 : Int) (x2 : Int) (x3 : Int) (x4 : Int) (h : vPlace x0 x1 x2 x3 x4 = true) : (nameB x0.data.toList = true) ∧ ((0) ≤ x1 ∧ x1 ≤ 20000) ∧ ((0) ≤ x2 ∧ x2 ≤ 20000) ∧ ((0) ≤ x3 ∧ x3 ≤ 20000) ∧ ((1) ≤ x4 ∧ x4 ≤ 5000) := by
  unfold vPlace at h
  simp only [Bool.and_eq_true] at h
  exact ⟨h.1.1.1.1, inB_true h.1.1.1.2, inB_true h.1.1.2, inB_true h.1.2, inB_true h.2⟩
def vCh (x0 : Int) (x1 : Int) (x2 : Int) : Bool := inB x0 (1) 20000 && inB x1 (1) 20000 && inB x2 (1) 20000
theorem vCh_true (x0 : Int) (x1 : Int) (x2 : Int) (h : vCh x0 x1 x2 = true) : ((1) ≤ x0 ∧ x0 ≤ 20000) ∧ ((1) ≤ x1 ∧ x1 ≤ 20000) ∧ ((1) ≤ x2 ∧ x2 ≤ 20000) := by
  unfold vCh at h
  simp only [Bool.and_eq_true] at h
  exact ⟨inB_true h.1.1, inB_true h.1.2, inB_true h.2⟩
end Go.Proofs.YtnefgafmnpblpaaGreat
