/- Contracts of the integer root on both sides. -/
import Derived.Test.YtajodbhbmfjmjaaGreatDoorArith
namespace Go.Proofs.YtajodbhbmfjmjaaGreatDoor
open Go.RowKit

/-- The state of the search bit by bit. -/
def RInv (n root bit : Int) : Prop := 0 ≤ root ∧ root * root ≤ n ∧ ((∃ k : Nat, bit = ((2 ^ k : Nat) : Int)) ∧ 1 ≤ bit ∧ n < (root + 2 * bit) * (root + 2 * bit) ∧ root + 2 * bit ≤ 4294967296 ∨ bit = 0 ∧ n < (root + 1) * (root + 1))
theorem RInv.init (n : Int) (h0 : 0 ≤ n) (h : n ≤ 9223372036854775807) : RInv n 0 2147483648 :=
  ⟨by omega, by simpa using h0, .inl ⟨⟨31, by decide⟩, by omega, by omega, by omega⟩⟩
theorem RInv.fin {n root : Int} (h0 : 0 ≤ n) (h : RInv n root 0) : root = Pl.rt n := by
  obtain ⟨a, b, c | c⟩ := h
  · omega
  · exact (Pl.rt_unique h0 a b c.2).symm
theorem half_pow (k : Nat) : ((2 ^ (k + 1) : Nat) : Int) / 2 = ((2 ^ k : Nat) : Int) := by
  rw [Nat.pow_succ]; omega
theorem RInv.up {n root bit : Int} (h : RInv n root bit) (hb : 0 < bit) (ht : root + bit ≤ n / (root + bit)) : RInv n (root + bit) (bit / 2) := by
  obtain ⟨a, b, ⟨⟨k, hk⟩, c, d, e⟩ | c⟩ := h
  · have hsq : (root + bit) * (root + bit) ≤ n := (Int.le_ediv_iff_mul_le (by omega)).1 ht
    cases k with
    | zero =>
      have : bit = 1 := by simpa using hk
      subst this
      exact ⟨by omega, hsq, .inr ⟨by omega, by rw [show root + 1 + 1 = root + 2 * 1 by omega]; exact d⟩⟩
    | succ k =>
      have h2 : bit = 2 * ((2 ^ k : Nat) : Int) := by rw [hk, Nat.pow_succ]; omega
      have h3 : (1 : Int) ≤ ((2 ^ k : Nat) : Int) := by have := Nat.one_le_two_pow (n := k); omega
      refine ⟨by omega, hsq, .inl ⟨⟨k, by rw [hk, half_pow]⟩, by omega, ?_, by omega⟩⟩
      rw [show root + bit + 2 * (bit / 2) = root + 2 * bit by omega]; exact d
  · omega
theorem RInv.stay {n root bit : Int} (h : RInv n root bit) (hb : 0 < bit) (ht : n / (root + bit) < root + bit) : RInv n root (bit / 2) := by
  obtain ⟨a, b, ⟨⟨k, hk⟩, c, d, e⟩ | c⟩ := h
  · have hsq : n < (root + bit) * (root + bit) := by
      rcases Int.lt_or_le n ((root + bit) * (root + bit)) with h' | h'
      · exact h'
      · have := (Int.le_ediv_iff_mul_le (show 0 < root + bit by omega)).2 h'; omega
    cases k with
    | zero =>
      have : bit = 1 := by simpa using hk
      subst this
      exact ⟨a, b, .inr ⟨by omega, hsq⟩⟩
    | succ k =>
      have h2 : bit = 2 * ((2 ^ k : Nat) : Int) := by rw [hk, Nat.pow_succ]; omega
      have h3 : (1 : Int) ≤ ((2 ^ k : Nat) : Int) := by have := Nat.one_le_two_pow (n := k); omega
      refine ⟨a, b, .inl ⟨⟨k, by rw [hk, half_pow]⟩, by omega, ?_, by omega⟩⟩
      rw [show root + 2 * (bit / 2) = root + bit by omega]; exact hsq
  · omega

end Go.Proofs.YtajodbhbmfjmjaaGreatDoor
