/- The reference's parts of a text between a byte. Condition: the text is no longer than 2^20 bytes. -/
import Derived.Test.YtajodbhbmfjmjaaGreatDoorEnv
import Derived.Test.YtajodbhbmfjmjaaGreatDoorNum
namespace Go.Proofs.YtajodbhbmfjmjaaGreatDoor
open Go.RowKit Go.Lib

theorem splitL_snoc (c b : UInt8) : ∀ (l : List UInt8) (ys : List (List UInt8)) (p : List UInt8), splitL c l = ys ++ [p] → splitL c (l ++ [b]) = if b = c then ys ++ [p] ++ [[]] else ys ++ [p ++ [b]]
  | [], ys, p, h => by
    have hy : ys = [] := by
      cases ys with
      | nil => rfl
      | cons y ys => simp [splitL] at h
    subst hy
    simp only [splitL, List.nil_append, List.cons.injEq, and_true] at h
    subst h
    simp only [List.nil_append, splitL]
    split <;> simp
  | a :: l, ys, p, h => by
    cases hq : splitL c l with
    | nil => exact absurd hq (splitL_ne c l)
    | cons q qs =>
      unfold splitL at h
      rw [hq] at h
      simp only [List.headD_cons, List.tail_cons] at h
      rw [List.cons_append, splitL]
      by_cases ha : a = c
      · rw [if_pos ha] at h ⊢
        cases ys with
        | nil => simp at h
        | cons y ys =>
          simp only [List.cons_append, List.cons.injEq] at h
          obtain ⟨rfl, h⟩ := h
          rw [splitL_snoc c b l ys p (by rw [hq, h])]
          split <;> simp
      · rw [if_neg ha] at h ⊢
        cases ys with
        | nil =>
          simp only [List.nil_append, List.cons.injEq] at h
          obtain ⟨rfl, rfl⟩ := h
          rw [splitL_snoc c b l [] q (by rw [hq]; rfl)]
          split <;> simp
        | cons y ys =>
          simp only [List.cons_append, List.cons.injEq] at h
          obtain ⟨rfl, h⟩ := h
          rw [splitL_snoc c b l (q :: ys) p (by rw [hq, h]; rfl)]
          split <;> simp
theorem partsB_len (s : ByteArray) (c : UInt8) : (partsB s c).length = (splitL c s.data.toList).length := by unfold partsB; simp
theorem splitL_len (c : UInt8) : ∀ l : List UInt8, (splitL c l).length ≤ l.length + 1
  | [] => by simp [splitL]
  | b :: l => by
    have := splitL_len c l
    unfold splitL
    split
    · simp; omega
    · have hne : (splitL c l).length ≠ 0 := fun e => splitL_ne c l (List.eq_nil_of_length_eq_zero e)
      simp; omega
theorem parts_eq {s : ByteArray} {c : UInt8} {ys : List ByteArray} (h : ys.map (·.data.toList) = splitL c s.data.toList) : ys = partsB s c := by
  unfold partsB
  rw [← h, List.map_map]
  conv => lhs; rw [← List.map_id ys]
  apply List.map_congr_left
  intro x _
  rfl
end Go.Proofs.YtajodbhbmfjmjaaGreatDoor
