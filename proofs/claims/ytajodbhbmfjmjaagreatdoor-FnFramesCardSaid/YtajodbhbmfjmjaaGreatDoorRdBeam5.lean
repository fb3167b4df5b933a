/- What reads a beam out of a text, reference: the parts joined. Condition: the text is at most 2^20 bytes long. -/
import Derived.Test.YtajodbhbmfjmjaaGreatDoorRdBeam1
import Derived.Test.YtajodbhbmfjmjaaGreatDoorRdBeam2
import Derived.Test.YtajodbhbmfjmjaaGreatDoorRdBeam3
import Derived.Test.YtajodbhbmfjmjaaGreatDoorRdBeam4
namespace Go.Proofs.YtajodbhbmfjmjaaGreatDoor
open Go.RowKit Go.Lib

theorem allO_first {α : Type} {f : List UInt8 → Option α} : ∀ ps : List (List UInt8), allO f ps = none → ∃ (j : Nat) (p : List UInt8), ps[j]? = some p ∧ f p = none ∧ ∀ i q, i < j → ps[i]? = some q → ∃ x, f q = some x
  | [], h => by simp [allO] at h
  | p :: ps, h => by
    cases hp : f p with
    | none => exact ⟨0, p, rfl, hp, fun i q hi => absurd hi (Nat.not_lt_zero _)⟩
    | some x =>
      have hq : allO f ps = none := by
        cases hq : allO f ps with
        | none => rfl
        | some ys => unfold allO at h; rw [hp, hq] at h; simp at h
      obtain ⟨j, q, h1, h2, h3⟩ := allO_first ps hq
      refine ⟨j + 1, q, by simpa using h1, h2, fun i q' hi hq' => ?_⟩
      cases i with
      | zero => simp only [List.getElem?_cons_zero, Option.some.injEq] at hq'; subst hq'; exact ⟨x, hp⟩
      | succ i => exact h3 i q' (by omega) (by simpa using hq')
theorem ldO_kinds {p : ByteArray} (h : ldO p.data.toList = none) : (splitL 64 p.data.toList).length ≠ 2 ∨ (∃ u v : ByteArray, splitL 64 p.data.toList = [u.data.toList, v.data.toList] ∧ numO u.data.toList = none) ∨
    ∃ (u v : ByteArray) (x : Int), splitL 64 p.data.toList = [u.data.toList, v.data.toList] ∧ numO u.data.toList = some x ∧ numO v.data.toList = none := by
  by_cases h2 : (splitL 64 p.data.toList).length = 2
  · obtain ⟨u, v, huv⟩ : ∃ u v : ByteArray, splitL 64 p.data.toList = [u.data.toList, v.data.toList] := by
      match hm : splitL 64 p.data.toList, h2 with
      | [a, b], _ => exact ⟨⟨a.toArray⟩, ⟨b.toArray⟩, rfl⟩
    cases hu : numO u.data.toList with
    | none => exact .inr (.inl ⟨u, v, huv, hu⟩)
    | some x =>
      cases hv : numO v.data.toList with
      | none => exact .inr (.inr ⟨u, v, x, huv, hu, hv⟩)
      | some y =>
        unfold ldO at h
        rw [huv] at h
        simp only at h
        rw [hu] at h
        simp only at h
        rw [hv] at h
        simp at h
  · exact .inl h2
end Go.Proofs.YtajodbhbmfjmjaaGreatDoor
