/- What reads a beam out of a text, reference: the parts joined. Condition: the text is at most 2^20 bytes long. -/
import Derived.Test.YtobcjhbfkanakaaDoorRdBeam1
import Derived.Test.YtobcjhbfkanakaaDoorRdBeam2
import Derived.Test.YtobcjhbfkanakaaDoorRdBeam3
import Derived.Test.YtobcjhbfkanakaaDoorRdBeam4
namespace Go.Proofs.YtobcjhbfkanakaaDoor
open Go.RowKit Go.Lib

theorem allO_first {α : Type} {f : List UInt8 → Option α} : ∀ ps : List (List UInt8), allO f ps = none → ∃ (j : Nat) (p : List UInt8), ps[j]? = some p ∧ f p = none ∧ ∀ i q, i < j → ps[i]? = some q → ∃ x, f q = some x
  | [], h => by simp [allO] at h
  | p :: ps, h => by
    cases hp : f p with
    | none => exact ⟨0, p, rfl, hp, fun i q hi => absurd hi (Nat.not_lt_zero _)⟩
    | some x =>
      have hq : allO f ps = none := by
        cases hq : allO f ps with
        | none => rfl
        | some ys => unfold allO at h; rw [hp, hq] at h; simp at h
      obtain ⟨j, q, h1, h2, h3⟩ := allO_first ps hq
      refine ⟨j + 1, q, by simpa using h1, h2, fun i q' hi hq' => ?_⟩
      cases i with
      | zero => simp only [List.getElem?_cons_zero, Option.some.injEq] at hq'; subst hq'; exact ⟨x, hp⟩
      | succ i => exact h3 i q' (by omega) (by simpa using hq')
theorem ldO_kinds {p : ByteArray} (h : ldO p.data.toList = none) : (splitL 64 p.data.toList).length ≠ 2 ∨ (∃ u v : ByteArray, splitL 64 p.data.toList = [u.data.toList, v.data.toList] ∧ numO u.data.toList = none) ∨
    ∃ (u v : ByteArray) (x : Int), splitL 64 p.data.toList = [u.data.toList, v.data.toList] ∧ numO u.data.toList = some x ∧ numO v.data.toList = none := by
  by_cases h2 : (splitL 64 p.data.toList).length = 2
  · obtain ⟨u, v, huv⟩ : ∃ u v : ByteArray, splitL 64 p.data.toList = [u.data.toList, v.data.toList] := by
      match hm : splitL 64 p.data.toList, h2 with
      | [a, b], _ => exact ⟨⟨a.toArray⟩, ⟨b.toArray⟩, rfl⟩
    cases hu : numO u.data.toList with
    | none => exact .inr (.inl ⟨u, v, huv, hu⟩)
    | some x =>
      cases hv : numO v.data.toList with
      | none => exact .inr (.inr ⟨u, v, x, huv, hu, hv⟩)
      | some y =>
        unfold ldO at h
        rw [huv] at h
        simp only at h
        rw [hu] at h
        simp only at h
        rw [hv] at h
        simp at h
  · exact .inl h2
theorem specl21Read (s : ByteArray) (w : World) (hs : s.size ≤ 1048576) :
    Calls Tryd.prog 36 #[.string s] w fun e w' => ∃ (A : Option Addr) (c : Nat), e = .returned (.tuple #[.agg #[.string (bmV s.data.toList).nm, .int .i64 (bmV s.data.toList).x1, .int .i64 (bmV s.data.toList).x2, .int .i64 (bmV s.data.toList).x3, .int .i64 (bmV s.data.toList).x4, .slice A (bmV s.data.toList).ls.length c], .bool (bmOk s.data.toList)]) ∧
      Own encLoad 2 68 w' w.heap.size (.slice A (bmV s.data.toList).ls.length c) (bmV s.data.toList).ls ∧ Below w.heap.size w w' := by
  by_cases h2 : (splitL 32 s.data.toList).length < 2
  · exact l21Read_few s w hs h2
  obtain ⟨a, b, r, hsp⟩ := split_two h2
  obtain ⟨nm, rfl⟩ : ∃ nm : ByteArray, a = nm.data.toList := ⟨⟨a.toArray⟩, rfl⟩
  obtain ⟨nb, rfl⟩ : ∃ nb : ByteArray, b = nb.data.toList := ⟨⟨b.toArray⟩, rfl⟩
  by_cases h4 : (rdL nb.data.toList).length = 4
  · cases hall : allO ldO r with
    | some lsr => exact l21Read_good s nm nb r w hs hsp h4 lsr hall
    | none =>
      obtain ⟨j, p, h1, h3, hg⟩ := allO_first r hall
      obtain ⟨pb, rfl⟩ : ∃ pb : ByteArray, p = pb.data.toList := ⟨⟨p.toArray⟩, rfl⟩
      have hj := (List.getElem?_eq_some_iff.1 h1).1
      have hlt : j + 2 < (partsB s 32).length := by rw [partsB_len, hsp]; simp; omega
      have hk : (splitL 32 s.data.toList)[j + 2]? = some pb.data.toList := by rw [hsp]; simpa using h1
      have hgood : ∀ k p, 2 ≤ k → k < j + 2 → (splitL 32 s.data.toList)[k]? = some p → ∃ q, ldO p = some q := fun k p hk2 hkl hkp => by
        obtain ⟨i, rfl⟩ : ∃ i, k = i + 2 := ⟨k - 2, by omega⟩
        rw [hsp] at hkp
        exact hg i p (by omega) (by simpa using hkp)
      rcases ldO_kinds h3 with hk1 | hk1 | hk1
      · exact l21Read_len s nm nb r w hs hsp h4 (j + 2) pb (by omega) hlt hk hgood hk1
      · exact l21Read_one s nm nb r w hs hsp h4 (j + 2) pb (by omega) hlt hk hgood hk1
      · exact l21Read_two s nm nb r w hs hsp h4 (j + 2) pb (by omega) hlt hk hgood hk1
  · exact l21Read_row s nm nb r w hs hsp h4
end Go.Proofs.YtobcjhbfkanakaaDoor
