/- What reads a beam, on both sides, joined; the laws' marks of beams. Conditions: the text is at most 2^20 bytes long; for the program the library's variables are laid. -/
import Derived.Test.YtajodbhbmfjmjaaGreatDoorRdBeam5
import Derived.Test.YtajodbhbmfjmjaaGreatDoorRdBeamN
import Derived.Test.YtajodbhbmfjmjaaGreatDoorMarks
namespace Go.Proofs.YtajodbhbmfjmjaaGreatDoor
open Go.RowKit Go.Lib

theorem bmV_len (l : List UInt8) : (bmV l).ls.length ≤ 8 := by
  cases h : oBeam l with
  | none => rw [(bm_none h).1.out]; simp
  | some q =>
    rw [(bm_some h).1.out]
    unfold oBeam at h
    split at h
    · split at h
      · split at h
        · split at h
          · rename_i hv; injection h with h; subst h; exact (vBeam_vals hv).2.2.1
          · cases h
        · cases h
      · cases h
    · cases h
theorem implReadBeam (s : ByteArray) (w : World) (hE : Env w) (hs : s.size ≤ 1048576) :
    Calls Tryz.prog 10 #[.string s] w fun e w' => ∃ (A : Option Addr) (c : Nat), e = .returned (.tuple #[.agg #[.string (bmV s.data.toList).nm, .int .i64 (bmV s.data.toList).x1, .int .i64 (bmV s.data.toList).x2, .int .i64 (bmV s.data.toList).x3, .int .i64 (bmV s.data.toList).x4, .slice A (bmV s.data.toList).ls.length c], .bool (bmOk s.data.toList)]) ∧
      Own encLoad 2 31 w' w.heap.size (.slice A (bmV s.data.toList).ls.length c) (bmV s.data.toList).ls ∧ Below w.heap.size w w' := by
  by_cases h2 : (splitL 32 s.data.toList).length < 2
  · exact implRead_few s w hE hs h2
  obtain ⟨a, b, r, hsp⟩ := split_two h2
  obtain ⟨nm, rfl⟩ : ∃ nm : ByteArray, a = nm.data.toList := ⟨⟨a.toArray⟩, rfl⟩
  obtain ⟨nb, rfl⟩ : ∃ nb : ByteArray, b = nb.data.toList := ⟨⟨b.toArray⟩, rfl⟩
  by_cases h4 : (rdL nb.data.toList).length = 4
  · cases r with
    | nil => exact implRead_nil s nm nb w hE hs hsp h4
    | cons p r => exact implRead_good s nm nb (p :: r) w hE hs hsp h4 (by simp)
  · exact implRead_row s nm nb r w hE hs hsp h4
end Go.Proofs.YtajodbhbmfjmjaaGreatDoor
