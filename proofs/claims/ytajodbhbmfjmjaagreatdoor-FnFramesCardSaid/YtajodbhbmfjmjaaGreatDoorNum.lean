/- A number read out of a text, on both sides: the number whose numeral the text is, if it has at most 18 digits. Condition: the text is at most 2^20 bytes long on the program's side. -/
import Derived.Test.YtajodbhbmfjmjaaGreatDoorEnv
import Derived.Test.YtajodbhbmfjmjaaGreatDoorName
namespace Go.Proofs.YtajodbhbmfjmjaaGreatDoor
open Go.RowKit Go.Lib

def numV (l : List UInt8) : Int := (numO l).getD 0
def numB (l : List UInt8) : Bool := (numO l).isSome
theorem num_none {l : List UInt8} (h : numO l = none) : Hid (numV l = 0) ∧ Hid (numB l = false) := by unfold Hid numV numB; rw [h]; exact ⟨rfl, rfl⟩
theorem num_some {l : List UInt8} {n : Int} (h : numO l = some n) : Hid (numV l = n) ∧ Hid (numB l = true) := by unfold Hid numV numB; rw [h]; exact ⟨rfl, rfl⟩
theorem ret_num {a a' : Int} {b b' : Bool} (h : a = a') (h2 : b = b') : Ending.returned (.tuple #[.int .i64 a, .bool b]) = .returned (.tuple #[.int .i64 a', .bool b']) := by rw [h, h2]
theorem digitVal_none {b : UInt8} (h : inB (b.toNat : Int) 48 57 = false) : digitVal b = none := by
  cases hd : digitVal b with
  | none => rfl
  | some d =>
    obtain ⟨h1, h2, _⟩ := digitVal_eq hd
    unfold inB at h
    simp at h
    omega
theorem digitVal_some {b : UInt8} (h : inB (b.toNat : Int) 48 57 = true) : digitVal b = some (b.toNat - 48) := by
  have := inB_true h
  exact digitVal_of (by omega) (by omega)
theorem decFrom_bad {l : List UInt8} {k acc : Nat} {b : UInt8} (hb : l[k]? = some b) (hd : digitVal b = none) : decFrom acc l = none := by
  cases h : decFrom acc l with
  | none => rfl
  | some m =>
    obtain ⟨d, e⟩ := digit_of_decFrom l acc m h k b hb
    rw [hd] at e
    cases e
theorem dec_bd {l : List UInt8} {k m : Nat} (h : decFrom 0 (l.take k) = some m) : m < 10 ^ k := by
  have h1 := decFrom_lt _ _ _ h
  have h2 : (l.take k).length ≤ k := by rw [List.length_take]; omega
  have h3 := Nat.pow_le_pow_right (n := 10) (by decide) h2
  omega
theorem byte_at (s : ByteArray) (k : Nat) (h : k < s.size) : s.data.toList[k]? = some s[k] := by
  rw [List.getElem?_eq_getElem (by simpa using h)]
  rfl
theorem head_byte (s : ByteArray) (h : 0 < s.size) : s.data.toList.head? = some s[0] := by
  rw [List.head?_eq_getElem?]
  exact byte_at s 0 h
theorem tail_byte (s : ByteArray) (k : Nat) (h : k + 1 < s.size) : s.data.toList.tail[k]? = some s[k + 1] := by
  rw [List.getElem?_tail]
  exact byte_at s (k + 1) h
end Go.Proofs.YtajodbhbmfjmjaaGreatDoor
