/- A name and a list of numbers read out of a text, the reference's helper. Condition: the text is at most 2^20 bytes long. -/
import Derived.Test.YtajodbhbmfjmjaaGreatDoorRdList
namespace Go.Proofs.YtajodbhbmfjmjaaGreatDoor
open Go.RowKit Go.Lib

def wdS (l : List UInt8) (k : Nat) : ByteArray := match wordsO l k with | some (a, _) => ⟨a.toArray⟩ | none => ⟨#[]⟩
def wdL (l : List UInt8) (k : Nat) : List Int := match wordsO l k with | some (_, xs) => xs | none => []
def wdB (l : List UInt8) (k : Nat) : Bool := (wordsO l k).isSome
theorem wd_none {l : List UInt8} {k : Nat} (h : wordsO l k = none) : Hid (wdS l k = ⟨#[]⟩) ∧ Hid (wdL l k = []) ∧ Hid (wdB l k = false) := by unfold Hid wdS wdL wdB; rw [h]; exact ⟨rfl, rfl, rfl⟩
theorem wd_some {l : List UInt8} {k : Nat} {a : List UInt8} {xs : List Int} (h : wordsO l k = some (a, xs)) : Hid (wdS l k = ⟨a.toArray⟩) ∧ Hid (wdL l k = xs) ∧ Hid (wdB l k = true) := by unfold Hid wdS wdL wdB; rw [h]; exact ⟨rfl, rfl, rfl⟩
theorem ret_wd {a a' : ByteArray} {A : Option Addr} {c n n' : Nat} {b b' : Bool} (h0 : a = a') (h : n = n') (h2 : b = b') : Ending.returned (.tuple #[.string a, .slice A n c, .bool b]) = .returned (.tuple #[.string a', .slice A n' c, .bool b']) := by rw [h0, h, h2]
theorem words_len {l : List UInt8} {k : Nat} (h : (splitL 32 l).length ≠ 2) : wordsO l k = none := by
  unfold wordsO
  split
  · rename_i a b e
    rw [e] at h
    simp at h
  · rfl
theorem words_two {l : List UInt8} {k : Nat} {p q : List UInt8} (hl : (splitL 32 l).length = 2) (h0 : (splitL 32 l)[0]? = some p) (h1 : (splitL 32 l)[1]? = some q) : wordsO l k = match listO q with | some xs => if xs.length = k then some (p, xs) else none | none => none := by
  unfold wordsO
  match hs : splitL 32 l, hl, h0, h1 with
  | [a, b], _, h0, h1 =>
    simp only [List.getElem?_cons_zero, List.getElem?_cons_succ, Option.some.injEq] at h0 h1
    subst h0; subst h1
    rfl
theorem words_rd {l q : List UInt8} {k : Nat} {p : List UInt8} (hw : wordsO l k = match listO q with | some xs => if xs.length = k then some (p, xs) else none | none => none) :
    (rdB q = false → wordsO l k = none) ∧ (rdB q = true → (rdL q).length ≠ k → wordsO l k = none) ∧ (rdB q = true → (rdL q).length = k → wordsO l k = some (p, rdL q)) := by
  unfold rdB rdL
  cases hq : listO q with
  | none => rw [hq] at hw; exact ⟨fun _ => hw, fun h => by simp at h, fun h => by simp at h⟩
  | some xs =>
    rw [hq] at hw
    simp only at hw
    refine ⟨fun h => by simp at h, fun _ h => ?_, fun _ h => ?_⟩
    · rw [hw, if_neg (by simpa using h)]
    · rw [hw, if_pos (by simpa using h)]; rfl
/-- What stands before the first blank, and behind it. -/
def hdB (s : ByteArray) : ByteArray := ⟨(headL s.data.toList).toArray⟩
def rsB (s : ByteArray) : ByteArray := ⟨(restL s.data.toList).toArray⟩
def fdB (s : ByteArray) : Bool := (Lib.cut s.data.toList [32]).2.2
theorem cutAt32 (s : ByteArray) (w : World) (hE : Env w) (hs : s.size ≤ 1048576) : Calls Tryz.prog 27 #[.string s, .string ⟨#[32]⟩] w fun e w' => e = .returned (.tuple #[.string (hdB s), .string (rsB s), .bool (fdB s)]) ∧ Below w.heap.size w w' := cutAt s ⟨#[32]⟩ w hE (by omega)
theorem words_hd (s : ByteArray) (k : Nat) : wordsO s.data.toList k = match listO (rsB s).data.toList with | some xs => if xs.length = k then some ((hdB s).data.toList, xs) else none | none => none := words_cut s.data.toList k
theorem cut_len (l : List UInt8) : (headL l).length ≤ l.length ∧ (restL l).length ≤ l.length := by
  unfold headL restL Lib.cut
  split
  · simp; omega
  · simp
theorem hd_size (s : ByteArray) : (hdB s).size ≤ s.size ∧ (rsB s).size ≤ s.size := by
  have h := cut_len s.data.toList
  have h1 : (hdB s).size = (headL s.data.toList).length := by simp [hdB, ByteArray.size]
  have h2 : (rsB s).size = (restL s.data.toList).length := by simp [rsB, ByteArray.size]
  have h3 : s.data.toList.length = s.size := by simp
  omega
theorem bytes_back (b : ByteArray) : (⟨b.data.toList.toArray⟩ : ByteArray) = b := Go.WideShapes.bytes_inj rfl
theorem rdL_some {l : List UInt8} {k : Nat} (h : (rdL l).length = k) (hk : k ≠ 0) : listO l = some (rdL l) := by
  unfold rdL at h ⊢
  cases hq : listO l with
  | none => rw [hq] at h; simp at h; omega
  | some xs => rfl
theorem words_no {s : ByteArray} {k : Nat} (h : (rdL (rsB s).data.toList).length ≠ k) : wordsO s.data.toList k = none := by
  rw [words_hd]
  unfold rdL at h
  cases hq : listO (rsB s).data.toList with
  | none => rfl
  | some xs =>
    rw [hq] at h
    simp only [Option.getD_some] at h
    simp only
    rw [if_neg h]
theorem words_yes {s : ByteArray} {k : Nat} (h : (rdL (rsB s).data.toList).length = k) (hk : k ≠ 0) : wordsO s.data.toList k = some ((hdB s).data.toList, rdL (rsB s).data.toList) := by
  rw [words_hd, rdL_some h hk]
  simp only
  rw [if_pos h]
end Go.Proofs.YtajodbhbmfjmjaaGreatDoor
