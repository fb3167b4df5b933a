/- A name and a list of numbers read out of a text, the reference's helper. Condition: the text is at most 2^20 bytes long. -/
import Derived.Test.YtphlejphkipbpaaDoorRdList
namespace Go.Proofs.YtphlejphkipbpaaDoor
open Go.RowKit Go.Lib

def wdS (l : List UInt8) (k : Nat) : ByteArray := match wordsO l k with | some (a, _) => ⟨a.toArray⟩ | none => ⟨#[]⟩
def wdL (l : List UInt8) (k : Nat) : List Int := match wordsO l k with | some (_, xs) => xs | none => []
def wdB (l : List UInt8) (k : Nat) : Bool := (wordsO l k).isSome
theorem wd_none {l : List UInt8} {k : Nat} (h : wordsO l k = none) : Hid (wdS l k = ⟨#[]⟩) ∧ Hid (wdL l k = []) ∧ Hid (wdB l k = false) := by unfold Hid wdS wdL wdB; rw [h]; exact ⟨rfl, rfl, rfl⟩
theorem wd_some {l : List UInt8} {k : Nat} {a : List UInt8} {xs : List Int} (h : wordsO l k = some (a, xs)) : Hid (wdS l k = ⟨a.toArray⟩) ∧ Hid (wdL l k = xs) ∧ Hid (wdB l k = true) := by unfold Hid wdS wdL wdB; rw [h]; exact ⟨rfl, rfl, rfl⟩
theorem ret_wd {a a' : ByteArray} {A : Option Addr} {c n n' : Nat} {b b' : Bool} (h0 : a = a') (h : n = n') (h2 : b = b') : Ending.returned (.tuple #[.string a, .slice A n c, .bool b]) = .returned (.tuple #[.string a', .slice A n' c, .bool b']) := by rw [h0, h, h2]
theorem words_len {l : List UInt8} {k : Nat} (h : (splitL 32 l).length ≠ 2) : wordsO l k = none := by
  unfold wordsO
  split
  · rename_i a b e
    rw [e] at h
    simp at h
  · rfl
theorem words_two {l : List UInt8} {k : Nat} {p q : List UInt8} (hl : (splitL 32 l).length = 2) (h0 : (splitL 32 l)[0]? = some p) (h1 : (splitL 32 l)[1]? = some q) : wordsO l k = match listO q with | some xs => if xs.length = k then some (p, xs) else none | none => none := by
  unfold wordsO
  match hs : splitL 32 l, hl, h0, h1 with
  | [a, b], _, h0, h1 =>
    simp only [List.getElem?_cons_zero, List.getElem?_cons_succ, Option.some.injEq] at h0 h1
    subst h0; subst h1
    rfl
theorem words_rd {l q : List UInt8} {k : Nat} {p : List UInt8} (hw : wordsO l k = match listO q with | some xs => if xs.length = k then some (p, xs) else none | none => none) :
    (rdB q = false → wordsO l k = none) ∧ (rdB q = true → (rdL q).length ≠ k → wordsO l k = none) ∧ (rdB q = true → (rdL q).length = k → wordsO l k = some (p, rdL q)) := by
  unfold rdB rdL
  cases hq : listO q with
  | none => rw [hq] at hw; exact ⟨fun _ => hw, fun h => by simp at h, fun h => by simp at h⟩
  | some xs =>
    rw [hq] at hw
    simp only at hw
    refine ⟨fun h => by simp at h, fun _ h => ?_, fun _ h => ?_⟩
    · rw [hw, if_neg (by simpa using h)]
    · rw [hw, if_pos (by simpa using h)]; rfl
set_option maxRecDepth 100000 in
set_option maxHeartbeats 2000000 in
theorem specl22Words (s : ByteArray) (k : Nat) (w : World) (hs : s.size ≤ 1048576) :
    Calls Tryd.prog 85 #[.string s, .int .i64 (k : Int)] w fun e w' => ∃ (A : Option Addr) (c : Nat), e = .returned (.tuple #[.string (wdS s.data.toList k), .slice A (wdL s.data.toList k).length c, .bool (wdB s.data.toList k)]) ∧ SlAt encI 1 w' A (wdL s.data.toList k) ∧ Below w.heap.size w w' := by
  have HPL := hide (partsB_len s 32)
  have HG := hide (partsB_get s 32)
  have HZ := hide (part_size s 32)
  by_cases h2 : (partsB s 32).length = 2
  · have d2 : (((partsB s 32).length : Int) != 2) = false := by simp; omega
    have g0 := HG.out 0 (by omega)
    have g1 := HG.out 1 (by omega)
    have hw := words_two (k := k) (by rw [← HPL.out]; exact h2) g0 g1
    have z1 := HZ.out _ (List.getElem_mem (show 1 < (partsB s 32).length by omega))
    have HW := hide (words_rd hw)
    clear g0 g1 hw
    go_enter Tryd.func85, Tryd.ntmps85
    go_wp2_with fail
    refine (specl01Split s 32 _ hs).mono ?_
    rintro e w1 ⟨A1, cp1, rfl, hO1, hb1⟩
    have hP := Own.at_ (enc := encStr) (sz := 1) (fun _ => rfl) hO1
    obtain ⟨b, off, rfl, hbl, hc⟩ := hP 0 (by omega)
    obtain ⟨b2, off2, e4, _, hc2⟩ := hP 1 (by omega)
    injection e4 with e4
    injection e4 with e5 e6
    subst e5; subst e6
    have hc0 := hc 0 _ rfl
    have hc1 := hc2 0 _ rfl
    simp only [Nat.zero_mul, Nat.one_mul, Nat.add_zero] at hc0 hc1
    generalize hp : (partsB s 32)[0] = p at *
    generalize hq : (partsB s 32)[1] = q at *
    have HB1 := hide hb1
    have hz1 := hb1.size
    clear hb1 hO1 hP hc hc2 hp hq HG HZ
    go_wp2_with fail
    refine (specReadList q _ (by omega)).mono ?_
    rintro e w2 ⟨A2, c2, rfl, hA2, hb2⟩
    have HA2 := hide hA2
    have HB2 := hide (HB1.out.trans (hb2.mono hz1))
    have hd0 := (hb2.cell (p := ⟨b, off, none⟩) hbl).trans hc0
    clear hb2 hA2
    cases hrb : rdB q.data.toList
    · obtain ⟨e1, e2, e3⟩ := wd_none (HW.out.1 hrb)
      clear HW
      go_wp2_with fail
      go_ret3
      exact ⟨_, _, ret_wd e1.out.symm (by rw [e2.out]; rfl) e3.out.symm, slat_nil e2.out, HB2.out⟩
    · by_cases hln : (rdL q.data.toList).length = k
      · obtain ⟨e1, e2, e3⟩ := wd_some (HW.out.2.2 hrb hln)
        have d3 : (((rdL q.data.toList).length : Int) != (k : Int)) = false := by simp; omega
        clear HW hln
        go_wp2_with fail
        go_ret3
        exact ⟨_, _, ret_wd e1.out.symm (by rw [e2.out]) e3.out.symm, by rw [e2.out]; exact HA2.out, HB2.out⟩
      · obtain ⟨e1, e2, e3⟩ := wd_none (HW.out.2.1 hrb hln)
        have d3 : (((rdL q.data.toList).length : Int) != (k : Int)) = true := by simp; omega
        clear HW hln
        go_wp2_with fail
        go_ret3
        exact ⟨_, _, ret_wd e1.out.symm (by rw [e2.out]; rfl) e3.out.symm, slat_nil e2.out, HB2.out⟩
  · have d2 : (((partsB s 32).length : Int) != 2) = true := by simp; omega
    obtain ⟨e1, e2, e3⟩ := wd_none (words_len (l := s.data.toList) (k := k) (by rw [← HPL.out]; exact h2))
    go_enter Tryd.func85, Tryd.ntmps85
    go_wp2_with fail
    refine (specl01Split s 32 _ hs).mono ?_
    rintro e w1 ⟨A1, cp1, rfl, hO1, hb1⟩
    have HB1 := hide hb1
    clear hb1 hO1
    go_wp2_with fail
    go_ret3
    exact ⟨_, _, ret_wd e1.out.symm (by rw [e2.out]; rfl) e3.out.symm, slat_nil e2.out, HB1.out⟩
/-- What stands before the first blank, and behind it. -/
def hdB (s : ByteArray) : ByteArray := ⟨(headL s.data.toList).toArray⟩
def rsB (s : ByteArray) : ByteArray := ⟨(restL s.data.toList).toArray⟩
def fdB (s : ByteArray) : Bool := (Lib.cut s.data.toList [32]).2.2
theorem cutAt32 (s : ByteArray) (w : World) (hE : Env w) (hs : s.size ≤ 1048576) : Calls Tryd.prog 84 #[.string s, .string ⟨#[32]⟩] w fun e w' => e = .returned (.tuple #[.string (hdB s), .string (rsB s), .bool (fdB s)]) ∧ Below w.heap.size w w' := cutAt s ⟨#[32]⟩ w hE (by omega)
theorem words_hd (s : ByteArray) (k : Nat) : wordsO s.data.toList k = match listO (rsB s).data.toList with | some xs => if xs.length = k then some ((hdB s).data.toList, xs) else none | none => none := words_cut s.data.toList k
theorem cut_len (l : List UInt8) : (headL l).length ≤ l.length ∧ (restL l).length ≤ l.length := by
  unfold headL restL Lib.cut
  split
  · simp; omega
  · simp
theorem hd_size (s : ByteArray) : (hdB s).size ≤ s.size ∧ (rsB s).size ≤ s.size := by
  have h := cut_len s.data.toList
  have h1 : (hdB s).size = (headL s.data.toList).length := by simp [hdB, ByteArray.size]
  have h2 : (rsB s).size = (restL s.data.toList).length := by simp [rsB, ByteArray.size]
  have h3 : s.data.toList.length = s.size := by simp
  omega
theorem bytes_back (b : ByteArray) : (⟨b.data.toList.toArray⟩ : ByteArray) = b := Go.WideShapes.bytes_inj rfl
theorem rdL_some {l : List UInt8} {k : Nat} (h : (rdL l).length = k) (hk : k ≠ 0) : listO l = some (rdL l) := by
  unfold rdL at h ⊢
  cases hq : listO l with
  | none => rw [hq] at h; simp at h; omega
  | some xs => rfl
theorem words_no {s : ByteArray} {k : Nat} (h : (rdL (rsB s).data.toList).length ≠ k) : wordsO s.data.toList k = none := by
  rw [words_hd]
  unfold rdL at h
  cases hq : listO (rsB s).data.toList with
  | none => rfl
  | some xs =>
    rw [hq] at h
    simp only [Option.getD_some] at h
    simp only
    rw [if_neg h]
theorem words_yes {s : ByteArray} {k : Nat} (h : (rdL (rsB s).data.toList).length = k) (hk : k ≠ 0) : wordsO s.data.toList k = some ((hdB s).data.toList, rdL (rsB s).data.toList) := by
  rw [words_hd, rdL_some h hk]
  simp only
  rw [if_pos h]
end Go.Proofs.YtphlejphkipbpaaDoor
