/- The program's reading of a number out of a text. Conditions: the text is at most 2^20 bytes long; the library's variables are laid. -/
import Derived.Test.YtajodbhbmfjmjaaGreatDoorNum
namespace Go.Proofs.YtajodbhbmfjmjaaGreatDoor
open Go.RowKit Go.Lib

theorem trimPrefix_O (l : List UInt8) : Lib.trimPrefix l [45] = trimO l := by
  unfold Lib.trimPrefix Lib.hasPrefix trimO
  cases l with
  | nil => rfl
  | cons c r =>
    by_cases h : c = 45
    · subst h; simp [List.isPrefixOf]
    · rw [if_neg (by simp [List.isPrefixOf]; exact fun e => h e.symm), if_neg (by simp [h])]
theorem str_eq {a b : ByteArray} (h : a = b) : (a.toList == b.toList) = true := by rw [h]; simp
theorem str_ne {a b : ByteArray} (h : a ≠ b) : (a.toList == b.toList) = false := by
  simp only [beq_eq_false_iff_ne, ne_eq]
  intro e
  exact h (Go.WideShapes.bytes_inj (by have := e; simpa [ByteArray.toList_eq] using this))
theorem lst_eq {l : List UInt8} {b : ByteArray} (h : (⟨l.toArray⟩ : ByteArray) = b) : (l == b.toList) = true := by rw [← h]; simp [ByteArray.toList_eq]
theorem lst_ne {l : List UInt8} {b : ByteArray} (h : (⟨l.toArray⟩ : ByteArray) ≠ b) : (l == b.toList) = false := by
  simp only [beq_eq_false_iff_ne, ne_eq]
  intro e
  exact h (Go.WideShapes.bytes_inj (by simpa [ByteArray.toList_eq] using e))
theorem parse_bounds {l : List UInt8} {v : Int} (h : Lib.parseIntB 64 l = .ok v) : -9223372036854775808 ≤ v ∧ v ≤ 9223372036854775807 := by
  unfold Lib.parseIntB at h
  cases l with
  | nil => cases h
  | cons c r =>
    simp only at h
    generalize Lib.parseUintB 64 _ = q at h
    cases q <;> simp only at h
    case ok u =>
      have e : (2 : Nat) ^ (64 - 1) = 9223372036854775808 := by decide
      rw [e] at h
      split at h
      · cases h
      · split at h
        · cases h
        · rename_i h1 h2
          injection h with h
          subst h
          split <;> omega
    all_goals cases h
set_option maxRecDepth 100000 in
set_option maxHeartbeats 1000000 in
theorem implReadDecimal (s : ByteArray) (w : World) (hE : Env w) (hs : s.size ≤ 1048576) :
    Calls Tryz.prog 28 #[.string s] w fun e w' => e = .returned (.tuple #[.int .i64 (numV s.data.toList), .bool (numB s.data.toList)]) ∧ Below w.heap.size w w' := by
  have HE := hide hE
  clear hE
  have htl : (⟨(trimO s.data.toList).toArray⟩ : ByteArray).size = (trimO s.data.toList).length := by simp [ByteArray.size]
  cases hn : numO s.data.toList with
  | some n =>
    obtain ⟨e1, e2⟩ := num_some hn
    obtain ⟨r1, r2⟩ := numO_room hn
    obtain ⟨i1, i2, i3⟩ := (numO_iff _ _).1 hn
    have hp := parse_itoa i2 i3
    rw [i1] at hp
    have HP := hide hp
    have d1 : decide (((trimO s.data.toList).length : Int) < 1) = false := by simp; omega
    have d2 : decide ((18 : Int) < ((trimO s.data.toList).length : Int)) = false := by simp; omega
    have hq : (⟨(itoa n).toArray⟩ : ByteArray) = s := Go.WideShapes.bytes_inj (by rw [i1])
    have HQ := hide hq
    clear hp hq i1
    have t1 : (itoa n == s.toList) = true := lst_eq HQ.out
    go_enter Tryz.func28, Tryz.ntmps28
    go_wp2_with (go_at_call 47; refine (Tryz.strings_TrimPrefix _ _ _).mono ?_; rintro e w' ⟨rfl, rfl⟩; rw [show (⟨#[45]⟩ : ByteArray).data.toList = [45] from rfl, trimPrefix_O])
    refine (parseOk s n _ hs HP.out).mono ?_
    rintro e w1 ⟨rfl, hb1⟩
    go_wp2_with fail
    refine (implDecimal n _ (HE.out.t.below hb1) (by omega) (by omega)).mono ?_
    rintro e w2 ⟨rfl, hb2⟩
    have HB := hide (hb1.trans (hb2.mono hb1.size))
    clear hb1 hb2
    go_wp2_with fail
    go_ret2
    exact ⟨ret_num e1.out.symm e2.out.symm, HB.out⟩
  | none =>
    obtain ⟨e1, e2⟩ := num_none hn
    by_cases hl : (trimO s.data.toList).length < 1
    · have d1 : decide (((trimO s.data.toList).length : Int) < 1) = true := by simp; omega
      go_enter Tryz.func28, Tryz.ntmps28
      go_wp2_with (go_at_call 47; refine (Tryz.strings_TrimPrefix _ _ _).mono ?_; rintro e w' ⟨rfl, rfl⟩; rw [show (⟨#[45]⟩ : ByteArray).data.toList = [45] from rfl, trimPrefix_O])
      go_ret2
      exact ⟨ret_num e1.out.symm e2.out.symm, (by repeat (first | with_reducible exact Below.refl _ _ | with_reducible assumption | (with_reducible refine Below.drew ?_) | (with_reducible refine below_drewN ?_ _) | ((with_reducible refine Below.alloc ?_ ?_ _); rotate_left; (focus (first | omega | (simp; omega) | simp))) | ((with_reducible refine Below.setCell ?_ ?_ _); rotate_left; (focus (first | omega | (simp; omega) | simp))) | (refine Below.trans ?_ (Below.mono (by assumption) (by first | omega | (simp; omega) | simp)))))⟩
    · have d1 : decide (((trimO s.data.toList).length : Int) < 1) = false := by simp; omega
      by_cases h18 : 18 < (trimO s.data.toList).length
      · have d2 : decide ((18 : Int) < ((trimO s.data.toList).length : Int)) = true := by simp; omega
        go_enter Tryz.func28, Tryz.ntmps28
        go_wp2_with (go_at_call 47; refine (Tryz.strings_TrimPrefix _ _ _).mono ?_; rintro e w' ⟨rfl, rfl⟩; rw [show (⟨#[45]⟩ : ByteArray).data.toList = [45] from rfl, trimPrefix_O])
        go_ret2
        exact ⟨ret_num e1.out.symm e2.out.symm, (by repeat (first | with_reducible exact Below.refl _ _ | with_reducible assumption | (with_reducible refine Below.drew ?_) | (with_reducible refine below_drewN ?_ _) | ((with_reducible refine Below.alloc ?_ ?_ _); rotate_left; (focus (first | omega | (simp; omega) | simp))) | ((with_reducible refine Below.setCell ?_ ?_ _); rotate_left; (focus (first | omega | (simp; omega) | simp))) | (refine Below.trans ?_ (Below.mono (by assumption) (by first | omega | (simp; omega) | simp)))))⟩
      · have d2 : decide ((18 : Int) < ((trimO s.data.toList).length : Int)) = false := by simp; omega
        by_cases hp : ∃ v, Lib.parseIntB 64 s.data.toList = .ok v
        · obtain ⟨v, hv⟩ := hp
          have hne : (⟨(itoa v).toArray⟩ : ByteArray) ≠ s := fun e => by
            have h3 : itoa v = s.data.toList := by rw [← e]
            rw [numO_of h3 (by omega)] at hn
            cases hn
          have t1 : (itoa v == s.toList) = false := lst_ne hne
          have hvb : -9223372036854775808 ≤ v ∧ v ≤ 9223372036854775807 := parse_bounds hv
          have HV := hide hv
          clear hv hne
          go_enter Tryz.func28, Tryz.ntmps28
          go_wp2_with (go_at_call 47; refine (Tryz.strings_TrimPrefix _ _ _).mono ?_; rintro e w' ⟨rfl, rfl⟩; rw [show (⟨#[45]⟩ : ByteArray).data.toList = [45] from rfl, trimPrefix_O])
          refine (parseOk s v _ hs HV.out).mono ?_
          rintro e w1 ⟨rfl, hb1⟩
          go_wp2_with fail
          refine (implDecimal v _ (HE.out.t.below hb1) hvb.1 hvb.2).mono ?_
          rintro e w2 ⟨rfl, hb2⟩
          have HB := hide (hb1.trans (hb2.mono hb1.size))
          clear hb1 hb2
          go_wp2_with fail
          go_ret2
          exact ⟨ret_num e1.out.symm e2.out.symm, HB.out⟩
        · have HP := hide fun v (h : Lib.parseIntB 64 s.data.toList = .ok v) => hp ⟨v, h⟩
          clear hp
          go_enter Tryz.func28, Tryz.ntmps28
          go_wp2_with (go_at_call 47; refine (Tryz.strings_TrimPrefix _ _ _).mono ?_; rintro e w' ⟨rfl, rfl⟩; rw [show (⟨#[45]⟩ : ByteArray).data.toList = [45] from rfl, trimPrefix_O])
          refine (parseBad s _ HE.out hs HP.out).mono ?_
          rintro e w1 ⟨⟨v, tp, N, rfl⟩, hb1⟩
          have HB := hide hb1
          clear hb1
          go_wp2_with fail
          go_ret2
          exact ⟨ret_num e1.out.symm e2.out.symm, HB.out⟩
end Go.Proofs.YtajodbhbmfjmjaaGreatDoor
