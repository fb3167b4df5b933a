/- A number read out of a text, on both sides: the number whose numeral the text is, if it has at most 18 digits. Condition: the text is at most 2^20 bytes long on the program's side. -/
import Derived.Test.YtobcjhbfkanakaaDoorEnv
import Derived.Test.YtobcjhbfkanakaaDoorName
namespace Go.Proofs.YtobcjhbfkanakaaDoor
open Go.RowKit Go.Lib

def numV (l : List UInt8) : Int := (numO l).getD 0
def numB (l : List UInt8) : Bool := (numO l).isSome
theorem num_none {l : List UInt8} (h : numO l = none) : Hid (numV l = 0) ∧ Hid (numB l = false) := by unfold Hid numV numB; rw [h]; exact ⟨rfl, rfl⟩
theorem num_some {l : List UInt8} {n : Int} (h : numO l = some n) : Hid (numV l = n) ∧ Hid (numB l = true) := by unfold Hid numV numB; rw [h]; exact ⟨rfl, rfl⟩
theorem ret_num {a a' : Int} {b b' : Bool} (h : a = a') (h2 : b = b') : Ending.returned (.tuple #[.int .i64 a, .bool b]) = .returned (.tuple #[.int .i64 a', .bool b']) := by rw [h, h2]
theorem digitVal_none {b : UInt8} (h : inB (b.toNat : Int) 48 57 = false) : digitVal b = none := by
  cases hd : digitVal b with
  | none => rfl
  | some d =>
    obtain ⟨h1, h2, _⟩ := digitVal_eq hd
    unfold inB at h
    simp at h
    omega
theorem digitVal_some {b : UInt8} (h : inB (b.toNat : Int) 48 57 = true) : digitVal b = some (b.toNat - 48) := by
  have := inB_true h
  exact digitVal_of (by omega) (by omega)
theorem decFrom_bad {l : List UInt8} {k acc : Nat} {b : UInt8} (hb : l[k]? = some b) (hd : digitVal b = none) : decFrom acc l = none := by
  cases h : decFrom acc l with
  | none => rfl
  | some m =>
    obtain ⟨d, e⟩ := digit_of_decFrom l acc m h k b hb
    rw [hd] at e
    cases e
theorem dec_bd {l : List UInt8} {k m : Nat} (h : decFrom 0 (l.take k) = some m) : m < 10 ^ k := by
  have h1 := decFrom_lt _ _ _ h
  have h2 : (l.take k).length ≤ k := by rw [List.length_take]; omega
  have h3 := Nat.pow_le_pow_right (n := 10) (by decide) h2
  omega
theorem byte_at (s : ByteArray) (k : Nat) (h : k < s.size) : s.data.toList[k]? = some s[k] := by
  rw [List.getElem?_eq_getElem (by simpa using h)]
  rfl
theorem head_byte (s : ByteArray) (h : 0 < s.size) : s.data.toList.head? = some s[0] := by
  rw [List.head?_eq_getElem?]
  exact byte_at s 0 h
theorem tail_byte (s : ByteArray) (k : Nat) (h : k + 1 < s.size) : s.data.toList.tail[k]? = some s[k + 1] := by
  rw [List.getElem?_tail]
  exact byte_at s (k + 1) h
set_option maxRecDepth 100000 in
set_option maxHeartbeats 1000000 in
theorem specl01Number (s : ByteArray) (w : World) (hs : s.size ≤ maxLen) :
    Calls Tryd.prog 57 #[.string s] w fun e w' => e = .returned (.tuple #[.int .i64 (numV s.data.toList), .bool (numB s.data.toList)]) ∧ Below w.heap.size w w' := by
  unfold maxLen at hs
  have hlen : s.data.toList.length = s.size := by simp
  have HL := hide hlen
  clear hlen
  by_cases h0 : s.size = 0
  · have he : s.data.toList = [] := List.eq_nil_of_length_eq_zero (by rw [HL.out, h0])
    obtain ⟨e1, e2⟩ := num_none (l := s.data.toList) (by rw [he]; rfl)
    go_enter Tryd.func57, Tryd.ntmps57
    go_wp2_with fail
    go_ret2
    exact ⟨ret_num e1.out.symm e2.out.symm, (by repeat (first | with_reducible exact Below.refl _ _ | with_reducible assumption | (with_reducible refine Below.drew ?_) | (with_reducible refine below_drewN ?_ _) | ((with_reducible refine Below.alloc ?_ ?_ _); rotate_left; (focus (first | omega | (simp; omega) | simp))) | ((with_reducible refine Below.setCell ?_ ?_ _); rotate_left; (focus (first | omega | (simp; omega) | simp))) | (refine Below.trans ?_ (Below.mono (by assumption) (by first | omega | (simp; omega) | simp)))))⟩
  · have hp : 0 < s.size := by omega
    have d0 : decide ((0 : Int) < (s.size : Int)) = true := by simp; omega
    have hhd := head_byte s hp
    by_cases hm : s[0] = 45
    · have hm1 : ((s[0].toNat : Int) == 45) = true := by rw [hm]; rfl
      rw [hm] at hhd
      have htr : trimO s.data.toList = s.data.toList.tail := by unfold trimO; rw [if_pos hhd]
      have htl : s.data.toList.tail.length = s.size - 1 := by rw [List.length_tail, HL.out]
      clear hm
      by_cases h1 : s.size = 1
      · have d1 : ((s.size : Int) == 1) = true := by rw [h1]; rfl
        obtain ⟨e1, e2⟩ := num_none (l := s.data.toList) (numO_short (.inl (by rw [htr, htl]; omega)))
        go_enter Tryd.func57, Tryd.ntmps57
        go_wp2_with fail
        go_ret2
        exact ⟨ret_num e1.out.symm e2.out.symm, (by repeat (first | with_reducible exact Below.refl _ _ | with_reducible assumption | (with_reducible refine Below.drew ?_) | (with_reducible refine below_drewN ?_ _) | ((with_reducible refine Below.alloc ?_ ?_ _); rotate_left; (focus (first | omega | (simp; omega) | simp))) | ((with_reducible refine Below.setCell ?_ ?_ _); rotate_left; (focus (first | omega | (simp; omega) | simp))) | (refine Below.trans ?_ (Below.mono (by assumption) (by first | omega | (simp; omega) | simp)))))⟩
      · have d1 : ((s.size : Int) == 1) = false := by simp only [beq_eq_false_iff_ne, ne_eq]; omega
        by_cases h18 : 18 < s.size - 1
        · have d18 : decide ((18 : Int) < (s.size : Int) - 1) = true := by simp; omega
          obtain ⟨e1, e2⟩ := num_none (l := s.data.toList) (numO_short (.inr (by rw [htr, htl]; omega)))
          go_enter Tryd.func57, Tryd.ntmps57
          go_wp2_with fail
          go_ret2
          exact ⟨ret_num e1.out.symm e2.out.symm, (by repeat (first | with_reducible exact Below.refl _ _ | with_reducible assumption | (with_reducible refine Below.drew ?_) | (with_reducible refine below_drewN ?_ _) | ((with_reducible refine Below.alloc ?_ ?_ _); rotate_left; (focus (first | omega | (simp; omega) | simp))) | ((with_reducible refine Below.setCell ?_ ?_ _); rotate_left; (focus (first | omega | (simp; omega) | simp))) | (refine Below.trans ?_ (Below.mono (by assumption) (by first | omega | (simp; omega) | simp)))))⟩
        · have d18 : decide ((18 : Int) < (s.size : Int) - 1) = false := by simp; omega
          have hp1 : 1 < s.size := by omega
          have ht0 := tail_byte s 0 hp1
          by_cases hz : s[1] = 48
          · have hz1 : ((s[1].toNat : Int) == 48) = true := by rw [hz]; rfl
            have d2 : decide ((1 : Int) < (s.size : Int)) = true := by simp; omega
            rw [hz] at ht0
            obtain ⟨e1, e2⟩ := num_none (l := s.data.toList) (by unfold numO; rw [if_pos hhd, if_pos (by rw [List.head?_eq_getElem?]; exact ht0)])
            go_enter Tryd.func57, Tryd.ntmps57
            go_wp2_with fail
            go_ret2
            exact ⟨ret_num e1.out.symm e2.out.symm, (by repeat (first | with_reducible exact Below.refl _ _ | with_reducible assumption | (with_reducible refine Below.drew ?_) | (with_reducible refine below_drewN ?_ _) | ((with_reducible refine Below.alloc ?_ ?_ _); rotate_left; (focus (first | omega | (simp; omega) | simp))) | ((with_reducible refine Below.setCell ?_ ?_ _); rotate_left; (focus (first | omega | (simp; omega) | simp))) | (refine Below.trans ?_ (Below.mono (by assumption) (by first | omega | (simp; omega) | simp)))))⟩
          · have hz1 : ((s[1].toNat : Int) == 48) = false := by
              simp only [beq_eq_false_iff_ne, ne_eq]
              intro e
              exact hz (UInt8.toNat_inj.1 (by have : (48 : UInt8).toNat = 48 := rfl
                                              omega))
            have hth : s.data.toList.tail.head? ≠ some 48 := by
              rw [List.head?_eq_getElem?, ht0]
              intro e
              injection e with e
              exact hz e
            have hnum : numO s.data.toList = (natO s.data.toList.tail).map fun m : Nat => -(m : Int) := by unfold numO; rw [if_pos hhd, if_neg hth]
            have hcond : ¬ (s.data.toList.tail.length = 0 ∨ 18 < s.data.toList.tail.length ∨ (s.data.toList.tail.head? = some 48 ∧ 1 < s.data.toList.tail.length)) := by
              rw [htl]
              simp only [not_or, not_and]
              exact ⟨by omega, by omega, fun e => absurd e hth⟩
            clear ht0 htr hth hz
            go_enter Tryd.func57, Tryd.ntmps57
            go_wp2_with fail
            go_loop [6, 5] (fun v n => ∃ (k m : Nat), v = .int .i64 ((k + 1 : Nat) : Int) ∧ n = .int .i64 (m : Int) ∧ k + 1 ≤ s.size ∧ Hid (decFrom 0 (s.data.toList.tail.take k) = some m)) (fun v _ => s.size - (intOf v).toNat)
            case atStart => exact ⟨0, 0, rfl, rfl, by omega, rfl⟩
            case round =>
              obtain ⟨k, m, rfl, rfl, hk, hd⟩ := hrel
              by_cases hlt : k + 1 < s.size
              · have hb := tail_byte s k hlt
                cases a1 : inB ((s[k + 1]'hlt).toNat : Int) 48 57
                · have hn : natO s.data.toList.tail = none := by
                    unfold natO
                    split
                    · rfl
                    · exact decFrom_bad hb (digitVal_none a1)
                  obtain ⟨e1, e2⟩ := num_none (l := s.data.toList) (by rw [hnum, hn]; rfl)
                  clear hb
                  go_wp2_with (go_at_call 73; refine (l01Digit_any _ _).mono ?_; rintro e w' ⟨rfl, rfl⟩)
                  go_ret2
                  exact ⟨ret_num e1.out.symm e2.out.symm, (by repeat (first | with_reducible exact Below.refl _ _ | with_reducible assumption | (with_reducible refine Below.drew ?_) | (with_reducible refine below_drewN ?_ _) | ((with_reducible refine Below.alloc ?_ ?_ _); rotate_left; (focus (first | omega | (simp; omega) | simp))) | ((with_reducible refine Below.setCell ?_ ?_ _); rotate_left; (focus (first | omega | (simp; omega) | simp))) | (refine Below.trans ?_ (Below.mono (by assumption) (by first | omega | (simp; omega) | simp)))))⟩
                · have hd2 := hide (decFrom_take _ k 0 m _ _ hd.out hb (digitVal_some a1))
                  have hbd := dec_bd hd.out
                  have hp18 := Nat.pow_le_pow_right (n := 10) (by decide) (show k ≤ 17 by omega)
                  have h10 : (10 : Nat) ^ 17 = 100000000000000000 := by decide
                  have hmm : m < 100000000000000000 := by omega
                  have hin := inB_true a1
                  obtain ⟨b, hbe⟩ : ∃ b : Nat, b = (s[k + 1]'hlt).toNat := ⟨_, rfl⟩
                  have A1 := hide a1
                  clear hb hbd hp18 h10
                  go_wp2_with (go_at_call 73; refine (l01Digit_any _ _).mono ?_; rintro e w' ⟨rfl, rfl⟩)
                  go_round
                  case rel => exact ⟨k + 1, m * 10 + ((s[k + 1]'hlt).toNat - 48), by go_num, congrArg (Value.int .i64) (by omega), by omega, hd2⟩
                  case measure => simp [intOf]; omega
              · have hl : s.data.toList.tail.length = k := by have := HL.out; rw [List.length_tail]; omega
                have hd' := hd.out
                rw [List.take_of_length_le (by omega)] at hd'
                have hn : natO s.data.toList.tail = some m := by
                  unfold natO
                  rw [if_neg hcond]
                  exact hd'
                have hbd := (natO_iff _ _).1 hn
                obtain ⟨e1, e2⟩ := num_some (l := s.data.toList) (n := -(m : Int)) (by rw [hnum, hn]; rfl)
                have h18 : m < 1000000000000000000 := by have := hbd.2; have e : (10 : Nat) ^ 18 = 1000000000000000000 := by decide
                                                         omega
                clear hd' hn hbd
                go_wp2_with fail
                go_ret2
                exact ⟨ret_num e1.out.symm e2.out.symm, (by repeat (first | with_reducible exact Below.refl _ _ | with_reducible assumption | (with_reducible refine Below.drew ?_) | (with_reducible refine below_drewN ?_ _) | ((with_reducible refine Below.alloc ?_ ?_ _); rotate_left; (focus (first | omega | (simp; omega) | simp))) | ((with_reducible refine Below.setCell ?_ ?_ _); rotate_left; (focus (first | omega | (simp; omega) | simp))) | (refine Below.trans ?_ (Below.mono (by assumption) (by first | omega | (simp; omega) | simp)))))⟩
    · have hm1 : ((s[0].toNat : Int) == 45) = false := by
        simp only [beq_eq_false_iff_ne, ne_eq]
        intro e
        exact hm (UInt8.toNat_inj.1 (by have : (45 : UInt8).toNat = 45 := rfl
                                        omega))
      have hh : s.data.toList.head? ≠ some 45 := by
        rw [hhd]
        intro e
        injection e with e
        exact hm e
      have htr : trimO s.data.toList = s.data.toList := by unfold trimO; rw [if_neg hh]
      have d1 : ((s.size : Int) == 0) = false := by simp only [beq_eq_false_iff_ne, ne_eq]; omega
      by_cases h18 : 18 < s.size
      · have d18 : decide ((18 : Int) < (s.size : Int)) = true := by simp; omega
        obtain ⟨e1, e2⟩ := num_none (l := s.data.toList) (numO_short (.inr (by rw [htr, HL.out]; exact h18)))
        go_enter Tryd.func57, Tryd.ntmps57
        go_wp2_with fail
        go_ret2
        exact ⟨ret_num e1.out.symm e2.out.symm, (by repeat (first | with_reducible exact Below.refl _ _ | with_reducible assumption | (with_reducible refine Below.drew ?_) | (with_reducible refine below_drewN ?_ _) | ((with_reducible refine Below.alloc ?_ ?_ _); rotate_left; (focus (first | omega | (simp; omega) | simp))) | ((with_reducible refine Below.setCell ?_ ?_ _); rotate_left; (focus (first | omega | (simp; omega) | simp))) | (refine Below.trans ?_ (Below.mono (by assumption) (by first | omega | (simp; omega) | simp)))))⟩
      · have d18 : decide ((18 : Int) < (s.size : Int)) = false := by simp; omega
        by_cases hz : s[0] = 48 ∧ 1 < s.size
        · have hz1 : ((s[0].toNat : Int) == 48) = true := by rw [hz.1]; rfl
          have d2 : decide ((1 : Int) < (s.size : Int)) = true := by simp; omega
          obtain ⟨e1, e2⟩ := num_none (l := s.data.toList) (by unfold numO natO; rw [if_neg hh, if_pos (.inr (.inr ⟨by rw [hhd, hz.1], by rw [HL.out]; exact hz.2⟩))]; rfl)
          go_enter Tryd.func57, Tryd.ntmps57
          go_wp2_with fail
          go_ret2
          exact ⟨ret_num e1.out.symm e2.out.symm, (by repeat (first | with_reducible exact Below.refl _ _ | with_reducible assumption | (with_reducible refine Below.drew ?_) | (with_reducible refine below_drewN ?_ _) | ((with_reducible refine Below.alloc ?_ ?_ _); rotate_left; (focus (first | omega | (simp; omega) | simp))) | ((with_reducible refine Below.setCell ?_ ?_ _); rotate_left; (focus (first | omega | (simp; omega) | simp))) | (refine Below.trans ?_ (Below.mono (by assumption) (by first | omega | (simp; omega) | simp)))))⟩
        · have hnum : numO s.data.toList = (natO s.data.toList).map fun m : Nat => (m : Int) := by unfold numO; rw [if_neg hh]
          have hcond : ¬ (s.data.toList.length = 0 ∨ 18 < s.data.toList.length ∨ (s.data.toList.head? = some 48 ∧ 1 < s.data.toList.length)) := by
            have hl := HL.out
            rintro (h | h | ⟨h, h2⟩)
            · omega
            · omega
            · rw [hhd] at h
              injection h with h
              exact hz ⟨h, by omega⟩
          by_cases h48 : s[0] = 48
          · have hz1 : ((s[0].toNat : Int) == 48) = true := by rw [h48]; rfl
            have h1s : ¬ 1 < s.size := fun h => hz ⟨h48, h⟩
            have d2 : decide ((1 : Int) < (s.size : Int)) = false := by simp; omega
            clear hhd hh htr hz hm h48
            go_enter Tryd.func57, Tryd.ntmps57
            go_wp2_with fail
            go_loop [6, 5] (fun v n => ∃ (k m : Nat), v = .int .i64 (k : Int) ∧ n = .int .i64 (m : Int) ∧ k ≤ s.size ∧ Hid (decFrom 0 (s.data.toList.take k) = some m)) (fun v _ => s.size - (intOf v).toNat)
            case atStart => exact ⟨0, 0, rfl, rfl, by omega, rfl⟩
            case round =>
              obtain ⟨k, m, rfl, rfl, hk, hd⟩ := hrel
              by_cases hlt : k < s.size
              · have hb := byte_at s k hlt
                cases a1 : inB ((s[k]'hlt).toNat : Int) 48 57
                · have hn : natO s.data.toList = none := by
                    unfold natO
                    split
                    · rfl
                    · exact decFrom_bad hb (digitVal_none a1)
                  obtain ⟨e1, e2⟩ := num_none (l := s.data.toList) (by rw [hnum, hn]; rfl)
                  clear hb
                  go_wp2_with (go_at_call 73; refine (l01Digit_any _ _).mono ?_; rintro e w' ⟨rfl, rfl⟩)
                  go_ret2
                  exact ⟨ret_num e1.out.symm e2.out.symm, (by repeat (first | with_reducible exact Below.refl _ _ | with_reducible assumption | (with_reducible refine Below.drew ?_) | (with_reducible refine below_drewN ?_ _) | ((with_reducible refine Below.alloc ?_ ?_ _); rotate_left; (focus (first | omega | (simp; omega) | simp))) | ((with_reducible refine Below.setCell ?_ ?_ _); rotate_left; (focus (first | omega | (simp; omega) | simp))) | (refine Below.trans ?_ (Below.mono (by assumption) (by first | omega | (simp; omega) | simp)))))⟩
                · have hd2 := hide (decFrom_take _ k 0 m _ _ hd.out hb (digitVal_some a1))
                  have hbd := dec_bd hd.out
                  have hp18 := Nat.pow_le_pow_right (n := 10) (by decide) (show k ≤ 17 by omega)
                  have h10 : (10 : Nat) ^ 17 = 100000000000000000 := by decide
                  have hmm : m < 100000000000000000 := by omega
                  have hin := inB_true a1
                  obtain ⟨b, hbe⟩ : ∃ b : Nat, b = (s[k]'hlt).toNat := ⟨_, rfl⟩
                  have A1 := hide a1
                  clear hb hbd hp18 h10
                  go_wp2_with (go_at_call 73; refine (l01Digit_any _ _).mono ?_; rintro e w' ⟨rfl, rfl⟩)
                  go_round
                  case rel => exact ⟨k + 1, m * 10 + ((s[k]'hlt).toNat - 48), by go_num, congrArg (Value.int .i64) (by omega), by omega, hd2⟩
                  case measure => simp [intOf]; omega
              · have hl : s.data.toList.length = k := by have := HL.out; omega
                have hd' := hd.out
                rw [List.take_of_length_le (by omega)] at hd'
                have hn : natO s.data.toList = some m := by
                  unfold natO
                  rw [if_neg hcond]
                  exact hd'
                have hbd := (natO_iff _ _).1 hn
                obtain ⟨e1, e2⟩ := num_some (l := s.data.toList) (n := (m : Int)) (by rw [hnum, hn]; rfl)
                have h18 : m < 1000000000000000000 := by have := hbd.2; have e : (10 : Nat) ^ 18 = 1000000000000000000 := by decide
                                                         omega
                clear hd' hn hbd
                go_wp2_with fail
                go_ret2
                exact ⟨ret_num e1.out.symm e2.out.symm, (by repeat (first | with_reducible exact Below.refl _ _ | with_reducible assumption | (with_reducible refine Below.drew ?_) | (with_reducible refine below_drewN ?_ _) | ((with_reducible refine Below.alloc ?_ ?_ _); rotate_left; (focus (first | omega | (simp; omega) | simp))) | ((with_reducible refine Below.setCell ?_ ?_ _); rotate_left; (focus (first | omega | (simp; omega) | simp))) | (refine Below.trans ?_ (Below.mono (by assumption) (by first | omega | (simp; omega) | simp)))))⟩
          · have hz1 : ((s[0].toNat : Int) == 48) = false := by
              simp only [beq_eq_false_iff_ne, ne_eq]
              intro e
              exact h48 (UInt8.toNat_inj.1 (by have : (48 : UInt8).toNat = 48 := rfl
                                               omega))
            clear hhd hh htr hz hm h48
            go_enter Tryd.func57, Tryd.ntmps57
            go_wp2_with fail
            go_loop [6, 5] (fun v n => ∃ (k m : Nat), v = .int .i64 (k : Int) ∧ n = .int .i64 (m : Int) ∧ k ≤ s.size ∧ Hid (decFrom 0 (s.data.toList.take k) = some m)) (fun v _ => s.size - (intOf v).toNat)
            case atStart => exact ⟨0, 0, rfl, rfl, by omega, rfl⟩
            case round =>
              obtain ⟨k, m, rfl, rfl, hk, hd⟩ := hrel
              by_cases hlt : k < s.size
              · have hb := byte_at s k hlt
                cases a1 : inB ((s[k]'hlt).toNat : Int) 48 57
                · have hn : natO s.data.toList = none := by
                    unfold natO
                    split
                    · rfl
                    · exact decFrom_bad hb (digitVal_none a1)
                  obtain ⟨e1, e2⟩ := num_none (l := s.data.toList) (by rw [hnum, hn]; rfl)
                  clear hb
                  go_wp2_with (go_at_call 73; refine (l01Digit_any _ _).mono ?_; rintro e w' ⟨rfl, rfl⟩)
                  go_ret2
                  exact ⟨ret_num e1.out.symm e2.out.symm, (by repeat (first | with_reducible exact Below.refl _ _ | with_reducible assumption | (with_reducible refine Below.drew ?_) | (with_reducible refine below_drewN ?_ _) | ((with_reducible refine Below.alloc ?_ ?_ _); rotate_left; (focus (first | omega | (simp; omega) | simp))) | ((with_reducible refine Below.setCell ?_ ?_ _); rotate_left; (focus (first | omega | (simp; omega) | simp))) | (refine Below.trans ?_ (Below.mono (by assumption) (by first | omega | (simp; omega) | simp)))))⟩
                · have hd2 := hide (decFrom_take _ k 0 m _ _ hd.out hb (digitVal_some a1))
                  have hbd := dec_bd hd.out
                  have hp18 := Nat.pow_le_pow_right (n := 10) (by decide) (show k ≤ 17 by omega)
                  have h10 : (10 : Nat) ^ 17 = 100000000000000000 := by decide
                  have hmm : m < 100000000000000000 := by omega
                  have hin := inB_true a1
                  obtain ⟨b, hbe⟩ : ∃ b : Nat, b = (s[k]'hlt).toNat := ⟨_, rfl⟩
                  have A1 := hide a1
                  clear hb hbd hp18 h10
                  go_wp2_with (go_at_call 73; refine (l01Digit_any _ _).mono ?_; rintro e w' ⟨rfl, rfl⟩)
                  go_round
                  case rel => exact ⟨k + 1, m * 10 + ((s[k]'hlt).toNat - 48), by go_num, congrArg (Value.int .i64) (by omega), by omega, hd2⟩
                  case measure => simp [intOf]; omega
              · have hl : s.data.toList.length = k := by have := HL.out; omega
                have hd' := hd.out
                rw [List.take_of_length_le (by omega)] at hd'
                have hn : natO s.data.toList = some m := by
                  unfold natO
                  rw [if_neg hcond]
                  exact hd'
                have hbd := (natO_iff _ _).1 hn
                obtain ⟨e1, e2⟩ := num_some (l := s.data.toList) (n := (m : Int)) (by rw [hnum, hn]; rfl)
                have h18 : m < 1000000000000000000 := by have := hbd.2; have e : (10 : Nat) ^ 18 = 1000000000000000000 := by decide
                                                         omega
                clear hd' hn hbd
                go_wp2_with fail
                go_ret2
                exact ⟨ret_num e1.out.symm e2.out.symm, (by repeat (first | with_reducible exact Below.refl _ _ | with_reducible assumption | (with_reducible refine Below.drew ?_) | (with_reducible refine below_drewN ?_ _) | ((with_reducible refine Below.alloc ?_ ?_ _); rotate_left; (focus (first | omega | (simp; omega) | simp))) | ((with_reducible refine Below.setCell ?_ ?_ _); rotate_left; (focus (first | omega | (simp; omega) | simp))) | (refine Below.trans ?_ (Below.mono (by assumption) (by first | omega | (simp; omega) | simp)))))⟩
end Go.Proofs.YtobcjhbfkanakaaDoor
