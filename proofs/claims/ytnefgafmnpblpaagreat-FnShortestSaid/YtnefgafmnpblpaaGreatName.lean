/- Contracts of IsName on both sides. -/
import Derived.Test.YtnefgafmnpblpaaGreatBasics
import Derived.Outline
import Derived.Lib.ConvBytes
import Derived.Laws.Closers25
namespace Go.Proofs.YtnefgafmnpblpaaGreat
open Go.RowKit

/-- What one byte of a name may be, at its place. -/
def chOk (j : Nat) (n : Int) : Prop := inB n 97 122 = true ∨ (j ≠ 0 ∧ inB n 48 57 = true)
instance (j : Nat) (n : Int) : Decidable (chOk j n) := by unfold chOk; infer_instance
/-- A name. -/
@[irreducible] def nameB (l : List UInt8) : Bool := decide (1 ≤ l.length ∧ l.length ≤ 10 ∧ ∀ j, j < l.length → chOk j ((l.getD j 0).toNat : Int))
theorem nameB_true {l : List UInt8} (h1 : 1 ≤ l.length) (h2 : l.length ≤ 10) (h : ∀ j, j < l.length → chOk j ((l.getD j 0).toNat : Int)) : nameB l = true := by unfold nameB; exact decide_eq_true ⟨h1, h2, h⟩
theorem nameB_short {l : List UInt8} (h : l.length < 1 ∨ 10 < l.length) : nameB l = false := by unfold nameB; exact decide_eq_false (by omega)
theorem nameB_bad {l : List UInt8} (j : Nat) (hj : j < l.length) (h : ¬ chOk j ((l.getD j 0).toNat : Int)) : nameB l = false := by unfold nameB; exact decide_eq_false fun a => h (a.2.2 j hj)
theorem nameB_len {l : List UInt8} (h : nameB l = true) : 1 ≤ l.length ∧ l.length ≤ 10 := by
  unfold nameB at h
  exact ⟨(of_decide_eq_true h).1, (of_decide_eq_true h).2.1⟩

theorem l01Small_any (n : Int) (w : World) : Calls Tryz.prog 168 #[.int .u8 n] w fun e w' => e = .returned (.bool (inB n 97 122)) ∧ w = w' := by
  by_cases h1 : 97 ≤ n
  · by_cases h2 : n ≤ 122
    · have e : Hid (inB n 97 122 = true) := inB_mk h1 h2
      go_enter Tryz.func168, Tryz.ntmps168
      go_wp2
      go_ret
      exact ⟨ret_bool e.out.symm, rfl⟩
    · have e : Hid (inB n 97 122 = false) := by unfold Hid inB; simp [h2]
      go_enter Tryz.func168, Tryz.ntmps168
      go_wp2
      go_ret
      exact ⟨ret_bool e.out.symm, rfl⟩
  · have e : Hid (inB n 97 122 = false) := by unfold Hid inB; simp [h1]
    go_enter Tryz.func168, Tryz.ntmps168
    go_wp2
    go_ret
    exact ⟨ret_bool e.out.symm, rfl⟩
theorem l01Digit_any (n : Int) (w : World) : Calls Tryz.prog 169 #[.int .u8 n] w fun e w' => e = .returned (.bool (inB n 48 57)) ∧ w = w' := by
  by_cases h1 : 48 ≤ n
  · by_cases h2 : n ≤ 57
    · have e : Hid (inB n 48 57 = true) := inB_mk h1 h2
      go_enter Tryz.func169, Tryz.ntmps169
      go_wp2
      go_ret
      exact ⟨ret_bool e.out.symm, rfl⟩
    · have e : Hid (inB n 48 57 = false) := by unfold Hid inB; simp [h2]
      go_enter Tryz.func169, Tryz.ntmps169
      go_wp2
      go_ret
      exact ⟨ret_bool e.out.symm, rfl⟩
  · have e : Hid (inB n 48 57 = false) := by unfold Hid inB; simp [h1]
    go_enter Tryz.func169, Tryz.ntmps169
    go_wp2
    go_ret
    exact ⟨ret_bool e.out.symm, rfl⟩
theorem byte_getD (s : ByteArray) (k : Nat) (h : k < s.size) : s.data.toList.getD k 0 = s[k] := by
  have hk : k < s.data.toList.length := by simpa using h
  rw [List.getD_eq_getElem?_getD, List.getElem?_eq_getElem hk]
  rfl
theorem empty_true (s : ByteArray) (h : s.size = 0) : s.toList.isEmpty = true := by
  have : s = ByteArray.empty := Go.WideShapes.bytes_inj (by have : s.data.toList.length = 0 := by simpa using h
                                                            rw [List.eq_nil_of_length_eq_zero this]; rfl)
  subst this
  simp [ByteArray.toList, ByteArray.toList.loop]
theorem empty_false (s : ByteArray) (h : s.size ≠ 0) : s.toList.isEmpty = false := by
  have e := Go.decide_eq_emptyBytes s (inst := inferInstance)
  rw [← e]
  simp only [decide_eq_false_iff_not]
  rintro rfl
  exact h rfl
set_option maxRecDepth 100000 in
theorem l01Name_any (s : ByteArray) (w : World) (hs : s.size ≤ maxLen) : Calls Tryz.prog 125 #[.string s] w fun e w' => e = .returned (.bool (nameB s.data.toList)) ∧ w = w' := by
  unfold maxLen at hs
  have hlen : s.data.toList.length = s.size := by simp
  have HL := hide hlen
  clear hlen
  by_cases h0 : s.size = 0
  · have e : Hid (nameB s.data.toList = false) := nameB_short (.inl (by rw [HL.out]; omega))
    have e1 := empty_true s h0
    clear h0
    go_enter Tryz.func125, Tryz.ntmps125
    go_wp2_with fail
    go_ret
    exact ⟨ret_bool e.out.symm, rfl⟩
  · have e1 := empty_false s h0
    have h0' : 0 < s.size := by omega
    clear h0
    by_cases h1 : 10 < s.size
    · have e : Hid (nameB s.data.toList = false) := nameB_short (.inr (by rw [HL.out]; omega))
      go_enter Tryz.func125, Tryz.ntmps125
      go_wp2_with fail
      go_ret
      exact ⟨ret_bool e.out.symm, rfl⟩
    · have h1' : s.size ≤ 10 := by omega
      clear h1
      cases hc0 : inB (s[0].toNat : Int) 97 122
      · have e : Hid (nameB s.data.toList = false) := nameB_bad 0 (by rw [HL.out]; omega) (by
          rw [byte_getD s 0 h0']
          unfold chOk
          simp [hc0])
        go_enter Tryz.func125, Tryz.ntmps125
        go_wp2_with (go_at_call 168; refine (l01Small_any _ _).mono ?_; rintro e w' ⟨rfl, rfl⟩)
        go_ret
        exact ⟨ret_bool e.out.symm, rfl⟩
      · have HC := hide hc0
        go_enter Tryz.func125, Tryz.ntmps125
        go_wp2_with (go_at_call 168; refine (l01Small_any _ _).mono ?_; rintro e w' ⟨rfl, rfl⟩)
        clear hc0
        go_loop [3] (fun v => ∃ k : Nat, v = .int .i64 k ∧ k ≤ s.size ∧ Hid (∀ j, j < k → chOk j ((s.data.toList.getD j 0).toNat : Int))) (fun v => s.size - (intOf v).toNat)
        case atStart => exact ⟨0, rfl, by omega, hide fun j hj => by omega⟩
        case round =>
          obtain ⟨k, rfl, hk, hj⟩ := hrel
          by_cases hlt : k < s.size
          · have hb := byte_getD s k hlt
            have HB := hide hb
            clear hb
            cases a1 : inB (s[k].toNat : Int) 97 122
            · cases a2 : inB (s[k].toNat : Int) 48 57
              · have e : Hid (nameB s.data.toList = false) := nameB_bad k (by rw [HL.out]; omega) (by
                  rw [HB.out]
                  unfold chOk
                  simp [a1, a2])
                go_wp2_with (first
                  | (go_at_call 168; refine (l01Small_any _ _).mono ?_; rintro e w' ⟨rfl, rfl⟩)
                  | (go_at_call 169; refine (l01Digit_any _ _).mono ?_; rintro e w' ⟨rfl, rfl⟩))
                go_ret
                exact ⟨ret_bool e.out.symm, rfl⟩
              · have hj' : Hid (∀ j, j < k + 1 → chOk j ((s.data.toList.getD j 0).toNat : Int)) := fun j h => by
                  by_cases e : j = k
                  · subst e
                    rw [HB.out]
                    refine .inr ⟨?_, a2⟩
                    rintro rfl
                    rw [HC.out] at a1
                    cases a1
                  · exact hj.out j (by omega)
                go_wp2_with (first
                  | (go_at_call 168; refine (l01Small_any _ _).mono ?_; rintro e w' ⟨rfl, rfl⟩)
                  | (go_at_call 169; refine (l01Digit_any _ _).mono ?_; rintro e w' ⟨rfl, rfl⟩))
                go_round
                case rel => exact ⟨k + 1, by go_num, by omega, hj'⟩
                case measure => simp [intOf]; omega
            · have hj' : Hid (∀ j, j < k + 1 → chOk j ((s.data.toList.getD j 0).toNat : Int)) := fun j h => by
                by_cases e : j = k
                · subst e
                  rw [HB.out]
                  exact .inl a1
                · exact hj.out j (by omega)
              go_wp2_with (first
                | (go_at_call 168; refine (l01Small_any _ _).mono ?_; rintro e w' ⟨rfl, rfl⟩)
                | (go_at_call 169; refine (l01Digit_any _ _).mono ?_; rintro e w' ⟨rfl, rfl⟩))
              go_round
              case rel => exact ⟨k + 1, by go_num, by omega, hj'⟩
              case measure => simp [intOf]; omega
          · have e : Hid (nameB s.data.toList = true) := nameB_true (by rw [HL.out]; omega) (by rw [HL.out]; omega) fun j h => hj.out j (by rw [HL.out] at h; omega)
            go_wp2_with fail
            go_ret
            exact ⟨ret_bool e.out.symm, rfl⟩
theorem bytesWorld_below (w : World) (e : TypeId) (s : ByteArray) : Below w.heap.size w (Go.Lib.bytesWorld w e s) :=
  ⟨by simp [Go.Lib.bytesWorld, World.freeze]; rfl, by simp [Go.Lib.bytesWorld, World.freeze], by simp [Go.Lib.bytesWorld, World.freeze]; rfl, by rw [Go.Lib.bytesWorld_size]; omega, fun k hk => Go.Lib.bytesWorld_at_old w e s k hk⟩
set_option maxRecDepth 100000 in
theorem IsName_any (s : ByteArray) (w : World) (hs : s.size ≤ maxLen) : Calls Tryz.prog 152 #[.string s] w fun e w' => e = .returned (.bool (nameB s.data.toList)) ∧ Below w.heap.size w w' := by
  unfold maxLen at hs
  have HL : Hid (s.data.toList.length = s.size) := hide (by simp)
  by_cases h0 : s.size < 1
  · have e : Hid (nameB s.data.toList = false) := nameB_short (.inl (by rw [HL.out]; omega))
    go_enter Tryz.func152, Tryz.ntmps152
    go_wp2_with fail
    go_ret
    exact ⟨ret_bool e.out.symm, (by repeat (first | with_reducible exact Below.refl _ _ | with_reducible assumption | (with_reducible refine Below.drew ?_) | (with_reducible refine below_drewN ?_ _) | ((with_reducible refine Below.alloc ?_ ?_ _); rotate_left; (focus (first | omega | (simp; omega) | simp))) | ((with_reducible refine Below.setCell ?_ ?_ _); rotate_left; (focus (first | omega | (simp; omega) | simp))) | (refine Below.trans ?_ (Below.mono (by assumption) (by first | omega | (simp; omega) | simp)))))⟩
  · by_cases h1 : 10 < s.size
    · have e : Hid (nameB s.data.toList = false) := nameB_short (.inr (by rw [HL.out]; omega))
      go_enter Tryz.func152, Tryz.ntmps152
      go_wp2_with fail
      go_ret
      exact ⟨ret_bool e.out.symm, (by repeat (first | with_reducible exact Below.refl _ _ | with_reducible assumption | (with_reducible refine Below.drew ?_) | (with_reducible refine below_drewN ?_ _) | ((with_reducible refine Below.alloc ?_ ?_ _); rotate_left; (focus (first | omega | (simp; omega) | simp))) | ((with_reducible refine Below.setCell ?_ ?_ _); rotate_left; (focus (first | omega | (simp; omega) | simp))) | (refine Below.trans ?_ (Below.mono (by assumption) (by first | omega | (simp; omega) | simp)))))⟩
    · have hbw := bytesWorld_below w 5 s
      have HC : Hid (∀ j, j < s.size → (Go.Lib.bytesWorld w 5 s).cell? ⟨w.heap.size, j, none⟩ = some (.int .u8 (s.data.toList.getD j 0).toNat)) := Go.Lib.bytesWorld_cell w 5 s
      have kc := fun wx : World => Go.Lib.run_convert_string_bytes (P := Tryz.prog) wx 9 22 5 s Tryz.underlying9 Tryz.underlying22 Tryz.underlying5
      go_enter Tryz.func152, Tryz.ntmps152
      go_wp2_with fail
      clear kc
      generalize Go.Lib.bytesWorld w 5 s = w1 at *
      go_loop [18, 3, 4, 5, 6] (fun v a b c d => ∃ k : Nat, v = .int .i64 k ∧ k ≤ s.size ∧ Hid (∀ j, j < k → chOk j ((s.data.toList.getD j 0).toNat : Int))) (fun v _ _ _ _ => s.size - (intOf v).toNat)
      case atStart => exact ⟨0, rfl, by omega, hide fun j hj => by omega⟩
      case round =>
        obtain ⟨k, rfl, hk, hj⟩ := hrel
        by_cases hlt : k < s.size
        · have hc := HC.out k hlt
          have hbd : ((s.data.toList.getD k 0).toNat : Int) < 256 := by have := (s.data.toList.getD k 0).toNat_lt; omega
          generalize hn : ((s.data.toList.getD k 0).toNat : Int) = n at *
          have HN := hide hn
          clear hn
          have hj1 : chOk k n → Hid (∀ j, j < k + 1 → chOk j ((s.data.toList.getD j 0).toNat : Int)) := fun hok j h => by
            by_cases e : j = k
            · subst e
              rw [HN.out]
              exact hok
            · exact hj.out j (by omega)
          have HJ := hide hj1
          clear hj1
          have hbad : ¬ chOk k n → nameB s.data.toList = false := fun hok => nameB_bad k (by rw [HL.out]; omega) (by rw [HN.out]; exact hok)
          have HD := hide hbad
          clear hbad
          have B1 : inB n 97 122 = true ↔ 97 ≤ n ∧ n ≤ 122 := ⟨inB_true, fun h => inB_mk h.1 h.2⟩
          have B2 : inB n 48 57 = true ↔ 48 ≤ n ∧ n ≤ 57 := ⟨inB_true, fun h => inB_mk h.1 h.2⟩
          have hk0 : ((k : Int) == 0) = decide (k = 0) := by by_cases h : k = 0 <;> simp [h]
          have hok : chOk k n ↔ (97 ≤ n ∧ n ≤ 122) ∨ (k ≠ 0 ∧ 48 ≤ n ∧ n ≤ 57) := by unfold chOk; rw [B1, B2]
          have HK := hide hok
          clear B1 B2 hok
          by_cases a1 : 97 ≤ n
          · by_cases a2 : n ≤ 122
            · have h2 := hide (HJ.out (HK.out.2 (.inl ⟨a1, a2⟩)))
              clear hk0
              go_wp2_with fail
              go_round
              case rel => exact ⟨k + 1, by go_num, by omega, h2⟩
              case measure => simp [intOf]; omega
            · have e := hide (HD.out fun h => by have := HK.out.1 h; omega)
              clear hk0
              by_cases hk1 : k = 0
              · subst hk1
                go_wp2_with fail
                go_ret
                exact ⟨ret_bool e.out.symm, (by repeat (first | with_reducible exact Below.refl _ _ | with_reducible assumption | (with_reducible refine Below.drew ?_) | (with_reducible refine below_drewN ?_ _) | ((with_reducible refine Below.alloc ?_ ?_ _); rotate_left; (focus (first | omega | (simp; omega) | simp))) | ((with_reducible refine Below.setCell ?_ ?_ _); rotate_left; (focus (first | omega | (simp; omega) | simp))) | (refine Below.trans ?_ (Below.mono (by assumption) (by first | omega | (simp; omega) | simp)))))⟩
              · have hk2 : ((k : Int) == 0) = false := by simp [hk1]
                have d1 : decide (n ≤ 57) = false := by simp; omega
                go_wp2_with fail
                go_ret
                exact ⟨ret_bool e.out.symm, (by repeat (first | with_reducible exact Below.refl _ _ | with_reducible assumption | (with_reducible refine Below.drew ?_) | (with_reducible refine below_drewN ?_ _) | ((with_reducible refine Below.alloc ?_ ?_ _); rotate_left; (focus (first | omega | (simp; omega) | simp))) | ((with_reducible refine Below.setCell ?_ ?_ _); rotate_left; (focus (first | omega | (simp; omega) | simp))) | (refine Below.trans ?_ (Below.mono (by assumption) (by first | omega | (simp; omega) | simp)))))⟩
          · by_cases hk1 : k = 0
            · have e := hide (HD.out fun h => by have := HK.out.1 h; omega)
              subst hk1
              clear hk0
              go_wp2_with fail
              all_goals go_ret
              all_goals exact ⟨ret_bool e.out.symm, (by repeat (first | with_reducible exact Below.refl _ _ | with_reducible assumption | (with_reducible refine Below.drew ?_) | (with_reducible refine below_drewN ?_ _) | ((with_reducible refine Below.alloc ?_ ?_ _); rotate_left; (focus (first | omega | (simp; omega) | simp))) | ((with_reducible refine Below.setCell ?_ ?_ _); rotate_left; (focus (first | omega | (simp; omega) | simp))) | (refine Below.trans ?_ (Below.mono (by assumption) (by first | omega | (simp; omega) | simp)))))⟩
            · have hk2 : ((k : Int) == 0) = false := by simp [hk1]
              clear hk0
              by_cases d1 : 48 ≤ n
              · by_cases d2 : n ≤ 57
                · have h2 := hide (HJ.out (HK.out.2 (.inr ⟨hk1, d1, d2⟩)))
                  clear hk1
                  go_wp2_with fail
                  go_round
                  case rel => exact ⟨k + 1, by go_num, by omega, h2⟩
                  case measure => simp [intOf]; omega
                · have e := hide (HD.out fun h => by have := HK.out.1 h; omega)
                  have d3 : decide (n ≤ 57) = false := by simp; omega
                  clear hk1
                  go_wp2_with fail
                  go_ret
                  exact ⟨ret_bool e.out.symm, (by repeat (first | with_reducible exact Below.refl _ _ | with_reducible assumption | (with_reducible refine Below.drew ?_) | (with_reducible refine below_drewN ?_ _) | ((with_reducible refine Below.alloc ?_ ?_ _); rotate_left; (focus (first | omega | (simp; omega) | simp))) | ((with_reducible refine Below.setCell ?_ ?_ _); rotate_left; (focus (first | omega | (simp; omega) | simp))) | (refine Below.trans ?_ (Below.mono (by assumption) (by first | omega | (simp; omega) | simp)))))⟩
              · have e := hide (HD.out fun h => by have := HK.out.1 h; omega)
                clear hk1
                go_wp2_with fail
                go_ret
                exact ⟨ret_bool e.out.symm, (by repeat (first | with_reducible exact Below.refl _ _ | with_reducible assumption | (with_reducible refine Below.drew ?_) | (with_reducible refine below_drewN ?_ _) | ((with_reducible refine Below.alloc ?_ ?_ _); rotate_left; (focus (first | omega | (simp; omega) | simp))) | ((with_reducible refine Below.setCell ?_ ?_ _); rotate_left; (focus (first | omega | (simp; omega) | simp))) | (refine Below.trans ?_ (Below.mono (by assumption) (by first | omega | (simp; omega) | simp)))))⟩
        · have e : Hid (nameB s.data.toList = true) := nameB_true (by rw [HL.out]; omega) (by rw [HL.out]; omega) fun j h => hj.out j (by rw [HL.out] at h; omega)
          go_wp2_with fail
          go_ret
          exact ⟨ret_bool e.out.symm, (by repeat (first | with_reducible exact Below.refl _ _ | with_reducible assumption | (with_reducible refine Below.drew ?_) | (with_reducible refine below_drewN ?_ _) | ((with_reducible refine Below.alloc ?_ ?_ _); rotate_left; (focus (first | omega | (simp; omega) | simp))) | ((with_reducible refine Below.setCell ?_ ?_ _); rotate_left; (focus (first | omega | (simp; omega) | simp))) | (refine Below.trans ?_ (Below.mono (by assumption) (by first | omega | (simp; omega) | simp)))))⟩
end Go.Proofs.YtnefgafmnpblpaaGreat
