/- The reference's parts of a text between a byte. Condition: the text is no longer than 2^20 bytes. -/
import Derived.Test.YtobcjhbfkanakaaDoorEnv
import Derived.Test.YtobcjhbfkanakaaDoorNum
namespace Go.Proofs.YtobcjhbfkanakaaDoor
open Go.RowKit Go.Lib

theorem splitL_snoc (c b : UInt8) : ∀ (l : List UInt8) (ys : List (List UInt8)) (p : List UInt8), splitL c l = ys ++ [p] → splitL c (l ++ [b]) = if b = c then ys ++ [p] ++ [[]] else ys ++ [p ++ [b]]
  | [], ys, p, h => by
    have hy : ys = [] := by
      cases ys with
      | nil => rfl
      | cons y ys => simp [splitL] at h
    subst hy
    simp only [splitL, List.nil_append, List.cons.injEq, and_true] at h
    subst h
    simp only [List.nil_append, splitL]
    split <;> simp
  | a :: l, ys, p, h => by
    cases hq : splitL c l with
    | nil => exact absurd hq (splitL_ne c l)
    | cons q qs =>
      unfold splitL at h
      rw [hq] at h
      simp only [List.headD_cons, List.tail_cons] at h
      rw [List.cons_append, splitL]
      by_cases ha : a = c
      · rw [if_pos ha] at h ⊢
        cases ys with
        | nil => simp at h
        | cons y ys =>
          simp only [List.cons_append, List.cons.injEq] at h
          obtain ⟨rfl, h⟩ := h
          rw [splitL_snoc c b l ys p (by rw [hq, h])]
          split <;> simp
      · rw [if_neg ha] at h ⊢
        cases ys with
        | nil =>
          simp only [List.nil_append, List.cons.injEq] at h
          obtain ⟨rfl, rfl⟩ := h
          rw [splitL_snoc c b l [] q (by rw [hq]; rfl)]
          split <;> simp
        | cons y ys =>
          simp only [List.cons_append, List.cons.injEq] at h
          obtain ⟨rfl, h⟩ := h
          rw [splitL_snoc c b l (q :: ys) p (by rw [hq, h]; rfl)]
          split <;> simp
theorem partsB_len (s : ByteArray) (c : UInt8) : (partsB s c).length = (splitL c s.data.toList).length := by unfold partsB; simp
theorem splitL_len (c : UInt8) : ∀ l : List UInt8, (splitL c l).length ≤ l.length + 1
  | [] => by simp [splitL]
  | b :: l => by
    have := splitL_len c l
    unfold splitL
    split
    · simp; omega
    · have hne : (splitL c l).length ≠ 0 := fun e => splitL_ne c l (List.eq_nil_of_length_eq_zero e)
      simp; omega
theorem parts_eq {s : ByteArray} {c : UInt8} {ys : List ByteArray} (h : ys.map (·.data.toList) = splitL c s.data.toList) : ys = partsB s c := by
  unfold partsB
  rw [← h, List.map_map]
  conv => lhs; rw [← List.map_id ys]
  apply List.map_congr_left
  intro x _
  rfl
set_option maxRecDepth 100000 in
set_option maxHeartbeats 1000000 in
theorem specl01Split (s : ByteArray) (c : UInt8) (w : World) (hs : s.size ≤ 1048576) :
    Calls Tryd.prog 55 #[.string s, .int .u8 (c.toNat : Int)] w fun e w' => ∃ (A : Option Addr) (cp : Nat), e = .returned (.slice A (partsB s c).length cp) ∧ OwnS w' w.heap.size (.slice A (partsB s c).length cp) (partsB s c) ∧ Below w.heap.size w w' := by
  have hlen : s.data.toList.length = s.size := by simp
  have HL := hide hlen
  have HO := hide (own_made (enc := encStr) (sz := 1) (T := 9) (B := w.heap.size) w rfl (Nat.le_refl _))
  clear hlen
  go_enter Tryd.func55, Tryd.ntmps55
  go_wp2_with fail
  go_loopw [7, 6, 5] (fun v fr o wr => ∃ (k f : Nat) (A : Option Addr) (cp : Nat) (ys : List ByteArray), v = .int .i64 k ∧ fr = .int .i64 f ∧ o = .slice A ys.length cp ∧ k ≤ s.size ∧ f ≤ k ∧ Hid (splitL c (s.data.toList.take k) = ys.map (·.data.toList) ++ [(s.data.toList.take k).drop f]) ∧ Hid (OwnS wr w.heap.size (.slice A ys.length cp) ys) ∧ Hid (Below w.heap.size w wr)) (fun v _ _ _ => s.size - (intOf v).toNat)
  case atStart => exact ⟨0, 0, _, _, [], rfl, rfl, rfl, by omega, by omega, by unfold Hid; simp [splitL], HO, hide (by repeat (first | with_reducible exact Below.refl _ _ | with_reducible assumption | (with_reducible refine Below.drew ?_) | (with_reducible refine below_drewN ?_ _) | ((with_reducible refine Below.alloc ?_ ?_ _); rotate_left; (focus (first | omega | (simp; omega) | simp))) | ((with_reducible refine Below.setCell ?_ ?_ _); rotate_left; (focus (first | omega | (simp; omega) | simp))) | (refine Below.trans ?_ (Below.mono (by assumption) (by first | omega | (simp; omega) | simp)))))⟩
  case round =>
    clear HO
    obtain ⟨k, f, A, cp, ys, rfl, rfl, rfl, hk, hf, hsp, hO, hb⟩ := hrel
    have hz := hb.out.size
    have hyl : ys.length ≤ s.size := by
      have h1 := splitL_len c (s.data.toList.take k)
      rw [hsp.out, List.length_append, List.length_map, List.length_take] at h1
      have := HL.out
      simp at h1
      omega
    by_cases hlt : k < s.size
    · have hbt := byte_at s k hlt
      have htk : s.data.toList.take (k + 1) = s.data.toList.take k ++ [s[k]] := by rw [List.take_add_one, hbt]; rfl
      have hsn := splitL_snoc c s[k] _ _ _ hsp.out
      rw [← htk] at hsn
      by_cases he : s[k] = c
      · have he1 : ((s[k].toNat : Int) == (c.toNat : Int)) = true := by rw [he]; simp
        rw [if_pos he] at hsn
        have HS : Hid (splitL c (s.data.toList.take (k + 1)) = (ys ++ [s.extract f k]).map (·.data.toList) ++ [(s.data.toList.take (k + 1)).drop (k + 1)]) := by
          have hnil : (s.data.toList.take (k + 1)).drop (k + 1) = [] := List.drop_eq_nil_of_le (by rw [List.length_take]; omega)
          unfold Hid
          rw [hsn, List.map_append, List.map_singleton, extract_data, hnil, List.drop_take]
        clear hsn htk hbt
        go_wp2_with (at_builtin; go_loud (refine wpList_appStr rfl _ _ rfl w.heap.size rfl (Own.below hO.out (by repeat (first | with_reducible exact Below.refl _ _ | with_reducible assumption | (with_reducible refine Below.drew ?_) | (with_reducible refine below_drewN ?_ _) | ((with_reducible refine Below.alloc ?_ ?_ _); rotate_left; (focus (first | omega | (simp; omega) | simp))) | ((with_reducible refine Below.setCell ?_ ?_ _); rotate_left; (focus (first | omega | (simp; omega) | simp))) | (refine Below.trans ?_ (Below.mono (by assumption) (by first | omega | (simp; omega) | simp)))))) rfl (by omega) ?_ ?_; (focus (first | omega | (simp; omega))); intro A4 c4 w4 ho4 hk4 _hg4; have HN4 := hide ho4; have HK4 := hide (show Below w.heap.size w w4 from Below.trans (by repeat (first | with_reducible exact Below.refl _ _ | with_reducible assumption | (with_reducible refine Below.drew ?_) | (with_reducible refine below_drewN ?_ _) | ((with_reducible refine Below.alloc ?_ ?_ _); rotate_left; (focus (first | omega | (simp; omega) | simp))) | ((with_reducible refine Below.setCell ?_ ?_ _); rotate_left; (focus (first | omega | (simp; omega) | simp))) | (refine Below.trans ?_ (Below.mono (by assumption) (by first | omega | (simp; omega) | simp))))) hk4); clear ho4 hk4))
        go_roundw
        case rel => exact ⟨k + 1, k + 1, A4, c4, ys ++ [s.extract f k], by go_num, by go_num, by simp, by omega, by omega, HS, by first | exact HN4 | simpa using HN4, HK4⟩
        case measure => simp [intOf]; omega
      · have he1 : ((s[k].toNat : Int) == (c.toNat : Int)) = false := by
          simp only [beq_eq_false_iff_ne, ne_eq]
          intro e
          exact he (UInt8.toNat_inj.1 (by omega))
        rw [if_neg he] at hsn
        have hsn2 : Hid (splitL c (s.data.toList.take (k + 1)) = ys.map (·.data.toList) ++ [(s.data.toList.take (k + 1)).drop f]) := by
          unfold Hid
          rw [hsn, htk, List.drop_append_of_le_length (by rw [List.length_take]; have := HL.out; omega)]
        clear hsn htk hbt
        go_wp2_with fail
        go_roundw
        case rel => exact ⟨k + 1, f, A, cp, ys, by go_num, rfl, rfl, by omega, by omega, hsn2, hO, hb⟩
        case measure => simp [intOf]; omega
    · obtain rfl : k = s.size := by omega
      have he : ys ++ [s.extract f s.size] = partsB s c := parts_eq (by
        have h := hsp.out
        rw [List.take_of_length_le (by have := HL.out; omega)] at h
        rw [h, List.map_append, List.map_singleton, extract_to_end])
      have HE := hide he
      have hel := congrArg List.length he
      rw [List.length_append, List.length_singleton] at hel
      have HEL := hide hel
      clear he hel
      go_wp2_with (at_builtin; go_loud (refine wpList_appStr rfl _ _ rfl w.heap.size rfl (Own.below hO.out (by repeat (first | with_reducible exact Below.refl _ _ | with_reducible assumption | (with_reducible refine Below.drew ?_) | (with_reducible refine below_drewN ?_ _) | ((with_reducible refine Below.alloc ?_ ?_ _); rotate_left; (focus (first | omega | (simp; omega) | simp))) | ((with_reducible refine Below.setCell ?_ ?_ _); rotate_left; (focus (first | omega | (simp; omega) | simp))) | (refine Below.trans ?_ (Below.mono (by assumption) (by first | omega | (simp; omega) | simp)))))) rfl (by omega) ?_ ?_; (focus (first | omega | (simp; omega))); intro A4 c4 w4 ho4 hk4 _hg4; have HN4 := hide ho4; have HK4 := hide (show Below w.heap.size w w4 from Below.trans (by repeat (first | with_reducible exact Below.refl _ _ | with_reducible assumption | (with_reducible refine Below.drew ?_) | (with_reducible refine below_drewN ?_ _) | ((with_reducible refine Below.alloc ?_ ?_ _); rotate_left; (focus (first | omega | (simp; omega) | simp))) | ((with_reducible refine Below.setCell ?_ ?_ _); rotate_left; (focus (first | omega | (simp; omega) | simp))) | (refine Below.trans ?_ (Below.mono (by assumption) (by first | omega | (simp; omega) | simp))))) hk4); clear ho4 hk4))
      go_ret
      refine ⟨A4, c4, by rw [← HEL.out]; rfl, ?_, HK4.out⟩
      rw [← HEL.out, ← HE.out]
      exact HN4.out
end Go.Proofs.YtobcjhbfkanakaaDoor
