/- Contracts: the time from which a crucible is free, the next heat, when the last heat ends, on both sides. -/
import Derived.Test.YtklmbgefdopifaaHtF
namespace Go.Proofs.Ytklmbgefdopifaa
open Go.RowKit

theorem mx_max (a b : Int) : mx a b = max a b := by unfold mx; split <;> omega
set_option maxRecDepth 100000 in
theorem implfreeAfter (A A2 : Option Addr) (c c2 : Nat) (cs : List CrucR) (hs : List HeatR) (k : Nat) (w : World) (hC : SlAt encCruc 4 w A cs) (h : SlAt encHeat 4 w A2 hs) (hk : k < cs.length) (hn : hs.length ≤ 1048576) :
    Calls Try.prog 75 #[.slice A cs.length c, .slice A2 hs.length c2, .int .i64 k] w fun e w' => e = .returned (.int .i64 (Ht.freeOf hs k (Ht.ck cs k).fr)) ∧ Below w.heap.size w w' := by
  obtain ⟨b, off, rfl, hbl, hc⟩ := hC k hk
  have hc3 := hc 3 _ rfl
  have e3 : (Ht.ck cs k).fr = cs[k].fr := by unfold Ht.ck; rw [Int.toNat_natCast, List.getD_eq_getElem?_getD, List.getElem?_eq_getElem hk]; rfl
  rw [e3]
  have HX := hide h
  clear hc hC h e3
  generalize cs[k].fr = fr at *
  go_enter Try.func75, Try.ntmps75
  go_wp2_with fail
  go_loopw [17, 7, 9] (fun v a _ wr => ∃ (i : Nat), v = .int .i64 i ∧ a = .int .i64 (Ht.freeOf (hs.take i) k fr) ∧ i ≤ hs.length ∧ Hid (Below w.heap.size w wr)) (fun v _ _ _ => hs.length - (intOf v).toNat)
  case atStart => exact ⟨0, rfl, rfl, by omega, hide (Below.refl _ _)⟩
  case round =>
    obtain ⟨i, rfl, rfl, hi, HB⟩ := hrel
    have hz := HB.out.size
    by_cases hlt : i < hs.length
    · obtain ⟨b2, off2, rfl, hbl2, hd⟩ := (HX.out.below HB.out) i hlt
      have hd0 := hd 0 _ rfl
      have hd1 := hd 1 _ rfl
      have hd2 := hd 2 _ rfl
      have hd3 := hd 3 _ rfl
      simp only [Nat.add_zero] at hd0
      have ht := Ht.freeOf_take (hs := hs) hlt k fr
      clear hd
      generalize Ht.freeOf (hs.take i) k fr = f0 at *
      generalize hs[i] = x at *
      obtain ⟨x0, x1, x2, x3⟩ := x
      simp only at hd0 hd1 hd2 hd3 ht
      by_cases hx : x1 = k
      · rw [if_pos hx] at ht
        have HT := hide ht
        have hx2 : (x1 == (k : Int)) = true := by simpa using hx
        clear ht hx
        go_wp2_with fail
        go_roundw
        case rel => exact ⟨i + 1, by go_num, by rw [HT.out], by omega, hide (by have hb := HB.out; exact (by repeat (first | with_reducible exact Below.refl _ _ | with_reducible assumption | (with_reducible refine Below.drew ?_) | (with_reducible refine below_drewN ?_ _) | ((with_reducible refine Below.alloc ?_ ?_ _); rotate_left; (focus (first | omega | (simp; omega) | simp))) | ((with_reducible refine Below.setCell ?_ ?_ _); rotate_left; (focus (first | omega | (simp; omega) | simp))) | (refine Below.trans ?_ (Below.mono (by assumption) (by first | omega | (simp; omega) | simp))))))⟩
        case measure => simp [intOf]; omega
      · rw [if_neg hx] at ht
        have HT := hide ht
        have hx2 : (x1 == (k : Int)) = false := by simpa using hx
        clear ht hx
        go_wp2_with fail
        go_roundw
        case rel => exact ⟨i + 1, by go_num, by rw [HT.out], by omega, hide (by have hb := HB.out; exact (by repeat (first | with_reducible exact Below.refl _ _ | with_reducible assumption | (with_reducible refine Below.drew ?_) | (with_reducible refine below_drewN ?_ _) | ((with_reducible refine Below.alloc ?_ ?_ _); rotate_left; (focus (first | omega | (simp; omega) | simp))) | ((with_reducible refine Below.setCell ?_ ?_ _); rotate_left; (focus (first | omega | (simp; omega) | simp))) | (refine Below.trans ?_ (Below.mono (by assumption) (by first | omega | (simp; omega) | simp))))))⟩
        case measure => simp [intOf]; omega
    · have e : Hid (hs.take i = hs) := hide (List.take_of_length_le (by omega))
      go_wp2_with fail
      go_ret
      exact ⟨ret_int (by rw [e.out]), HB.out⟩
set_option maxRecDepth 100000 in
theorem implLastEnd (A : Option Addr) (c : Nat) (hs : List HeatR) (w : World) (h : SlAt encHeat 4 w A hs) (hn : hs.length ≤ 1048576) :
    Calls Try.prog 39 #[.slice A hs.length c] w fun e w' => e = .returned (.int .i64 (Ht.lastE hs)) ∧ Below w.heap.size w w' := by
  have HX := hide h
  clear h
  go_enter Try.func39, Try.ntmps39
  go_wp2_with fail
  go_loopw [8, 3, 5] (fun v a _ wr => ∃ (i : Nat), v = .int .i64 i ∧ a = .int .i64 (Ht.lastE (hs.take i)) ∧ i ≤ hs.length ∧ Hid (Below w.heap.size w wr)) (fun v _ _ _ => hs.length - (intOf v).toNat)
  case atStart => exact ⟨0, rfl, rfl, by omega, hide (Below.refl _ _)⟩
  case round =>
    obtain ⟨i, rfl, rfl, hi, HB⟩ := hrel
    have hz := HB.out.size
    by_cases hlt : i < hs.length
    · obtain ⟨b2, off2, rfl, hbl2, hd⟩ := (HX.out.below HB.out) i hlt
      have hd0 := hd 0 _ rfl
      have hd1 := hd 1 _ rfl
      have hd2 := hd 2 _ rfl
      have hd3 := hd 3 _ rfl
      simp only [Nat.add_zero] at hd0
      have ht := Ht.lastE_take (hs := hs) hlt
      clear hd
      generalize Ht.lastE (hs.take i) = f0 at *
      generalize hs[i] = x at *
      obtain ⟨x0, x1, x2, x3⟩ := x
      simp only at hd0 hd1 hd2 hd3 ht
      have HT := hide ht
      clear ht
      go_wp2_with fail
      go_roundw
      case rel => exact ⟨i + 1, by go_num, by rw [HT.out, ← mx_max]; rfl, by omega, hide (by have hb := HB.out; exact (by repeat (first | with_reducible exact Below.refl _ _ | with_reducible assumption | (with_reducible refine Below.drew ?_) | (with_reducible refine below_drewN ?_ _) | ((with_reducible refine Below.alloc ?_ ?_ _); rotate_left; (focus (first | omega | (simp; omega) | simp))) | ((with_reducible refine Below.setCell ?_ ?_ _); rotate_left; (focus (first | omega | (simp; omega) | simp))) | (refine Below.trans ?_ (Below.mono (by assumption) (by first | omega | (simp; omega) | simp))))))⟩
      case measure => simp [intOf]; omega
    · have e : Hid (hs.take i = hs) := hide (List.take_of_length_le (by omega))
      go_wp2_with fail
      go_ret
      exact ⟨ret_int (by rw [e.out]), HB.out⟩
set_option maxRecDepth 100000 in
theorem specl17Last (A : Option Addr) (c : Nat) (hs : List HeatR) (w : World) (h : SlAt encHeat 4 w A hs) (hn : hs.length ≤ 1048576) :
    Calls Try.prog 103 #[.slice A hs.length c] w fun e w' => e = .returned (.int .i64 (Ht.lastE hs)) ∧ w = w' := by
  have HX := hide h
  clear h
  go_enter Try.func103, Try.ntmps103
  go_wp2_with fail
  go_loopw [4, 3] (fun v a wr => ∃ (i : Nat), v = .int .i64 i ∧ a = .int .i64 (Ht.lastE (hs.take i)) ∧ i ≤ hs.length ∧ wr = w) (fun v _ _ => hs.length - (intOf v).toNat)
  case atStart => exact ⟨0, rfl, rfl, by omega, rfl⟩
  case round =>
    obtain ⟨i, rfl, rfl, hi, rfl⟩ := hrel
    by_cases hlt : i < hs.length
    · obtain ⟨b2, off2, rfl, hbl2, hd⟩ := HX.out i hlt
      have hd3 := hd 3 _ rfl
      have ht := Ht.lastE_take (hs := hs) hlt
      clear hd
      generalize Ht.lastE (hs.take i) = f0 at *
      generalize hs[i] = x at *
      obtain ⟨x0, x1, x2, x3⟩ := x
      simp only at hd3 ht
      have HT := hide ht
      clear ht
      go_wp2_with (first | (go_at_call 113; refine (specl00Max _ _ _).mono ?_; rintro e w2 ⟨rfl, rfl⟩))
      go_roundw
      case rel => exact ⟨i + 1, by go_num, by rw [HT.out, mx_max], by omega, by first | rfl | trivial⟩
      case measure => simp [intOf]; omega
    · have e : Hid (hs.take i = hs) := hide (List.take_of_length_le (by omega))
      go_wp2_with fail
      go_ret
      exact ⟨ret_int (by rw [e.out]), by first | rfl | trivial⟩
end Go.Proofs.Ytklmbgefdopifaa
