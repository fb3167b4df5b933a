/- A list of numbers read out of a text, on both sides. Conditions: the text is at most 2^20 bytes long; for the program the library's variables are laid. -/
import Derived.Test.YtajodbhbmfjmjaaGreatDoorSplit
import Derived.Test.YtajodbhbmfjmjaaGreatDoorNum2
import Derived.Test.YtajodbhbmfjmjaaGreatDoorList
namespace Go.Proofs.YtajodbhbmfjmjaaGreatDoor
open Go.RowKit Go.Lib

def rdL (l : List UInt8) : List Int := (listO l).getD []
def rdB (l : List UInt8) : Bool := (listO l).isSome
theorem rd_none {l : List UInt8} (h : listO l = none) : Hid (rdL l = []) ∧ Hid (rdB l = false) := by unfold Hid rdL rdB; rw [h]; exact ⟨rfl, rfl⟩
theorem rd_some {l : List UInt8} {xs : List Int} (h : listO l = some xs) : Hid (rdL l = xs) ∧ Hid (rdB l = true) := by unfold Hid rdL rdB; rw [h]; exact ⟨rfl, rfl⟩
theorem allO_snoc {α : Type} {f : List UInt8 → Option α} : ∀ (ps : List (List UInt8)) (p : List UInt8), allO f (ps ++ [p]) = match allO f ps, f p with | some xs, some x => some (xs ++ [x]) | _, _ => none
  | [], p => by
    simp only [List.nil_append, allO]
    cases f p <;> rfl
  | q :: ps, p => by
    rw [List.cons_append]
    unfold allO
    rw [allO_snoc ps p]
    cases f q with
    | none => rfl
    | some y =>
      cases allO f ps with
      | none => rfl
      | some ys =>
        cases f p <;> rfl
theorem allO_bad {α : Type} {f : List UInt8 → Option α} {ps : List (List UInt8)} {k : Nat} {p : List UInt8} (hp : ps[k]? = some p) (hf : f p = none) : allO f ps = none := by
  cases h : allO f ps with
  | none => rfl
  | some xs =>
    obtain ⟨h1, h2⟩ := (allO_iff ps xs).1 h
    have hk := (List.getElem?_eq_some_iff.1 hp).1
    have := h2 k p (xs[k]'(by omega)) hp (List.getElem?_eq_getElem (by omega))
    rw [hf] at this
    cases this
theorem allO_take {α : Type} {f : List UInt8 → Option α} {ps : List (List UInt8)} {k : Nat} {p : List UInt8} {xs : List α} {x : α} (hp : ps[k]? = some p) (h : allO f (ps.take k) = some xs) (hf : f p = some x) : allO f (ps.take (k + 1)) = some (xs ++ [x]) := by
  rw [List.take_add_one, hp]
  simp only [Option.toList_some]
  rw [allO_snoc, h, hf]
theorem partsB_get (s : ByteArray) (c : UInt8) (k : Nat) (h : k < (partsB s c).length) : (splitL c s.data.toList)[k]? = some ((partsB s c)[k]).data.toList := by
  unfold partsB at h ⊢
  rw [List.getElem_map, List.getElem?_eq_getElem (by simpa using h)]
theorem part_size (s : ByteArray) (c : UInt8) : ∀ x ∈ partsB s c, x.size ≤ s.size := by
  intro x hx
  unfold partsB at hx
  simp only [List.mem_map] at hx
  obtain ⟨l, hl, rfl⟩ := hx
  have hall : ∀ (m : List UInt8), ∀ y ∈ splitL c m, y.length ≤ m.length := by
    intro m
    induction m with
    | nil => intro y hy; simp only [splitL, List.mem_singleton] at hy; simp [hy]
    | cons b m ih =>
      intro y hy
      unfold splitL at hy
      split at hy
      · simp only [List.mem_cons] at hy
        rcases hy with rfl | hy
        · simp
        · have := ih y hy; simp; omega
      · simp only [List.mem_cons] at hy
        rcases hy with rfl | hy
        · cases hq : splitL c m with
          | nil => exact absurd hq (splitL_ne c m)
          | cons q qs => have := ih q (by rw [hq]; simp); simp; omega
        · have := ih y (List.mem_of_mem_tail hy); simp; omega
  have h1 := hall _ _ hl
  have e1 : (⟨l.toArray⟩ : ByteArray).size = l.length := by simp [ByteArray.size]
  have e2 : s.data.toList.length = s.size := by simp
  omega
theorem parts_bound (s : ByteArray) (c : UInt8) : (partsB s c).length ≤ s.size + 1 := by
  rw [partsB_len]
  have := splitL_len c s.data.toList
  have hl : s.data.toList.length = s.size := by simp
  omega
theorem ret_sl {A : Option Addr} {c n n' : Nat} {b b' : Bool} (h : n = n') (h2 : b = b') : Ending.returned (.tuple #[.slice A n c, .bool b]) = .returned (.tuple #[.slice A n' c, .bool b']) := by rw [h, h2]
theorem slat_nil {w : World} {A : Option Addr} {xs : List Int} (h : xs = []) : SlAt encI 1 w A xs := by subst h; intro k hk; simp at hk
theorem minus_eq {s : ByteArray} (h : s.data.toList = [45]) : (s.toList == [45]) = true := by rw [ByteArray.toList_eq, h]; rfl
theorem minus_ne {s : ByteArray} (h : s.data.toList ≠ [45]) : (s.toList == [45]) = false := by simp only [beq_eq_false_iff_ne, ne_eq, ByteArray.toList_eq]; exact h
theorem inB_val (n : Int) : inB n (-1000000000000) 1000000000000 = isVal n := rfl
set_option maxRecDepth 100000 in
set_option maxHeartbeats 2000000 in
theorem implReadList (s : ByteArray) (w : World) (hE : Env w) (hs : s.size ≤ 1048576) :
    Calls Tryz.prog 26 #[.string s] w fun e w' => ∃ (A : Option Addr) (c : Nat), e = .returned (.tuple #[.slice A (rdL s.data.toList).length c, .bool (rdB s.data.toList)]) ∧ SlAt encI 1 w' A (rdL s.data.toList) ∧ Below w.heap.size w w' := by
  have HE := hide hE
  clear hE
  by_cases hm : s.data.toList = [45]
  · obtain ⟨e1, e2⟩ := rd_some (l := s.data.toList) (xs := []) (by unfold listO; rw [if_pos hm])
    have t1 := minus_eq hm
    clear hm
    go_enter Tryz.func26, Tryz.ntmps26
    go_wp2_with fail
    go_ret2
    exact ⟨_, _, ret_sl (by rw [e1.out]; rfl) e2.out.symm, slat_nil e1.out, (by repeat (first | with_reducible exact Below.refl _ _ | with_reducible assumption | (with_reducible refine Below.drew ?_) | (with_reducible refine below_drewN ?_ _) | ((with_reducible refine Below.alloc ?_ ?_ _); rotate_left; (focus (first | omega | (simp; omega) | simp))) | ((with_reducible refine Below.setCell ?_ ?_ _); rotate_left; (focus (first | omega | (simp; omega) | simp))) | (refine Below.trans ?_ (Below.mono (by assumption) (by first | omega | (simp; omega) | simp)))))⟩
  · have t1 := minus_ne hm
    have HM := hide hm
    have hpb := parts_bound s 44
    have HG := hide (partsB_get s 44)
    have HZ := hide (part_size s 44)
    have HPL := hide (partsB_len s 44)
    clear hm
    go_enter Tryz.func26, Tryz.ntmps26
    go_wp2_with fail
    refine (splitAt1 s 44 _ HE.out (by omega)).mono ?_
    rintro e w1 ⟨rfl, hP, hb1⟩
    have HP := hide hP
    have HB1 := hide hb1
    have hz1 := hb1.size
    clear hb1 hP
    go_wp2_with fail
    go_loopw [14, 4] (fun v o wr => ∃ (k : Nat) (A : Option Addr) (c : Nat) (xs : List Int), v = .int .i64 k ∧ o = .slice A xs.length c ∧ k ≤ (partsB s 44).length ∧ Hid (xs = ((splitL 44 s.data.toList).take k).map numV) ∧ Hid (OwnI wr w1.heap.size (.slice A xs.length c) xs) ∧ Hid (Below w1.heap.size w1 wr)) (fun v _ _ => (partsB s 44).length - (intOf v).toNat)
    case atStart => exact ⟨0, none, 0, [], rfl, rfl, by omega, rfl, Own.nil, hide (by repeat (first | with_reducible exact Below.refl _ _ | with_reducible assumption | (with_reducible refine Below.drew ?_) | (with_reducible refine below_drewN ?_ _) | ((with_reducible refine Below.alloc ?_ ?_ _); rotate_left; (focus (first | omega | (simp; omega) | simp))) | ((with_reducible refine Below.setCell ?_ ?_ _); rotate_left; (focus (first | omega | (simp; omega) | simp))) | (refine Below.trans ?_ (Below.mono (by assumption) (by first | omega | (simp; omega) | simp)))))⟩
    case round =>
      obtain ⟨k, A, c, xs, rfl, rfl, hk, hxs, hO, hb⟩ := hrel
      have hz := hb.out.size
      have hxl : xs.length ≤ k := by rw [hxs.out, List.length_map, List.length_take]; omega
      by_cases hlt : k < (partsB s 44).length
      · obtain ⟨b, off, e4, hbl, hc⟩ := HP.out k hlt
        injection e4 with e4
        injection e4 with e5 e6
        subst e5; subst e6
        have hc0 := (hb.out.cell (p := ⟨w.heap.size, 0 + k * 1 + 0, none⟩) hbl).trans (hc 0 _ rfl)
        clear hc
        simp only [Nat.mul_one, Nat.add_zero, Nat.zero_add] at hc0
        have hg := HG.out k hlt
        have hps := HZ.out _ (List.getElem_mem hlt)
        generalize (partsB s 44)[k] = p at *
        have hxs2 : Hid (xs ++ [numV p.data.toList] = ((splitL 44 s.data.toList).take (k + 1)).map numV) := by
          unfold Hid
          rw [hxs.out, List.take_add_one, hg]
          simp
        clear hg
        go_wp2_with fail
        refine (implReadDecimal p _ (HE.out.below (HB1.out.trans (hb.out.mono hz1))) (by omega)).mono ?_
        rintro e w2 ⟨rfl, hb2⟩
        have HN2 := hide (hO.out.below hb2)
        have HB2 := hide (hb.out.trans (hb2.mono hz))
        have hz2 : w1.heap.size ≤ w2.heap.size := HB2.out.size
        clear hb2 hO hb
        go_wp2_with (at_builtin; go_loud (refine wpList_appI rfl _ _ rfl w1.heap.size rfl (Own.below HN2.out (by repeat (first | with_reducible exact Below.refl _ _ | with_reducible assumption | (with_reducible refine Below.drew ?_) | (with_reducible refine below_drewN ?_ _) | ((with_reducible refine Below.alloc ?_ ?_ _); rotate_left; (focus (first | omega | (simp; omega) | simp))) | ((with_reducible refine Below.setCell ?_ ?_ _); rotate_left; (focus (first | omega | (simp; omega) | simp))) | (refine Below.trans ?_ (Below.mono (by assumption) (by first | omega | (simp; omega) | simp)))))) rfl (by omega) ?_ ?_; (focus (first | omega | (simp; omega))); intro A4 c4 w4 ho4 hk4 _hg4; have HN4 := hide ho4; have HK4 := hide (show Below w1.heap.size w1 w4 from Below.trans (by repeat (first | with_reducible exact Below.refl _ _ | with_reducible assumption | (with_reducible refine Below.drew ?_) | (with_reducible refine below_drewN ?_ _) | ((with_reducible refine Below.alloc ?_ ?_ _); rotate_left; (focus (first | omega | (simp; omega) | simp))) | ((with_reducible refine Below.setCell ?_ ?_ _); rotate_left; (focus (first | omega | (simp; omega) | simp))) | (refine Below.trans ?_ (Below.mono (by assumption) (by first | omega | (simp; omega) | simp))))) hk4); clear ho4 hk4))
        go_roundw
        case rel => exact ⟨k + 1, A4, c4, xs ++ [numV p.data.toList], by go_num, by simp, by omega, hxs2, by first | exact HN4 | simpa using HN4, HK4⟩
        case measure => simp [intOf]; omega
      · obtain rfl : k = (partsB s 44).length := by omega
        have hpo : xs = partsOf s.data.toList := by
          rw [hxs.out, List.take_of_length_le (by rw [HPL.out]; exact Nat.le_refl _)]
          rfl
        have hi : ∀ x ∈ xs, -9223372036854775808 ≤ x ∧ x ≤ 9223372036854775807 := by
          intro x hx
          rw [hpo] at hx
          unfold partsOf at hx
          simp only [List.mem_map] at hx
          obtain ⟨p, _, rfl⟩ := hx
          cases hn : numO p with
          | none => exact ⟨by decide, by decide⟩
          | some n =>
            have := (numO_iff _ _).1 hn
            simp only [Option.getD_some]
            omega
        have HI := hide hi
        have HA := hide (Own.at_ (enc := encI) (sz := 1) (fun _ => rfl) hO.out)
        have HB2 := hide (HB1.out.trans (hb.out.mono hz1))
        have hz2 : w.heap.size ≤ wr.heap.size := HB2.out.size
        by_cases ht : listText xs = s.data.toList
        · have hl : listO s.data.toList = some xs := by
            rw [hpo] at ht ⊢
            exact listO_of HM.out ht
          obtain ⟨e1, e2⟩ := rd_some hl
          have t2 : (listText xs == s.toList) = true := by rw [ByteArray.toList_eq, ht]; simp
          clear hl ht hpo hi hxs hO hb
          go_wp2_with fail
          refine (implListText A c xs _ HA.out (HE.out.below HB2.out).t (by omega) HI.out).mono ?_
          rintro e w3 ⟨rfl, hb3⟩
          have HA3 := hide (HA.out.below hb3)
          have HB3 := hide (HB2.out.trans (hb3.mono hz2))
          clear hb3
          go_wp2_with fail
          go_ret2
          refine ⟨A, c, ret_sl (by rw [e1.out]) e2.out.symm, ?_, HB3.out⟩
          rw [e1.out]
          exact HA3.out
        · have hl : listO s.data.toList = none := listO_none HM.out (by rw [← hpo]; exact ht)
          obtain ⟨e1, e2⟩ := rd_none hl
          have t2 : (listText xs == s.toList) = false := by rw [ByteArray.toList_eq]; simpa using ht
          clear hl ht hpo hi hxs hO hb
          go_wp2_with fail
          refine (implListText A c xs _ HA.out (HE.out.below HB2.out).t (by omega) HI.out).mono ?_
          rintro e w3 ⟨rfl, hb3⟩
          have HB3 := hide (HB2.out.trans (hb3.mono hz2))
          clear hb3
          go_wp2_with fail
          go_ret2
          exact ⟨_, _, ret_sl (by rw [e1.out]; rfl) e2.out.symm, slat_nil e1.out, HB3.out⟩
end Go.Proofs.YtajodbhbmfjmjaaGreatDoor
