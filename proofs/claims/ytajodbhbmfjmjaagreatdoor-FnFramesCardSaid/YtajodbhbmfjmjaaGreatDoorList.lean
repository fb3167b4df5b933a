/- The text of a list of numbers, on both sides. Conditions: the numbers are int64, at most 64 on the reference's side. -/
import Derived.Test.YtajodbhbmfjmjaaGreatDoorEnv
import Derived.Test.YtajodbhbmfjmjaaGreatDoorDec
namespace Go.Proofs.YtajodbhbmfjmjaaGreatDoor
open Go.RowKit Go.Lib

theorem join_snoc (s y : List UInt8) : ∀ ys : List (List UInt8), ys ≠ [] → Lib.join (ys ++ [y]) s = Lib.join ys s ++ s ++ y
  | [], h => absurd rfl h
  | [x], _ => by rw [List.singleton_append, join_cons2, Lib.join_one, Lib.join_one]; simp
  | x :: z :: ys, _ => by
    have h := join_snoc s y (z :: ys) (by simp)
    rw [List.cons_append, List.cons_append, join_cons2, ← List.cons_append, h, join_cons2]
    simp
/-- The first k numbers as text. -/
def rowK (xs : List Int) (k : Nat) : List UInt8 := Lib.join ((xs.take k).map itoa) [44]
theorem rowK_zero (xs : List Int) : rowK xs 0 = [] := rfl
theorem rowK_one (xs : List Int) (h : 0 < xs.length) : rowK xs 1 = itoa xs[0] := by
  unfold rowK
  cases xs with
  | nil => simp at h
  | cons x xs => simp [Lib.join_one]
theorem rowK_succ (xs : List Int) (k : Nat) (hk : 0 < k) (h : k < xs.length) : rowK xs (k + 1) = rowK xs k ++ [44] ++ itoa xs[k] := by
  unfold rowK
  rw [List.take_succ_eq_append_getElem h, List.map_append, List.map_singleton, join_snoc]
  intro e
  have := congrArg List.length e
  rw [List.length_map, List.length_take, List.length_nil] at this
  omega
theorem itoa_length_le {n : Int} (h0 : -9223372036854775808 ≤ n) (h1 : n ≤ 9223372036854775807) : (itoa n).length ≤ 20 := by
  have h := (decDigits_len (m := n.natAbs) (k := 19) (by decide)).2 (Nat.lt_of_le_of_lt (show n.natAbs ≤ 9223372036854775808 by omega) (by decide))
  have e : n.toNat = n.natAbs ∨ n < 0 := by omega
  unfold itoa
  split
  · simpa using h
  · rcases e with e | e
    · rw [e]; omega
    · omega
theorem rowK_len (xs : List Int) (hx : ∀ x ∈ xs, -9223372036854775808 ≤ x ∧ x ≤ 9223372036854775807) (k : Nat) (hk : k ≤ xs.length) : (rowK xs k).length ≤ 22 * k := by
  induction k with
  | zero => simp [rowK_zero]
  | succ k ih =>
    have h1 := hx xs[k] (List.getElem_mem (by omega))
    have h2 := itoa_length_le h1.1 h1.2
    by_cases h0 : k = 0
    · subst h0
      rw [rowK_one xs (by omega)]
      omega
    · rw [rowK_succ xs k (by omega) (by omega)]
      have := ih (by omega)
      simp
      omega
theorem rowK_all (xs : List Int) (h : xs ≠ []) : rowK xs xs.length = rowText xs := by
  unfold rowK rowText
  rw [if_neg h, List.take_length]
theorem str_append (a b : List UInt8) : (⟨a.toArray⟩ : ByteArray) ++ ⟨b.toArray⟩ = ⟨(a ++ b).toArray⟩ := Go.WideShapes.bytes_inj (by simp)
theorem str_app3 (a b : List UInt8) : ((⟨a.toArray⟩ : ByteArray) ++ ⟨#[44]⟩) ++ ⟨b.toArray⟩ = ⟨(a ++ [44] ++ b).toArray⟩ := Go.WideShapes.bytes_inj (by simp)
theorem empty_app (b : List UInt8) : (⟨#[]⟩ : ByteArray) ++ ⟨b.toArray⟩ = ⟨b.toArray⟩ := str_append [] b
theorem inB_isVal (n : Int) : inB n (-1000000000000) 1000000000000 = isVal n := by
  unfold inB isVal
  rfl
theorem implListText1 (x : Int) (W : World) : Calls Tryz.prog 50 #[.int .i64 x] W fun e w' => e = .returned (.bool (!isVal x)) ∧ ∃ q, w' = W.drewN q := by
  go_enter Tryz.func50, Tryz.ntmps50
  go_wp2_with (go_at_call 51; refine (implisValue_any _ _).mono ?_; rintro e w' ⟨rfl, rfl⟩)
  go_ret
  exact ⟨by rw [← inB_isVal]; rfl, 0, rfl⟩
theorem anyBad (A : Option Addr) (c : Nat) (xs : List Int) (w : World) (h : SlAt encI 1 w A xs) (hn : xs.length ≤ 1048577) :
    Calls Tryz.prog 49 #[.slice A xs.length c, .func (.func 50) #[] #[]] w fun e w' => e = .returned (.bool (!xs.all isVal)) ∧ Below w.heap.size w w' := by
  cases xs with
  | nil => exact (Tryz.slices_ContainsFunc_empty (α := Int) A c _ w).mono fun _ _ ⟨he, hw⟩ => ⟨by rw [he]; rfl, by rw [hw]; exact Below.refl _ _⟩
  | cons x xs =>
    obtain ⟨b, off, rfl, hb, _⟩ := h 0 (by simp)
    refine (Tryz.slices_ContainsFunc (fun n : Int => Value.int .i64 n) (fun n => !isVal n) 50 #[] (enters_of Tryz.func50 (by kernel_rfl) rfl) b off (x :: xs).length c (x :: xs) w (fun W y _ => ?_) (Nat.le_refl _) (by omega) (fun j hj => ?_)).mono fun _ _ ⟨he, q, hw⟩ => ⟨?_, by rw [hw]; exact below_drewN (Below.refl _ _) q⟩
    · exact implListText1 y W
    · obtain ⟨b2, off2, e2, _, h2⟩ := h j hj
      injection e2 with e2
      injection e2 with e3 e4
      subst e3; subst e4
      have h3 := h2 0 _ rfl
      rw [getElem!_pos _ j hj]
      simpa using h3
    · rw [he, List.take_length]
      congr 2
      rw [List.not_all_eq_any_not]
set_option maxRecDepth 100000 in
set_option maxHeartbeats 1000000 in
theorem implListText (A : Option Addr) (c : Nat) (xs : List Int) (w : World) (h : SlAt encI 1 w A xs) (hE : EnvT w) (hn : xs.length ≤ 1048577) (hx : ∀ x ∈ xs, -9223372036854775808 ≤ x ∧ x ≤ 9223372036854775807) :
    Calls Tryz.prog 29 #[.slice A xs.length c] w fun e w' => e = .returned (.string ⟨(listText xs).toArray⟩) ∧ Below w.heap.size w w' := by
  have HX := hide h
  have HI := hide hx
  have HE := hide hE
  clear h hx hE
  by_cases h64 : 64 < xs.length
  · have he : Hid (listText xs = []) := by unfold Hid listText; rw [if_pos (Or.inl h64)]
    have d64 : decide ((64 : Int) < (xs.length : Int)) = true := by simp; omega
    go_enter Tryz.func29, Tryz.ntmps29
    go_wp2_with fail
    go_ret
    exact ⟨by rw [he.out]; rfl, (by repeat (first | with_reducible exact Below.refl _ _ | with_reducible assumption | (with_reducible refine Below.drew ?_) | (with_reducible refine below_drewN ?_ _) | ((with_reducible refine Below.alloc ?_ ?_ _); rotate_left; (focus (first | omega | (simp; omega) | simp))) | ((with_reducible refine Below.setCell ?_ ?_ _); rotate_left; (focus (first | omega | (simp; omega) | simp))) | (refine Below.trans ?_ (Below.mono (by assumption) (by first | omega | (simp; omega) | simp)))))⟩
  · have d64 : decide ((64 : Int) < (xs.length : Int)) = false := by simp; omega
    cases hall : xs.all isVal
    · have he : Hid (listText xs = []) := by unfold Hid listText; rw [if_pos (Or.inr hall)]
      go_enter Tryz.func29, Tryz.ntmps29
      go_wp2_with fail
      refine (anyBad A c xs _ HX.out hn).mono ?_
      rintro e w1 ⟨rfl, hb1⟩
      have hz1 := hb1.size
      go_wp2_with fail
      go_ret
      exact ⟨by rw [he.out]; rfl, hb1⟩
    · have he : Hid (listText xs = rowText xs) := by unfold Hid; exact listText_vals (by omega) hall
      have hl64 : xs.length ≤ 64 := by omega
      by_cases h0 : xs.length = 0
      · obtain rfl := List.eq_nil_of_length_eq_zero h0
        have he0 : rowText [] = [45] := rfl
        rw [he0] at he
        clear h0 d64 hl64
        go_enter Tryz.func29, Tryz.ntmps29
        go_wp2_with fail
        refine (anyBad A c [] _ HX.out hn).mono ?_
        rintro e w1 ⟨rfl, hb1⟩
        have hz1 := hb1.size
        go_wp2_with fail
        go_ret
        exact ⟨by rw [he.out]; rfl, hb1⟩
      · have hne : xs ≠ [] := by rintro rfl; exact h0 rfl
        have e0 : ((xs.length : Int) == 0) = false := by simpa using hne
        have HL := hide (rowK_len xs HI.out xs.length (Nat.le_refl _))
        go_enter Tryz.func29, Tryz.ntmps29
        go_wp2_with fail
        refine (anyBad A c xs _ HX.out hn).mono ?_
        rintro e w1 ⟨rfl, hb1⟩
        have hz1 := hb1.size
        have HB1 := hide hb1
        clear hb1 h0
        go_wp2_with fail
        go_loopw [18, 3, 5] (fun v o _ wr => ∃ (k : Nat) (A3 : Option Addr) (c3 : Nat) (ys : List ByteArray), v = .int .i64 k ∧ o = .slice A3 ys.length c3 ∧ k ≤ xs.length ∧ Hid (ys = (xs.take k).map fun n => (⟨(itoa n).toArray⟩ : ByteArray)) ∧ Hid (OwnS wr w.heap.size (.slice A3 ys.length c3) ys) ∧ Hid (Below w.heap.size w wr)) (fun v _ _ _ => xs.length - (intOf v).toNat)
        case atStart => exact ⟨0, none, 0, [], rfl, rfl, by omega, rfl, Own.nil, HB1⟩
        case round =>
          obtain ⟨k, A3, c3, ys, rfl, rfl, hk, hy, hO, hb⟩ := hrel
          have hyl : ys.length ≤ 64 := by rw [hy.out, List.length_map, List.length_take]; omega
          by_cases hlt : k < xs.length
          · obtain ⟨b, off, rfl, hbl, hc⟩ := HX.out.below hb.out k hlt
            have hc0 := hc 0 _ rfl
            clear hc
            have hi := HI.out xs[k] (List.getElem_mem hlt)
            have hz := hb.out.size
            have hy2 : Hid (ys ++ [(⟨(itoa xs[k]).toArray⟩ : ByteArray)] = (xs.take (k + 1)).map fun n => (⟨(itoa n).toArray⟩ : ByteArray)) := by
              unfold Hid
              rw [hy.out, List.take_succ_eq_append_getElem hlt, List.map_append]
              rfl
            simp only [Nat.mul_one, Nat.add_zero] at hc0
            generalize xs[k] = x at *
            go_wp2_with fail
            refine (implDecimal _ _ (HE.out.below hb.out) hi.1 hi.2).mono ?_
            rintro e w2 ⟨rfl, hb2⟩
            have HO2 := hide (hO.out.below hb2)
            have HB2 := hide (hb.out.trans (hb2.mono hz))
            have hz2 : w.heap.size ≤ w2.heap.size := HB2.out.size
            clear hb2 hO hb
            go_wp2_with (at_builtin; go_loud (refine wpList_appStr rfl _ _ rfl w.heap.size rfl HO2.out rfl (by omega) ?_ ?_; (focus (first | omega | (simp; omega))); intro A4 c4 w4 ho4 hk4 _hg4; have HN4 := hide ho4; have HK4 := hide (show Below w.heap.size w w4 from HB2.out.trans hk4); clear ho4 hk4))
            go_roundw
            case rel => exact ⟨k + 1, A4, c4, _, by go_num, by simp, by omega, hy2, by first | exact HN4 | simpa using HN4, HK4⟩
            case measure => simp [intOf]; omega
          · obtain rfl : k = xs.length := by omega
            have hj : ys.map (·.data.toList) = xs.map itoa := by
              rw [hy.out, List.take_length, List.map_map]
              rfl
            have hr : Lib.join (ys.map (·.data.toList)) [44] = rowText xs := by
              rw [hj]
              unfold rowText
              rw [if_neg hne]
            have hlen := HL.out
            rw [rowK_all xs hne] at hlen
            have HR := hide hr
            have HLn := hide hlen
            clear hy hj hr hlen HL
            go_wp2_with fail
            refine (joinOwn ⟨#[44]⟩ hO.out (by omega) ?_).mono ?_
            · rw [show (⟨#[44]⟩ : ByteArray).data.toList = [44] from rfl, HR.out]
              have := HLn.out
              omega
            rintro e w3 ⟨rfl, hb3⟩
            have HB3 := hide (hb.out.trans (hb3.mono hb.out.size))
            clear hb3
            go_wp2_with fail
            go_ret
            exact ⟨by rw [he.out, ← HR.out]; rfl, HB3.out⟩
end Go.Proofs.YtajodbhbmfjmjaaGreatDoor
