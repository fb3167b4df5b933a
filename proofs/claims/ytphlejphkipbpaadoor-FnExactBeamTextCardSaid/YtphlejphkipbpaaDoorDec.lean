/- The reference's numeral of a number: its digits, laid down and turned round. Condition: the number is an int64. -/
import Derived.Test.YtphlejphkipbpaaDoorInts
import Derived.Test.YtphlejphkipbpaaDoorTxt
import Derived.Laws.IdiomStrings
namespace Go.Proofs.YtphlejphkipbpaaDoor
open Go.RowKit Go.Lib

abbrev encU (b : UInt8) : List Value := [.int .u8 (b.toNat : Int)]
abbrev OwnU (w : World) (B : Nat) (v : Value) (xs : List UInt8) : Prop := Own encU 1 5 w B v xs
theorem info_u8 : (Tryd.prog.info? 5).map (fun i => (i.zero, i.size, i.bytes)) = some (some (.int .u8 0), 1, 1) := by kernel_rfl
set_option maxRecDepth 100000 in
theorem wpList_appU {w : World} {ops : Array Oper} {rest : List Oper} {o : Oper} {a : Act} {Q : Exit → Act → World → Prop} (hgd : o.guard = none) (s x : Operand) (ho : o.op = .call { callee := .builtin .append, args := #[s, x], argTypes := #[76, 76] }) (B : Nat) {v : Value} {xs : List UInt8} (hs : a.eval s = v)
    (hown : OwnU w B v xs) {z : Int} (y : UInt8) (hz : z = (y.toNat : Int)) (hx : a.eval x = .slice (some ⟨w.heap.size, 0, none⟩) 1 1) (hn : xs.length ≤ 1048576) (hB : B ≤ w.heap.size)
    (h : ∀ (A : Option Addr) (c : Nat) (w' : World), OwnU w' B (.slice A (xs.length + 1) c) (xs ++ [y]) → Below B w w' → w.grownBy w' v.ownBlock → wpList Tryd.prog ops Q rest (a.put o.dst (.slice A (xs.length + 1) c)) w') : wpList Tryd.prog ops Q (o :: rest) a (w.alloc (.cells #[.int .u8 z] 5)) := by
  subst hz
  obtain ⟨i0, hi, hz0, hz1, hz2⟩ := info_parts info_u8
  have hb0 : Below w.heap.size w (w.alloc (.cells #[.int .u8 (y.toNat : Int)] 5)) := (Below.refl _ _).alloc (Nat.le_refl _) _
  refine wpList_app Tryd.underlying76 hi hz0 hz1 hz2 rfl (by omega) (by omega) (fun _ => rfl) hgd s x ho B hs (hown.below hb0) y (fun u hu => by simp at hu; subst hu; rfl) hx (fun j u hj => ?_) hn (by simp; omega) fun A c w' h1 h2 h3 => h A c w' h1 ((hb0.mono hB).trans h2) (grown_trans (grown_of_below hb0 _) h3)
  match j, hj with
  | 0, hj => injection hj with hj; subst hj; simp [Addr.add]
/-- The digits of a number, the last ahead; none of 0. -/
def revDig (u : Nat) : List UInt8 := if h : u = 0 then [] else UInt8.ofNat (48 + u % 10) :: revDig (u / 10)
termination_by u
decreasing_by omega
theorem revDig_pos {u : Nat} (h : u ≠ 0) : revDig u = UInt8.ofNat (48 + u % 10) :: revDig (u / 10) := by rw [revDig, dif_neg h]
theorem revDig_zero : revDig 0 = [] := by rw [revDig, dif_pos rfl]
theorem revDig_rev (u : Nat) (h : 1 ≤ u) : (revDig u).reverse = decDigits u := by
  induction u using Nat.strongRecOn with
  | _ u ih =>
    rw [revDig_pos (by omega), List.reverse_cons]
    by_cases h9 : u < 10
    · rw [show u / 10 = 0 by omega, revDig_zero, decDigits_one h9, show u % 10 = u by omega]
      rfl
    · rw [ih (u / 10) (by omega) (by omega)]
      conv => rhs; rw [decDigits, dif_neg h9]
theorem revDig_length (u : Nat) (h : u ≤ 9223372036854775808) : (revDig u).length ≤ 19 := by
  by_cases h0 : u = 0
  · rw [h0, revDig_zero]; simp
  · rw [← List.length_reverse, revDig_rev u (by omega)]
    exact (decDigits_len (by decide)).2 (Nat.lt_of_le_of_lt h (by decide))
theorem convU {w : World} {A : Option Addr} {c : Nat} {xs : List UInt8} (h : SlAt encU 1 w A xs) (hn : 0 < xs.length) : (Go.convert 76 9 (.slice A xs.length c)).run Tryd.prog w = .ok (.string ⟨xs.toArray⟩) w := by
  obtain ⟨b, off, rfl, _, _⟩ := h 0 hn
  refine run_convert_bytes_back (P := Tryd.prog) _ _ _ 5 ⟨b, off, none⟩ c xs Tryd.underlying76 Tryd.underlying5 Tryd.underlying9 fun j hj => ?_
  obtain ⟨b2, off2, e, _, hc⟩ := h j hj
  injection e with e
  injection e with e1 e2
  subst e1; subst e2
  have := hc 0 _ rfl
  by_cases h0 : j = 0
  · subst h0
    simpa [Addr.add] using this
  · simpa [Addr.add, h0] using this
theorem slice_len {w : World} {A : Option Addr} {xs : List UInt8} {B c n : Nat} (h : OwnU w B (.slice A n c) xs) (e : xs.length = n) : SlAt encU 1 w A xs := by
  subst e
  exact Own.at_ (fun _ => rfl) h
set_option maxRecDepth 100000 in
set_option maxHeartbeats 1000000 in
theorem specl01Dec (n : Int) (w : World) (h0 : -9223372036854775808 ≤ n) (h1 : n ≤ 9223372036854775807) :
    Calls Tryd.prog 111 #[.int .i64 n] w fun e w' => e = .returned (.string ⟨(itoa n).toArray⟩) ∧ Below w.heap.size w w' := by
  by_cases hz : n = 0
  · subst hz
    go_enter Tryd.func111, Tryd.ntmps111
    go_wp2_with fail
    go_ret
    exact ⟨by rw [show itoa 0 = [48] by decide +kernel]; rfl, (by repeat (first | with_reducible exact Below.refl _ _ | with_reducible assumption | (with_reducible refine Below.drew ?_) | (with_reducible refine below_drewN ?_ _) | ((with_reducible refine Below.alloc ?_ ?_ _); rotate_left; (focus (first | omega | (simp; omega) | simp))) | ((with_reducible refine Below.setCell ?_ ?_ _); rotate_left; (focus (first | omega | (simp; omega) | simp))) | (refine Below.trans ?_ (Below.mono (by assumption) (by first | omega | (simp; omega) | simp)))))⟩
  · have hzz : (n == 0) = false := by simpa using hz
    have HO := hide (own_made (enc := encU) (sz := 1) (T := 5) (B := w.heap.size) w rfl (Nat.le_refl _))
    have hlen := revDig_length n.natAbs (by omega)
    go_enter Tryd.func111, Tryd.ntmps111
    go_wp2_with fail
    go_loopw [4, 3] (fun v o wr => ∃ (m : Int) (A : Option Addr) (c : Nat) (ds : List UInt8), v = .int .i64 m ∧ o = .slice A ds.length c ∧ (0 ≤ n → 0 ≤ m) ∧ (n < 0 → m ≤ 0) ∧ -9223372036854775808 ≤ m ∧ m ≤ 9223372036854775807 ∧ Hid (ds ++ revDig m.natAbs = revDig n.natAbs) ∧ Hid (OwnU wr w.heap.size (.slice A ds.length c) ds) ∧ Hid (Below w.heap.size w wr)) (fun v _ _ => (intOf v).natAbs)
    case atStart => exact ⟨n, _, _, [], rfl, rfl, by omega, by omega, h0, h1, by unfold Hid; simp, HO, hide ((by repeat (first | with_reducible exact Below.refl _ _ | with_reducible assumption | (with_reducible refine Below.drew ?_) | (with_reducible refine below_drewN ?_ _) | ((with_reducible refine Below.alloc ?_ ?_ _); rotate_left; (focus (first | omega | (simp; omega) | simp))) | ((with_reducible refine Below.setCell ?_ ?_ _); rotate_left; (focus (first | omega | (simp; omega) | simp))) | (refine Below.trans ?_ (Below.mono (by assumption) (by first | omega | (simp; omega) | simp))))))⟩
    case round =>
      obtain ⟨m, A, c, ds, rfl, rfl, hp, hn, m0, m1, hd, hO, hb⟩ := hrel
      by_cases hm : m = 0
      · subst hm
        have hds : ds = revDig n.natAbs := by
          have h2 := hd.out
          rw [Int.natAbs_zero, revDig_zero, List.append_nil] at h2
          exact h2
        have hzz := hb.out.size
        by_cases hneg : n < 0
        · go_wp2_with (at_builtin; go_loud (refine wpList_appU rfl _ _ rfl w.heap.size rfl (Own.below hO.out (by repeat (first | with_reducible exact Below.refl _ _ | with_reducible assumption | (with_reducible refine Below.drew ?_) | (with_reducible refine below_drewN ?_ _) | ((with_reducible refine Below.alloc ?_ ?_ _); rotate_left; (focus (first | omega | (simp; omega) | simp))) | ((with_reducible refine Below.setCell ?_ ?_ _); rotate_left; (focus (first | omega | (simp; omega) | simp))) | (refine Below.trans ?_ (Below.mono (by assumption) (by first | omega | (simp; omega) | simp)))))) 45 rfl rfl ?_ ?_ ?_; (focus (rw [hds]; omega)); (focus (first | omega | (simp; omega))); intro A3 c3 w3 ho3 hk3 _hg3; have HN3 := hide ho3; have HK3 := hide (show Below w.heap.size w w3 from Below.trans (by repeat (first | with_reducible exact Below.refl _ _ | with_reducible assumption | (with_reducible refine Below.drew ?_) | (with_reducible refine below_drewN ?_ _) | ((with_reducible refine Below.alloc ?_ ?_ _); rotate_left; (focus (first | omega | (simp; omega) | simp))) | ((with_reducible refine Below.setCell ?_ ?_ _); rotate_left; (focus (first | omega | (simp; omega) | simp))) | (refine Below.trans ?_ (Below.mono (by assumption) (by first | omega | (simp; omega) | simp))))) hk3); clear ho3 hk3))
          have hlen2 : ds.length + 1 ≤ 20 := by
            rw [hds]; omega
          have hpos2 : 0 < ds.length + 1 := by
            rw [hds, revDig_pos (by omega)]
            simp
          have hrev : Hid ((ds ++ [(45 : UInt8)]).reverse = itoa n) := by
            unfold Hid
            rw [hds, List.reverse_append, revDig_rev _ (by omega)]
            unfold itoa
            rw [if_pos hneg]
            rfl
          have HA3 := hide (slice_len HN3.out (by simp))
          have HO2 := hide (own_made (enc := encU) (sz := 1) (T := 5) (B := w3.heap.size) w3 rfl (Nat.le_refl _))
          have hz3 := HK3.out.size
          have ⟨k0, hk0⟩ : ∃ k0 : Nat, k0 = ds.length + 1 := ⟨_, rfl⟩
          have hlk : (ds ++ [(45 : UInt8)]).length = k0 := by simp [hk0]
          have hdsl : (revDig n.natAbs).length = ds.length := by rw [hds]
          clear hd hO hb HN3
          go_wp2_with fail
          go_loopw [7, 6] (fun v o wr2 => ∃ (x : Int) (i : Nat) (A4 : Option Addr) (c4 : Nat) (os : List UInt8), v = .int .i64 x ∧ x = (i : Int) - 1 ∧ o = .slice A4 os.length c4 ∧ i ≤ k0 ∧ os.length + i = k0 ∧ Hid (os ++ ((ds ++ [(45 : UInt8)]).take i).reverse = (ds ++ [(45 : UInt8)]).reverse) ∧ Hid (OwnU wr2 w3.heap.size (.slice A4 os.length c4) os) ∧ Hid (Below w3.heap.size w3 wr2)) (fun v _ _ => (intOf v + 1).toNat)
          case atStart => exact ⟨_, k0, _, _, [], rfl, (by first | omega | (simp only [wrap64]; omega)), rfl, by omega, by simp, by unfold Hid; rw [← hlk, List.take_length]; rfl, HO2, hide (by repeat (first | with_reducible exact Below.refl _ _ | with_reducible assumption | (with_reducible refine Below.drew ?_) | (with_reducible refine below_drewN ?_ _) | ((with_reducible refine Below.alloc ?_ ?_ _); rotate_left; (focus (first | omega | (simp; omega) | simp))) | ((with_reducible refine Below.setCell ?_ ?_ _); rotate_left; (focus (first | omega | (simp; omega) | simp))) | (refine Below.trans ?_ (Below.mono (by assumption) (by first | omega | (simp; omega) | simp)))))⟩
          case round =>
            clear HO2
            obtain ⟨x, i, A4, c4, os, rfl, hx, rfl, hi, hil, ho, hO4, hb4⟩ := hrel
            have hz4 := hb4.out.size
            cases i with
            | zero =>
              have he : os = (ds ++ [(45 : UInt8)]).reverse := by simpa using ho.out
              have hcv := convU (c := c4) (Own.at_ (enc := encU) (sz := 1) (fun _ => rfl) hO4.out) (by omega)
              have hxn : x < 0 := by omega
              have HE := hide he
              clear hx hil he ho hlk hds hk0 hdsl
              go_wp2_with fail
              go_ret
              exact ⟨by rw [HE.out, hrev.out]; rfl, (by repeat (first | with_reducible exact Below.refl _ _ | with_reducible assumption | (with_reducible refine Below.drew ?_) | (with_reducible refine below_drewN ?_ _) | ((with_reducible refine Below.alloc ?_ ?_ _); rotate_left; (focus (first | omega | (simp; omega) | simp))) | ((with_reducible refine Below.setCell ?_ ?_ _); rotate_left; (focus (first | omega | (simp; omega) | simp))) | (refine Below.trans ?_ (Below.mono (by assumption) (by first | omega | (simp; omega) | simp)))))⟩
            | succ j =>
              obtain rfl : x = (j : Int) := by omega
              obtain ⟨g, off, rfl, hgl, hc⟩ := HA3.out j (by omega)
              have hc0 := (hb4.out.cell (p := ⟨g, off + j * 1 + 0, none⟩) hgl).trans (hc 0 _ rfl)
              simp only [Nat.add_zero, Nat.mul_one] at hc0
              have hjl : j < ds.length + 1 := by omega
              have ho2 : Hid ((os ++ [(ds ++ [(45 : UInt8)])[j]'(by omega)]) ++ ((ds ++ [(45 : UInt8)]).take j).reverse = (ds ++ [(45 : UInt8)]).reverse) := by
                unfold Hid
                rw [← ho.out, List.take_succ_eq_append_getElem (by omega), List.reverse_append, List.reverse_singleton, List.append_assoc]
              obtain ⟨y, hy⟩ : ∃ y : UInt8, y = (ds ++ [(45 : UInt8)])[j]'(by omega) := ⟨_, rfl⟩
              rw [← hy] at hc0 ho2
              have hk20 : k0 ≤ 20 := by omega
              have hjr : j < (revDig n.natAbs).length + 1 := by omega
              clear hy hdsl hds hc hk0 hx hlk
              go_wp2_with (at_builtin; go_loud (refine wpList_appU rfl _ _ rfl w3.heap.size rfl (Own.below hO4.out (by repeat (first | with_reducible exact Below.refl _ _ | with_reducible assumption | (with_reducible refine Below.drew ?_) | (with_reducible refine below_drewN ?_ _) | ((with_reducible refine Below.alloc ?_ ?_ _); rotate_left; (focus (first | omega | (simp; omega) | simp))) | ((with_reducible refine Below.setCell ?_ ?_ _); rotate_left; (focus (first | omega | (simp; omega) | simp))) | (refine Below.trans ?_ (Below.mono (by assumption) (by first | omega | (simp; omega) | simp)))))) y rfl rfl (by omega) ?_ ?_; (focus (first | omega | (simp; omega))); intro A5 c5 w5 ho5 hk5 _hg5; have HN5 := hide ho5; have HK5 := hide (show Below w3.heap.size w3 w5 from Below.trans (by repeat (first | with_reducible exact Below.refl _ _ | with_reducible assumption | (with_reducible refine Below.drew ?_) | (with_reducible refine below_drewN ?_ _) | ((with_reducible refine Below.alloc ?_ ?_ _); rotate_left; (focus (first | omega | (simp; omega) | simp))) | ((with_reducible refine Below.setCell ?_ ?_ _); rotate_left; (focus (first | omega | (simp; omega) | simp))) | (refine Below.trans ?_ (Below.mono (by assumption) (by first | omega | (simp; omega) | simp))))) hk5); clear ho5 hk5))
              go_roundw
              case rel => exact ⟨(j : Int) - 1, j, A5, c5, os ++ [y], by go_num, rfl, by simp, by omega, by simp; omega, ho2, by first | exact HN5 | simpa using HN5, HK5⟩
              case measure => first | (simp [intOf]; done) | (simp [intOf]; omega)
        · obtain ⟨w3, hw3⟩ : ∃ w3 : World, w3 = wr := ⟨_, rfl⟩
          subst hw3
          obtain ⟨A3, hA3⟩ : ∃ A3 : Option Addr, A3 = A := ⟨_, rfl⟩
          subst hA3
          have HN3 := hO
          have HK3 := hb
          have hlen2 : ds.length ≤ 20 := by
            rw [hds]; omega
          have hpos2 : 0 < ds.length := by
            rw [hds, revDig_pos (by omega)]
            simp
          have hrev : Hid (ds.reverse = itoa n) := by
            unfold Hid
            rw [hds, revDig_rev _ (by omega)]
            unfold itoa
            rw [if_neg hneg]
            congr 1
            omega
          have HA3 := hide (slice_len HN3.out (by simp))
          have HO2 := hide (own_made (enc := encU) (sz := 1) (T := 5) (B := w3.heap.size) w3 rfl (Nat.le_refl _))
          have hz3 := HK3.out.size
          have ⟨k0, hk0⟩ : ∃ k0 : Nat, k0 = ds.length := ⟨_, rfl⟩
          have hlk : ds.length = k0 := by simp [hk0]
          have hdsl : (revDig n.natAbs).length = ds.length := by rw [hds]
          clear hd hO hb HN3
          go_wp2_with fail
          go_loopw [7, 6] (fun v o wr2 => ∃ (x : Int) (i : Nat) (A4 : Option Addr) (c4 : Nat) (os : List UInt8), v = .int .i64 x ∧ x = (i : Int) - 1 ∧ o = .slice A4 os.length c4 ∧ i ≤ k0 ∧ os.length + i = k0 ∧ Hid (os ++ (ds.take i).reverse = ds.reverse) ∧ Hid (OwnU wr2 w3.heap.size (.slice A4 os.length c4) os) ∧ Hid (Below w3.heap.size w3 wr2)) (fun v _ _ => (intOf v + 1).toNat)
          case atStart => exact ⟨_, k0, _, _, [], rfl, (by first | omega | (simp only [wrap64]; omega)), rfl, by omega, by simp, by unfold Hid; rw [← hlk, List.take_length]; rfl, HO2, hide (by repeat (first | with_reducible exact Below.refl _ _ | with_reducible assumption | (with_reducible refine Below.drew ?_) | (with_reducible refine below_drewN ?_ _) | ((with_reducible refine Below.alloc ?_ ?_ _); rotate_left; (focus (first | omega | (simp; omega) | simp))) | ((with_reducible refine Below.setCell ?_ ?_ _); rotate_left; (focus (first | omega | (simp; omega) | simp))) | (refine Below.trans ?_ (Below.mono (by assumption) (by first | omega | (simp; omega) | simp)))))⟩
          case round =>
            clear HO2
            obtain ⟨x, i, A4, c4, os, rfl, hx, rfl, hi, hil, ho, hO4, hb4⟩ := hrel
            have hz4 := hb4.out.size
            cases i with
            | zero =>
              have he : os = ds.reverse := by simpa using ho.out
              have hcv := convU (c := c4) (Own.at_ (enc := encU) (sz := 1) (fun _ => rfl) hO4.out) (by omega)
              have hxn : x < 0 := by omega
              have HE := hide he
              clear hx hil he ho hlk hds hk0 hdsl
              go_wp2_with fail
              go_ret
              exact ⟨by rw [HE.out, hrev.out]; rfl, (by repeat (first | with_reducible exact Below.refl _ _ | with_reducible assumption | (with_reducible refine Below.drew ?_) | (with_reducible refine below_drewN ?_ _) | ((with_reducible refine Below.alloc ?_ ?_ _); rotate_left; (focus (first | omega | (simp; omega) | simp))) | ((with_reducible refine Below.setCell ?_ ?_ _); rotate_left; (focus (first | omega | (simp; omega) | simp))) | (refine Below.trans ?_ (Below.mono (by assumption) (by first | omega | (simp; omega) | simp)))))⟩
            | succ j =>
              obtain rfl : x = (j : Int) := by omega
              obtain ⟨g, off, rfl, hgl, hc⟩ := HA3.out j (by omega)
              have hc0 := (hb4.out.cell (p := ⟨g, off + j * 1 + 0, none⟩) hgl).trans (hc 0 _ rfl)
              simp only [Nat.add_zero, Nat.mul_one] at hc0
              have hjl : j < ds.length := by omega
              have ho2 : Hid ((os ++ [ds[j]'(by omega)]) ++ (ds.take j).reverse = ds.reverse) := by
                unfold Hid
                rw [← ho.out, List.take_succ_eq_append_getElem (by omega), List.reverse_append, List.reverse_singleton, List.append_assoc]
              obtain ⟨y, hy⟩ : ∃ y : UInt8, y = ds[j]'(by omega) := ⟨_, rfl⟩
              rw [← hy] at hc0 ho2
              have hk20 : k0 ≤ 20 := by omega
              clear hy hdsl hds hc hk0 hx hlk
              go_wp2_with (at_builtin; go_loud (refine wpList_appU rfl _ _ rfl w3.heap.size rfl (Own.below hO4.out (by repeat (first | with_reducible exact Below.refl _ _ | with_reducible assumption | (with_reducible refine Below.drew ?_) | (with_reducible refine below_drewN ?_ _) | ((with_reducible refine Below.alloc ?_ ?_ _); rotate_left; (focus (first | omega | (simp; omega) | simp))) | ((with_reducible refine Below.setCell ?_ ?_ _); rotate_left; (focus (first | omega | (simp; omega) | simp))) | (refine Below.trans ?_ (Below.mono (by assumption) (by first | omega | (simp; omega) | simp)))))) y rfl rfl (by omega) ?_ ?_; (focus (first | omega | (simp; omega))); intro A5 c5 w5 ho5 hk5 _hg5; have HN5 := hide ho5; have HK5 := hide (show Below w3.heap.size w3 w5 from Below.trans (by repeat (first | with_reducible exact Below.refl _ _ | with_reducible assumption | (with_reducible refine Below.drew ?_) | (with_reducible refine below_drewN ?_ _) | ((with_reducible refine Below.alloc ?_ ?_ _); rotate_left; (focus (first | omega | (simp; omega) | simp))) | ((with_reducible refine Below.setCell ?_ ?_ _); rotate_left; (focus (first | omega | (simp; omega) | simp))) | (refine Below.trans ?_ (Below.mono (by assumption) (by first | omega | (simp; omega) | simp))))) hk5); clear ho5 hk5))
              go_roundw
              case rel => exact ⟨(j : Int) - 1, j, A5, c5, os ++ [y], by go_num, rfl, by simp, by omega, by simp; omega, ho2, by first | exact HN5 | simpa using HN5, HK5⟩
              case measure => first | (simp [intOf]; done) | (simp [intOf]; omega)
      · have hmm : (m != 0) = true := by simpa using hm
        have hzz := hb.out.size
        have hdl : ds.length ≤ 18 := by
          have h2 := congrArg List.length hd.out
          rw [revDig_pos (by omega)] at h2
          simp at h2
          omega
        have hbt := digit_byte (d := m.natAbs % 10) (by omega)
        have hd2 : Hid ((ds ++ [UInt8.ofNat (48 + m.natAbs % 10)]) ++ revDig (m.tdiv 10).natAbs = revDig n.natAbs) := by
          unfold Hid
          rw [← hd.out, revDig_pos (u := m.natAbs) (by omega), List.append_assoc, Int.natAbs_tdiv]
          rfl
        have hdig : ∀ d : Int, (d = m.tmod 10 ∧ ¬ m.tmod 10 < 0) ∨ (d = wrap64 (-m.tmod 10) ∧ m.tmod 10 < 0) → wrap64 (48 + d) % 256 = ((UInt8.ofNat (48 + m.natAbs % 10)).toNat : Int) := by
          intro d hd
          have h3 : (m.tmod 10).natAbs = m.natAbs % 10 := by rw [Int.natAbs_tmod]; rfl
          have h4 : m.tmod 10 ≤ 9 ∧ -9 ≤ m.tmod 10 := ⟨by have := Int.tmod_lt_of_pos m (b := 10) (by decide); omega, by have := Int.lt_tmod_of_pos m (b := 10) (by decide); omega⟩
          rw [hbt]
          generalize m.tmod 10 = t at *
          have hw : ∀ x : Int, -100 ≤ x → x ≤ 100 → wrap64 x = x := fun x h5 h6 => by simp only [wrap64]; omega
          have hwn := hw (-t)
          rcases hd with ⟨rfl, h⟩ | ⟨rfl, h⟩
          · rw [hw _ (by omega) (by omega)]; omega
          · rw [hwn (by omega) (by omega), hw _ (by omega) (by omega)]; omega
        have hbound : -9223372036854775808 ≤ m.tdiv 10 ∧ m.tdiv 10 ≤ 9223372036854775807 ∧ (0 ≤ n → 0 ≤ m.tdiv 10) ∧ (n < 0 → m.tdiv 10 ≤ 0) ∧ (m.tdiv 10).natAbs < m.natAbs := by
          have h5 : (m.tdiv 10).natAbs = m.natAbs / 10 := by rw [Int.natAbs_tdiv]; rfl
          have h6 : 0 ≤ m → 0 ≤ m.tdiv 10 := fun h => Int.tdiv_nonneg h (by decide)
          have h7 : m ≤ 0 → m.tdiv 10 ≤ 0 := fun h => by have := Int.tdiv_nonneg (a := -m) (b := 10) (by omega) (by decide); rw [Int.neg_tdiv] at this; omega
          generalize m.tdiv 10 = q at *
          have h8 : q.natAbs ≤ m.natAbs := by omega
          refine ⟨by omega, by omega, fun h => h6 (hp h), fun h => h7 (hn h), by omega⟩
        have HD := hide hdig
        have HQ := hide hbound
        clear hdig hbound hbt
        by_cases ht : m.tmod 10 < 0
        · have HT := hide ht
          go_wp2_with (at_builtin; go_loud (refine wpList_appU rfl _ _ rfl w.heap.size rfl (Own.below hO.out (by repeat (first | with_reducible exact Below.refl _ _ | with_reducible assumption | (with_reducible refine Below.drew ?_) | (with_reducible refine below_drewN ?_ _) | ((with_reducible refine Below.alloc ?_ ?_ _); rotate_left; (focus (first | omega | (simp; omega) | simp))) | ((with_reducible refine Below.setCell ?_ ?_ _); rotate_left; (focus (first | omega | (simp; omega) | simp))) | (refine Below.trans ?_ (Below.mono (by assumption) (by first | omega | (simp; omega) | simp)))))) (UInt8.ofNat (48 + m.natAbs % 10)) (HD.out _ (.inr ⟨rfl, HT.out⟩)) rfl (by omega) ?_ ?_; (focus (first | omega | (simp; omega))); intro A3 c3 w3 ho3 hk3 _hg3; have HN3 := hide ho3; have HK3 := hide (show Below w.heap.size w w3 from Below.trans (by repeat (first | with_reducible exact Below.refl _ _ | with_reducible assumption | (with_reducible refine Below.drew ?_) | (with_reducible refine below_drewN ?_ _) | ((with_reducible refine Below.alloc ?_ ?_ _); rotate_left; (focus (first | omega | (simp; omega) | simp))) | ((with_reducible refine Below.setCell ?_ ?_ _); rotate_left; (focus (first | omega | (simp; omega) | simp))) | (refine Below.trans ?_ (Below.mono (by assumption) (by first | omega | (simp; omega) | simp))))) hk3); clear ho3 hk3))
          go_roundw
          case rel => exact ⟨m.tdiv 10, A3, c3, ds ++ [UInt8.ofNat (48 + m.natAbs % 10)], by go_num, by simp, HQ.out.2.2.1, HQ.out.2.2.2.1, HQ.out.1, HQ.out.2.1, hd2, by first | exact HN3 | simpa using HN3, HK3⟩
          case measure =>
            have h9 := HQ.out.2.2.2.2
            simpa [intOf] using h9
        · have HT := hide ht
          go_wp2_with (at_builtin; go_loud (refine wpList_appU rfl _ _ rfl w.heap.size rfl (Own.below hO.out (by repeat (first | with_reducible exact Below.refl _ _ | with_reducible assumption | (with_reducible refine Below.drew ?_) | (with_reducible refine below_drewN ?_ _) | ((with_reducible refine Below.alloc ?_ ?_ _); rotate_left; (focus (first | omega | (simp; omega) | simp))) | ((with_reducible refine Below.setCell ?_ ?_ _); rotate_left; (focus (first | omega | (simp; omega) | simp))) | (refine Below.trans ?_ (Below.mono (by assumption) (by first | omega | (simp; omega) | simp)))))) (UInt8.ofNat (48 + m.natAbs % 10)) (HD.out _ (.inl ⟨rfl, HT.out⟩)) rfl (by omega) ?_ ?_; (focus (first | omega | (simp; omega))); intro A3 c3 w3 ho3 hk3 _hg3; have HN3 := hide ho3; have HK3 := hide (show Below w.heap.size w w3 from Below.trans (by repeat (first | with_reducible exact Below.refl _ _ | with_reducible assumption | (with_reducible refine Below.drew ?_) | (with_reducible refine below_drewN ?_ _) | ((with_reducible refine Below.alloc ?_ ?_ _); rotate_left; (focus (first | omega | (simp; omega) | simp))) | ((with_reducible refine Below.setCell ?_ ?_ _); rotate_left; (focus (first | omega | (simp; omega) | simp))) | (refine Below.trans ?_ (Below.mono (by assumption) (by first | omega | (simp; omega) | simp))))) hk3); clear ho3 hk3))
          go_roundw
          case rel => exact ⟨m.tdiv 10, A3, c3, ds ++ [UInt8.ofNat (48 + m.natAbs % 10)], by go_num, by simp, HQ.out.2.2.1, HQ.out.2.2.2.1, HQ.out.1, HQ.out.2.1, hd2, by first | exact HN3 | simpa using HN3, HK3⟩
          case measure =>
            have h9 := HQ.out.2.2.2.2
            simpa [intOf] using h9
end Go.Proofs.YtphlejphkipbpaaDoor
