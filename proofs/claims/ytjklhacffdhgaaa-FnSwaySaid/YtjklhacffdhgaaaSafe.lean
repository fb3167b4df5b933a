/- SafeRate on both sides. -/
import Derived.Test.YtjklhacffdhgaaaAmp
import Derived.Test.YtjklhacffdhgaaaInts
namespace Go.Proofs.Ytjklhacffdhgaaa
open Go.RowKit

/-- A rate that will do. -/
def okRate (sw dp sf force away rate : Int) : Bool := inB rate 100 5000 && decide (amp sw dp sf rate force ≤ away)
/-- The rates in the order of trial. -/
def candR (rate : Int) (n : Int) : Int := if n % 2 = 0 then rate - n / 2 else rate + n / 2
@[irreducible] def safeOf (nm bell : ByteArray) (sw dp sf lim rate force away : Int) : Int × Int :=
  if vTower nm sw dp sf lim && vSwing bell rate force then (if inB away 0 1000000 then
    (match Pl.firstFrom (fun n => okRate sw dp sf force away (candR rate n)) 0 10002 with | some n => (candR rate n, 0) | none => (0, 3)) else (0, 2)) else (0, 1)
theorem safeOf_1 {nm bell : ByteArray} {sw dp sf lim rate force away : Int} (h : vTower nm sw dp sf lim = false ∨ vSwing bell rate force = false) : safeOf nm bell sw dp sf lim rate force away = (0, 1) := by unfold safeOf; rcases h with h | h <;> simp [h]
theorem safeOf_2 {nm bell : ByteArray} {sw dp sf lim rate force away : Int} (h : vTower nm sw dp sf lim = true) (h2 : vSwing bell rate force = true) (h3 : inB away 0 1000000 = false) : safeOf nm bell sw dp sf lim rate force away = (0, 2) := by unfold safeOf; simp [h, h2, h3]
theorem safeOf_some {nm bell : ByteArray} {sw dp sf lim rate force away : Int} (h : vTower nm sw dp sf lim = true) (h2 : vSwing bell rate force = true) (h3 : inB away 0 1000000 = true) {n r : Int} (a : 0 ≤ n) (b : n < 10002) (hr : r = candR rate n) (ho : okRate sw dp sf force away r = true)
    (hj : ∀ j, 0 ≤ j → j < n → okRate sw dp sf force away (candR rate j) = false) : safeOf nm bell sw dp sf lim rate force away = (r, 0) := by
  subst hr
  unfold safeOf
  rw [if_pos (by rw [h, h2]; rfl), if_pos h3, Pl.firstFrom_some (r := n) a (by omega) ho hj]
theorem safeOf_none {nm bell : ByteArray} {sw dp sf lim rate force away : Int} (h : vTower nm sw dp sf lim = true) (h2 : vSwing bell rate force = true) (h3 : inB away 0 1000000 = true)
    (hj : ∀ j, 0 ≤ j → j < 10002 → okRate sw dp sf force away (candR rate j) = false) : safeOf nm bell sw dp sf lim rate force away = (0, 3) := by
  unfold safeOf
  rw [if_pos (by rw [h, h2]; rfl), if_pos h3, Pl.firstFrom_none (fun j a b => hj j a (by omega))]
theorem noRate {sw dp sf force away : Int} {f : Int → Int} {n : Int} (h : Hid (∀ j, 0 ≤ j → j < n → okRate sw dp sf force away (f j) = false)) {r : Int} (hr : r = f n) (hb : okRate sw dp sf force away r = false) : Hid (∀ j, 0 ≤ j → j < n + 1 → okRate sw dp sf force away (f j) = false) := fun j a b => by
  by_cases e : j = n
  · subst e; rw [← hr]; exact hb
  · exact h.out j a (by omega)
theorem ok_no1 {sw dp sf force away r : Int} (h : inB r 100 5000 = false) : okRate sw dp sf force away r = false := by unfold okRate; simp [h]
theorem ok_no2 {sw dp sf force away r : Int} (h : away < amp sw dp sf r force) : okRate sw dp sf force away r = false := by unfold okRate; simp; intro _; omega
theorem ok_yes {sw dp sf force away r : Int} (h : inB r 100 5000 = true) (h2 : amp sw dp sf r force ≤ away) : okRate sw dp sf force away r = true := by unfold okRate; simp [h, h2]
theorem cand_even (rate d : Int) : candR rate (2 * d) = rate - d := by unfold candR; rw [if_pos (by omega)]; omega
theorem cand_odd (rate d : Int) : candR rate (2 * d + 1) = rate + d := by unfold candR; rw [if_neg (by omega)]; omega
theorem vSwing_rate {bell : ByteArray} {rate force r : Int} (h : vSwing bell rate force = true) : vSwing bell r force = inB r 100 5000 := by
  obtain ⟨h1, _, h3⟩ := vSwing_true _ _ _ h
  unfold vSwing
  rw [h1, inB_mk h3.1 h3.2]
  simp
set_option maxRecDepth 100000 in
theorem implSafeRate_bad (nm bell : ByteArray) (sw dp sf lim rate force away : Int) (w : World) (hs : nm.size ≤ maxLen) (hs' : bell.size ≤ maxLen) (hb : vTower nm sw dp sf lim = false ∨ vSwing bell rate force = false ∨ inB away 0 1000000 = false) :
    Calls Try.prog 54 #[.agg #[.string nm, .int .i64 sw, .int .i64 dp, .int .i64 sf, .int .i64 lim], .agg #[.string bell, .int .i64 rate, .int .i64 force], .int .i64 away] w fun e w' => e = .returned (two (safeOf nm bell sw dp sf lim rate force away)) ∧ Below w.heap.size w w' := by
  cases h1 : vTower nm sw dp sf lim
  · have e : Hid (safeOf nm bell sw dp sf lim rate force away = (0, 1)) := safeOf_1 (.inl h1)
    go_enter Try.func54, Try.ntmps54
    go_wp2_with fail
    refine (implValidTower nm sw dp sf lim _ hs).mono ?_
    rintro e w1 ⟨rfl, hb1⟩
    obtain ⟨fcb1, ffb1, fzb1⟩ := bfacts hb1 (by first | exact Nat.le_refl _ | omega | (simp; omega) | simp); have fsb1 := hb1.size; try simp at fcb1 ffb1 fzb1 fsb1 hb1
    go_wp2_with fail
    go_ret2
    exact ⟨ret_two e.out, (by repeat (first | with_reducible exact Below.refl _ _ | with_reducible assumption | (with_reducible refine Below.drew ?_) | (with_reducible refine below_drewN ?_ _) | ((with_reducible refine Below.alloc ?_ ?_ _); rotate_left; (focus (first | omega | (simp; omega) | simp))) | ((with_reducible refine Below.setCell ?_ ?_ _); rotate_left; (focus (first | omega | (simp; omega) | simp))) | (refine Below.trans ?_ (Below.mono (by assumption) (by first | omega | (simp; omega) | simp)))))⟩
  · cases h2 : vSwing bell rate force
    · have e : Hid (safeOf nm bell sw dp sf lim rate force away = (0, 1)) := safeOf_1 (.inr h2)
      go_enter Try.func54, Try.ntmps54
      go_wp2_with fail
      refine (implValidTower nm sw dp sf lim _ hs).mono ?_
      rintro e w1 ⟨rfl, hb1⟩
      obtain ⟨fcb1, ffb1, fzb1⟩ := bfacts hb1 (by first | exact Nat.le_refl _ | omega | (simp; omega) | simp); have fsb1 := hb1.size; try simp at fcb1 ffb1 fzb1 fsb1 hb1
      go_wp2_with fail
      refine (implvalidSwing bell rate force _ hs').mono ?_
      rintro e w2 ⟨rfl, hb2⟩
      have hbn := Below.trans (by first | exact hb1 | exact below_drewN hb1 _) (Below.mono hb2 (by first | omega | (simp; omega) | simp))
      clear hb2 fcb1 ffb1 fzb1 fsb1
      clear hb1
      have hb2 := hbn
      clear hbn
      obtain ⟨fcb2, ffb2, fzb2⟩ := bfacts hb2 (by first | exact Nat.le_refl _ | omega | (simp; omega) | simp); have fsb2 := hb2.size; try simp at fcb2 ffb2 fzb2 fsb2 hb2
      go_wp2_with fail
      go_ret2
      exact ⟨ret_two e.out, (by repeat (first | with_reducible exact Below.refl _ _ | with_reducible assumption | (with_reducible refine Below.drew ?_) | (with_reducible refine below_drewN ?_ _) | ((with_reducible refine Below.alloc ?_ ?_ _); rotate_left; (focus (first | omega | (simp; omega) | simp))) | ((with_reducible refine Below.setCell ?_ ?_ _); rotate_left; (focus (first | omega | (simp; omega) | simp))) | (refine Below.trans ?_ (Below.mono (by assumption) (by first | omega | (simp; omega) | simp)))))⟩
    · have h3 : inB away 0 1000000 = false := by
        rcases hb with h | h | h
        · rw [h1] at h; cases h
        · rw [h2] at h; cases h
        · exact h
      have e : Hid (safeOf nm bell sw dp sf lim rate force away = (0, 2)) := safeOf_2 h1 h2 h3
      clear hb
      go_enter Try.func54, Try.ntmps54
      go_wp2_with fail
      refine (implValidTower nm sw dp sf lim _ hs).mono ?_
      rintro e w1 ⟨rfl, hb1⟩
      obtain ⟨fcb1, ffb1, fzb1⟩ := bfacts hb1 (by first | exact Nat.le_refl _ | omega | (simp; omega) | simp); have fsb1 := hb1.size; try simp at fcb1 ffb1 fzb1 fsb1 hb1
      go_wp2_with fail
      refine (implvalidSwing bell rate force _ hs').mono ?_
      rintro e w2 ⟨rfl, hb2⟩
      have hbn := Below.trans (by first | exact hb1 | exact below_drewN hb1 _) (Below.mono hb2 (by first | omega | (simp; omega) | simp))
      clear hb2 fcb1 ffb1 fzb1 fsb1
      clear hb1
      have hb2 := hbn
      clear hbn
      obtain ⟨fcb2, ffb2, fzb2⟩ := bfacts hb2 (by first | exact Nat.le_refl _ | omega | (simp; omega) | simp); have fsb2 := hb2.size; try simp at fcb2 ffb2 fzb2 fsb2 hb2
      go_wp2_with fail
      refine (implwithin_any _ _ _ _).mono ?_; rintro e2 w3 ⟨rfl, rfl⟩
      go_wp2_with fail
      go_ret2
      exact ⟨ret_two e.out, (by repeat (first | with_reducible exact Below.refl _ _ | with_reducible assumption | (with_reducible refine Below.drew ?_) | (with_reducible refine below_drewN ?_ _) | ((with_reducible refine Below.alloc ?_ ?_ _); rotate_left; (focus (first | omega | (simp; omega) | simp))) | ((with_reducible refine Below.setCell ?_ ?_ _); rotate_left; (focus (first | omega | (simp; omega) | simp))) | (refine Below.trans ?_ (Below.mono (by assumption) (by first | omega | (simp; omega) | simp)))))⟩
set_option maxRecDepth 100000 in
set_option maxHeartbeats 1000000 in
theorem implSafeRate_ok (nm bell : ByteArray) (sw dp sf lim rate force away : Int) (w : World) (hs : nm.size ≤ maxLen) (hs' : bell.size ≤ maxLen) (h1 : vTower nm sw dp sf lim = true) (h2 : vSwing bell rate force = true) (h3 : inB away 0 1000000 = true) :
    Calls Try.prog 54 #[.agg #[.string nm, .int .i64 sw, .int .i64 dp, .int .i64 sf, .int .i64 lim], .agg #[.string bell, .int .i64 rate, .int .i64 force], .int .i64 away] w fun e w' => e = .returned (two (safeOf nm bell sw dp sf lim rate force away)) ∧ Below w.heap.size w w' := by
  obtain ⟨-, ⟨a1, a2⟩, ⟨a3, a4⟩, ⟨a5, a6⟩, -⟩ := vTower_true _ _ _ _ _ h1
  obtain ⟨-, ⟨r1, r2⟩, ⟨f1, f2⟩⟩ := vSwing_true _ _ _ h2
  have VS := hide fun r => vSwing_rate (r := r) h2
  have SOME := hide fun n r => safeOf_some (n := n) (r := r) h1 h2 h3
  have NONE := hide (safeOf_none h1 h2 h3)
  have hbW : Below w.heap.size w ((w.alloc (.cells #[.string nm, .int .i64 sw, .int .i64 dp, .int .i64 sf, .int .i64 lim] 56)).alloc (.cells #[.string bell, .int .i64 rate, .int .i64 force] 77)) := (by repeat (first | with_reducible exact Below.refl _ _ | with_reducible assumption | (with_reducible refine Below.drew ?_) | (with_reducible refine below_drewN ?_ _) | ((with_reducible refine Below.alloc ?_ ?_ _); rotate_left; (focus (first | omega | (simp; omega) | simp))) | ((with_reducible refine Below.setCell ?_ ?_ _); rotate_left; (focus (first | omega | (simp; omega) | simp))) | (refine Below.trans ?_ (Below.mono (by assumption) (by first | omega | (simp; omega) | simp)))))
  have HBW := hide hbW
  clear hbW
  go_enter Try.func54, Try.ntmps54
  go_wp2_with fail
  refine (implValidTower nm sw dp sf lim _ hs).mono ?_
  rintro e w1 ⟨rfl, hb1⟩
  obtain ⟨fcb1, ffb1, fzb1⟩ := bfacts hb1 (by first | exact Nat.le_refl _ | omega | (simp; omega) | simp); have fsb1 := hb1.size; try simp at fcb1 ffb1 fzb1 fsb1 hb1
  go_wp2_with fail
  refine (implvalidSwing bell rate force _ hs').mono ?_
  rintro e w2 ⟨rfl, hb2⟩
  have hbn := Below.trans (by first | exact hb1 | exact below_drewN hb1 _) (Below.mono hb2 (by first | omega | (simp; omega) | simp))
  clear hb2 fcb1 ffb1 fzb1 fsb1
  clear hb1
  have hb2 := hbn
  clear hbn
  obtain ⟨fcb2, ffb2, fzb2⟩ := bfacts hb2 (by first | exact Nat.le_refl _ | omega | (simp; omega) | simp); have fsb2 := hb2.size; try simp at fcb2 ffb2 fzb2 fsb2 hb2
  go_wp2_with fail
  refine (implwithin_any _ _ _ _).mono ?_; rintro e2 w3 ⟨rfl, rfl⟩
  have HB2 : Hid (Below (w.heap.size + 2) ((w.alloc (.cells #[.string nm, .int .i64 sw, .int .i64 dp, .int .i64 sf, .int .i64 lim] 56)).alloc (.cells #[.string bell, .int .i64 rate, .int .i64 force] 77)) w2) := hide hb2
  clear hb2 fcb2 ffb2 fzb2 fsb2
  go_wp2_with fail
  clear h1 h2 h3
  go_loopw [8] (fun v wr => ∃ d : Int, v = .int .i64 d ∧ 0 ≤ d ∧ d ≤ 5001 ∧ Hid (∀ j, 0 ≤ j → j < 2 * d → okRate sw dp sf force away (candR rate j) = false) ∧ Below (w.heap.size + 2) ((w.alloc (.cells #[.string nm, .int .i64 sw, .int .i64 dp, .int .i64 sf, .int .i64 lim] 56)).alloc (.cells #[.string bell, .int .i64 rate, .int .i64 force] 77)) wr) (fun v _ => (5001 - intOf v).toNat)
  case atStart => exact ⟨0, rfl, by omega, by omega, hide fun j a b => by omega, HB2.out⟩
  case round =>
    obtain ⟨d, rfl, d0, d1, hj, hb⟩ := hrel
    obtain ⟨wo, rfl⟩ : ∃ wo : World, wo = wr := ⟨_, rfl⟩
    by_cases hd : d ≤ 5000
    · have _hd := hd
      have q0_0 := hb.cell (p := ⟨w.heap.size, 0, none⟩) (by simp)
      have q0_1 := hb.cell (p := ⟨w.heap.size, 1, none⟩) (by simp)
      have q0_2 := hb.cell (p := ⟨w.heap.size, 2, none⟩) (by simp)
      have q0_3 := hb.cell (p := ⟨w.heap.size, 3, none⟩) (by simp)
      have q0_4 := hb.cell (p := ⟨w.heap.size, 4, none⟩) (by simp)
      have q1_0 := hb.cell (p := ⟨w.heap.size + 1, 0, none⟩) (by simp)
      have q1_1 := hb.cell (p := ⟨w.heap.size + 1, 1, none⟩) (by simp)
      have q1_2 := hb.cell (p := ⟨w.heap.size + 1, 2, none⟩) (by simp)
      simp at q0_0 q0_1 q0_2 q0_3 q0_4 q1_0 q1_1 q1_2
      have hz := hb.size
      simp at hz
      have hz_0 : w.heap.size < wo.heap.size := by omega
      have hz_1 : w.heap.size + 1 < wo.heap.size := by omega
      have HB := hide hb
      clear hb
      go_wp2_with fail
      clear q0_0 q0_1 q0_2 q0_3 q0_4 q1_0 q1_1 q1_2
      go_loopw [37] (fun v wi => ∃ i : Nat, v = .int .i64 i ∧ i ≤ 2 ∧ Hid (∀ j, 0 ≤ j → j < 2 * d + i → okRate sw dp sf force away (candR rate j) = false) ∧ Below (wo.heap.size + 1) (wo.alloc (.cells #[.int .i64 (rate - d), .int .i64 (rate + d)] 2)) wi) (fun v _ => 2 - (intOf v).toNat)
      case atStart => exact ⟨0, rfl, by omega, hide fun j a b => hj.out j a (by omega), Below.refl _ _⟩
      case round =>
        obtain ⟨i, rfl, hi, hj, hb⟩ := hrel
        have c0 := hb.cell (p := ⟨wo.heap.size, 0, none⟩) (by simp)
        have c1 := hb.cell (p := ⟨wo.heap.size, 1, none⟩) (by simp)
        simp at c0 c1
        have hzi := hb.size
        simp at hzi
        have hzi2 : wo.heap.size < wr.heap.size := by omega
        have hbw := HB.out.trans ((((Below.refl _ _).alloc (Nat.le_refl _) _).trans (hb.mono (by omega)) : Below wo.heap.size wo wr).mono (by omega))
        have HBI := hide hb
        clear hb
        have q0_0 := hbw.cell (p := ⟨w.heap.size, 0, none⟩) (by simp)
        have q0_1 := hbw.cell (p := ⟨w.heap.size, 1, none⟩) (by simp)
        have q0_2 := hbw.cell (p := ⟨w.heap.size, 2, none⟩) (by simp)
        have q0_3 := hbw.cell (p := ⟨w.heap.size, 3, none⟩) (by simp)
        have q0_4 := hbw.cell (p := ⟨w.heap.size, 4, none⟩) (by simp)
        have q1_0 := hbw.cell (p := ⟨w.heap.size + 1, 0, none⟩) (by simp)
        have q1_1 := hbw.cell (p := ⟨w.heap.size + 1, 1, none⟩) (by simp)
        have q1_2 := hbw.cell (p := ⟨w.heap.size + 1, 2, none⟩) (by simp)
        simp at q0_0 q0_1 q0_2 q0_3 q0_4 q1_0 q1_1 q1_2
        have hz := hbw.size
        simp at hz
        have hz_0 : w.heap.size < wr.heap.size := by omega
        have hz_1 : w.heap.size + 1 < wr.heap.size := by omega
        have HBR := hide hbw
        clear hbw
        by_cases hi2 : i < 2
        · have hr : ∃ r : Int, r = candR rate (2 * d + i) ∧ -5000 ≤ r ∧ r ≤ 10000 ∧ wr.cell? ⟨wo.heap.size, i, none⟩ = some (.int .i64 r) := by
            by_cases e0 : i = 0
            · subst e0
              exact ⟨rate - d, by rw [← cand_even]; simp, by omega, by omega, c0⟩
            · obtain rfl : i = 1 := by omega
              exact ⟨rate + d, by rw [← cand_odd]; simp, by omega, by omega, c1⟩
          obtain ⟨r, hre, r3, r4, hc⟩ := hr
          have HRE := hide hre
          clear hre c0 c1
          have hvr := VS.out r
          cases hin : inB r 100 5000
          · rw [hin] at hvr
            have hj2 := noRate hj HRE.out (ok_no1 hin)
            go_wp2_with fail
            refine (implvalidSwing bell r force _ hs').mono ?_
            rintro e4 w4 ⟨rfl, hb4⟩
            have HB4 := hide (HBI.out.trans ((((Below.refl _ _).alloc (Nat.le_refl _) _).trans (hb4.mono (by simp)) : Below wr.heap.size wr w4).mono hzi))
            clear hb4
            go_wp2_with fail
            go_roundw
            case rel => exact ⟨i + 1, by go_num, by omega, hide fun j a b => hj2.out j a (by omega), HB4.out⟩
            case measure => simp [intOf]; omega
          · rw [hin] at hvr
            obtain ⟨v1, v2⟩ := inB_true hin
            go_wp2_with fail
            refine (implvalidSwing bell r force _ hs').mono ?_
            rintro e4 w4 ⟨rfl, hb4⟩
            obtain ⟨fcb4, ffb4, fzb4⟩ := bfacts hb4 (by first | exact Nat.le_refl _ | omega | (simp; omega) | simp); have fsb4 := hb4.size; try simp at fcb4 ffb4 fzb4 fsb4 hb4
            have HB4 := hide (((Below.refl _ _).alloc (Nat.le_refl _) _).trans (hb4.mono (by omega)) : Below wr.heap.size wr w4)
            go_wp2_with fail
            refine (implamplitude nm bell sw dp sf lim r force _ a1 a2 a3 a4 a5 a6 v1 v2 f1 f2).mono ?_
            rintro e5 w5 ⟨rfl, hb5⟩
            have HB5 := hide (HB4.out.trans (hb5.mono HB4.out.size))
            clear hb4 hb5 fcb4 ffb4 fzb4
            by_cases ha : amp sw dp sf r force ≤ away
            · have e : Hid (safeOf nm bell sw dp sf lim rate force away = (r, 0)) := hide (SOME.out (2 * d + i) r (by omega) (by omega) HRE.out (ok_yes hin ha) fun j a b => hj.out j a (by omega))
              go_wp2_with fail
              go_ret2
              exact ⟨ret_two e.out, HBW.out.trans ((HBR.out.trans (HB5.out.mono (by omega))).mono (by omega))⟩
            · have hj2 := noRate hj HRE.out (ok_no2 (by omega))
              go_wp2_with fail
              go_roundw
              case rel => exact ⟨i + 1, by go_num, by omega, hide fun j a b => hj2.out j a (by omega), HBI.out.trans (HB5.out.mono hzi)⟩
              case measure => simp [intOf]; omega
        · obtain rfl : i = 2 := by omega
          go_wp2_with fail
          go_roundw
          case rel => exact ⟨d + 1, rfl, by omega, by omega, hide fun j a b => hj.out j a (by omega), HBR.out⟩
          case measure => simp [intOf]; omega
    · have e : Hid (safeOf nm bell sw dp sf lim rate force away = (0, 3)) := hide (NONE.out fun j a b => hj.out j a (by omega))
      go_wp2_with fail
      go_ret2
      exact ⟨ret_two e.out, HBW.out.trans (hb.mono (by omega))⟩
theorem implSafeRate (nm bell : ByteArray) (sw dp sf lim rate force away : Int) (w : World) (hs : nm.size ≤ maxLen) (hs' : bell.size ≤ maxLen) :
    Calls Try.prog 54 #[.agg #[.string nm, .int .i64 sw, .int .i64 dp, .int .i64 sf, .int .i64 lim], .agg #[.string bell, .int .i64 rate, .int .i64 force], .int .i64 away] w fun e w' => e = .returned (two (safeOf nm bell sw dp sf lim rate force away)) ∧ Below w.heap.size w w' := by
  cases h1 : vTower nm sw dp sf lim
  · exact implSafeRate_bad nm bell sw dp sf lim rate force away w hs hs' (.inl h1)
  · cases h2 : vSwing bell rate force
    · exact implSafeRate_bad nm bell sw dp sf lim rate force away w hs hs' (.inr (.inl h2))
    · cases h3 : inB away 0 1000000
      · exact implSafeRate_bad nm bell sw dp sf lim rate force away w hs hs' (.inr (.inr h3))
      · exact implSafeRate_ok nm bell sw dp sf lim rate force away w hs hs' h1 h2 h3
end Go.Proofs.Ytjklhacffdhgaaa
