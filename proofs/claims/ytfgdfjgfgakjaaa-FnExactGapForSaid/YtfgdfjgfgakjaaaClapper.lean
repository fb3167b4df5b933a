/- Contracts of the clapper's functions on both sides. -/
import Derived.Test.YtfgdfjgfgakjaaaRoot
namespace Go.Proofs.Ytfgdfjgfgakjaaa
open Go.RowKit

/-- The time of a full swing. -/
@[irreducible] def cT (l : Int) : Int := Pl.rt (Pl.nr (40257 * l) 1000)
theorem cT_mono {a b : Int} (h : a ≤ b) : cT a ≤ cT b := by unfold cT; exact Pl.rt_mono (Pl.nr_mono (by omega) (by omega))
theorem cT_nonneg (a : Int) : 0 ≤ cT a := by unfold cT; exact Pl.rt_nonneg _

theorem pendulumTime_any (l : Int) (w : World) (h1 : 1 ≤ l) (h2 : l ≤ 300000) : Calls Try.prog 62 #[.int .i64 l] w fun e w' => e = .returned (.int .i64 (cT l)) ∧ ∃ n, w.drewN n = w' := by
  have e : Hid (cT l = Pl.rt (Pl.nr (40257 * l) 1000)) := by unfold Hid cT; rfl
  have hb : Pl.nr (40257 * l) 1000 ≤ 12077100 := Pl.nr_le (by omega) (by omega) (by omega)
  go_enter Try.func62, Try.ntmps62
  go_wp2_with (first
    | (go_at_call 68; refine (nearest_any _ _ _ (by omega) (by omega) (by omega) (by omega)).mono ?_; rintro e w' ⟨rfl, n1, rfl⟩)
    | (go_at_call 97; refine (RootOf_any _ _ (by omega)).mono ?_; rintro e w' ⟨rfl, rfl⟩))
  go_ret
  exact ⟨ret_int e.out.symm, _, rfl⟩
theorem l20Time_any (l : Int) (w : World) (h1 : 1 ≤ l) (h2 : l ≤ 300000) : Calls Try.prog 60 #[.int .i64 l] w fun e w' => e = .returned (.int .i64 (cT l)) ∧ w = w' := by
  have e : Hid (cT l = Pl.rt (Pl.nr (40257 * l) 1000)) := by unfold Hid cT; rfl
  have hb : Pl.nr (40257 * l) 1000 ≤ 12077100 := Pl.nr_le (by omega) (by omega) (by omega)
  go_enter Try.func60, Try.ntmps60
  go_wp2_with (first
    | (go_at_call 65; refine (l01Div_any _ _ _ (by omega) (by omega) (by omega) (by omega)).mono ?_; rintro e w' ⟨rfl, rfl⟩)
    | (go_at_call 96; refine (l01Root_any _ _ (by omega)).mono ?_; rintro e w' ⟨rfl, rfl⟩))
  go_ret
  exact ⟨ret_int e.out.symm, rfl⟩

/-- A pair of numbers as a result. -/
abbrev two (p : Int × Int) : Value := .tuple #[.int .i64 p.1, .int .i64 p.2]
theorem ret_two {a b : Int} {p : Int × Int} (h : p = (a, b)) : Ending.returned (.tuple #[.int .i64 a, .int .i64 b]) = .returned (.tuple #[.int .i64 p.1, .int .i64 p.2]) := by subst h; rfl

@[irreducible] def pendT (l : Int) : Int × Int := if inB l 1 300000 then (cT l, 0) else (0, 2)
theorem implPendulumTime_any (l : Int) (w : World) : Calls Try.prog 23 #[.int .i64 l] w fun e w' => e = .returned (.tuple #[.int .i64 (pendT l).1, .int .i64 (pendT l).2]) ∧ ∃ n, w.drewN n = w' := by
  cases h : inB l 1 300000
  · have e : Hid (pendT l = (0, 2)) := by unfold Hid pendT; simp [h]
    go_enter Try.func23, Try.ntmps23
    go_wp2_with (first
      | (go_at_call 61; refine (implisExtent_any _ _).mono ?_; rintro e w' ⟨rfl, rfl⟩)
      | (go_at_call 62; refine (pendulumTime_any _ _ (by omega) (by omega)).mono ?_; rintro e w' ⟨rfl,n1,rfl⟩))
    go_ret2
    exact ⟨ret_two e.out, 0, rfl⟩
  · have e : Hid (pendT l = (cT l, 0)) := by unfold Hid pendT; simp [h]
    obtain ⟨b1, b2⟩ := inB_true h
    go_enter Try.func23, Try.ntmps23
    go_wp2_with (first
      | (go_at_call 61; refine (implisExtent_any _ _).mono ?_; rintro e w' ⟨rfl, rfl⟩)
      | (go_at_call 62; refine (pendulumTime_any _ _ (by omega) (by omega)).mono ?_; rintro e w' ⟨rfl,n1,rfl⟩))
    go_ret2
    first | exact ⟨ret_two e.out, _, rfl⟩ | exact ⟨ret_two e.out, 0, rfl⟩
theorem specPendulumTime_any (l : Int) (w : World) : Calls Try.prog 22 #[.int .i64 l] w fun e w' => e = .returned (.tuple #[.int .i64 (pendT l).1, .int .i64 (pendT l).2]) ∧ ∃ n, w.drewN n = w' := by
  cases h : inB l 1 300000
  · have e : Hid (pendT l = (0, 2)) := by unfold Hid pendT; simp [h]
    go_enter Try.func22, Try.ntmps22
    go_wp2_with (first
      | (go_at_call 59; refine (specl00In_any _ _ _ _).mono ?_; rintro e w' ⟨rfl, rfl⟩)
      | (go_at_call 60; refine (l20Time_any _ _ (by omega) (by omega)).mono ?_; rintro e w' ⟨rfl,rfl⟩))
    go_ret2
    exact ⟨ret_two e.out, 0, rfl⟩
  · have e : Hid (pendT l = (cT l, 0)) := by unfold Hid pendT; simp [h]
    obtain ⟨b1, b2⟩ := inB_true h
    go_enter Try.func22, Try.ntmps22
    go_wp2_with (first
      | (go_at_call 59; refine (specl00In_any _ _ _ _).mono ?_; rintro e w' ⟨rfl, rfl⟩)
      | (go_at_call 60; refine (l20Time_any _ _ (by omega) (by omega)).mono ?_; rintro e w' ⟨rfl,rfl⟩))
    go_ret2
    first | exact ⟨ret_two e.out, _, rfl⟩ | exact ⟨ret_two e.out, 0, rfl⟩
theorem lawPendulumTime (l : Int) (w : World) : Calls Try.prog 5 #[.int .i64 l] w fun e w' => e = .returned (.bool true) ∧ Below w.heap.size w w' := by
  go_enter Try.func5, Try.ntmps5
  go_wp2_with (first
    | (go_at_call 22; refine (specPendulumTime_any _ _).mono ?_; rintro e w' ⟨rfl, n1, rfl⟩)
    | (go_at_call 23; refine (implPendulumTime_any _ _).mono ?_; rintro e w' ⟨rfl, n1, rfl⟩))
  go_ret
  exact ⟨rfl, (by repeat (first | exact Below.refl _ _ | refine Below.alloc ?_ (by first | omega | (simp; omega) | simp) _ | refine Below.drew ?_ | refine below_drewN ?_ _ | refine Below.setCell ?_ (by first | omega | (simp; omega) | simp) _ | (refine Below.trans ?_ (Below.mono (by assumption) (by first | omega | (simp; omega) | simp)))))⟩

@[irreducible] def lenFor (t : Int) : Int × Int := if inB t 1 10000 then match Pl.firstFrom (fun l => decide (t ≤ cT l)) 1 300000 with | some r => (r, 0) | none => (0, 3) else (0, 2)
theorem lenFor_bad {t : Int} (h : inB t 1 10000 = false) : lenFor t = (0, 2) := by unfold lenFor; simp [h]
theorem lenFor_some {t r : Int} (h : inB t 1 10000 = true) (h1 : 1 ≤ r) (h2 : r ≤ 300000) (hr : t ≤ cT r) (hj : ∀ j, 1 ≤ j → j < r → cT j < t) : lenFor t = (r, 0) := by
  unfold lenFor
  rw [if_pos h, Pl.firstFrom_some (r := r) h1 (by omega) (by simpa using hr) (fun j a b => by have := hj j a b; simp; omega)]
theorem lenFor_none {t : Int} (h : inB t 1 10000 = true) (hj : ∀ j, 1 ≤ j → j ≤ 300000 → cT j < t) : lenFor t = (0, 3) := by
  unfold lenFor
  rw [if_pos h, Pl.firstFrom_none (fun j a b => by have := hj j a (by omega); simp; omega)]

theorem implLengthFor_any (t : Int) (w : World) : Calls Try.prog 35 #[.int .i64 t] w fun e w' => e = .returned (.tuple #[.int .i64 (lenFor t).1, .int .i64 (lenFor t).2]) ∧ ∃ n, w.drewN n = w' := by
  cases h : inB t 1 10000
  · have e : Hid (lenFor t = (0, 2)) := lenFor_bad h
    go_enter Try.func35, Try.ntmps35
    go_wp2_with (go_at_call 56; refine (implwithin_any _ _ _ _).mono ?_; rintro e w' ⟨rfl, rfl⟩)
    go_ret2
    exact ⟨ret_two e.out, 0, rfl⟩
  · have H := hide h
    go_enter Try.func35, Try.ntmps35
    go_wp2_with (go_at_call 56; refine (implwithin_any _ _ _ _).mono ?_; rintro e w' ⟨rfl, rfl⟩)
    go_loopw [4] (fun v wr => ∃ l : Int, v = .int .i64 l ∧ 1 ≤ l ∧ l ≤ 300001 ∧ Hid (∀ j, 1 ≤ j → j < l → cT j < t) ∧ ∃ n, wr = w.drewN n) (fun v _ => (300001 - intOf v).toNat)
    case atStart => exact ⟨1, rfl, by omega, by omega, hide fun j a b => by omega, 0, rfl⟩
    case round =>
      obtain ⟨l, rfl, h1, h2, hj, n0, rfl⟩ := hrel
      by_cases hl : l ≤ 300000
      · by_cases ht : t ≤ cT l
        · have e : Hid (lenFor t = (l, 0)) := lenFor_some H.out h1 hl ht hj
          go_wp2_with (go_at_call 62; refine (pendulumTime_any _ _ (by omega) (by omega)).mono ?_; rintro e w' ⟨rfl, n1, rfl⟩)
          go_ret2
          exact ⟨ret_two e.out, _, rfl⟩
        · have hj' : Hid (∀ j, 1 ≤ j → j < l + 1 → cT j < t) := fun j a b => by
            by_cases e : j = l
            · subst e; omega
            · exact hj.out j a (by omega)
          go_wp2_with (go_at_call 62; refine (pendulumTime_any _ _ (by omega) (by omega)).mono ?_; rintro e w' ⟨rfl, n1, rfl⟩)
          go_roundw
          case rel => exact ⟨l + 1, rfl, by omega, by omega, hj', _, rfl⟩
          case measure => simp [intOf]; omega
      · have e : Hid (lenFor t = (0, 3)) := lenFor_none H.out fun j a b => hj.out j a (by omega)
        go_wp2_with fail
        go_ret2
        exact ⟨ret_two e.out, _, rfl⟩
theorem specLengthFor_any (t : Int) (w : World) : Calls Try.prog 34 #[.int .i64 t] w fun e w' => e = .returned (.tuple #[.int .i64 (lenFor t).1, .int .i64 (lenFor t).2]) ∧ ∃ n, w.drewN n = w' := by
  cases h : inB t 1 10000
  · have e : Hid (lenFor t = (0, 2)) := lenFor_bad h
    go_enter Try.func34, Try.ntmps34
    go_wp2_with (go_at_call 59; refine (specl00In_any _ _ _ _).mono ?_; rintro e w' ⟨rfl, rfl⟩)
    go_ret2
    exact ⟨ret_two e.out, 0, rfl⟩
  · have H := hide h
    by_cases hmax : cT 300000 < t
    · have e : Hid (lenFor t = (0, 3)) := lenFor_none h fun j a b => by have := cT_mono (a := j) (b := 300000) (by omega); omega
      go_enter Try.func34, Try.ntmps34
      go_wp2_with (first
        | (go_at_call 59; refine (specl00In_any _ _ _ _).mono ?_; rintro e w' ⟨rfl, rfl⟩)
        | (go_at_call 60; refine (l20Time_any _ _ (by omega) (by omega)).mono ?_; rintro e w' ⟨rfl, rfl⟩))
      go_ret2
      exact ⟨ret_two e.out, 0, rfl⟩
    · have hmax' : t ≤ cT 300000 := by omega
      go_enter Try.func34, Try.ntmps34
      go_wp2_with (first
        | (go_at_call 59; refine (specl00In_any _ _ _ _).mono ?_; rintro e w' ⟨rfl, rfl⟩)
        | (go_at_call 60; refine (l20Time_any _ _ (by omega) (by omega)).mono ?_; rintro e w' ⟨rfl, rfl⟩))
      go_loop [4, 5] (fun a b => ∃ lo hi : Int, a = .int .i64 lo ∧ b = .int .i64 hi ∧ 1 ≤ lo ∧ lo ≤ hi ∧ hi ≤ 300000 ∧ Hid (t ≤ cT hi) ∧ Hid (∀ j, 1 ≤ j → j < lo → cT j < t)) (fun a b => (intOf b - intOf a).toNat)
      case atStart => exact ⟨1, _, rfl, rfl, by omega, by omega, by omega, hmax', hide fun j a b => by omega⟩
      case round =>
        obtain ⟨lo, hi, rfl, rfl, h1, h2, h3, hh, hj⟩ := hrel
        by_cases hl : lo < hi
        · by_cases ht : t ≤ cT ((lo + hi) / 2)
          · go_wp2_with (go_at_call 60; refine (l20Time_any _ _ (by omega) (by omega)).mono ?_; rintro e w' ⟨rfl, rfl⟩)
            go_round
            case rel => exact ⟨_, _, rfl, rfl, by omega, by omega, by omega, ht, hj⟩
            case measure => simp [intOf]; omega
          · have hj' : Hid (∀ j, 1 ≤ j → j < (lo + hi) / 2 + 1 → cT j < t) := fun j a b => by have := cT_mono (a := j) (b := (lo + hi) / 2) (by omega); omega
            go_wp2_with (go_at_call 60; refine (l20Time_any _ _ (by omega) (by omega)).mono ?_; rintro e w' ⟨rfl, rfl⟩)
            go_round
            case rel => exact ⟨_, _, rfl, rfl, by omega, by omega, by omega, hh, hj'⟩
            case measure => simp [intOf]; omega
        · obtain rfl : lo = hi := by omega
          have e : Hid (lenFor t = (lo, 0)) := lenFor_some H.out h1 h3 hh hj
          go_wp2_with fail
          go_ret2
          exact ⟨ret_two e.out, 0, rfl⟩
theorem lawLengthFor (l : Int) (w : World) : Calls Try.prog 9 #[.int .i64 l] w fun e w' => e = .returned (.bool true) ∧ Below w.heap.size w w' := by
  go_enter Try.func9, Try.ntmps9
  go_wp2_with (first
    | (go_at_call 34; refine (specLengthFor_any _ _).mono ?_; rintro e w' ⟨rfl, n1, rfl⟩)
    | (go_at_call 35; refine (implLengthFor_any _ _).mono ?_; rintro e w' ⟨rfl, n1, rfl⟩))
  go_ret
  exact ⟨rfl, (by repeat (first | exact Below.refl _ _ | refine Below.alloc ?_ (by first | omega | (simp; omega) | simp) _ | refine Below.drew ?_ | refine below_drewN ?_ _ | refine Below.setCell ?_ (by first | omega | (simp; omega) | simp) _ | (refine Below.trans ?_ (Below.mono (by assumption) (by first | omega | (simp; omega) | simp)))))⟩
end Go.Proofs.Ytfgdfjgfgakjaaa
