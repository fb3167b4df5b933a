/- Contracts of the clapper's functions on both sides. -/
import Derived.Test.YtobcjhbfkanakaaDoorRoot
namespace Go.Proofs.YtobcjhbfkanakaaDoor
open Go.RowKit

/-- The time of a full swing. -/
@[irreducible] def cT (l : Int) : Int := Pl.rt (Pl.nr (40257 * l) 1000)
theorem cT_mono {a b : Int} (h : a ≤ b) : cT a ≤ cT b := by unfold cT; exact Pl.rt_mono (Pl.nr_mono (by omega) (by omega))
theorem cT_nonneg (a : Int) : 0 ≤ cT a := by unfold cT; exact Pl.rt_nonneg _

theorem pendulumTime_any (l : Int) (w : World) (h1 : 1 ≤ l) (h2 : l ≤ 300000) : Calls Tryd.prog 28 #[.int .i64 l] w fun e w' => e = .returned (.int .i64 (cT l)) ∧ ∃ n, w.drewN n = w' := by
  have e : Hid (cT l = Pl.rt (Pl.nr (40257 * l) 1000)) := by unfold Hid cT; rfl
  have hb : Pl.nr (40257 * l) 1000 ≤ 12077100 := Pl.nr_le (by omega) (by omega) (by omega)
  go_enter Tryd.func28, Tryd.ntmps28
  go_wp2_with (first
    | (go_at_call 29; refine (nearest_any _ _ _ (by omega) (by omega) (by omega) (by omega)).mono ?_; rintro e w' ⟨rfl, n1, rfl⟩)
    | (go_at_call 47; refine (RootOf_any _ _ (by omega)).mono ?_; rintro e w' ⟨rfl, rfl⟩))
  go_ret
  exact ⟨ret_int e.out.symm, _, rfl⟩

@[irreducible] def pendT (l : Int) : Int × Int := if inB l 1 300000 then (cT l, 0) else (0, 2)
theorem implPendulumTime_any (l : Int) (w : World) : Calls Tryd.prog 8 #[.int .i64 l] w fun e w' => e = .returned (.tuple #[.int .i64 (pendT l).1, .int .i64 (pendT l).2]) ∧ ∃ n, w.drewN n = w' := by
  cases h : inB l 1 300000
  · have e : Hid (pendT l = (0, 2)) := by unfold Hid pendT; simp [h]
    go_enter Tryd.func8, Tryd.ntmps8
    go_wp2_with (first
      | (go_at_call 30; refine (implisExtent_any _ _).mono ?_; rintro e w' ⟨rfl, rfl⟩)
      | (go_at_call 28; refine (pendulumTime_any _ _ (by omega) (by omega)).mono ?_; rintro e w' ⟨rfl,n1,rfl⟩))
    go_ret2
    exact ⟨ret_two e.out, 0, rfl⟩
  · have e : Hid (pendT l = (cT l, 0)) := by unfold Hid pendT; simp [h]
    obtain ⟨b1, b2⟩ := inB_true h
    go_enter Tryd.func8, Tryd.ntmps8
    go_wp2_with (first
      | (go_at_call 30; refine (implisExtent_any _ _).mono ?_; rintro e w' ⟨rfl, rfl⟩)
      | (go_at_call 28; refine (pendulumTime_any _ _ (by omega) (by omega)).mono ?_; rintro e w' ⟨rfl,n1,rfl⟩))
    go_ret2
    first | exact ⟨ret_two e.out, _, rfl⟩ | exact ⟨ret_two e.out, 0, rfl⟩

@[irreducible] def lenFor (t : Int) : Int × Int := if inB t 1 10000 then match Pl.firstFrom (fun l => decide (t ≤ cT l)) 1 300000 with | some r => (r, 0) | none => (0, 3) else (0, 2)
theorem lenFor_bad {t : Int} (h : inB t 1 10000 = false) : lenFor t = (0, 2) := by unfold lenFor; simp [h]
theorem lenFor_some {t r : Int} (h : inB t 1 10000 = true) (h1 : 1 ≤ r) (h2 : r ≤ 300000) (hr : t ≤ cT r) (hj : ∀ j, 1 ≤ j → j < r → cT j < t) : lenFor t = (r, 0) := by
  unfold lenFor
  rw [if_pos h, Pl.firstFrom_some (r := r) h1 (by omega) (by simpa using hr) (fun j a b => by have := hj j a b; simp; omega)]
theorem lenFor_none {t : Int} (h : inB t 1 10000 = true) (hj : ∀ j, 1 ≤ j → j ≤ 300000 → cT j < t) : lenFor t = (0, 3) := by
  unfold lenFor
  rw [if_pos h, Pl.firstFrom_none (fun j a b => by have := hj j a (by omega); simp; omega)]

theorem implLengthFor_any (t : Int) (w : World) : Calls Tryd.prog 16 #[.int .i64 t] w fun e w' => e = .returned (.tuple #[.int .i64 (lenFor t).1, .int .i64 (lenFor t).2]) ∧ ∃ n, w.drewN n = w' := by
  cases h : inB t 1 10000
  · have e : Hid (lenFor t = (0, 2)) := lenFor_bad h
    go_enter Tryd.func16, Tryd.ntmps16
    go_wp2_with (go_at_call 33; refine (implwithin_any _ _ _ _).mono ?_; rintro e w' ⟨rfl, rfl⟩)
    go_ret2
    exact ⟨ret_two e.out, 0, rfl⟩
  · have H := hide h
    go_enter Tryd.func16, Tryd.ntmps16
    go_wp2_with (go_at_call 33; refine (implwithin_any _ _ _ _).mono ?_; rintro e w' ⟨rfl, rfl⟩)
    go_loopw [4] (fun v wr => ∃ l : Int, v = .int .i64 l ∧ 1 ≤ l ∧ l ≤ 300001 ∧ Hid (∀ j, 1 ≤ j → j < l → cT j < t) ∧ ∃ n, wr = w.drewN n) (fun v _ => (300001 - intOf v).toNat)
    case atStart => exact ⟨1, rfl, by omega, by omega, hide fun j a b => by omega, 0, rfl⟩
    case round =>
      obtain ⟨l, rfl, h1, h2, hj, n0, rfl⟩ := hrel
      by_cases hl : l ≤ 300000
      · by_cases ht : t ≤ cT l
        · have e : Hid (lenFor t = (l, 0)) := lenFor_some H.out h1 hl ht hj
          go_wp2_with (go_at_call 28; refine (pendulumTime_any _ _ (by omega) (by omega)).mono ?_; rintro e w' ⟨rfl, n1, rfl⟩)
          go_ret2
          exact ⟨ret_two e.out, _, rfl⟩
        · have hj' : Hid (∀ j, 1 ≤ j → j < l + 1 → cT j < t) := fun j a b => by
            by_cases e : j = l
            · subst e; omega
            · exact hj.out j a (by omega)
          go_wp2_with (go_at_call 28; refine (pendulumTime_any _ _ (by omega) (by omega)).mono ?_; rintro e w' ⟨rfl, n1, rfl⟩)
          go_roundw
          case rel => exact ⟨l + 1, rfl, by omega, by omega, hj', _, rfl⟩
          case measure => simp [intOf]; omega
      · have e : Hid (lenFor t = (0, 3)) := lenFor_none H.out fun j a b => hj.out j a (by omega)
        go_wp2_with fail
        go_ret2
        exact ⟨ret_two e.out, _, rfl⟩
end Go.Proofs.YtobcjhbfkanakaaDoor
