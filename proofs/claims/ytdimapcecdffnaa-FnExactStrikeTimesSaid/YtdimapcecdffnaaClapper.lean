/- Contracts of the clapper's functions on both sides. -/
import Derived.Test.YtdimapcecdffnaaRoot
namespace Go.Proofs.Ytdimapcecdffnaa
open Go.RowKit

/-- The time of a full swing. -/
@[irreducible] def cT (l : Int) : Int := Pl.rt (Pl.nr (40257 * l) 1000)
theorem cT_mono {a b : Int} (h : a ≤ b) : cT a ≤ cT b := by unfold cT; exact Pl.rt_mono (Pl.nr_mono (by omega) (by omega))
theorem cT_nonneg (a : Int) : 0 ≤ cT a := by unfold cT; exact Pl.rt_nonneg _

theorem pendulumTime_any (l : Int) (w : World) (h1 : 1 ≤ l) (h2 : l ≤ 300000) : Calls Try.prog 110 #[.int .i64 l] w fun e w' => e = .returned (.int .i64 (cT l)) ∧ ∃ n, w.drewN n = w' := by
  have e : Hid (cT l = Pl.rt (Pl.nr (40257 * l) 1000)) := by unfold Hid cT; rfl
  have hb : Pl.nr (40257 * l) 1000 ≤ 12077100 := Pl.nr_le (by omega) (by omega) (by omega)
  go_enter Try.func110, Try.ntmps110
  go_wp2_with (first
    | (go_at_call 111; refine (nearest_any _ _ _ (by omega) (by omega) (by omega) (by omega)).mono ?_; rintro e w' ⟨rfl, n1, rfl⟩)
    | (go_at_call 115; refine (RootOf_any _ _ (by omega)).mono ?_; rintro e w' ⟨rfl, rfl⟩))
  go_ret
  exact ⟨ret_int e.out.symm, _, rfl⟩
theorem l20Time_any (l : Int) (w : World) (h1 : 1 ≤ l) (h2 : l ≤ 300000) : Calls Try.prog 106 #[.int .i64 l] w fun e w' => e = .returned (.int .i64 (cT l)) ∧ w = w' := by
  have e : Hid (cT l = Pl.rt (Pl.nr (40257 * l) 1000)) := by unfold Hid cT; rfl
  have hb : Pl.nr (40257 * l) 1000 ≤ 12077100 := Pl.nr_le (by omega) (by omega) (by omega)
  go_enter Try.func106, Try.ntmps106
  go_wp2_with (first
    | (go_at_call 108; refine (l01Div_any _ _ _ (by omega) (by omega) (by omega) (by omega)).mono ?_; rintro e w' ⟨rfl, rfl⟩)
    | (go_at_call 113; refine (l01Root_any _ _ (by omega)).mono ?_; rintro e w' ⟨rfl, rfl⟩))
  go_ret
  exact ⟨ret_int e.out.symm, rfl⟩

@[irreducible] def pendT (l : Int) : Int × Int := if inB l 1 300000 then (cT l, 0) else (0, 2)

@[irreducible] def lenFor (t : Int) : Int × Int := if inB t 1 10000 then match Pl.firstFrom (fun l => decide (t ≤ cT l)) 1 300000 with | some r => (r, 0) | none => (0, 3) else (0, 2)
theorem lenFor_bad {t : Int} (h : inB t 1 10000 = false) : lenFor t = (0, 2) := by unfold lenFor; simp [h]
theorem lenFor_some {t r : Int} (h : inB t 1 10000 = true) (h1 : 1 ≤ r) (h2 : r ≤ 300000) (hr : t ≤ cT r) (hj : ∀ j, 1 ≤ j → j < r → cT j < t) : lenFor t = (r, 0) := by
  unfold lenFor
  rw [if_pos h, Pl.firstFrom_some (r := r) h1 (by omega) (by simpa using hr) (fun j a b => by have := hj j a b; simp; omega)]
theorem lenFor_none {t : Int} (h : inB t 1 10000 = true) (hj : ∀ j, 1 ≤ j → j ≤ 300000 → cT j < t) : lenFor t = (0, 3) := by
  unfold lenFor
  rw [if_pos h, Pl.firstFrom_none (fun j a b => by have := hj j a (by omega); simp; omega)]

end Go.Proofs.Ytdimapcecdffnaa
