/- Contracts of the clapper's functions on both sides. -/
import Derived.Test.YtajodbhbmfjmjaaGreatDoorRoot
namespace Go.Proofs.YtajodbhbmfjmjaaGreatDoor
open Go.RowKit

/-- The time of a full swing. -/
@[irreducible] def cT (l : Int) : Int := Pl.rt (Pl.nr (40257 * l) 1000)
theorem cT_mono {a b : Int} (h : a ≤ b) : cT a ≤ cT b := by unfold cT; exact Pl.rt_mono (Pl.nr_mono (by omega) (by omega))
theorem cT_nonneg (a : Int) : 0 ≤ cT a := by unfold cT; exact Pl.rt_nonneg _


@[irreducible] def pendT (l : Int) : Int × Int := if inB l 1 300000 then (cT l, 0) else (0, 2)

@[irreducible] def lenFor (t : Int) : Int × Int := if inB t 1 10000 then match Pl.firstFrom (fun l => decide (t ≤ cT l)) 1 300000 with | some r => (r, 0) | none => (0, 3) else (0, 2)
theorem lenFor_bad {t : Int} (h : inB t 1 10000 = false) : lenFor t = (0, 2) := by unfold lenFor; simp [h]
theorem lenFor_some {t r : Int} (h : inB t 1 10000 = true) (h1 : 1 ≤ r) (h2 : r ≤ 300000) (hr : t ≤ cT r) (hj : ∀ j, 1 ≤ j → j < r → cT j < t) : lenFor t = (r, 0) := by
  unfold lenFor
  rw [if_pos h, Pl.firstFrom_some (r := r) h1 (by omega) (by simpa using hr) (fun j a b => by have := hj j a b; simp; omega)]
theorem lenFor_none {t : Int} (h : inB t 1 10000 = true) (hj : ∀ j, 1 ≤ j → j ≤ 300000 → cT j < t) : lenFor t = (0, 3) := by
  unfold lenFor
  rw [if_pos h, Pl.firstFrom_none (fun j a b => by have := hj j a (by omega); simp; omega)]

end Go.Proofs.YtajodbhbmfjmjaaGreatDoor
