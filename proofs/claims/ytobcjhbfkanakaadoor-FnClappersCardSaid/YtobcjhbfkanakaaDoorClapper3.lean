/- Contracts: equal clappers, the energy, the least gap; the laws of ClapperFor and GapFor. -/
import Derived.Test.YtobcjhbfkanakaaDoorClapper2
import Derived.Deep.RegionHeld3
namespace Go.Proofs.YtobcjhbfkanakaaDoor
open Go.RowKit

/-- The energy of a stroke. -/
@[irreducible] def cDrop (l g : Int) : Int := Pl.nr (g * g) (2 * l)
@[irreducible] def cEn (m l g : Int) : Int := Pl.nr (m * cDrop l g * 980665) 10000000
theorem cDrop_bd {l g : Int} (h1 : 1000 ≤ l) (h3 : 0 ≤ g) (h4 : g ≤ 50000) : 0 ≤ cDrop l g ∧ cDrop l g ≤ 1250000 := by
  have h := Pl.sq_le h3 h4
  have h0 : 0 ≤ g * g := Int.mul_nonneg h3 h3
  unfold cDrop
  exact ⟨Pl.nr_nonneg h0 (by omega), Pl.nr_le (by omega) (by omega) (by omega)⟩
theorem mulDrop_bd {m l g : Int} (hm : 0 ≤ m) (hm2 : m ≤ 1000000) (h1 : 1000 ≤ l) (h3 : 0 ≤ g) (h4 : g ≤ 50000) : 0 ≤ m * cDrop l g ∧ m * cDrop l g ≤ 1250000000000 := by
  obtain ⟨a, b⟩ := cDrop_bd h1 h3 h4
  exact ⟨Int.mul_nonneg hm a, Int.le_trans (Int.mul_le_mul hm2 b a (by omega)) (by omega)⟩
theorem cEn_mono {m l g g' : Int} (hm : 0 ≤ m) (hl : 0 < l) (h0 : 0 ≤ g) (h : g ≤ g') : cEn m l g ≤ cEn m l g' := by
  unfold cEn
  refine Pl.nr_mono (by omega) (Int.mul_le_mul_of_nonneg_right (Int.mul_le_mul_of_nonneg_left ?_ hm) (by omega))
  unfold cDrop
  exact Pl.nr_mono (by omega) (Pl.sq_le h0 h)

theorem impldrop (m l g : Int) (w : World) (h1 : 1000 ≤ l) (h2 : l ≤ 300000) (h3 : 0 ≤ g) (h4 : g ≤ 50000) : Calls Tryd.prog 54 #[.agg #[.int .i64 m, .int .i64 l, .int .i64 g]] w fun e w' =>
    e = .returned (.int .i64 (cDrop l g)) ∧ ∃ n, (w.alloc (.cells #[.int .i64 m, .int .i64 l, .int .i64 g] 25)).drewN n = w' := by
  have e : Hid (cDrop l g = Pl.nr (g * g) (2 * l)) := by unfold Hid cDrop; rfl
  have hq := Pl.sq_le h3 h4
  have hq0 : 0 ≤ g * g := Int.mul_nonneg h3 h3
  go_enter Tryd.func54, Tryd.ntmps54
  go_wp2_with (go_at_call 29; refine (nearest_any _ _ _ (by omega) (by omega) (by omega) (by omega)).mono ?_; rintro e w' ⟨rfl, n1, rfl⟩)
  go_ret
  exact ⟨ret_int e.out.symm, _, rfl⟩
set_option maxRecDepth 100000 in
theorem implenergy (m l g : Int) (w : World) (hm : 0 ≤ m) (hm2 : m ≤ 1000000) (h1 : 1000 ≤ l) (h2 : l ≤ 300000) (h3 : 0 ≤ g) (h4 : g ≤ 50000) : Calls Tryd.prog 34 #[.agg #[.int .i64 m, .int .i64 l, .int .i64 g]] w fun e w' =>
    e = .returned (.int .i64 (cEn m l g)) ∧ Below w.heap.size w w' := by
  have e : Hid (cEn m l g = Pl.nr (m * cDrop l g * 980665) 10000000) := by unfold Hid cEn; rfl
  obtain ⟨d1, d2⟩ := cDrop_bd h1 h3 h4
  obtain ⟨d3, d4⟩ := mulDrop_bd hm hm2 h1 h3 h4
  go_enter Tryd.func34, Tryd.ntmps34
  go_wp2_with fail
  have k1 : IntKind.i64.wrap (m * cDrop l g) = m * cDrop l g := IntWalk.i64_in _ (by omega)
  have k2 : IntKind.i64.wrap (m * cDrop l g * 980665) = m * cDrop l g * 980665 := IntWalk.i64_in _ (by omega)
  go_region_held3 (fun w' => w'.cell? ⟨w.heap.size, 0, none⟩ = some (.int .i64 m) ∧ w'.cell? ⟨w.heap.size, 1, none⟩ = some (.int .i64 l) ∧ w'.cell? ⟨w.heap.size, 2, none⟩ = some (.int .i64 g)) (simp [go_sem, World.cell?_alloc_past])
    (first
      | (go_at_call 54; refine (impldrop m l g _ h1 h2 h3 h4).mono ?_; rintro e w1 ⟨rfl, n2, rfl⟩)
      | (go_at_call 29; refine (nearest_any (m * cDrop l g * 980665) 10000000 _ (by omega) (by omega) (by omega) (by omega)).mono ?_; rintro e w' ⟨rfl, n1, rfl⟩))
  go_wp2
  go_ret
  exact ⟨ret_int e.out.symm, (by repeat (first | with_reducible exact Below.refl _ _ | with_reducible assumption | (with_reducible refine Below.drew ?_) | (with_reducible refine below_drewN ?_ _) | ((with_reducible refine Below.alloc ?_ ?_ _); rotate_left; (focus (first | omega | (simp; omega) | simp))) | ((with_reducible refine Below.setCell ?_ ?_ _); rotate_left; (focus (first | omega | (simp; omega) | simp))) | (refine Below.trans ?_ (Below.mono (by assumption) (by first | omega | (simp; omega) | simp)))))⟩
end Go.Proofs.YtobcjhbfkanakaaDoor
