/- Contracts: equal clappers, the energy, the least gap; the laws of ClapperFor and GapFor. -/
import Derived.Test.YtfgdfjgfgakjaaaClapper2
import Derived.Deep.RegionHeld3
namespace Go.Proofs.Ytfgdfjgfgakjaaa
open Go.RowKit

theorem lawseqClapper (a b c : Int) (w : World) : Calls Try.prog 26 #[.agg #[.int .i64 a, .int .i64 b, .int .i64 c], .agg #[.int .i64 a, .int .i64 b, .int .i64 c]] w fun e w' =>
    e = .returned (.bool true) ∧ Below w.heap.size w w' := by
  go_enter Try.func26, Try.ntmps26
  go_wp2
  go_ret
  exact ⟨rfl, (by repeat (first | exact Below.refl _ _ | refine Below.alloc ?_ (by first | omega | (simp; omega) | simp) _ | refine Below.drew ?_ | refine below_drewN ?_ _ | refine Below.setCell ?_ (by first | omega | (simp; omega) | simp) _ | (refine Below.trans ?_ (Below.mono (by assumption) (by first | omega | (simp; omega) | simp)))))⟩
theorem lawClapperFor (m h r : Int) (w : World) : Calls Try.prog 6 #[.int .i64 m, .int .i64 h, .int .i64 r] w fun e w' => e = .returned (.bool true) ∧ Below w.heap.size w w' := by
  go_enter Try.func6, Try.ntmps6
  go_wp2_with fail
  refine (specClapperFor _ _ _ _).mono ?_
  rintro e w1 ⟨rfl, hb1⟩
  obtain ⟨fcb1, ffb1, fzb1⟩ := bfacts hb1 (Nat.le_refl _); have fsb1 := hb1.size; try simp at fcb1 ffb1 fzb1 fsb1 hb1
  go_wp2_with fail
  refine (implClapperFor _ _ _ _).mono ?_
  rintro e w2 ⟨rfl, hb2⟩
  obtain ⟨fcb2, ffb2, fzb2⟩ := bfacts hb2 (Nat.le_refl _); have fsb2 := hb2.size; try simp at fcb2 ffb2 fzb2 fsb2 hb2
  go_wp2_with (go_at_call 26; refine (lawseqClapper _ _ _ _).mono ?_; rintro e w3 ⟨rfl, hb3⟩; obtain ⟨fcb3, ffb3, fzb3⟩ := bfacts hb3 (Nat.le_refl _); have fsb3 := hb3.size; try simp at fcb3 ffb3 fzb3 fsb3 hb3)
  go_ret
  exact ⟨rfl, (by repeat (first | exact Below.refl _ _ | refine Below.alloc ?_ (by first | omega | (simp; omega) | simp) _ | refine Below.drew ?_ | refine below_drewN ?_ _ | refine Below.setCell ?_ (by first | omega | (simp; omega) | simp) _ | (refine Below.trans ?_ (Below.mono (by assumption) (by first | omega | (simp; omega) | simp)))))⟩
/-- The energy of a stroke. -/
@[irreducible] def cDrop (l g : Int) : Int := Pl.nr (g * g) (2 * l)
@[irreducible] def cEn (m l g : Int) : Int := Pl.nr (m * cDrop l g * 980665) 10000000
theorem cDrop_bd {l g : Int} (h1 : 1000 ≤ l) (h3 : 0 ≤ g) (h4 : g ≤ 50000) : 0 ≤ cDrop l g ∧ cDrop l g ≤ 1250000 := by
  have h := Pl.sq_le h3 h4
  have h0 : 0 ≤ g * g := Int.mul_nonneg h3 h3
  unfold cDrop
  exact ⟨Pl.nr_nonneg h0 (by omega), Pl.nr_le (by omega) (by omega) (by omega)⟩
theorem mulDrop_bd {m l g : Int} (hm : 0 ≤ m) (hm2 : m ≤ 1000000) (h1 : 1000 ≤ l) (h3 : 0 ≤ g) (h4 : g ≤ 50000) : 0 ≤ m * cDrop l g ∧ m * cDrop l g ≤ 1250000000000 := by
  obtain ⟨a, b⟩ := cDrop_bd h1 h3 h4
  exact ⟨Int.mul_nonneg hm a, Int.le_trans (Int.mul_le_mul hm2 b a (by omega)) (by omega)⟩
theorem cEn_mono {m l g g' : Int} (hm : 0 ≤ m) (hl : 0 < l) (h0 : 0 ≤ g) (h : g ≤ g') : cEn m l g ≤ cEn m l g' := by
  unfold cEn
  refine Pl.nr_mono (by omega) (Int.mul_le_mul_of_nonneg_right (Int.mul_le_mul_of_nonneg_left ?_ hm) (by omega))
  unfold cDrop
  exact Pl.nr_mono (by omega) (Pl.sq_le h0 h)

theorem impldrop (m l g : Int) (w : World) (h1 : 1000 ≤ l) (h2 : l ≤ 300000) (h3 : 0 ≤ g) (h4 : g ≤ 50000) : Calls Try.prog 101 #[.agg #[.int .i64 m, .int .i64 l, .int .i64 g]] w fun e w' =>
    e = .returned (.int .i64 (cDrop l g)) ∧ ∃ n, (w.alloc (.cells #[.int .i64 m, .int .i64 l, .int .i64 g] 39)).drewN n = w' := by
  have e : Hid (cDrop l g = Pl.nr (g * g) (2 * l)) := by unfold Hid cDrop; rfl
  have hq := Pl.sq_le h3 h4
  have hq0 : 0 ≤ g * g := Int.mul_nonneg h3 h3
  go_enter Try.func101, Try.ntmps101
  go_wp2_with (go_at_call 68; refine (nearest_any _ _ _ (by omega) (by omega) (by omega) (by omega)).mono ?_; rintro e w' ⟨rfl, n1, rfl⟩)
  go_ret
  exact ⟨ret_int e.out.symm, _, rfl⟩
set_option maxRecDepth 100000 in
theorem implenergy (m l g : Int) (w : World) (hm : 0 ≤ m) (hm2 : m ≤ 1000000) (h1 : 1000 ≤ l) (h2 : l ≤ 300000) (h3 : 0 ≤ g) (h4 : g ≤ 50000) : Calls Try.prog 77 #[.agg #[.int .i64 m, .int .i64 l, .int .i64 g]] w fun e w' =>
    e = .returned (.int .i64 (cEn m l g)) ∧ Below w.heap.size w w' := by
  have e : Hid (cEn m l g = Pl.nr (m * cDrop l g * 980665) 10000000) := by unfold Hid cEn; rfl
  obtain ⟨d1, d2⟩ := cDrop_bd h1 h3 h4
  obtain ⟨d3, d4⟩ := mulDrop_bd hm hm2 h1 h3 h4
  go_enter Try.func77, Try.ntmps77
  go_wp2_with fail
  have k1 : IntKind.i64.wrap (m * cDrop l g) = m * cDrop l g := IntWalk.i64_in _ (by omega)
  have k2 : IntKind.i64.wrap (m * cDrop l g * 980665) = m * cDrop l g * 980665 := IntWalk.i64_in _ (by omega)
  go_region_held3 (fun w' => w'.cell? ⟨w.heap.size, 0, none⟩ = some (.int .i64 m) ∧ w'.cell? ⟨w.heap.size, 1, none⟩ = some (.int .i64 l) ∧ w'.cell? ⟨w.heap.size, 2, none⟩ = some (.int .i64 g)) (simp [go_sem, World.cell?_alloc_past])
    (first
      | (go_at_call 101; refine (impldrop m l g _ h1 h2 h3 h4).mono ?_; rintro e w1 ⟨rfl, n2, rfl⟩)
      | (go_at_call 68; refine (nearest_any (m * cDrop l g * 980665) 10000000 _ (by omega) (by omega) (by omega) (by omega)).mono ?_; rintro e w' ⟨rfl, n1, rfl⟩))
  go_wp2
  go_ret
  exact ⟨ret_int e.out.symm, (by repeat (first | exact Below.refl _ _ | refine Below.alloc ?_ (by first | omega | (simp; omega) | simp) _ | refine Below.drew ?_ | refine below_drewN ?_ _ | refine Below.setCell ?_ (by first | omega | (simp; omega) | simp) _ | (refine Below.trans ?_ (Below.mono (by assumption) (by first | omega | (simp; omega) | simp)))))⟩
theorem specl20Drop (bl : Nat) (l g : Int) (w : World) (c1 : w.cell? ⟨bl, 1, none⟩ = some (.int .i64 l)) (c2 : w.cell? ⟨bl, 2, none⟩ = some (.int .i64 g)) (h1 : 1000 ≤ l) (h2 : l ≤ 300000) (h3 : 0 ≤ g) (h4 : g ≤ 50000) :
    Calls Try.prog 100 #[.pointer (some ⟨bl, 0, none⟩)] w fun e w' => e = .returned (.int .i64 (cDrop l g)) ∧ ∃ n, w.drewN n = w' := by
  have e : Hid (cDrop l g = Pl.nr (g * g) (2 * l)) := by unfold Hid cDrop; rfl
  have hq := Pl.sq_le h3 h4
  have hq0 : 0 ≤ g * g := Int.mul_nonneg h3 h3
  go_enter Try.func100, Try.ntmps100
  go_wp2_with fail
  go_quiet ((go_at_call 65; exact Calls.quiet_of_same ((l01Div_any _ _ _ (by omega) (by omega) (by omega) (by omega)).mono fun _ _ hh => ⟨hh.1, hh.2.symm⟩)))
  go_wp2
  go_ret
  exact ⟨ret_int e.out.symm, _, rfl⟩
theorem specl20Energy (bl : Nat) (m l g : Int) (w : World) (c0 : w.cell? ⟨bl, 0, none⟩ = some (.int .i64 m)) (c1 : w.cell? ⟨bl, 1, none⟩ = some (.int .i64 l)) (c2 : w.cell? ⟨bl, 2, none⟩ = some (.int .i64 g))
    (hm : 0 ≤ m) (hm2 : m ≤ 1000000) (h1 : 1000 ≤ l) (h2 : l ≤ 300000) (h3 : 0 ≤ g) (h4 : g ≤ 50000) :
    Calls Try.prog 76 #[.pointer (some ⟨bl, 0, none⟩)] w fun e w' => e = .returned (.int .i64 (cEn m l g)) ∧ ∃ n, w.drewN n = w' := by
  have e : Hid (cEn m l g = Pl.nr (m * cDrop l g * 980665) 10000000) := by unfold Hid cEn; rfl
  obtain ⟨d1, d2⟩ := cDrop_bd h1 h3 h4
  obtain ⟨d3, d4⟩ := mulDrop_bd hm hm2 h1 h3 h4
  go_enter Try.func76, Try.ntmps76
  go_wp2_with fail
  go_quiet ((first | (go_at_call 65; exact Calls.quiet_of_same ((l01Div_any _ _ _ (by omega) (by omega) (by omega) (by omega)).mono fun _ _ hh => ⟨hh.1, hh.2.symm⟩)) | (go_at_call 100; exact Calls.quiet_of ((specl20Drop _ l g _ (by simpa using c1) (by simpa using c2) h1 h2 h3 h4).mono fun _ _ hh => ⟨hh.1, hh.2.imp fun _ h => h.symm⟩))))
  go_wp2
  go_ret
  exact ⟨ret_int e.out.symm, _, rfl⟩
end Go.Proofs.Ytfgdfjgfgakjaaa
