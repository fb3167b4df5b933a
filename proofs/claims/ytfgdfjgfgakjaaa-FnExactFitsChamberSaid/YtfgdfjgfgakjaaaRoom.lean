/- Contracts: the room between bells, whether a place is within a chamber, on both sides; the laws of ValidTower, FitsChamber, ClearanceOf. -/
import Derived.Test.YtfgdfjgfgakjaaaValid
import Derived.Test.YtfgdfjgfgakjaaaRoot
import Derived.Deep.RegionHeld3
namespace Go.Proofs.Ytfgdfjgfgakjaaa
open Go.RowKit

theorem lawValidTower (x0 : ByteArray) (x1 x2 x3 x4 : Int) (w : World) (hs0 : x0.size ≤ maxLen) : Calls Try.prog 4 #[.agg #[.string x0, .int .i64 x1, .int .i64 x2, .int .i64 x3, .int .i64 x4]] w fun e w' => e = .returned (.bool true) ∧ Below w.heap.size w w' := by
  by_cases hz : (x0.size : Int) ≤ 1048576
  · go_enter Try.func4, Try.ntmps4
    go_wp2_with fail
    refine (lawsszTower_ok _ _ _ _ _ _ _ hz (by omega)).mono ?_
    rintro e w1 ⟨rfl, hb1⟩
    obtain ⟨fcb1, ffb1, fzb1⟩ := bfacts hb1 (by first | exact Nat.le_refl _ | omega | (simp; omega) | simp); have fsb1 := hb1.size; try simp at fcb1 ffb1 fzb1 fsb1 hb1
    go_wp2_with fail
    refine (lawstoTower _ _ _ _ _ _).mono ?_
    rintro e w2 ⟨rfl, hb2⟩
    have hbn := Below.trans (by first | exact hb1 | exact below_drewN hb1 _) (Below.mono hb2 (by first | omega | (simp; omega) | simp))
    clear hb2 fcb1 ffb1 fzb1 fsb1
    clear hb1
    have hb2 := hbn
    clear hbn
    obtain ⟨fcb2, ffb2, fzb2⟩ := bfacts hb2 (by first | exact Nat.le_refl _ | omega | (simp; omega) | simp); have fsb2 := hb2.size; try simp at fcb2 ffb2 fzb2 fsb2 hb2
    go_wp2_with fail
    refine (specValidTower _ _ _ _ _ _ hs0).mono ?_
    rintro e w3 ⟨rfl, hb3⟩
    have hbn := Below.trans (by first | exact hb2 | exact below_drewN hb2 _) (Below.mono hb3 (by first | omega | (simp; omega) | simp))
    clear hb3 fcb2 ffb2 fzb2 fsb2
    clear hb2
    have hb3 := hbn
    clear hbn
    obtain ⟨fcb3, ffb3, fzb3⟩ := bfacts hb3 (by first | exact Nat.le_refl _ | omega | (simp; omega) | simp); have fsb3 := hb3.size; try simp at fcb3 ffb3 fzb3 fsb3 hb3
    go_wp2_with fail
    refine (lawstoTower _ _ _ _ _ _).mono ?_
    rintro e w4 ⟨rfl, hb4⟩
    have hbn := Below.trans (by first | exact hb3 | exact below_drewN hb3 _) (Below.mono hb4 (by first | omega | (simp; omega) | simp))
    clear hb4 fcb3 ffb3 fzb3 fsb3
    clear hb3
    have hb4 := hbn
    clear hbn
    obtain ⟨fcb4, ffb4, fzb4⟩ := bfacts hb4 (by first | exact Nat.le_refl _ | omega | (simp; omega) | simp); have fsb4 := hb4.size; try simp at fcb4 ffb4 fzb4 fsb4 hb4
    go_wp2_with fail
    refine (implValidTower _ _ _ _ _ _ hs0).mono ?_
    rintro e w5 ⟨rfl, hb5⟩
    have hbn := Below.trans (by first | exact hb4 | exact below_drewN hb4 _) (Below.mono hb5 (by first | omega | (simp; omega) | simp))
    clear hb5 fcb4 ffb4 fzb4 fsb4
    clear hb4
    have hb5 := hbn
    clear hbn
    obtain ⟨fcb5, ffb5, fzb5⟩ := bfacts hb5 (by first | exact Nat.le_refl _ | omega | (simp; omega) | simp); have fsb5 := hb5.size; try simp at fcb5 ffb5 fzb5 fsb5 hb5
    go_wp2
    go_ret
    exact ⟨rfl, (by repeat (first | exact Below.refl _ _ | refine Below.alloc ?_ (by first | omega | (simp; omega) | simp) _ | refine Below.drew ?_ | refine below_drewN ?_ _ | refine Below.setCell ?_ (by first | omega | (simp; omega) | simp) _ | (refine Below.trans ?_ (Below.mono (by assumption) (by first | omega | (simp; omega) | simp)))))⟩
  · go_enter Try.func4, Try.ntmps4
    go_wp2_with fail
    refine (lawsszTower_big _ _ _ _ _ _ _ hs0 (by omega) (by omega)).mono ?_
    rintro e w1 ⟨rfl, hb1⟩
    obtain ⟨fcb1, ffb1, fzb1⟩ := bfacts hb1 (by first | exact Nat.le_refl _ | omega | (simp; omega) | simp); have fsb1 := hb1.size; try simp at fcb1 ffb1 fzb1 fsb1 hb1
    go_wp2
    go_ret
    exact ⟨rfl, (by repeat (first | exact Below.refl _ _ | refine Below.alloc ?_ (by first | omega | (simp; omega) | simp) _ | refine Below.drew ?_ | refine below_drewN ?_ _ | refine Below.setCell ?_ (by first | omega | (simp; omega) | simp) _ | (refine Below.trans ?_ (Below.mono (by assumption) (by first | omega | (simp; omega) | simp)))))⟩

/-- The room between two bells. -/
@[irreducible] def clr (x y z r x' y' z' r' : Int) : Int := Pl.rt ((x - x') * (x - x') + (y - y') * (y - y') + (z - z') * (z - z')) - r - r'
theorem sq_bd {a b : Int} (h1 : 0 ≤ a) (h2 : a ≤ 20000) (h3 : 0 ≤ b) (h4 : b ≤ 20000) : 0 ≤ (a - b) * (a - b) ∧ (a - b) * (a - b) ≤ 400000000 := by
  by_cases h : b ≤ a
  · exact ⟨Int.mul_nonneg (by omega) (by omega), by have := Pl.sq_le (x := a - b) (y := 20000) (by omega) (by omega); omega⟩
  · have e : (a - b) * (a - b) = (b - a) * (b - a) := by rw [← Int.neg_mul_neg, show -(a - b) = b - a by omega]
    rw [e]
    exact ⟨Int.mul_nonneg (by omega) (by omega), by have := Pl.sq_le (x := b - a) (y := 20000) (by omega) (by omega); omega⟩

theorem implclearance (s s' : ByteArray) (x y z r x' y' z' r' : Int) (w : World) (h : vPlace s x y z r = true) (h' : vPlace s' x' y' z' r' = true) :
    Calls Try.prog 79 #[.agg #[.string s, .int .i64 x, .int .i64 y, .int .i64 z, .int .i64 r], .agg #[.string s', .int .i64 x', .int .i64 y', .int .i64 z', .int .i64 r']] w fun e w' =>
    e = .returned (.int .i64 (clr x y z r x' y' z' r')) ∧ Below w.heap.size w w' := by
  have e : Hid (clr x y z r x' y' z' r' = Pl.rt ((x - x') * (x - x') + (y - y') * (y - y') + (z - z') * (z - z')) - r - r') := by unfold Hid clr; rfl
  obtain ⟨_, ⟨a1, a2⟩, ⟨a3, a4⟩, ⟨a5, a6⟩, ⟨a7, a8⟩⟩ := vPlace_true _ _ _ _ _ h
  obtain ⟨_, ⟨b1, b2⟩, ⟨b3, b4⟩, ⟨b5, b6⟩, ⟨b7, b8⟩⟩ := vPlace_true _ _ _ _ _ h'
  obtain ⟨c1, c2⟩ := sq_bd a1 a2 b1 b2
  obtain ⟨c3, c4⟩ := sq_bd a3 a4 b3 b4
  obtain ⟨c5, c6⟩ := sq_bd a5 a6 b5 b6
  have r1 := Pl.rt_nonneg ((x - x') * (x - x') + (y - y') * (y - y') + (z - z') * (z - z'))
  have r2 : Pl.rt ((x - x') * (x - x') + (y - y') * (y - y') + (z - z') * (z - z')) ≤ 40000 := Pl.rt_le (by omega) (by omega)
  clear h h'
  go_enter Try.func79, Try.ntmps79
  go_wp2_with fail
  have k1 : IntKind.i64.wrap (x - x') = x - x' := IntWalk.i64_in _ (by omega)
  have k2 : IntKind.i64.wrap (y - y') = y - y' := IntWalk.i64_in _ (by omega)
  have k3 : IntKind.i64.wrap (z - z') = z - z' := IntWalk.i64_in _ (by omega)
  go_quiet (fail)
  go_wp2_with fail
  have k4 : IntKind.i64.wrap ((x - x') * (x - x')) = (x - x') * (x - x') := IntWalk.i64_in _ (by omega)
  have k5 : IntKind.i64.wrap ((y - y') * (y - y')) = (y - y') * (y - y') := IntWalk.i64_in _ (by omega)
  have k6 : IntKind.i64.wrap ((z - z') * (z - z')) = (z - z') * (z - z') := IntWalk.i64_in _ (by omega)
  have k7 : IntKind.i64.wrap ((x - x') * (x - x') + (y - y') * (y - y')) = (x - x') * (x - x') + (y - y') * (y - y') := IntWalk.i64_in _ (by omega)
  have k8 : IntKind.i64.wrap ((x - x') * (x - x') + (y - y') * (y - y') + (z - z') * (z - z')) = (x - x') * (x - x') + (y - y') * (y - y') + (z - z') * (z - z') := IntWalk.i64_in _ (by omega)
  have k9 : IntKind.i64.wrap (Pl.rt ((x - x') * (x - x') + (y - y') * (y - y') + (z - z') * (z - z')) - r) = Pl.rt ((x - x') * (x - x') + (y - y') * (y - y') + (z - z') * (z - z')) - r := IntWalk.i64_in _ (by omega)
  have k0 : IntKind.i64.wrap (Pl.rt ((x - x') * (x - x') + (y - y') * (y - y') + (z - z') * (z - z')) - r - r') = Pl.rt ((x - x') * (x - x') + (y - y') * (y - y') + (z - z') * (z - z')) - r - r' := IntWalk.i64_in _ (by omega)
  have hle : (x - x') * (x - x') + (y - y') * (y - y') + (z - z') * (z - z') ≤ 9223372036854775807 := by omega
  go_quiet ((go_at_call 97; exact quiet_add_same ((RootOf_any _ _ hle).mono fun _ _ hh => ⟨hh.1, hh.2.symm⟩)))
  go_wp2
  go_ret
  exact ⟨ret_int e.out.symm, (by repeat (first | exact Below.refl _ _ | refine Below.alloc ?_ (by first | omega | (simp; omega) | simp) _ | refine Below.drew ?_ | refine below_drewN ?_ _ | refine Below.setCell ?_ (by first | omega | (simp; omega) | simp) _ | (refine Below.trans ?_ (Below.mono (by assumption) (by first | omega | (simp; omega) | simp)))))⟩
set_option maxRecDepth 100000 in
theorem specl23Clear (bl off bl' off' : Nat) (s s' : ByteArray) (x y z r x' y' z' r' : Int) (w : World) (h : vPlace s x y z r = true) (h' : vPlace s' x' y' z' r' = true)
    (g1 : w.cell? ⟨bl, off + 1, none⟩ = some (.int .i64 x)) (g2 : w.cell? ⟨bl, off + 2, none⟩ = some (.int .i64 y)) (g3 : w.cell? ⟨bl, off + 3, none⟩ = some (.int .i64 z)) (g4 : w.cell? ⟨bl, off + 4, none⟩ = some (.int .i64 r))
    (g1' : w.cell? ⟨bl', off' + 1, none⟩ = some (.int .i64 x')) (g2' : w.cell? ⟨bl', off' + 2, none⟩ = some (.int .i64 y')) (g3' : w.cell? ⟨bl', off' + 3, none⟩ = some (.int .i64 z')) (g4' : w.cell? ⟨bl', off' + 4, none⟩ = some (.int .i64 r')) :
    Calls Try.prog 78 #[.pointer (some ⟨bl, off, none⟩), .pointer (some ⟨bl', off', none⟩)] w fun e w' => e = .returned (.int .i64 (clr x y z r x' y' z' r')) ∧ ∃ n, w.drewN n = w' := by
  have e : Hid (clr x y z r x' y' z' r' = Pl.rt ((x - x') * (x - x') + (y - y') * (y - y') + (z - z') * (z - z')) - r - r') := by unfold Hid clr; rfl
  obtain ⟨_, ⟨a1, a2⟩, ⟨a3, a4⟩, ⟨a5, a6⟩, ⟨a7, a8⟩⟩ := vPlace_true _ _ _ _ _ h
  obtain ⟨_, ⟨b1, b2⟩, ⟨b3, b4⟩, ⟨b5, b6⟩, ⟨b7, b8⟩⟩ := vPlace_true _ _ _ _ _ h'
  obtain ⟨c1, c2⟩ := sq_bd a1 a2 b1 b2
  obtain ⟨c3, c4⟩ := sq_bd a3 a4 b3 b4
  obtain ⟨c5, c6⟩ := sq_bd a5 a6 b5 b6
  have r1 := Pl.rt_nonneg ((x - x') * (x - x') + (y - y') * (y - y') + (z - z') * (z - z'))
  have r2 : Pl.rt ((x - x') * (x - x') + (y - y') * (y - y') + (z - z') * (z - z')) ≤ 40000 := Pl.rt_le (by omega) (by omega)
  clear h h'
  go_enter Try.func78, Try.ntmps78
  go_wp2_with fail
  have k1 : IntKind.i64.wrap (x - x') = x - x' := IntWalk.i64_in _ (by omega)
  have k2 : IntKind.i64.wrap (y - y') = y - y' := IntWalk.i64_in _ (by omega)
  have k3 : IntKind.i64.wrap (z - z') = z - z' := IntWalk.i64_in _ (by omega)
  go_quiet (fail)
  go_wp2_with fail
  go_quiet (fail)
  go_wp2_with fail
  go_quiet (fail)
  go_wp2_with fail
  have k4 : IntKind.i64.wrap ((x - x') * (x - x')) = (x - x') * (x - x') := IntWalk.i64_in _ (by omega)
  have k5 : IntKind.i64.wrap ((y - y') * (y - y')) = (y - y') * (y - y') := IntWalk.i64_in _ (by omega)
  have k6 : IntKind.i64.wrap ((z - z') * (z - z')) = (z - z') * (z - z') := IntWalk.i64_in _ (by omega)
  have k7 : IntKind.i64.wrap ((x - x') * (x - x') + (y - y') * (y - y')) = (x - x') * (x - x') + (y - y') * (y - y') := IntWalk.i64_in _ (by omega)
  have k8 : IntKind.i64.wrap ((x - x') * (x - x') + (y - y') * (y - y') + (z - z') * (z - z')) = (x - x') * (x - x') + (y - y') * (y - y') + (z - z') * (z - z') := IntWalk.i64_in _ (by omega)
  have k9 : IntKind.i64.wrap (Pl.rt ((x - x') * (x - x') + (y - y') * (y - y') + (z - z') * (z - z')) - r) = Pl.rt ((x - x') * (x - x') + (y - y') * (y - y') + (z - z') * (z - z')) - r := IntWalk.i64_in _ (by omega)
  have k0 : IntKind.i64.wrap (Pl.rt ((x - x') * (x - x') + (y - y') * (y - y') + (z - z') * (z - z')) - r - r') = Pl.rt ((x - x') * (x - x') + (y - y') * (y - y') + (z - z') * (z - z')) - r - r' := IntWalk.i64_in _ (by omega)
  have hle : (x - x') * (x - x') + (y - y') * (y - y') + (z - z') * (z - z') ≤ 9223372036854775807 := by omega
  go_quiet ((go_at_call 96; exact quiet_add_same ((l01Root_any _ _ hle).mono fun _ _ hh => ⟨hh.1, hh.2.symm⟩)))
  go_wp2
  go_ret
  exact ⟨ret_int e.out.symm, by simp only [World.drewN_drewN]; exact ⟨_, rfl⟩⟩
@[irreducible] def clrOf (s s' : ByteArray) (x y z r x' y' z' r' : Int) : Int × Int := if vPlace s x y z r && vPlace s' x' y' z' r' then (clr x y z r x' y' z' r', 0) else (0, 1)
theorem implClearanceOf (s s' : ByteArray) (x y z r x' y' z' r' : Int) (w : World) (hs : s.size ≤ maxLen) (hs' : s'.size ≤ maxLen) :
    Calls Try.prog 37 #[.agg #[.string s, .int .i64 x, .int .i64 y, .int .i64 z, .int .i64 r], .agg #[.string s', .int .i64 x', .int .i64 y', .int .i64 z', .int .i64 r']] w fun e w' =>
    e = .returned (.tuple #[.int .i64 (clrOf s s' x y z r x' y' z' r').1, .int .i64 (clrOf s s' x y z r x' y' z' r').2]) ∧ Below w.heap.size w w' := by
  cases h : vPlace s x y z r
  · have e : Hid (clrOf s s' x y z r x' y' z' r' = (0, 1)) := by unfold Hid clrOf; simp [h]
    go_enter Try.func37, Try.ntmps37
    go_wp2_with fail
    refine (implvalidPlace _ _ _ _ _ _ hs).mono ?_
    rintro e w1 ⟨rfl, hb1⟩
    obtain ⟨fcb1, ffb1, fzb1⟩ := bfacts hb1 (by first | exact Nat.le_refl _ | omega | (simp; omega) | simp); have fsb1 := hb1.size; try simp at fcb1 ffb1 fzb1 fsb1 hb1
    go_wp2_with fail
    go_ret2
    exact ⟨ret_two e.out, (by repeat (first | exact Below.refl _ _ | refine Below.alloc ?_ (by first | omega | (simp; omega) | simp) _ | refine Below.drew ?_ | refine below_drewN ?_ _ | refine Below.setCell ?_ (by first | omega | (simp; omega) | simp) _ | (refine Below.trans ?_ (Below.mono (by assumption) (by first | omega | (simp; omega) | simp)))))⟩
  · cases h' : vPlace s' x' y' z' r'
    · have e : Hid (clrOf s s' x y z r x' y' z' r' = (0, 1)) := by unfold Hid clrOf; simp [h']
      go_enter Try.func37, Try.ntmps37
      go_wp2_with fail
      refine (implvalidPlace _ _ _ _ _ _ hs).mono ?_
      rintro e w1 ⟨rfl, hb1⟩
      obtain ⟨fcb1, ffb1, fzb1⟩ := bfacts hb1 (by first | exact Nat.le_refl _ | omega | (simp; omega) | simp); have fsb1 := hb1.size; try simp at fcb1 ffb1 fzb1 fsb1 hb1
      go_wp2_with fail
      refine (implvalidPlace _ _ _ _ _ _ hs').mono ?_
      rintro e w2 ⟨rfl, hb2⟩
      have hbn := Below.trans (by first | exact hb1 | exact below_drewN hb1 _) (Below.mono hb2 (by first | omega | (simp; omega) | simp))
      clear hb2 fcb1 ffb1 fzb1 fsb1
      clear hb1
      have hb2 := hbn
      clear hbn
      obtain ⟨fcb2, ffb2, fzb2⟩ := bfacts hb2 (by first | exact Nat.le_refl _ | omega | (simp; omega) | simp); have fsb2 := hb2.size; try simp at fcb2 ffb2 fzb2 fsb2 hb2
      go_wp2_with fail
      go_ret2
      exact ⟨ret_two e.out, (by repeat (first | exact Below.refl _ _ | refine Below.alloc ?_ (by first | omega | (simp; omega) | simp) _ | refine Below.drew ?_ | refine below_drewN ?_ _ | refine Below.setCell ?_ (by first | omega | (simp; omega) | simp) _ | (refine Below.trans ?_ (Below.mono (by assumption) (by first | omega | (simp; omega) | simp)))))⟩
    · have e : Hid (clrOf s s' x y z r x' y' z' r' = (clr x y z r x' y' z' r', 0)) := by unfold Hid clrOf; simp [h, h']
      have H := hide h
      have H' := hide h'
      go_enter Try.func37, Try.ntmps37
      go_wp2_with fail
      refine (implvalidPlace _ _ _ _ _ _ hs).mono ?_
      rintro e w1 ⟨rfl, hb1⟩
      obtain ⟨fcb1, ffb1, fzb1⟩ := bfacts hb1 (by first | exact Nat.le_refl _ | omega | (simp; omega) | simp); have fsb1 := hb1.size; try simp at fcb1 ffb1 fzb1 fsb1 hb1
      go_wp2_with fail
      refine (implvalidPlace _ _ _ _ _ _ hs').mono ?_
      rintro e w2 ⟨rfl, hb2⟩
      have hbn := Below.trans (by first | exact hb1 | exact below_drewN hb1 _) (Below.mono hb2 (by first | omega | (simp; omega) | simp))
      clear hb2 fcb1 ffb1 fzb1 fsb1
      clear hb1
      have hb2 := hbn
      clear hbn
      obtain ⟨fcb2, ffb2, fzb2⟩ := bfacts hb2 (by first | exact Nat.le_refl _ | omega | (simp; omega) | simp); have fsb2 := hb2.size; try simp at fcb2 ffb2 fzb2 fsb2 hb2
      go_wp2_with fail
      refine (implclearance _ _ _ _ _ _ _ _ _ _ _ H.out H'.out).mono ?_
      rintro e w3 ⟨rfl, hb3⟩
      have hbn := Below.trans (by first | exact hb2 | exact below_drewN hb2 _) (Below.mono hb3 (by first | omega | (simp; omega) | simp))
      clear hb3 fcb2 ffb2 fzb2 fsb2
      clear hb2
      have hb3 := hbn
      clear hbn
      obtain ⟨fcb3, ffb3, fzb3⟩ := bfacts hb3 (by first | exact Nat.le_refl _ | omega | (simp; omega) | simp); have fsb3 := hb3.size; try simp at fcb3 ffb3 fzb3 fsb3 hb3
      go_wp2_with fail
      go_ret2
      exact ⟨ret_two e.out, (by repeat (first | exact Below.refl _ _ | refine Below.alloc ?_ (by first | omega | (simp; omega) | simp) _ | refine Below.drew ?_ | refine below_drewN ?_ _ | refine Below.setCell ?_ (by first | omega | (simp; omega) | simp) _ | (refine Below.trans ?_ (Below.mono (by assumption) (by first | omega | (simp; omega) | simp)))))⟩
theorem specClearanceOf (s s' : ByteArray) (x y z r x' y' z' r' : Int) (w : World) (hs : s.size ≤ maxLen) (hs' : s'.size ≤ maxLen) :
    Calls Try.prog 36 #[.agg #[.string s, .int .i64 x, .int .i64 y, .int .i64 z, .int .i64 r], .agg #[.string s', .int .i64 x', .int .i64 y', .int .i64 z', .int .i64 r']] w fun e w' =>
    e = .returned (.tuple #[.int .i64 (clrOf s s' x y z r x' y' z' r').1, .int .i64 (clrOf s s' x y z r x' y' z' r').2]) ∧ Below w.heap.size w w' := by
  cases h : vPlace s x y z r
  · have e : Hid (clrOf s s' x y z r x' y' z' r' = (0, 1)) := by unfold Hid clrOf; simp [h]
    go_enter Try.func36, Try.ntmps36
    go_wp2_with fail
    refine (specl23One _ 0 s x y z r _ hs (by simp) (by simp) (by simp) (by simp) (by simp)).mono ?_; rintro e w1 ⟨rfl, rfl⟩
    go_wp2_with fail
    go_ret2
    exact ⟨ret_two e.out, (by repeat (first | exact Below.refl _ _ | refine Below.alloc ?_ (by first | omega | (simp; omega) | simp) _ | refine Below.drew ?_ | refine below_drewN ?_ _ | refine Below.setCell ?_ (by first | omega | (simp; omega) | simp) _ | (refine Below.trans ?_ (Below.mono (by assumption) (by first | omega | (simp; omega) | simp)))))⟩
  · cases h' : vPlace s' x' y' z' r'
    · have e : Hid (clrOf s s' x y z r x' y' z' r' = (0, 1)) := by unfold Hid clrOf; simp [h']
      go_enter Try.func36, Try.ntmps36
      go_wp2_with fail
      refine (specl23One _ 0 s x y z r _ hs (by simp) (by simp) (by simp) (by simp) (by simp)).mono ?_; rintro e w1 ⟨rfl, rfl⟩
      go_wp2_with fail
      refine (specl23One _ 0 s' x' y' z' r' _ hs' (by simp) (by simp) (by simp) (by simp) (by simp)).mono ?_; rintro e w1 ⟨rfl, rfl⟩
      go_wp2_with fail
      go_ret2
      exact ⟨ret_two e.out, (by repeat (first | exact Below.refl _ _ | refine Below.alloc ?_ (by first | omega | (simp; omega) | simp) _ | refine Below.drew ?_ | refine below_drewN ?_ _ | refine Below.setCell ?_ (by first | omega | (simp; omega) | simp) _ | (refine Below.trans ?_ (Below.mono (by assumption) (by first | omega | (simp; omega) | simp)))))⟩
    · have e : Hid (clrOf s s' x y z r x' y' z' r' = (clr x y z r x' y' z' r', 0)) := by unfold Hid clrOf; simp [h, h']
      have H := hide h
      have H' := hide h'
      go_enter Try.func36, Try.ntmps36
      go_wp2_with fail
      refine (specl23One _ 0 s x y z r _ hs (by simp) (by simp) (by simp) (by simp) (by simp)).mono ?_; rintro e w1 ⟨rfl, rfl⟩
      go_wp2_with fail
      refine (specl23One _ 0 s' x' y' z' r' _ hs' (by simp) (by simp) (by simp) (by simp) (by simp)).mono ?_; rintro e w1 ⟨rfl, rfl⟩
      go_wp2_with fail
      refine (specl23Clear _ 0 _ 0 s s' x y z r x' y' z' r' _ H.out H'.out (by simp) (by simp) (by simp) (by simp) (by simp) (by simp) (by simp) (by simp)).mono ?_; rintro e w1 ⟨rfl, n1, rfl⟩
      go_wp2_with fail
      go_ret2
      exact ⟨ret_two e.out, (by repeat (first | exact Below.refl _ _ | refine Below.alloc ?_ (by first | omega | (simp; omega) | simp) _ | refine Below.drew ?_ | refine below_drewN ?_ _ | refine Below.setCell ?_ (by first | omega | (simp; omega) | simp) _ | (refine Below.trans ?_ (Below.mono (by assumption) (by first | omega | (simp; omega) | simp)))))⟩
theorem lawClearanceOf (s s' : ByteArray) (x y z r x' y' z' r' : Int) (w : World) (hs : s.size ≤ maxLen) (hs' : s'.size ≤ maxLen) :
    Calls Try.prog 10 #[.agg #[.string s, .int .i64 x, .int .i64 y, .int .i64 z, .int .i64 r], .agg #[.string s', .int .i64 x', .int .i64 y', .int .i64 z', .int .i64 r']] w fun e w' => e = .returned (.bool true) ∧ Below w.heap.size w w' := by
  by_cases hz : (s.size : Int) ≤ 1048576
  · by_cases hz' : (s'.size : Int) ≤ 1048576 - s.size
    · go_enter Try.func10, Try.ntmps10
      go_wp2_with fail
      refine (lawsszPlace_ok _ _ _ _ _ _ _ hz (by omega)).mono ?_
      rintro e w1 ⟨rfl, hb1⟩
      obtain ⟨fcb1, ffb1, fzb1⟩ := bfacts hb1 (by first | exact Nat.le_refl _ | omega | (simp; omega) | simp); have fsb1 := hb1.size; try simp at fcb1 ffb1 fzb1 fsb1 hb1
      go_wp2_with fail
      refine (lawsszPlace_ok _ _ _ _ _ _ _ hz' (by omega)).mono ?_
      rintro e w2 ⟨rfl, hb2⟩
      have hbn := Below.trans (by first | exact hb1 | exact below_drewN hb1 _) (Below.mono hb2 (by first | omega | (simp; omega) | simp))
      clear hb2 fcb1 ffb1 fzb1 fsb1
      clear hb1
      have hb2 := hbn
      clear hbn
      obtain ⟨fcb2, ffb2, fzb2⟩ := bfacts hb2 (by first | exact Nat.le_refl _ | omega | (simp; omega) | simp); have fsb2 := hb2.size; try simp at fcb2 ffb2 fzb2 fsb2 hb2
      go_wp2_with fail
      have qc0 : w2.cell? ⟨w.heap.size, 0, none⟩ = some (.string s) := by rw [fcb2 _ _ (by omega)]; simp
      have qc1 : w2.cell? ⟨w.heap.size, 1, none⟩ = some (.int .i64 x) := by rw [fcb2 _ _ (by omega)]; simp
      have qc2 : w2.cell? ⟨w.heap.size, 2, none⟩ = some (.int .i64 y) := by rw [fcb2 _ _ (by omega)]; simp
      have qc3 : w2.cell? ⟨w.heap.size, 3, none⟩ = some (.int .i64 z) := by rw [fcb2 _ _ (by omega)]; simp
      have qc4 : w2.cell? ⟨w.heap.size, 4, none⟩ = some (.int .i64 r) := by rw [fcb2 _ _ (by omega)]; simp
      have qc5 : w2.cell? ⟨w.heap.size + 1, 0, none⟩ = some (.string s') := by rw [fcb2 _ _ (by omega)]; simp
      have qc6 : w2.cell? ⟨w.heap.size + 1, 1, none⟩ = some (.int .i64 x') := by rw [fcb2 _ _ (by omega)]; simp
      have qc7 : w2.cell? ⟨w.heap.size + 1, 2, none⟩ = some (.int .i64 y') := by rw [fcb2 _ _ (by omega)]; simp
      have qc8 : w2.cell? ⟨w.heap.size + 1, 3, none⟩ = some (.int .i64 z') := by rw [fcb2 _ _ (by omega)]; simp
      have qc9 : w2.cell? ⟨w.heap.size + 1, 4, none⟩ = some (.int .i64 r') := by rw [fcb2 _ _ (by omega)]; simp
      have hzW : w.heap.size + 1 < w2.heap.size := fzb2 _ (by omega)
      have hbW : Below w.heap.size w w2 := (by repeat (first | exact Below.refl _ _ | refine Below.alloc ?_ (by first | omega | (simp; omega) | simp) _ | refine Below.drew ?_ | refine below_drewN ?_ _ | refine Below.setCell ?_ (by first | omega | (simp; omega) | simp) _ | (refine Below.trans ?_ (Below.mono (by assumption) (by first | omega | (simp; omega) | simp)))))
      have HB := hide hb2; clear hb2 fcb2 ffb2 fzb2 fsb2
      go_region_held3 (fun w' => w'.cell? ⟨w.heap.size, 0, none⟩ = some (.string s) ∧ w'.cell? ⟨w.heap.size, 1, none⟩ = some (.int .i64 x) ∧ w'.cell? ⟨w.heap.size, 2, none⟩ = some (.int .i64 y) ∧ w'.cell? ⟨w.heap.size, 3, none⟩ = some (.int .i64 z) ∧ w'.cell? ⟨w.heap.size, 4, none⟩ = some (.int .i64 r) ∧ w'.cell? ⟨w.heap.size + 1, 0, none⟩ = some (.string s') ∧ w'.cell? ⟨w.heap.size + 1, 1, none⟩ = some (.int .i64 x') ∧ w'.cell? ⟨w.heap.size + 1, 2, none⟩ = some (.int .i64 y') ∧ w'.cell? ⟨w.heap.size + 1, 3, none⟩ = some (.int .i64 z') ∧ w'.cell? ⟨w.heap.size + 1, 4, none⟩ = some (.int .i64 r') ∧ w.heap.size + 1 < w'.heap.size ∧ Below w.heap.size w w') ((first | exact ⟨qc0, qc1, qc2, qc3, qc4, qc5, qc6, qc7, qc8, qc9, hzW, hbW.drew⟩ | (go_split_ands; (repeat' apply And.intro); all_goals (first | exact (hbK.cell (by first | omega | (simp; omega) | simp)).trans (by assumption) | (have hq := hbK.size; (try simp at hq); omega) | (exact Below.trans (by assumption) (hbK.mono (by first | omega | (simp; omega) | simp)))))))
        (first
          | (go_at_call 29; refine (lawstoPlace _ _ _ _ _ _).mono ?_; rintro e wK ⟨rfl, hbK⟩)
          | (go_at_call 36; refine (specClearanceOf _ _ _ _ _ _ _ _ _ _ _ hs hs').mono ?_; rintro e wK ⟨rfl, hbK⟩))
      go_wp2_with fail
      obtain ⟨qc0, qc1, qc2, qc3, qc4, qc5, qc6, qc7, qc8, qc9, hzW, hbW⟩ := (by assumption : wK.cell? ⟨w.heap.size, 0, none⟩ = some (.string s) ∧ wK.cell? ⟨w.heap.size, 1, none⟩ = some (.int .i64 x) ∧ wK.cell? ⟨w.heap.size, 2, none⟩ = some (.int .i64 y) ∧ wK.cell? ⟨w.heap.size, 3, none⟩ = some (.int .i64 z) ∧ wK.cell? ⟨w.heap.size, 4, none⟩ = some (.int .i64 r) ∧ wK.cell? ⟨w.heap.size + 1, 0, none⟩ = some (.string s') ∧ wK.cell? ⟨w.heap.size + 1, 1, none⟩ = some (.int .i64 x') ∧ wK.cell? ⟨w.heap.size + 1, 2, none⟩ = some (.int .i64 y') ∧ wK.cell? ⟨w.heap.size + 1, 3, none⟩ = some (.int .i64 z') ∧ wK.cell? ⟨w.heap.size + 1, 4, none⟩ = some (.int .i64 r') ∧ w.heap.size + 1 < wK.heap.size ∧ Below w.heap.size w wK)
      go_region_held3 (fun w' => w'.cell? ⟨w.heap.size, 0, none⟩ = some (.string s) ∧ w'.cell? ⟨w.heap.size, 1, none⟩ = some (.int .i64 x) ∧ w'.cell? ⟨w.heap.size, 2, none⟩ = some (.int .i64 y) ∧ w'.cell? ⟨w.heap.size, 3, none⟩ = some (.int .i64 z) ∧ w'.cell? ⟨w.heap.size, 4, none⟩ = some (.int .i64 r) ∧ w'.cell? ⟨w.heap.size + 1, 0, none⟩ = some (.string s') ∧ w'.cell? ⟨w.heap.size + 1, 1, none⟩ = some (.int .i64 x') ∧ w'.cell? ⟨w.heap.size + 1, 2, none⟩ = some (.int .i64 y') ∧ w'.cell? ⟨w.heap.size + 1, 3, none⟩ = some (.int .i64 z') ∧ w'.cell? ⟨w.heap.size + 1, 4, none⟩ = some (.int .i64 r') ∧ w.heap.size + 1 < w'.heap.size ∧ Below w.heap.size w w') ((first | exact ⟨qc0, qc1, qc2, qc3, qc4, qc5, qc6, qc7, qc8, qc9, hzW, hbW.drew⟩ | (go_split_ands; (repeat' apply And.intro); all_goals (first | exact (hbK.cell (by first | omega | (simp; omega) | simp)).trans (by assumption) | (have hq := hbK.size; (try simp at hq); omega) | (exact Below.trans (by assumption) (hbK.mono (by first | omega | (simp; omega) | simp)))))))
        (first
          | (go_at_call 29; refine (lawstoPlace _ _ _ _ _ _).mono ?_; rintro e wK ⟨rfl, hbK⟩)
          | (go_at_call 37; refine (implClearanceOf _ _ _ _ _ _ _ _ _ _ _ hs hs').mono ?_; rintro e wK ⟨rfl, hbK⟩))
      go_wp2_with fail
      obtain ⟨qc0, qc1, qc2, qc3, qc4, qc5, qc6, qc7, qc8, qc9, hzW, hbW⟩ := (by assumption : wK.cell? ⟨w.heap.size, 0, none⟩ = some (.string s) ∧ wK.cell? ⟨w.heap.size, 1, none⟩ = some (.int .i64 x) ∧ wK.cell? ⟨w.heap.size, 2, none⟩ = some (.int .i64 y) ∧ wK.cell? ⟨w.heap.size, 3, none⟩ = some (.int .i64 z) ∧ wK.cell? ⟨w.heap.size, 4, none⟩ = some (.int .i64 r) ∧ wK.cell? ⟨w.heap.size + 1, 0, none⟩ = some (.string s') ∧ wK.cell? ⟨w.heap.size + 1, 1, none⟩ = some (.int .i64 x') ∧ wK.cell? ⟨w.heap.size + 1, 2, none⟩ = some (.int .i64 y') ∧ wK.cell? ⟨w.heap.size + 1, 3, none⟩ = some (.int .i64 z') ∧ wK.cell? ⟨w.heap.size + 1, 4, none⟩ = some (.int .i64 r') ∧ w.heap.size + 1 < wK.heap.size ∧ Below w.heap.size w wK)
      go_wp2
      go_ret
      exact ⟨rfl, hbW⟩
    · go_enter Try.func10, Try.ntmps10
      go_wp2_with fail
      refine (lawsszPlace_ok _ _ _ _ _ _ _ hz (by omega)).mono ?_
      rintro e w1 ⟨rfl, hb1⟩
      obtain ⟨fcb1, ffb1, fzb1⟩ := bfacts hb1 (by first | exact Nat.le_refl _ | omega | (simp; omega) | simp); have fsb1 := hb1.size; try simp at fcb1 ffb1 fzb1 fsb1 hb1
      go_wp2_with fail
      refine (lawsszPlace_big _ _ _ _ _ _ _ hs' (by omega) (by omega)).mono ?_
      rintro e w2 ⟨rfl, hb2⟩
      have hbn := Below.trans (by first | exact hb1 | exact below_drewN hb1 _) (Below.mono hb2 (by first | omega | (simp; omega) | simp))
      clear hb2 fcb1 ffb1 fzb1 fsb1
      clear hb1
      have hb2 := hbn
      clear hbn
      obtain ⟨fcb2, ffb2, fzb2⟩ := bfacts hb2 (by first | exact Nat.le_refl _ | omega | (simp; omega) | simp); have fsb2 := hb2.size; try simp at fcb2 ffb2 fzb2 fsb2 hb2
      go_wp2
      go_ret
      exact ⟨rfl, (by repeat (first | exact Below.refl _ _ | refine Below.alloc ?_ (by first | omega | (simp; omega) | simp) _ | refine Below.drew ?_ | refine below_drewN ?_ _ | refine Below.setCell ?_ (by first | omega | (simp; omega) | simp) _ | (refine Below.trans ?_ (Below.mono (by assumption) (by first | omega | (simp; omega) | simp)))))⟩
  · go_enter Try.func10, Try.ntmps10
    go_wp2_with fail
    refine (lawsszPlace_big _ _ _ _ _ _ _ hs (by omega) (by omega)).mono ?_
    rintro e w1 ⟨rfl, hb1⟩
    obtain ⟨fcb1, ffb1, fzb1⟩ := bfacts hb1 (by first | exact Nat.le_refl _ | omega | (simp; omega) | simp); have fsb1 := hb1.size; try simp at fcb1 ffb1 fzb1 fsb1 hb1
    go_wp2
    go_ret
    exact ⟨rfl, (by repeat (first | exact Below.refl _ _ | refine Below.alloc ?_ (by first | omega | (simp; omega) | simp) _ | refine Below.drew ?_ | refine below_drewN ?_ _ | refine Below.setCell ?_ (by first | omega | (simp; omega) | simp) _ | (refine Below.trans ?_ (Below.mono (by assumption) (by first | omega | (simp; omega) | simp)))))⟩

/-- Whether a place is within a chamber. -/
@[irreducible] def fits (a b c x y z r g : Int) : Bool := inB x (r + g) (a - (r + g)) && inB y (r + g) (b - (r + g)) && inB z (r + g) (c - (r + g))
theorem implfitsChamber (a b c : Int) (s : ByteArray) (x y z r g : Int) (w : World) (h : vCh a b c = true) (h' : vPlace s x y z r = true) (hg : inB g 0 5000 = true) :
    Calls Try.prog 75 #[.agg #[.int .i64 a, .int .i64 b, .int .i64 c], .agg #[.string s, .int .i64 x, .int .i64 y, .int .i64 z, .int .i64 r], .int .i64 g] w fun e w' =>
    e = .returned (.bool (fits a b c x y z r g)) ∧ Below w.heap.size w w' := by
  have e : Hid (fits a b c x y z r g = (inB x (r + g) (a - (r + g)) && inB y (r + g) (b - (r + g)) && inB z (r + g) (c - (r + g)))) := by unfold Hid fits; rfl
  obtain ⟨⟨a1, a2⟩, ⟨a3, a4⟩, ⟨a5, a6⟩⟩ := vCh_true _ _ _ h
  obtain ⟨_, ⟨b1, b2⟩, ⟨b3, b4⟩, ⟨b5, b6⟩, ⟨b7, b8⟩⟩ := vPlace_true _ _ _ _ _ h'
  obtain ⟨c1, c2⟩ := inB_true hg
  clear h h' hg
  cases h1 : inB x (r + g) (a - (r + g)) <;> cases h2 : inB y (r + g) (b - (r + g)) <;> cases h3 : inB z (r + g) (c - (r + g))
  all_goals
    go_enter Try.func75, Try.ntmps75
    go_wp2_with (go_at_call 56; refine (implwithin_any _ _ _ _).mono ?_; rintro e w' ⟨rfl, rfl⟩)
    go_ret
    exact ⟨ret_bool (by rw [e.out, h1, h2, h3]; rfl), (by repeat (first | exact Below.refl _ _ | refine Below.alloc ?_ (by first | omega | (simp; omega) | simp) _ | refine Below.drew ?_ | refine below_drewN ?_ _ | refine Below.setCell ?_ (by first | omega | (simp; omega) | simp) _ | (refine Below.trans ?_ (Below.mono (by assumption) (by first | omega | (simp; omega) | simp)))))⟩
set_option maxRecDepth 100000 in
theorem specl23Within (bc bl off : Nat) (a b c : Int) (s : ByteArray) (x y z r g : Int) (w : World) (h : vCh a b c = true) (h' : vPlace s x y z r = true) (hg : inB g 0 5000 = true)
    (e0 : w.cell? ⟨bc, 0, none⟩ = some (.int .i64 a)) (e1 : w.cell? ⟨bc, 1, none⟩ = some (.int .i64 b)) (e2 : w.cell? ⟨bc, 2, none⟩ = some (.int .i64 c))
    (g1 : w.cell? ⟨bl, off + 1, none⟩ = some (.int .i64 x)) (g2 : w.cell? ⟨bl, off + 2, none⟩ = some (.int .i64 y)) (g3 : w.cell? ⟨bl, off + 3, none⟩ = some (.int .i64 z)) (g4 : w.cell? ⟨bl, off + 4, none⟩ = some (.int .i64 r)) :
    Calls Try.prog 72 #[.pointer (some ⟨bc, 0, none⟩), .pointer (some ⟨bl, off, none⟩), .int .i64 g] w fun e w' => e = .returned (.bool (fits a b c x y z r g)) ∧ ∃ n, w.drewN n = w' := by
  have e : Hid (fits a b c x y z r g = (inB x (r + g) (a - (r + g)) && inB y (r + g) (b - (r + g)) && inB z (r + g) (c - (r + g)))) := by unfold Hid fits; rfl
  obtain ⟨⟨a1, a2⟩, ⟨a3, a4⟩, ⟨a5, a6⟩⟩ := vCh_true _ _ _ h
  obtain ⟨_, ⟨b1, b2⟩, ⟨b3, b4⟩, ⟨b5, b6⟩, ⟨b7, b8⟩⟩ := vPlace_true _ _ _ _ _ h'
  obtain ⟨c1, c2⟩ := inB_true hg
  have k1 : IntKind.i64.wrap (r + g) = r + g := IntWalk.i64_in _ (by omega)
  have k2 : IntKind.i64.wrap (a - (r + g)) = a - (r + g) := IntWalk.i64_in _ (by omega)
  have k3 : IntKind.i64.wrap (b - (r + g)) = b - (r + g) := IntWalk.i64_in _ (by omega)
  have k4 : IntKind.i64.wrap (c - (r + g)) = c - (r + g) := IntWalk.i64_in _ (by omega)
  clear h h' hg
  cases h1 : inB x (r + g) (a - (r + g))
  · go_enter Try.func72, Try.ntmps72
    go_wp2_with fail
    go_quiet ((go_at_call 59; exact Calls.quiet_of_same ((specl00In_is _ _ _ _ (by assumption) _).mono fun _ _ hh => ⟨hh.1, hh.2.symm⟩)))
    go_wp2
    go_ret
    exact ⟨ret_bool (by rw [e.out, h1]; rfl), _, rfl⟩
  · cases h2 : inB y (r + g) (b - (r + g))
    · go_enter Try.func72, Try.ntmps72
      go_wp2_with fail
      go_quiet ((go_at_call 59; exact Calls.quiet_of_same ((specl00In_is _ _ _ _ (by assumption) _).mono fun _ _ hh => ⟨hh.1, hh.2.symm⟩)))
      go_wp2
      go_ret
      exact ⟨ret_bool (by rw [e.out, h1, h2]; rfl), _, rfl⟩
    · cases h3 : inB z (r + g) (c - (r + g))
      all_goals
        go_enter Try.func72, Try.ntmps72
        go_wp2_with fail
        go_quiet ((go_at_call 59; exact Calls.quiet_of_same ((specl00In_is _ _ _ _ (by assumption) _).mono fun _ _ hh => ⟨hh.1, hh.2.symm⟩)))
        go_wp2
        go_ret
        exact ⟨ret_bool (by rw [e.out, h1, h2, h3]; rfl), _, rfl⟩
@[irreducible] def fitsAll (a b c : Int) (s : ByteArray) (x y z r g : Int) : Bool := vCh a b c && vPlace s x y z r && inB g 0 5000 && fits a b c x y z r g
theorem implFitsChamber (a b c : Int) (s : ByteArray) (x y z r g : Int) (w : World) (hs : s.size ≤ maxLen) :
    Calls Try.prog 30 #[.agg #[.int .i64 a, .int .i64 b, .int .i64 c], .agg #[.string s, .int .i64 x, .int .i64 y, .int .i64 z, .int .i64 r], .int .i64 g] w fun e w' =>
    e = .returned (.bool (fitsAll a b c s x y z r g)) ∧ Below w.heap.size w w' := by
  cases h1 : vCh a b c
  · have e : Hid (fitsAll a b c s x y z r g = false) := by unfold Hid fitsAll; simp [h1]
    go_enter Try.func30, Try.ntmps30
    go_wp2_with fail
    refine (implValidChamber _ _ _ _).mono ?_
    rintro e w1 ⟨rfl, hb1⟩
    obtain ⟨fcb1, ffb1, fzb1⟩ := bfacts hb1 (by first | exact Nat.le_refl _ | omega | (simp; omega) | simp); have fsb1 := hb1.size; try simp at fcb1 ffb1 fzb1 fsb1 hb1
    go_wp2_with fail
    go_ret
    exact ⟨ret_bool e.out.symm, (by repeat (first | exact Below.refl _ _ | refine Below.alloc ?_ (by first | omega | (simp; omega) | simp) _ | refine Below.drew ?_ | refine below_drewN ?_ _ | refine Below.setCell ?_ (by first | omega | (simp; omega) | simp) _ | (refine Below.trans ?_ (Below.mono (by assumption) (by first | omega | (simp; omega) | simp)))))⟩
  · cases h2 : vPlace s x y z r
    · have e : Hid (fitsAll a b c s x y z r g = false) := by unfold Hid fitsAll; simp [h2]
      go_enter Try.func30, Try.ntmps30
      go_wp2_with fail
      refine (implValidChamber _ _ _ _).mono ?_
      rintro e w1 ⟨rfl, hb1⟩
      obtain ⟨fcb1, ffb1, fzb1⟩ := bfacts hb1 (by first | exact Nat.le_refl _ | omega | (simp; omega) | simp); have fsb1 := hb1.size; try simp at fcb1 ffb1 fzb1 fsb1 hb1
      go_wp2_with fail
      refine (implvalidPlace _ _ _ _ _ _ hs).mono ?_
      rintro e w2 ⟨rfl, hb2⟩
      have hbn := Below.trans (by first | exact hb1 | exact below_drewN hb1 _) (Below.mono hb2 (by first | omega | (simp; omega) | simp))
      clear hb2 fcb1 ffb1 fzb1 fsb1
      clear hb1
      have hb2 := hbn
      clear hbn
      obtain ⟨fcb2, ffb2, fzb2⟩ := bfacts hb2 (by first | exact Nat.le_refl _ | omega | (simp; omega) | simp); have fsb2 := hb2.size; try simp at fcb2 ffb2 fzb2 fsb2 hb2
      go_wp2_with fail
      go_ret
      exact ⟨ret_bool e.out.symm, (by repeat (first | exact Below.refl _ _ | refine Below.alloc ?_ (by first | omega | (simp; omega) | simp) _ | refine Below.drew ?_ | refine below_drewN ?_ _ | refine Below.setCell ?_ (by first | omega | (simp; omega) | simp) _ | (refine Below.trans ?_ (Below.mono (by assumption) (by first | omega | (simp; omega) | simp)))))⟩
    · cases h3 : inB g 0 5000
      · have e : Hid (fitsAll a b c s x y z r g = false) := by unfold Hid fitsAll; simp [h3]
        go_enter Try.func30, Try.ntmps30
        go_wp2_with fail
        refine (implValidChamber _ _ _ _).mono ?_
        rintro e w1 ⟨rfl, hb1⟩
        obtain ⟨fcb1, ffb1, fzb1⟩ := bfacts hb1 (by first | exact Nat.le_refl _ | omega | (simp; omega) | simp); have fsb1 := hb1.size; try simp at fcb1 ffb1 fzb1 fsb1 hb1
        go_wp2_with fail
        refine (implvalidPlace _ _ _ _ _ _ hs).mono ?_
        rintro e w2 ⟨rfl, hb2⟩
        have hbn := Below.trans (by first | exact hb1 | exact below_drewN hb1 _) (Below.mono hb2 (by first | omega | (simp; omega) | simp))
        clear hb2 fcb1 ffb1 fzb1 fsb1
        clear hb1
        have hb2 := hbn
        clear hbn
        obtain ⟨fcb2, ffb2, fzb2⟩ := bfacts hb2 (by first | exact Nat.le_refl _ | omega | (simp; omega) | simp); have fsb2 := hb2.size; try simp at fcb2 ffb2 fzb2 fsb2 hb2
        go_wp2_with (go_at_call 74; refine (implisSpace_any _ _).mono ?_; rintro e w' ⟨rfl, rfl⟩)
        go_ret
        exact ⟨ret_bool e.out.symm, (by repeat (first | exact Below.refl _ _ | refine Below.alloc ?_ (by first | omega | (simp; omega) | simp) _ | refine Below.drew ?_ | refine below_drewN ?_ _ | refine Below.setCell ?_ (by first | omega | (simp; omega) | simp) _ | (refine Below.trans ?_ (Below.mono (by assumption) (by first | omega | (simp; omega) | simp)))))⟩
      · have e : Hid (fitsAll a b c s x y z r g = fits a b c x y z r g) := by unfold Hid fitsAll; simp [h1, h2, h3]
        have H1 := hide h1
        have H2 := hide h2
        have H3 := hide h3
        go_enter Try.func30, Try.ntmps30
        go_wp2_with fail
        refine (implValidChamber _ _ _ _).mono ?_
        rintro e w1 ⟨rfl, hb1⟩
        obtain ⟨fcb1, ffb1, fzb1⟩ := bfacts hb1 (by first | exact Nat.le_refl _ | omega | (simp; omega) | simp); have fsb1 := hb1.size; try simp at fcb1 ffb1 fzb1 fsb1 hb1
        go_wp2_with fail
        refine (implvalidPlace _ _ _ _ _ _ hs).mono ?_
        rintro e w2 ⟨rfl, hb2⟩
        have hbn := Below.trans (by first | exact hb1 | exact below_drewN hb1 _) (Below.mono hb2 (by first | omega | (simp; omega) | simp))
        clear hb2 fcb1 ffb1 fzb1 fsb1
        clear hb1
        have hb2 := hbn
        clear hbn
        obtain ⟨fcb2, ffb2, fzb2⟩ := bfacts hb2 (by first | exact Nat.le_refl _ | omega | (simp; omega) | simp); have fsb2 := hb2.size; try simp at fcb2 ffb2 fzb2 fsb2 hb2
        go_wp2_with fail
        refine (implisSpace_any _ _).mono ?_; rintro e w' ⟨rfl, rfl⟩
        go_wp2_with fail
        refine (implfitsChamber _ _ _ _ _ _ _ _ _ _ H1.out H2.out H3.out).mono ?_
        rintro e w3 ⟨rfl, hb3⟩
        have hbn := Below.trans (by first | exact hb2 | exact below_drewN hb2 _) (Below.mono hb3 (by first | omega | (simp; omega) | simp))
        clear hb3 fcb2 ffb2 fzb2 fsb2
        clear hb2
        have hb3 := hbn
        clear hbn
        obtain ⟨fcb3, ffb3, fzb3⟩ := bfacts hb3 (by first | exact Nat.le_refl _ | omega | (simp; omega) | simp); have fsb3 := hb3.size; try simp at fcb3 ffb3 fzb3 fsb3 hb3
        go_wp2_with fail
        go_ret
        exact ⟨ret_bool e.out.symm, (by repeat (first | exact Below.refl _ _ | refine Below.alloc ?_ (by first | omega | (simp; omega) | simp) _ | refine Below.drew ?_ | refine below_drewN ?_ _ | refine Below.setCell ?_ (by first | omega | (simp; omega) | simp) _ | (refine Below.trans ?_ (Below.mono (by assumption) (by first | omega | (simp; omega) | simp)))))⟩
theorem specFitsChamber (a b c : Int) (s : ByteArray) (x y z r g : Int) (w : World) (hs : s.size ≤ maxLen) :
    Calls Try.prog 28 #[.agg #[.int .i64 a, .int .i64 b, .int .i64 c], .agg #[.string s, .int .i64 x, .int .i64 y, .int .i64 z, .int .i64 r], .int .i64 g] w fun e w' =>
    e = .returned (.bool (fitsAll a b c s x y z r g)) ∧ Below w.heap.size w w' := by
  cases h1 : vCh a b c
  · have e : Hid (fitsAll a b c s x y z r g = false) := by unfold Hid fitsAll; simp [h1]
    go_enter Try.func28, Try.ntmps28
    go_wp2_with fail
    refine (specl23Chamber _ 0 a b c _ (by simp) (by simp) (by simp)).mono ?_; rintro e w1 ⟨rfl, rfl⟩
    go_wp2_with fail
    go_ret
    exact ⟨ret_bool e.out.symm, (by repeat (first | exact Below.refl _ _ | refine Below.alloc ?_ (by first | omega | (simp; omega) | simp) _ | refine Below.drew ?_ | refine below_drewN ?_ _ | refine Below.setCell ?_ (by first | omega | (simp; omega) | simp) _ | (refine Below.trans ?_ (Below.mono (by assumption) (by first | omega | (simp; omega) | simp)))))⟩
  · cases h2 : vPlace s x y z r
    · have e : Hid (fitsAll a b c s x y z r g = false) := by unfold Hid fitsAll; simp [h2]
      go_enter Try.func28, Try.ntmps28
      go_wp2_with fail
      refine (specl23Chamber _ 0 a b c _ (by simp) (by simp) (by simp)).mono ?_; rintro e w1 ⟨rfl, rfl⟩
      go_wp2_with fail
      refine (specl23One _ 0 s x y z r _ hs (by simp) (by simp) (by simp) (by simp) (by simp)).mono ?_; rintro e w1 ⟨rfl, rfl⟩
      go_wp2_with fail
      go_ret
      exact ⟨ret_bool e.out.symm, (by repeat (first | exact Below.refl _ _ | refine Below.alloc ?_ (by first | omega | (simp; omega) | simp) _ | refine Below.drew ?_ | refine below_drewN ?_ _ | refine Below.setCell ?_ (by first | omega | (simp; omega) | simp) _ | (refine Below.trans ?_ (Below.mono (by assumption) (by first | omega | (simp; omega) | simp)))))⟩
    · cases h3 : inB g 0 5000
      · have e : Hid (fitsAll a b c s x y z r g = false) := by unfold Hid fitsAll; simp [h3]
        go_enter Try.func28, Try.ntmps28
        go_wp2_with fail
        refine (specl23Chamber _ 0 a b c _ (by simp) (by simp) (by simp)).mono ?_; rintro e w1 ⟨rfl, rfl⟩
        go_wp2_with fail
        refine (specl23One _ 0 s x y z r _ hs (by simp) (by simp) (by simp) (by simp) (by simp)).mono ?_; rintro e w1 ⟨rfl, rfl⟩
        go_wp2_with (go_at_call 71; refine (specl23Gap_any _ _).mono ?_; rintro e w' ⟨rfl, rfl⟩)
        go_ret
        exact ⟨ret_bool e.out.symm, (by repeat (first | exact Below.refl _ _ | refine Below.alloc ?_ (by first | omega | (simp; omega) | simp) _ | refine Below.drew ?_ | refine below_drewN ?_ _ | refine Below.setCell ?_ (by first | omega | (simp; omega) | simp) _ | (refine Below.trans ?_ (Below.mono (by assumption) (by first | omega | (simp; omega) | simp)))))⟩
      · have e : Hid (fitsAll a b c s x y z r g = fits a b c x y z r g) := by unfold Hid fitsAll; simp [h1, h2, h3]
        have H1 := hide h1
        have H2 := hide h2
        have H3 := hide h3
        go_enter Try.func28, Try.ntmps28
        go_wp2_with fail
        refine (specl23Chamber _ 0 a b c _ (by simp) (by simp) (by simp)).mono ?_; rintro e w1 ⟨rfl, rfl⟩
        go_wp2_with fail
        refine (specl23One _ 0 s x y z r _ hs (by simp) (by simp) (by simp) (by simp) (by simp)).mono ?_; rintro e w1 ⟨rfl, rfl⟩
        go_wp2_with fail
        refine (specl23Gap_any _ _).mono ?_; rintro e w' ⟨rfl, rfl⟩
        go_wp2_with fail
        refine (specl23Within _ _ 0 a b c s x y z r g _ H1.out H2.out H3.out (by simp) (by simp) (by simp) (by simp) (by simp) (by simp) (by simp)).mono ?_; rintro e w' ⟨rfl, n1, rfl⟩
        go_wp2_with fail
        go_ret
        exact ⟨ret_bool e.out.symm, (by repeat (first | exact Below.refl _ _ | refine Below.alloc ?_ (by first | omega | (simp; omega) | simp) _ | refine Below.drew ?_ | refine below_drewN ?_ _ | refine Below.setCell ?_ (by first | omega | (simp; omega) | simp) _ | (refine Below.trans ?_ (Below.mono (by assumption) (by first | omega | (simp; omega) | simp)))))⟩
theorem lawFitsChamber (a b c : Int) (s : ByteArray) (x y z r g : Int) (w : World) (hs : s.size ≤ maxLen) :
    Calls Try.prog 7 #[.agg #[.int .i64 a, .int .i64 b, .int .i64 c], .agg #[.string s, .int .i64 x, .int .i64 y, .int .i64 z, .int .i64 r], .int .i64 g] w fun e w' => e = .returned (.bool true) ∧ Below w.heap.size w w' := by
  by_cases hz : (s.size : Int) ≤ 1048576
  · go_enter Try.func7, Try.ntmps7
    go_wp2_with fail
    refine (lawsszPlace_ok _ _ _ _ _ _ _ hz (by omega)).mono ?_
    rintro e w1 ⟨rfl, hb1⟩
    obtain ⟨fcb1, ffb1, fzb1⟩ := bfacts hb1 (by first | exact Nat.le_refl _ | omega | (simp; omega) | simp); have fsb1 := hb1.size; try simp at fcb1 ffb1 fzb1 fsb1 hb1
    go_wp2_with fail
    have qc0 : w1.cell? ⟨w.heap.size, 0, none⟩ = some (.int .i64 a) := by rw [fcb1 _ _ (by omega)]; simp
    have qc1 : w1.cell? ⟨w.heap.size, 1, none⟩ = some (.int .i64 b) := by rw [fcb1 _ _ (by omega)]; simp
    have qc2 : w1.cell? ⟨w.heap.size, 2, none⟩ = some (.int .i64 c) := by rw [fcb1 _ _ (by omega)]; simp
    have qc3 : w1.cell? ⟨w.heap.size + 1, 0, none⟩ = some (.string s) := by rw [fcb1 _ _ (by omega)]; simp
    have qc4 : w1.cell? ⟨w.heap.size + 1, 1, none⟩ = some (.int .i64 x) := by rw [fcb1 _ _ (by omega)]; simp
    have qc5 : w1.cell? ⟨w.heap.size + 1, 2, none⟩ = some (.int .i64 y) := by rw [fcb1 _ _ (by omega)]; simp
    have qc6 : w1.cell? ⟨w.heap.size + 1, 3, none⟩ = some (.int .i64 z) := by rw [fcb1 _ _ (by omega)]; simp
    have qc7 : w1.cell? ⟨w.heap.size + 1, 4, none⟩ = some (.int .i64 r) := by rw [fcb1 _ _ (by omega)]; simp
    have hzW : w.heap.size + 1 < w1.heap.size := fzb1 _ (by omega)
    have hbW : Below w.heap.size w w1 := (by repeat (first | exact Below.refl _ _ | refine Below.alloc ?_ (by first | omega | (simp; omega) | simp) _ | refine Below.drew ?_ | refine below_drewN ?_ _ | refine Below.setCell ?_ (by first | omega | (simp; omega) | simp) _ | (refine Below.trans ?_ (Below.mono (by assumption) (by first | omega | (simp; omega) | simp)))))
    have HB := hide hb1; clear hb1 fcb1 ffb1 fzb1 fsb1
    go_region_held3 (fun w' => w'.cell? ⟨w.heap.size, 0, none⟩ = some (.int .i64 a) ∧ w'.cell? ⟨w.heap.size, 1, none⟩ = some (.int .i64 b) ∧ w'.cell? ⟨w.heap.size, 2, none⟩ = some (.int .i64 c) ∧ w'.cell? ⟨w.heap.size + 1, 0, none⟩ = some (.string s) ∧ w'.cell? ⟨w.heap.size + 1, 1, none⟩ = some (.int .i64 x) ∧ w'.cell? ⟨w.heap.size + 1, 2, none⟩ = some (.int .i64 y) ∧ w'.cell? ⟨w.heap.size + 1, 3, none⟩ = some (.int .i64 z) ∧ w'.cell? ⟨w.heap.size + 1, 4, none⟩ = some (.int .i64 r) ∧ w.heap.size + 1 < w'.heap.size ∧ Below w.heap.size w w') ((first | exact ⟨qc0, qc1, qc2, qc3, qc4, qc5, qc6, qc7, hzW, hbW.drew⟩ | (go_split_ands; (repeat' apply And.intro); all_goals (first | exact (hbK.cell (by first | omega | (simp; omega) | simp)).trans (by assumption) | (have hq := hbK.size; (try simp at hq); omega) | (exact Below.trans (by assumption) (hbK.mono (by first | omega | (simp; omega) | simp)))))))
      (first
        | (go_at_call 16; refine (lawstoChamber _ _ _ _).mono ?_; rintro e wK ⟨rfl, hbK⟩)
        | (go_at_call 29; refine (lawstoPlace _ _ _ _ _ _).mono ?_; rintro e wK ⟨rfl, hbK⟩)
        | (go_at_call 28; refine (specFitsChamber _ _ _ _ _ _ _ _ _ _ hs).mono ?_; rintro e wK ⟨rfl, hbK⟩))
    go_wp2_with fail
    obtain ⟨qc0, qc1, qc2, qc3, qc4, qc5, qc6, qc7, hzW, hbW⟩ := (by assumption : wK.cell? ⟨w.heap.size, 0, none⟩ = some (.int .i64 a) ∧ wK.cell? ⟨w.heap.size, 1, none⟩ = some (.int .i64 b) ∧ wK.cell? ⟨w.heap.size, 2, none⟩ = some (.int .i64 c) ∧ wK.cell? ⟨w.heap.size + 1, 0, none⟩ = some (.string s) ∧ wK.cell? ⟨w.heap.size + 1, 1, none⟩ = some (.int .i64 x) ∧ wK.cell? ⟨w.heap.size + 1, 2, none⟩ = some (.int .i64 y) ∧ wK.cell? ⟨w.heap.size + 1, 3, none⟩ = some (.int .i64 z) ∧ wK.cell? ⟨w.heap.size + 1, 4, none⟩ = some (.int .i64 r) ∧ w.heap.size + 1 < wK.heap.size ∧ Below w.heap.size w wK)
    go_region_held3 (fun w' => w'.cell? ⟨w.heap.size, 0, none⟩ = some (.int .i64 a) ∧ w'.cell? ⟨w.heap.size, 1, none⟩ = some (.int .i64 b) ∧ w'.cell? ⟨w.heap.size, 2, none⟩ = some (.int .i64 c) ∧ w'.cell? ⟨w.heap.size + 1, 0, none⟩ = some (.string s) ∧ w'.cell? ⟨w.heap.size + 1, 1, none⟩ = some (.int .i64 x) ∧ w'.cell? ⟨w.heap.size + 1, 2, none⟩ = some (.int .i64 y) ∧ w'.cell? ⟨w.heap.size + 1, 3, none⟩ = some (.int .i64 z) ∧ w'.cell? ⟨w.heap.size + 1, 4, none⟩ = some (.int .i64 r) ∧ w.heap.size + 1 < w'.heap.size ∧ Below w.heap.size w w') ((first | exact ⟨qc0, qc1, qc2, qc3, qc4, qc5, qc6, qc7, hzW, hbW.drew⟩ | (go_split_ands; (repeat' apply And.intro); all_goals (first | exact (hbK.cell (by first | omega | (simp; omega) | simp)).trans (by assumption) | (have hq := hbK.size; (try simp at hq); omega) | (exact Below.trans (by assumption) (hbK.mono (by first | omega | (simp; omega) | simp)))))))
      (first
        | (go_at_call 16; refine (lawstoChamber _ _ _ _).mono ?_; rintro e wK ⟨rfl, hbK⟩)
        | (go_at_call 29; refine (lawstoPlace _ _ _ _ _ _).mono ?_; rintro e wK ⟨rfl, hbK⟩)
        | (go_at_call 30; refine (implFitsChamber _ _ _ _ _ _ _ _ _ _ hs).mono ?_; rintro e wK ⟨rfl, hbK⟩))
    go_wp2_with fail
    obtain ⟨qc0, qc1, qc2, qc3, qc4, qc5, qc6, qc7, hzW, hbW⟩ := (by assumption : wK.cell? ⟨w.heap.size, 0, none⟩ = some (.int .i64 a) ∧ wK.cell? ⟨w.heap.size, 1, none⟩ = some (.int .i64 b) ∧ wK.cell? ⟨w.heap.size, 2, none⟩ = some (.int .i64 c) ∧ wK.cell? ⟨w.heap.size + 1, 0, none⟩ = some (.string s) ∧ wK.cell? ⟨w.heap.size + 1, 1, none⟩ = some (.int .i64 x) ∧ wK.cell? ⟨w.heap.size + 1, 2, none⟩ = some (.int .i64 y) ∧ wK.cell? ⟨w.heap.size + 1, 3, none⟩ = some (.int .i64 z) ∧ wK.cell? ⟨w.heap.size + 1, 4, none⟩ = some (.int .i64 r) ∧ w.heap.size + 1 < wK.heap.size ∧ Below w.heap.size w wK)
    go_wp2
    go_ret
    exact ⟨rfl, hbW⟩
  · go_enter Try.func7, Try.ntmps7
    go_wp2_with fail
    refine (lawsszPlace_big _ _ _ _ _ _ _ hs (by omega) (by omega)).mono ?_
    rintro e w1 ⟨rfl, hb1⟩
    obtain ⟨fcb1, ffb1, fzb1⟩ := bfacts hb1 (by first | exact Nat.le_refl _ | omega | (simp; omega) | simp); have fsb1 := hb1.size; try simp at fcb1 ffb1 fzb1 fsb1 hb1
    go_wp2
    go_ret
    exact ⟨rfl, (by repeat (first | exact Below.refl _ _ | refine Below.alloc ?_ (by first | omega | (simp; omega) | simp) _ | refine Below.drew ?_ | refine below_drewN ?_ _ | refine Below.setCell ?_ (by first | omega | (simp; omega) | simp) _ | (refine Below.trans ?_ (Below.mono (by assumption) (by first | omega | (simp; omega) | simp)))))⟩
end Go.Proofs.Ytfgdfjgfgakjaaa
