/- Contracts: the room between bells, whether a place is within a chamber, on both sides; the laws of ValidTower, FitsChamber, ClearanceOf. -/
import Derived.Test.YtjklhacffdhgaaaValid
import Derived.Test.YtjklhacffdhgaaaRoot
import Derived.Deep.RegionHeld3
namespace Go.Proofs.Ytjklhacffdhgaaa
open Go.RowKit


/-- The room between two bells. -/
@[irreducible] def clr (x y z r x' y' z' r' : Int) : Int := Pl.rt ((x - x') * (x - x') + (y - y') * (y - y') + (z - z') * (z - z')) - r - r'
theorem sq_bd {a b : Int} (h1 : 0 ≤ a) (h2 : a ≤ 20000) (h3 : 0 ≤ b) (h4 : b ≤ 20000) : 0 ≤ (a - b) * (a - b) ∧ (a - b) * (a - b) ≤ 400000000 := by
  by_cases h : b ≤ a
  · exact ⟨Int.mul_nonneg (by omega) (by omega), by have := Pl.sq_le (x := a - b) (y := 20000) (by omega) (by omega); omega⟩
  · have e : (a - b) * (a - b) = (b - a) * (b - a) := by rw [← Int.neg_mul_neg, show -(a - b) = b - a by omega]
    rw [e]
    exact ⟨Int.mul_nonneg (by omega) (by omega), by have := Pl.sq_le (x := b - a) (y := 20000) (by omega) (by omega); omega⟩

theorem implclearance (s s' : ByteArray) (x y z r x' y' z' r' : Int) (w : World) (h : vPlace s x y z r = true) (h' : vPlace s' x' y' z' r' = true) :
    Calls Try.prog 177 #[.agg #[.string s, .int .i64 x, .int .i64 y, .int .i64 z, .int .i64 r], .agg #[.string s', .int .i64 x', .int .i64 y', .int .i64 z', .int .i64 r']] w fun e w' =>
    e = .returned (.int .i64 (clr x y z r x' y' z' r')) ∧ Below w.heap.size w w' := by
  have e : Hid (clr x y z r x' y' z' r' = Pl.rt ((x - x') * (x - x') + (y - y') * (y - y') + (z - z') * (z - z')) - r - r') := by unfold Hid clr; rfl
  obtain ⟨_, ⟨a1, a2⟩, ⟨a3, a4⟩, ⟨a5, a6⟩, ⟨a7, a8⟩⟩ := vPlace_true _ _ _ _ _ h
  obtain ⟨_, ⟨b1, b2⟩, ⟨b3, b4⟩, ⟨b5, b6⟩, ⟨b7, b8⟩⟩ := vPlace_true _ _ _ _ _ h'
  obtain ⟨c1, c2⟩ := sq_bd a1 a2 b1 b2
  obtain ⟨c3, c4⟩ := sq_bd a3 a4 b3 b4
  obtain ⟨c5, c6⟩ := sq_bd a5 a6 b5 b6
  have r1 := Pl.rt_nonneg ((x - x') * (x - x') + (y - y') * (y - y') + (z - z') * (z - z'))
  have r2 : Pl.rt ((x - x') * (x - x') + (y - y') * (y - y') + (z - z') * (z - z')) ≤ 40000 := Pl.rt_le (by omega) (by omega)
  clear h h'
  go_enter Try.func177, Try.ntmps177
  go_wp2_with fail
  have k1 : IntKind.i64.wrap (x - x') = x - x' := IntWalk.i64_in _ (by omega)
  have k2 : IntKind.i64.wrap (y - y') = y - y' := IntWalk.i64_in _ (by omega)
  have k3 : IntKind.i64.wrap (z - z') = z - z' := IntWalk.i64_in _ (by omega)
  go_quiet (fail)
  go_wp2_with fail
  have k4 : IntKind.i64.wrap ((x - x') * (x - x')) = (x - x') * (x - x') := IntWalk.i64_in _ (by omega)
  have k5 : IntKind.i64.wrap ((y - y') * (y - y')) = (y - y') * (y - y') := IntWalk.i64_in _ (by omega)
  have k6 : IntKind.i64.wrap ((z - z') * (z - z')) = (z - z') * (z - z') := IntWalk.i64_in _ (by omega)
  have k7 : IntKind.i64.wrap ((x - x') * (x - x') + (y - y') * (y - y')) = (x - x') * (x - x') + (y - y') * (y - y') := IntWalk.i64_in _ (by omega)
  have k8 : IntKind.i64.wrap ((x - x') * (x - x') + (y - y') * (y - y') + (z - z') * (z - z')) = (x - x') * (x - x') + (y - y') * (y - y') + (z - z') * (z - z') := IntWalk.i64_in _ (by omega)
  have k9 : IntKind.i64.wrap (Pl.rt ((x - x') * (x - x') + (y - y') * (y - y') + (z - z') * (z - z')) - r) = Pl.rt ((x - x') * (x - x') + (y - y') * (y - y') + (z - z') * (z - z')) - r := IntWalk.i64_in _ (by omega)
  have k0 : IntKind.i64.wrap (Pl.rt ((x - x') * (x - x') + (y - y') * (y - y') + (z - z') * (z - z')) - r - r') = Pl.rt ((x - x') * (x - x') + (y - y') * (y - y') + (z - z') * (z - z')) - r - r' := IntWalk.i64_in _ (by omega)
  have hle : (x - x') * (x - x') + (y - y') * (y - y') + (z - z') * (z - z') ≤ 9223372036854775807 := by omega
  go_quiet ((go_at_call 204; exact quiet_add_same ((RootOf_any _ _ hle).mono fun _ _ hh => ⟨hh.1, hh.2.symm⟩)))
  go_wp2
  go_ret
  exact ⟨ret_int e.out.symm, (by repeat (first | with_reducible exact Below.refl _ _ | with_reducible assumption | (with_reducible refine Below.drew ?_) | (with_reducible refine below_drewN ?_ _) | ((with_reducible refine Below.alloc ?_ ?_ _); rotate_left; (focus (first | omega | (simp; omega) | simp))) | ((with_reducible refine Below.setCell ?_ ?_ _); rotate_left; (focus (first | omega | (simp; omega) | simp))) | (refine Below.trans ?_ (Below.mono (by assumption) (by first | omega | (simp; omega) | simp)))))⟩
set_option maxRecDepth 100000 in
theorem specl23Clear (bl off bl' off' : Nat) (s s' : ByteArray) (x y z r x' y' z' r' : Int) (w : World) (h : vPlace s x y z r = true) (h' : vPlace s' x' y' z' r' = true)
    (g1 : w.cell? ⟨bl, off + 1, none⟩ = some (.int .i64 x)) (g2 : w.cell? ⟨bl, off + 2, none⟩ = some (.int .i64 y)) (g3 : w.cell? ⟨bl, off + 3, none⟩ = some (.int .i64 z)) (g4 : w.cell? ⟨bl, off + 4, none⟩ = some (.int .i64 r))
    (g1' : w.cell? ⟨bl', off' + 1, none⟩ = some (.int .i64 x')) (g2' : w.cell? ⟨bl', off' + 2, none⟩ = some (.int .i64 y')) (g3' : w.cell? ⟨bl', off' + 3, none⟩ = some (.int .i64 z')) (g4' : w.cell? ⟨bl', off' + 4, none⟩ = some (.int .i64 r')) :
    Calls Try.prog 205 #[.pointer (some ⟨bl, off, none⟩), .pointer (some ⟨bl', off', none⟩)] w fun e w' => e = .returned (.int .i64 (clr x y z r x' y' z' r')) ∧ ∃ n, w.drewN n = w' := by
  have e : Hid (clr x y z r x' y' z' r' = Pl.rt ((x - x') * (x - x') + (y - y') * (y - y') + (z - z') * (z - z')) - r - r') := by unfold Hid clr; rfl
  obtain ⟨_, ⟨a1, a2⟩, ⟨a3, a4⟩, ⟨a5, a6⟩, ⟨a7, a8⟩⟩ := vPlace_true _ _ _ _ _ h
  obtain ⟨_, ⟨b1, b2⟩, ⟨b3, b4⟩, ⟨b5, b6⟩, ⟨b7, b8⟩⟩ := vPlace_true _ _ _ _ _ h'
  obtain ⟨c1, c2⟩ := sq_bd a1 a2 b1 b2
  obtain ⟨c3, c4⟩ := sq_bd a3 a4 b3 b4
  obtain ⟨c5, c6⟩ := sq_bd a5 a6 b5 b6
  have r1 := Pl.rt_nonneg ((x - x') * (x - x') + (y - y') * (y - y') + (z - z') * (z - z'))
  have r2 : Pl.rt ((x - x') * (x - x') + (y - y') * (y - y') + (z - z') * (z - z')) ≤ 40000 := Pl.rt_le (by omega) (by omega)
  clear h h'
  go_enter Try.func205, Try.ntmps205
  go_wp2_with fail
  have k1 : IntKind.i64.wrap (x - x') = x - x' := IntWalk.i64_in _ (by omega)
  have k2 : IntKind.i64.wrap (y - y') = y - y' := IntWalk.i64_in _ (by omega)
  have k3 : IntKind.i64.wrap (z - z') = z - z' := IntWalk.i64_in _ (by omega)
  go_quiet (fail)
  go_wp2_with fail
  go_quiet (fail)
  go_wp2_with fail
  go_quiet (fail)
  go_wp2_with fail
  have k4 : IntKind.i64.wrap ((x - x') * (x - x')) = (x - x') * (x - x') := IntWalk.i64_in _ (by omega)
  have k5 : IntKind.i64.wrap ((y - y') * (y - y')) = (y - y') * (y - y') := IntWalk.i64_in _ (by omega)
  have k6 : IntKind.i64.wrap ((z - z') * (z - z')) = (z - z') * (z - z') := IntWalk.i64_in _ (by omega)
  have k7 : IntKind.i64.wrap ((x - x') * (x - x') + (y - y') * (y - y')) = (x - x') * (x - x') + (y - y') * (y - y') := IntWalk.i64_in _ (by omega)
  have k8 : IntKind.i64.wrap ((x - x') * (x - x') + (y - y') * (y - y') + (z - z') * (z - z')) = (x - x') * (x - x') + (y - y') * (y - y') + (z - z') * (z - z') := IntWalk.i64_in _ (by omega)
  have k9 : IntKind.i64.wrap (Pl.rt ((x - x') * (x - x') + (y - y') * (y - y') + (z - z') * (z - z')) - r) = Pl.rt ((x - x') * (x - x') + (y - y') * (y - y') + (z - z') * (z - z')) - r := IntWalk.i64_in _ (by omega)
  have k0 : IntKind.i64.wrap (Pl.rt ((x - x') * (x - x') + (y - y') * (y - y') + (z - z') * (z - z')) - r - r') = Pl.rt ((x - x') * (x - x') + (y - y') * (y - y') + (z - z') * (z - z')) - r - r' := IntWalk.i64_in _ (by omega)
  have hle : (x - x') * (x - x') + (y - y') * (y - y') + (z - z') * (z - z') ≤ 9223372036854775807 := by omega
  go_quiet ((go_at_call 208; exact quiet_add_same ((l01Root_any _ _ hle).mono fun _ _ hh => ⟨hh.1, hh.2.symm⟩)))
  go_wp2
  go_ret
  exact ⟨ret_int e.out.symm, by simp only [World.drewN_drewN]; exact ⟨_, rfl⟩⟩
@[irreducible] def clrOf (s s' : ByteArray) (x y z r x' y' z' r' : Int) : Int × Int := if vPlace s x y z r && vPlace s' x' y' z' r' then (clr x y z r x' y' z' r', 0) else (0, 1)

/-- Whether a place is within a chamber. -/
@[irreducible] def fits (a b c x y z r g : Int) : Bool := inB x (r + g) (a - (r + g)) && inB y (r + g) (b - (r + g)) && inB z (r + g) (c - (r + g))
theorem implfitsChamber (a b c : Int) (s : ByteArray) (x y z r g : Int) (w : World) (h : vCh a b c = true) (h' : vPlace s x y z r = true) (hg : inB g 0 5000 = true) :
    Calls Try.prog 133 #[.agg #[.int .i64 a, .int .i64 b, .int .i64 c], .agg #[.string s, .int .i64 x, .int .i64 y, .int .i64 z, .int .i64 r], .int .i64 g] w fun e w' =>
    e = .returned (.bool (fits a b c x y z r g)) ∧ Below w.heap.size w w' := by
  have e : Hid (fits a b c x y z r g = (inB x (r + g) (a - (r + g)) && inB y (r + g) (b - (r + g)) && inB z (r + g) (c - (r + g)))) := by unfold Hid fits; rfl
  obtain ⟨⟨a1, a2⟩, ⟨a3, a4⟩, ⟨a5, a6⟩⟩ := vCh_true _ _ _ h
  obtain ⟨_, ⟨b1, b2⟩, ⟨b3, b4⟩, ⟨b5, b6⟩, ⟨b7, b8⟩⟩ := vPlace_true _ _ _ _ _ h'
  obtain ⟨c1, c2⟩ := inB_true hg
  clear h h' hg
  cases h1 : inB x (r + g) (a - (r + g)) <;> cases h2 : inB y (r + g) (b - (r + g)) <;> cases h3 : inB z (r + g) (c - (r + g))
  all_goals
    go_enter Try.func133, Try.ntmps133
    go_wp2_with (go_at_call 122; refine (implwithin_any _ _ _ _).mono ?_; rintro e w' ⟨rfl, rfl⟩)
    go_ret
    exact ⟨ret_bool (by rw [e.out, h1, h2, h3]; rfl), (by repeat (first | with_reducible exact Below.refl _ _ | with_reducible assumption | (with_reducible refine Below.drew ?_) | (with_reducible refine below_drewN ?_ _) | ((with_reducible refine Below.alloc ?_ ?_ _); rotate_left; (focus (first | omega | (simp; omega) | simp))) | ((with_reducible refine Below.setCell ?_ ?_ _); rotate_left; (focus (first | omega | (simp; omega) | simp))) | (refine Below.trans ?_ (Below.mono (by assumption) (by first | omega | (simp; omega) | simp)))))⟩
set_option maxRecDepth 100000 in
theorem specl23Within (bc bl off : Nat) (a b c : Int) (s : ByteArray) (x y z r g : Int) (w : World) (h : vCh a b c = true) (h' : vPlace s x y z r = true) (hg : inB g 0 5000 = true)
    (e0 : w.cell? ⟨bc, 0, none⟩ = some (.int .i64 a)) (e1 : w.cell? ⟨bc, 1, none⟩ = some (.int .i64 b)) (e2 : w.cell? ⟨bc, 2, none⟩ = some (.int .i64 c))
    (g1 : w.cell? ⟨bl, off + 1, none⟩ = some (.int .i64 x)) (g2 : w.cell? ⟨bl, off + 2, none⟩ = some (.int .i64 y)) (g3 : w.cell? ⟨bl, off + 3, none⟩ = some (.int .i64 z)) (g4 : w.cell? ⟨bl, off + 4, none⟩ = some (.int .i64 r)) :
    Calls Try.prog 174 #[.pointer (some ⟨bc, 0, none⟩), .pointer (some ⟨bl, off, none⟩), .int .i64 g] w fun e w' => e = .returned (.bool (fits a b c x y z r g)) ∧ ∃ n, w.drewN n = w' := by
  have e : Hid (fits a b c x y z r g = (inB x (r + g) (a - (r + g)) && inB y (r + g) (b - (r + g)) && inB z (r + g) (c - (r + g)))) := by unfold Hid fits; rfl
  obtain ⟨⟨a1, a2⟩, ⟨a3, a4⟩, ⟨a5, a6⟩⟩ := vCh_true _ _ _ h
  obtain ⟨_, ⟨b1, b2⟩, ⟨b3, b4⟩, ⟨b5, b6⟩, ⟨b7, b8⟩⟩ := vPlace_true _ _ _ _ _ h'
  obtain ⟨c1, c2⟩ := inB_true hg
  have k1 : IntKind.i64.wrap (r + g) = r + g := IntWalk.i64_in _ (by omega)
  have k2 : IntKind.i64.wrap (a - (r + g)) = a - (r + g) := IntWalk.i64_in _ (by omega)
  have k3 : IntKind.i64.wrap (b - (r + g)) = b - (r + g) := IntWalk.i64_in _ (by omega)
  have k4 : IntKind.i64.wrap (c - (r + g)) = c - (r + g) := IntWalk.i64_in _ (by omega)
  clear h h' hg
  cases h1 : inB x (r + g) (a - (r + g))
  · go_enter Try.func174, Try.ntmps174
    go_wp2_with fail
    go_quiet ((go_at_call 96; exact Calls.quiet_of_same ((specl00In_is _ _ _ _ (by assumption) _).mono fun _ _ hh => ⟨hh.1, hh.2.symm⟩)))
    go_wp2
    go_ret
    exact ⟨ret_bool (by rw [e.out, h1]; rfl), _, rfl⟩
  · cases h2 : inB y (r + g) (b - (r + g))
    · go_enter Try.func174, Try.ntmps174
      go_wp2_with fail
      go_quiet ((go_at_call 96; exact Calls.quiet_of_same ((specl00In_is _ _ _ _ (by assumption) _).mono fun _ _ hh => ⟨hh.1, hh.2.symm⟩)))
      go_wp2
      go_ret
      exact ⟨ret_bool (by rw [e.out, h1, h2]; rfl), _, rfl⟩
    · cases h3 : inB z (r + g) (c - (r + g))
      all_goals
        go_enter Try.func174, Try.ntmps174
        go_wp2_with fail
        go_quiet ((go_at_call 96; exact Calls.quiet_of_same ((specl00In_is _ _ _ _ (by assumption) _).mono fun _ _ hh => ⟨hh.1, hh.2.symm⟩)))
        go_wp2
        go_ret
        exact ⟨ret_bool (by rw [e.out, h1, h2, h3]; rfl), _, rfl⟩
@[irreducible] def fitsAll (a b c : Int) (s : ByteArray) (x y z r g : Int) : Bool := vCh a b c && vPlace s x y z r && inB g 0 5000 && fits a b c x y z r g
theorem implFitsChamber (a b c : Int) (s : ByteArray) (x y z r g : Int) (w : World) (hs : s.size ≤ maxLen) :
    Calls Try.prog 64 #[.agg #[.int .i64 a, .int .i64 b, .int .i64 c], .agg #[.string s, .int .i64 x, .int .i64 y, .int .i64 z, .int .i64 r], .int .i64 g] w fun e w' =>
    e = .returned (.bool (fitsAll a b c s x y z r g)) ∧ Below w.heap.size w w' := by
  cases h1 : vCh a b c
  · have e : Hid (fitsAll a b c s x y z r g = false) := by unfold Hid fitsAll; simp [h1]
    go_enter Try.func64, Try.ntmps64
    go_wp2_with fail
    refine (implValidChamber _ _ _ _).mono ?_
    rintro e w1 ⟨rfl, hb1⟩
    obtain ⟨fcb1, ffb1, fzb1⟩ := bfacts hb1 (by first | exact Nat.le_refl _ | omega | (simp; omega) | simp); have fsb1 := hb1.size; try simp at fcb1 ffb1 fzb1 fsb1 hb1
    go_wp2_with fail
    go_ret
    exact ⟨ret_bool e.out.symm, (by repeat (first | with_reducible exact Below.refl _ _ | with_reducible assumption | (with_reducible refine Below.drew ?_) | (with_reducible refine below_drewN ?_ _) | ((with_reducible refine Below.alloc ?_ ?_ _); rotate_left; (focus (first | omega | (simp; omega) | simp))) | ((with_reducible refine Below.setCell ?_ ?_ _); rotate_left; (focus (first | omega | (simp; omega) | simp))) | (refine Below.trans ?_ (Below.mono (by assumption) (by first | omega | (simp; omega) | simp)))))⟩
  · cases h2 : vPlace s x y z r
    · have e : Hid (fitsAll a b c s x y z r g = false) := by unfold Hid fitsAll; simp [h2]
      go_enter Try.func64, Try.ntmps64
      go_wp2_with fail
      refine (implValidChamber _ _ _ _).mono ?_
      rintro e w1 ⟨rfl, hb1⟩
      obtain ⟨fcb1, ffb1, fzb1⟩ := bfacts hb1 (by first | exact Nat.le_refl _ | omega | (simp; omega) | simp); have fsb1 := hb1.size; try simp at fcb1 ffb1 fzb1 fsb1 hb1
      go_wp2_with fail
      refine (implvalidPlace _ _ _ _ _ _ hs).mono ?_
      rintro e w2 ⟨rfl, hb2⟩
      have hbn := Below.trans (by first | exact hb1 | exact below_drewN hb1 _) (Below.mono hb2 (by first | omega | (simp; omega) | simp))
      clear hb2 fcb1 ffb1 fzb1 fsb1
      clear hb1
      have hb2 := hbn
      clear hbn
      obtain ⟨fcb2, ffb2, fzb2⟩ := bfacts hb2 (by first | exact Nat.le_refl _ | omega | (simp; omega) | simp); have fsb2 := hb2.size; try simp at fcb2 ffb2 fzb2 fsb2 hb2
      go_wp2_with fail
      go_ret
      exact ⟨ret_bool e.out.symm, (by repeat (first | with_reducible exact Below.refl _ _ | with_reducible assumption | (with_reducible refine Below.drew ?_) | (with_reducible refine below_drewN ?_ _) | ((with_reducible refine Below.alloc ?_ ?_ _); rotate_left; (focus (first | omega | (simp; omega) | simp))) | ((with_reducible refine Below.setCell ?_ ?_ _); rotate_left; (focus (first | omega | (simp; omega) | simp))) | (refine Below.trans ?_ (Below.mono (by assumption) (by first | omega | (simp; omega) | simp)))))⟩
    · cases h3 : inB g 0 5000
      · have e : Hid (fitsAll a b c s x y z r g = false) := by unfold Hid fitsAll; simp [h3]
        go_enter Try.func64, Try.ntmps64
        go_wp2_with fail
        refine (implValidChamber _ _ _ _).mono ?_
        rintro e w1 ⟨rfl, hb1⟩
        obtain ⟨fcb1, ffb1, fzb1⟩ := bfacts hb1 (by first | exact Nat.le_refl _ | omega | (simp; omega) | simp); have fsb1 := hb1.size; try simp at fcb1 ffb1 fzb1 fsb1 hb1
        go_wp2_with fail
        refine (implvalidPlace _ _ _ _ _ _ hs).mono ?_
        rintro e w2 ⟨rfl, hb2⟩
        have hbn := Below.trans (by first | exact hb1 | exact below_drewN hb1 _) (Below.mono hb2 (by first | omega | (simp; omega) | simp))
        clear hb2 fcb1 ffb1 fzb1 fsb1
        clear hb1
        have hb2 := hbn
        clear hbn
        obtain ⟨fcb2, ffb2, fzb2⟩ := bfacts hb2 (by first | exact Nat.le_refl _ | omega | (simp; omega) | simp); have fsb2 := hb2.size; try simp at fcb2 ffb2 fzb2 fsb2 hb2
        go_wp2_with (go_at_call 128; refine (implisSpace_any _ _).mono ?_; rintro e w' ⟨rfl, rfl⟩)
        go_ret
        exact ⟨ret_bool e.out.symm, (by repeat (first | with_reducible exact Below.refl _ _ | with_reducible assumption | (with_reducible refine Below.drew ?_) | (with_reducible refine below_drewN ?_ _) | ((with_reducible refine Below.alloc ?_ ?_ _); rotate_left; (focus (first | omega | (simp; omega) | simp))) | ((with_reducible refine Below.setCell ?_ ?_ _); rotate_left; (focus (first | omega | (simp; omega) | simp))) | (refine Below.trans ?_ (Below.mono (by assumption) (by first | omega | (simp; omega) | simp)))))⟩
      · have e : Hid (fitsAll a b c s x y z r g = fits a b c x y z r g) := by unfold Hid fitsAll; simp [h1, h2, h3]
        have H1 := hide h1
        have H2 := hide h2
        have H3 := hide h3
        go_enter Try.func64, Try.ntmps64
        go_wp2_with fail
        refine (implValidChamber _ _ _ _).mono ?_
        rintro e w1 ⟨rfl, hb1⟩
        obtain ⟨fcb1, ffb1, fzb1⟩ := bfacts hb1 (by first | exact Nat.le_refl _ | omega | (simp; omega) | simp); have fsb1 := hb1.size; try simp at fcb1 ffb1 fzb1 fsb1 hb1
        go_wp2_with fail
        refine (implvalidPlace _ _ _ _ _ _ hs).mono ?_
        rintro e w2 ⟨rfl, hb2⟩
        have hbn := Below.trans (by first | exact hb1 | exact below_drewN hb1 _) (Below.mono hb2 (by first | omega | (simp; omega) | simp))
        clear hb2 fcb1 ffb1 fzb1 fsb1
        clear hb1
        have hb2 := hbn
        clear hbn
        obtain ⟨fcb2, ffb2, fzb2⟩ := bfacts hb2 (by first | exact Nat.le_refl _ | omega | (simp; omega) | simp); have fsb2 := hb2.size; try simp at fcb2 ffb2 fzb2 fsb2 hb2
        go_wp2_with fail
        refine (implisSpace_any _ _).mono ?_; rintro e w' ⟨rfl, rfl⟩
        go_wp2_with fail
        refine (implfitsChamber _ _ _ _ _ _ _ _ _ _ H1.out H2.out H3.out).mono ?_
        rintro e w3 ⟨rfl, hb3⟩
        have hbn := Below.trans (by first | exact hb2 | exact below_drewN hb2 _) (Below.mono hb3 (by first | omega | (simp; omega) | simp))
        clear hb3 fcb2 ffb2 fzb2 fsb2
        clear hb2
        have hb3 := hbn
        clear hbn
        obtain ⟨fcb3, ffb3, fzb3⟩ := bfacts hb3 (by first | exact Nat.le_refl _ | omega | (simp; omega) | simp); have fsb3 := hb3.size; try simp at fcb3 ffb3 fzb3 fsb3 hb3
        go_wp2_with fail
        go_ret
        exact ⟨ret_bool e.out.symm, (by repeat (first | with_reducible exact Below.refl _ _ | with_reducible assumption | (with_reducible refine Below.drew ?_) | (with_reducible refine below_drewN ?_ _) | ((with_reducible refine Below.alloc ?_ ?_ _); rotate_left; (focus (first | omega | (simp; omega) | simp))) | ((with_reducible refine Below.setCell ?_ ?_ _); rotate_left; (focus (first | omega | (simp; omega) | simp))) | (refine Below.trans ?_ (Below.mono (by assumption) (by first | omega | (simp; omega) | simp)))))⟩
end Go.Proofs.Ytjklhacffdhgaaa
