/- Contracts: the next heat, on both sides. -/
import Derived.Test.YtklmbgefdopifaaHtG
import Derived.Deep.DeepCutAuto
namespace Go.Proofs.Ytklmbgefdopifaa
open Go.RowKit

set_option maxRecDepth 100000 in
set_option maxHeartbeats 2000000 in
theorem implNextHeat (x0 : ByteArray) (x1 x2 x3 : Int) (y0 : ByteArray) (y1 y2 y3 : Int) (fr : Int) (w : World) (hx : vPour x0 x1 x2 x3 = true) (hy : vCruc y0 y1 y2 y3 = true) (hs0 : x0.size ≤ maxLen) (hs1 : y0.size ≤ maxLen) (h0 : y3 ≤ fr) (h1 : fr ≤ 10000) :
    Calls Try.prog 74 #[.agg #[.string x0, .int .i64 x1, .int .i64 x2, .int .i64 x3], .agg #[.string y0, .int .i64 y1, .int .i64 y2, .int .i64 y3], .int .i64 fr] w fun e w' => ∃ a b cd : Int, Ht.nxR ⟨x0, x1, x2, x3⟩ ⟨y0, y1, y2, y3⟩ fr = (a, b, cd) ∧ e = .returned (.tuple #[.int .i64 a, .int .i64 b, .int .i64 cd]) ∧ Below w.heap.size w w' := by
  have hb : inB fr y3 10000 = true := inB_mk h0 h1
  obtain ⟨⟨u0, u1⟩, ⟨u2, u3⟩, u4⟩ := vPour_true hx
  obtain ⟨-, ⟨v0, v1⟩, ⟨v2, v3⟩, v4, v5⟩ := vCruc_true _ _ _ _ hy
  by_cases hm : y1 < x1
  · by_cases hq : fr < x2 - y2
    · have e : Hid (Ht.nxR ⟨x0, x1, x2, x3⟩ ⟨y0, y1, y2, y3⟩ fr = (0, 0, 5)) := hide (by unfold Ht.nxR; simp only; rw [if_pos hm])
      go_enter Try.func74, Try.ntmps74
      go_wp2_with fail
      refine (implvalidPour x0 x1 x2 x3 _ hs0).mono ?_
      rintro e w1 ⟨rfl, hb1⟩
      obtain ⟨fcb1, ffb1, fzb1⟩ := bfacts hb1 (by first | exact Nat.le_refl _ | omega | (simp; omega) | simp); have fsb1 := hb1.size; try simp at fcb1 ffb1 fzb1 fsb1 hb1
      go_wp2_with fail
      refine (implvalidCrucible y0 y1 y2 y3 _ hs1).mono ?_
      rintro e w2 ⟨rfl, hb2⟩
      have hbn := Below.trans (by first | exact hb1 | exact below_drewN hb1 _) (Below.mono hb2 (by first | omega | (simp; omega) | simp))
      clear hb2 fcb1 ffb1 fzb1 fsb1
      clear hb1
      have hb2 := hbn
      clear hbn
      obtain ⟨fcb2, ffb2, fzb2⟩ := bfacts hb2 (by first | exact Nat.le_refl _ | omega | (simp; omega) | simp); have fsb2 := hb2.size; try simp at fcb2 ffb2 fzb2 fsb2 hb2
      go_wp2_with (first | (go_at_call 80; refine (implwithin_any _ _ _ _).mono ?_; rintro e2 w3 ⟨rfl, rfl⟩))
      all_goals (try go_region)
      all_goals (try go_wp2_with fail)
      go_ret3
      exact ⟨0, 0, 5, e.out, rfl, (by repeat (first | with_reducible exact Below.refl _ _ | with_reducible assumption | (with_reducible refine Below.drew ?_) | (with_reducible refine below_drewN ?_ _) | ((with_reducible refine Below.alloc ?_ ?_ _); rotate_left; (focus (first | omega | (simp; omega) | simp))) | ((with_reducible refine Below.setCell ?_ ?_ _); rotate_left; (focus (first | omega | (simp; omega) | simp))) | (refine Below.trans ?_ (Below.mono (by assumption) (by first | omega | (simp; omega) | simp)))))⟩
    · have e : Hid (Ht.nxR ⟨x0, x1, x2, x3⟩ ⟨y0, y1, y2, y3⟩ fr = (0, 0, 5)) := hide (by unfold Ht.nxR; simp only; rw [if_pos hm])
      go_enter Try.func74, Try.ntmps74
      go_wp2_with fail
      refine (implvalidPour x0 x1 x2 x3 _ hs0).mono ?_
      rintro e w1 ⟨rfl, hb1⟩
      obtain ⟨fcb1, ffb1, fzb1⟩ := bfacts hb1 (by first | exact Nat.le_refl _ | omega | (simp; omega) | simp); have fsb1 := hb1.size; try simp at fcb1 ffb1 fzb1 fsb1 hb1
      go_wp2_with fail
      refine (implvalidCrucible y0 y1 y2 y3 _ hs1).mono ?_
      rintro e w2 ⟨rfl, hb2⟩
      have hbn := Below.trans (by first | exact hb1 | exact below_drewN hb1 _) (Below.mono hb2 (by first | omega | (simp; omega) | simp))
      clear hb2 fcb1 ffb1 fzb1 fsb1
      clear hb1
      have hb2 := hbn
      clear hbn
      obtain ⟨fcb2, ffb2, fzb2⟩ := bfacts hb2 (by first | exact Nat.le_refl _ | omega | (simp; omega) | simp); have fsb2 := hb2.size; try simp at fcb2 ffb2 fzb2 fsb2 hb2
      go_wp2_with (first | (go_at_call 80; refine (implwithin_any _ _ _ _).mono ?_; rintro e2 w3 ⟨rfl, rfl⟩))
      all_goals (try go_region)
      all_goals (try go_wp2_with fail)
      go_ret3
      exact ⟨0, 0, 5, e.out, rfl, (by repeat (first | with_reducible exact Below.refl _ _ | with_reducible assumption | (with_reducible refine Below.drew ?_) | (with_reducible refine below_drewN ?_ _) | ((with_reducible refine Below.alloc ?_ ?_ _); rotate_left; (focus (first | omega | (simp; omega) | simp))) | ((with_reducible refine Below.setCell ?_ ?_ _); rotate_left; (focus (first | omega | (simp; omega) | simp))) | (refine Below.trans ?_ (Below.mono (by assumption) (by first | omega | (simp; omega) | simp)))))⟩
  · by_cases hq : fr < x2 - y2
    · have hmx : max fr (x2 - y2) = (x2 - y2) := by omega
      by_cases hd : x3 < (x2 - y2) + y2
      · exact absurd hd (by omega)
      · have e : Hid (Ht.nxR ⟨x0, x1, x2, x3⟩ ⟨y0, y1, y2, y3⟩ fr = ((x2 - y2), x2, 0)) := hide (by unfold Ht.nxR; simp only; rw [if_neg hm, hmx, if_neg hd, Int.sub_add_cancel])
        clear hmx hd
        go_enter Try.func74, Try.ntmps74
        go_wp2_with fail
        refine (implvalidPour x0 x1 x2 x3 _ hs0).mono ?_
        rintro e w1 ⟨rfl, hb1⟩
        obtain ⟨fcb1, ffb1, fzb1⟩ := bfacts hb1 (by first | exact Nat.le_refl _ | omega | (simp; omega) | simp); have fsb1 := hb1.size; try simp at fcb1 ffb1 fzb1 fsb1 hb1
        go_wp2_with fail
        refine (implvalidCrucible y0 y1 y2 y3 _ hs1).mono ?_
        rintro e w2 ⟨rfl, hb2⟩
        have hbn := Below.trans (by first | exact hb1 | exact below_drewN hb1 _) (Below.mono hb2 (by first | omega | (simp; omega) | simp))
        clear hb2 fcb1 ffb1 fzb1 fsb1
        clear hb1
        have hb2 := hbn
        clear hbn
        obtain ⟨fcb2, ffb2, fzb2⟩ := bfacts hb2 (by first | exact Nat.le_refl _ | omega | (simp; omega) | simp); have fsb2 := hb2.size; try simp at fcb2 ffb2 fzb2 fsb2 hb2
        go_wp2_with (first | (go_at_call 80; refine (implwithin_any _ _ _ _).mono ?_; rintro e2 w3 ⟨rfl, rfl⟩))
        all_goals (try go_region)
        all_goals (try go_wp2_with fail)
        go_ret3
        exact ⟨(x2 - y2), x2, 0, e.out, rfl, (by repeat (first | with_reducible exact Below.refl _ _ | with_reducible assumption | (with_reducible refine Below.drew ?_) | (with_reducible refine below_drewN ?_ _) | ((with_reducible refine Below.alloc ?_ ?_ _); rotate_left; (focus (first | omega | (simp; omega) | simp))) | ((with_reducible refine Below.setCell ?_ ?_ _); rotate_left; (focus (first | omega | (simp; omega) | simp))) | (refine Below.trans ?_ (Below.mono (by assumption) (by first | omega | (simp; omega) | simp)))))⟩
    · have hmx : max fr (x2 - y2) = fr := by omega
      by_cases hd : x3 < fr + y2
      · have e : Hid (Ht.nxR ⟨x0, x1, x2, x3⟩ ⟨y0, y1, y2, y3⟩ fr = (0, 0, 6)) := hide (by unfold Ht.nxR; simp only; rw [if_neg hm, hmx, if_pos hd])
        clear hmx
        go_enter Try.func74, Try.ntmps74
        go_wp2_with fail
        refine (implvalidPour x0 x1 x2 x3 _ hs0).mono ?_
        rintro e w1 ⟨rfl, hb1⟩
        obtain ⟨fcb1, ffb1, fzb1⟩ := bfacts hb1 (by first | exact Nat.le_refl _ | omega | (simp; omega) | simp); have fsb1 := hb1.size; try simp at fcb1 ffb1 fzb1 fsb1 hb1
        go_wp2_with fail
        refine (implvalidCrucible y0 y1 y2 y3 _ hs1).mono ?_
        rintro e w2 ⟨rfl, hb2⟩
        have hbn := Below.trans (by first | exact hb1 | exact below_drewN hb1 _) (Below.mono hb2 (by first | omega | (simp; omega) | simp))
        clear hb2 fcb1 ffb1 fzb1 fsb1
        clear hb1
        have hb2 := hbn
        clear hbn
        obtain ⟨fcb2, ffb2, fzb2⟩ := bfacts hb2 (by first | exact Nat.le_refl _ | omega | (simp; omega) | simp); have fsb2 := hb2.size; try simp at fcb2 ffb2 fzb2 fsb2 hb2
        go_wp2_with (first | (go_at_call 80; refine (implwithin_any _ _ _ _).mono ?_; rintro e2 w3 ⟨rfl, rfl⟩))
        all_goals (try go_region)
        all_goals (try go_wp2_with fail)
        go_ret3
        exact ⟨0, 0, 6, e.out, rfl, (by repeat (first | with_reducible exact Below.refl _ _ | with_reducible assumption | (with_reducible refine Below.drew ?_) | (with_reducible refine below_drewN ?_ _) | ((with_reducible refine Below.alloc ?_ ?_ _); rotate_left; (focus (first | omega | (simp; omega) | simp))) | ((with_reducible refine Below.setCell ?_ ?_ _); rotate_left; (focus (first | omega | (simp; omega) | simp))) | (refine Below.trans ?_ (Below.mono (by assumption) (by first | omega | (simp; omega) | simp)))))⟩
      · have e : Hid (Ht.nxR ⟨x0, x1, x2, x3⟩ ⟨y0, y1, y2, y3⟩ fr = (fr, fr + y2, 0)) := hide (by unfold Ht.nxR; simp only; rw [if_neg hm, hmx, if_neg hd])
        clear hmx
        go_enter Try.func74, Try.ntmps74
        go_wp2_with fail
        refine (implvalidPour x0 x1 x2 x3 _ hs0).mono ?_
        rintro e w1 ⟨rfl, hb1⟩
        obtain ⟨fcb1, ffb1, fzb1⟩ := bfacts hb1 (by first | exact Nat.le_refl _ | omega | (simp; omega) | simp); have fsb1 := hb1.size; try simp at fcb1 ffb1 fzb1 fsb1 hb1
        go_wp2_with fail
        refine (implvalidCrucible y0 y1 y2 y3 _ hs1).mono ?_
        rintro e w2 ⟨rfl, hb2⟩
        have hbn := Below.trans (by first | exact hb1 | exact below_drewN hb1 _) (Below.mono hb2 (by first | omega | (simp; omega) | simp))
        clear hb2 fcb1 ffb1 fzb1 fsb1
        clear hb1
        have hb2 := hbn
        clear hbn
        obtain ⟨fcb2, ffb2, fzb2⟩ := bfacts hb2 (by first | exact Nat.le_refl _ | omega | (simp; omega) | simp); have fsb2 := hb2.size; try simp at fcb2 ffb2 fzb2 fsb2 hb2
        go_wp2_with (first | (go_at_call 80; refine (implwithin_any _ _ _ _).mono ?_; rintro e2 w3 ⟨rfl, rfl⟩))
        all_goals (try go_region)
        all_goals (try go_wp2_with fail)
        go_ret3
        exact ⟨fr, fr + y2, 0, e.out, rfl, (by repeat (first | with_reducible exact Below.refl _ _ | with_reducible assumption | (with_reducible refine Below.drew ?_) | (with_reducible refine below_drewN ?_ _) | ((with_reducible refine Below.alloc ?_ ?_ _); rotate_left; (focus (first | omega | (simp; omega) | simp))) | ((with_reducible refine Below.setCell ?_ ?_ _); rotate_left; (focus (first | omega | (simp; omega) | simp))) | (refine Below.trans ?_ (Below.mono (by assumption) (by first | omega | (simp; omega) | simp)))))⟩
theorem specl00Max_is (a b m : Int) (w : World) (h : mx a b = m) : Calls Try.prog 113 #[.int .i64 a, .int .i64 b] w fun e w' => e = .returned (.int .i64 m) ∧ w = w' := by
  subst h
  exact specl00Max a b w
set_option maxRecDepth 100000 in
set_option maxHeartbeats 2000000 in
theorem specl17Next (bp op bc oc : Nat) (x0 : ByteArray) (x1 x2 x3 : Int) (y0 : ByteArray) (y1 y2 y3 : Int) (fr : Int) (w : World) (hx : vPour x0 x1 x2 x3 = true) (hy : vCruc y0 y1 y2 y3 = true) (h0 : y3 ≤ fr) (h1 : fr ≤ 10000)
    (p1 : w.cell? ⟨bp, op + 1, none⟩ = some (.int .i64 x1)) (p2 : w.cell? ⟨bp, op + 2, none⟩ = some (.int .i64 x2)) (p3 : w.cell? ⟨bp, op + 3, none⟩ = some (.int .i64 x3)) (c1 : w.cell? ⟨bc, oc + 1, none⟩ = some (.int .i64 y1)) (c2 : w.cell? ⟨bc, oc + 2, none⟩ = some (.int .i64 y2)) :
    Calls Try.prog 104 #[.pointer (some ⟨bp, op, none⟩), .pointer (some ⟨bc, oc, none⟩), .int .i64 fr] w fun e w' => ∃ a b cd : Int, Ht.nxR ⟨x0, x1, x2, x3⟩ ⟨y0, y1, y2, y3⟩ fr = (a, b, cd) ∧ e = .returned (.tuple #[.int .i64 a, .int .i64 b, .int .i64 cd]) ∧ Below w.heap.size w w' := by
  obtain ⟨⟨u0, u1⟩, ⟨u2, u3⟩, u4⟩ := vPour_true hx
  obtain ⟨-, ⟨v0, v1⟩, ⟨v2, v3⟩, v4, v5⟩ := vCruc_true _ _ _ _ hy
  have CELLS := hide (fun (W : World) (h : Below w.heap.size w W) => (show W.cell? ⟨bp, op + 1, none⟩ = some (.int .i64 x1) ∧ W.cell? ⟨bp, op + 2, none⟩ = some (.int .i64 x2) ∧ W.cell? ⟨bp, op + 3, none⟩ = some (.int .i64 x3) ∧ W.cell? ⟨bc, oc + 1, none⟩ = some (.int .i64 y1) ∧ W.cell? ⟨bc, oc + 2, none⟩ = some (.int .i64 y2) ∧ bp < W.heap.size ∧ bc < W.heap.size from by
    have z1 : bp < w.heap.size := World.block_lt_of_cell? w _ p1
    have z2 : bc < w.heap.size := World.block_lt_of_cell? w _ c1
    have z3 := h.size
    exact ⟨(h.cell (p := ⟨bp, op + 1, none⟩) z1).trans p1, (h.cell (p := ⟨bp, op + 2, none⟩) z1).trans p2, (h.cell (p := ⟨bp, op + 3, none⟩) z1).trans p3, (h.cell (p := ⟨bc, oc + 1, none⟩) z2).trans c1, (h.cell (p := ⟨bc, oc + 2, none⟩) z2).trans c2, by omega, by omega⟩))
  clear hx hy p1 p2 p3 c1 c2
  by_cases hm : y1 < x1
  · have e : Hid (Ht.nxR ⟨x0, x1, x2, x3⟩ ⟨y0, y1, y2, y3⟩ fr = (0, 0, 5)) := hide (by unfold Ht.nxR; simp only; rw [if_pos hm])
    have hm2 : decide (y1 < x1) = true := by simp; omega
    clear hm
    obtain ⟨k1, k2, k3, k4, k5, k6, k7⟩ := CELLS.out w (Below.refl _ _)
    go_enter Try.func104, Try.ntmps104
    go_wp2_with fail
    refine wp_region_kept (by kernel_rfl) (by kernel_rfl) ?_
    intro gc gf gz
    repeat (go_big_quiet_step (fail))
    refine wpQuiet_nil ?_
    intro w1 hw'
    obtain ⟨⟨_, hb1⟩, rfl⟩ := hw'
    clear gc gf gz
    try dsimp only
    have fs1 := hb1.size
    try simp at fs1 hb1
    have B1 := hide hb1
    obtain ⟨k1, k2, k3, k4, k5, k6, k7⟩ := CELLS.out _ B1.out
    go_wp2_with fail
    go_ret3
    exact ⟨0, 0, 5, e.out, rfl, B1.out⟩
  · have hm2 : decide (y1 < x1) = false := by simp; omega
    have w1 : IntKind.i64.wrap (x2 - y2) = x2 - y2 := IntWalk.i64_in _ (by omega)
    by_cases hq : fr < x2 - y2
    · have hmx : max fr (x2 - y2) = (x2 - y2) := by omega
      have hmq : mx fr (x2 - y2) = (x2 - y2) := by rw [mx_max, hmx]
      have w2 : IntKind.i64.wrap x2 = x2 := IntWalk.i64_in _ (by omega)
      by_cases hd : x3 < (x2 - y2) + y2
      · exact absurd hd (by omega)
      · have e : Hid (Ht.nxR ⟨x0, x1, x2, x3⟩ ⟨y0, y1, y2, y3⟩ fr = ((x2 - y2), x2, 0)) := hide (by unfold Ht.nxR; simp only; rw [if_neg hm, hmx, if_neg hd, Int.sub_add_cancel])
        have hd2 : decide (x3 < x2) = false := by simp; omega
        clear hmx hd
        obtain ⟨k1, k2, k3, k4, k5, k6, k7⟩ := CELLS.out w (Below.refl _ _)
        go_enter Try.func104, Try.ntmps104
        go_wp2_with fail
        refine wp_region_kept (by kernel_rfl) (by kernel_rfl) ?_
        intro gc gf gz
        repeat (go_big_quiet_step (fail))
        refine wpQuiet_nil ?_
        intro w1 hw'
        obtain ⟨⟨_, hb1⟩, rfl⟩ := hw'
        clear gc gf gz
        try dsimp only
        have fs1 := hb1.size
        try simp at fs1 hb1
        have B1 := hide hb1
        obtain ⟨k1, k2, k3, k4, k5, k6, k7⟩ := CELLS.out _ B1.out
        go_wp2_with fail
        refine wp_region_kept (by kernel_rfl) (by kernel_rfl) ?_
        intro gc gf gz
        repeat (go_big_quiet_step ((go_at_call 113; exact Calls.kept_same (specl00Max_is _ _ _ _ (by assumption)))))
        refine wpQuiet_nil ?_
        intro w2 hw'
        obtain ⟨⟨_, hb2⟩, rfl⟩ := hw'
        clear gc gf gz
        try dsimp only
        have fs2 := hb2.size
        try simp at fs2 hb2
        have B2 := hide (B1.out.trans (hb2.mono B1.out.size))
        obtain ⟨k1, k2, k3, k4, k5, k6, k7⟩ := CELLS.out _ B2.out
        clear B1
        go_wp2_with fail
        refine wp_region_kept (by kernel_rfl) (by kernel_rfl) ?_
        intro gc gf gz
        repeat (go_big_quiet_step (fail))
        refine wpQuiet_nil ?_
        intro w3 hw'
        obtain ⟨⟨_, hb3⟩, rfl⟩ := hw'
        clear gc gf gz
        try dsimp only
        have fs3 := hb3.size
        try simp at fs3 hb3
        have B3 := hide (B2.out.trans (hb3.mono B2.out.size))
        obtain ⟨k1, k2, k3, k4, k5, k6, k7⟩ := CELLS.out _ B3.out
        clear B2
        go_wp2_with fail
        refine wp_region_kept (by kernel_rfl) (by kernel_rfl) ?_
        intro gc gf gz
        repeat (go_big_quiet_step (fail))
        refine wpQuiet_nil ?_
        intro w4 hw'
        obtain ⟨⟨_, hb4⟩, rfl⟩ := hw'
        clear gc gf gz
        try dsimp only
        have fs4 := hb4.size
        try simp at fs4 hb4
        have B4 := hide (B3.out.trans (hb4.mono B3.out.size))
        obtain ⟨k1, k2, k3, k4, k5, k6, k7⟩ := CELLS.out _ B4.out
        clear B3
        go_wp2_with fail
        go_ret3
        exact ⟨(x2 - y2), x2, 0, e.out, rfl, B4.out⟩
    · have hmx : max fr (x2 - y2) = fr := by omega
      have hmq : mx fr (x2 - y2) = fr := by rw [mx_max, hmx]
      have w2 : IntKind.i64.wrap (fr + y2) = fr + y2 := IntWalk.i64_in _ (by omega)
      by_cases hd : x3 < fr + y2
      · have e : Hid (Ht.nxR ⟨x0, x1, x2, x3⟩ ⟨y0, y1, y2, y3⟩ fr = (0, 0, 6)) := hide (by unfold Ht.nxR; simp only; rw [if_neg hm, hmx, if_pos hd])
        have hd2 : decide (x3 < fr + y2) = true := by simp; omega
        clear hmx hd
        obtain ⟨k1, k2, k3, k4, k5, k6, k7⟩ := CELLS.out w (Below.refl _ _)
        go_enter Try.func104, Try.ntmps104
        go_wp2_with fail
        refine wp_region_kept (by kernel_rfl) (by kernel_rfl) ?_
        intro gc gf gz
        repeat (go_big_quiet_step (fail))
        refine wpQuiet_nil ?_
        intro w1 hw'
        obtain ⟨⟨_, hb1⟩, rfl⟩ := hw'
        clear gc gf gz
        try dsimp only
        have fs1 := hb1.size
        try simp at fs1 hb1
        have B1 := hide hb1
        obtain ⟨k1, k2, k3, k4, k5, k6, k7⟩ := CELLS.out _ B1.out
        go_wp2_with fail
        refine wp_region_kept (by kernel_rfl) (by kernel_rfl) ?_
        intro gc gf gz
        repeat (go_big_quiet_step ((go_at_call 113; exact Calls.kept_same (specl00Max_is _ _ _ _ (by assumption)))))
        refine wpQuiet_nil ?_
        intro w2 hw'
        obtain ⟨⟨_, hb2⟩, rfl⟩ := hw'
        clear gc gf gz
        try dsimp only
        have fs2 := hb2.size
        try simp at fs2 hb2
        have B2 := hide (B1.out.trans (hb2.mono B1.out.size))
        obtain ⟨k1, k2, k3, k4, k5, k6, k7⟩ := CELLS.out _ B2.out
        clear B1
        go_wp2_with fail
        refine wp_region_kept (by kernel_rfl) (by kernel_rfl) ?_
        intro gc gf gz
        repeat (go_big_quiet_step (fail))
        refine wpQuiet_nil ?_
        intro w3 hw'
        obtain ⟨⟨_, hb3⟩, rfl⟩ := hw'
        clear gc gf gz
        try dsimp only
        have fs3 := hb3.size
        try simp at fs3 hb3
        have B3 := hide (B2.out.trans (hb3.mono B2.out.size))
        obtain ⟨k1, k2, k3, k4, k5, k6, k7⟩ := CELLS.out _ B3.out
        clear B2
        go_wp2_with fail
        go_ret3
        exact ⟨0, 0, 6, e.out, rfl, B3.out⟩
      · have e : Hid (Ht.nxR ⟨x0, x1, x2, x3⟩ ⟨y0, y1, y2, y3⟩ fr = (fr, fr + y2, 0)) := hide (by unfold Ht.nxR; simp only; rw [if_neg hm, hmx, if_neg hd])
        have hd2 : decide (x3 < fr + y2) = false := by simp; omega
        clear hmx hd
        obtain ⟨k1, k2, k3, k4, k5, k6, k7⟩ := CELLS.out w (Below.refl _ _)
        go_enter Try.func104, Try.ntmps104
        go_wp2_with fail
        refine wp_region_kept (by kernel_rfl) (by kernel_rfl) ?_
        intro gc gf gz
        repeat (go_big_quiet_step (fail))
        refine wpQuiet_nil ?_
        intro w1 hw'
        obtain ⟨⟨_, hb1⟩, rfl⟩ := hw'
        clear gc gf gz
        try dsimp only
        have fs1 := hb1.size
        try simp at fs1 hb1
        have B1 := hide hb1
        obtain ⟨k1, k2, k3, k4, k5, k6, k7⟩ := CELLS.out _ B1.out
        go_wp2_with fail
        refine wp_region_kept (by kernel_rfl) (by kernel_rfl) ?_
        intro gc gf gz
        repeat (go_big_quiet_step ((go_at_call 113; exact Calls.kept_same (specl00Max_is _ _ _ _ (by assumption)))))
        refine wpQuiet_nil ?_
        intro w2 hw'
        obtain ⟨⟨_, hb2⟩, rfl⟩ := hw'
        clear gc gf gz
        try dsimp only
        have fs2 := hb2.size
        try simp at fs2 hb2
        have B2 := hide (B1.out.trans (hb2.mono B1.out.size))
        obtain ⟨k1, k2, k3, k4, k5, k6, k7⟩ := CELLS.out _ B2.out
        clear B1
        go_wp2_with fail
        refine wp_region_kept (by kernel_rfl) (by kernel_rfl) ?_
        intro gc gf gz
        repeat (go_big_quiet_step (fail))
        refine wpQuiet_nil ?_
        intro w3 hw'
        obtain ⟨⟨_, hb3⟩, rfl⟩ := hw'
        clear gc gf gz
        try dsimp only
        have fs3 := hb3.size
        try simp at fs3 hb3
        have B3 := hide (B2.out.trans (hb3.mono B2.out.size))
        obtain ⟨k1, k2, k3, k4, k5, k6, k7⟩ := CELLS.out _ B3.out
        clear B2
        go_wp2_with fail
        refine wp_region_kept (by kernel_rfl) (by kernel_rfl) ?_
        intro gc gf gz
        repeat (go_big_quiet_step (fail))
        refine wpQuiet_nil ?_
        intro w4 hw'
        obtain ⟨⟨_, hb4⟩, rfl⟩ := hw'
        clear gc gf gz
        try dsimp only
        have fs4 := hb4.size
        try simp at fs4 hb4
        have B4 := hide (B3.out.trans (hb4.mono B3.out.size))
        obtain ⟨k1, k2, k3, k4, k5, k6, k7⟩ := CELLS.out _ B4.out
        clear B3
        go_wp2_with fail
        go_ret3
        exact ⟨fr, fr + y2, 0, e.out, rfl, B4.out⟩
end Go.Proofs.Ytklmbgefdopifaa
