/- The planner's plain side: bounds of walls, sums and partials; that steps make partials lower. Contracts: walls of zones, the program's partials. -/
import Derived.Test.YtnefgafmnpblpaaGreatPnN
namespace Go.Proofs.YtnefgafmnpblpaaGreat.Pn
open Go.Proofs.YtnefgafmnpblpaaGreat

/-- Rings with walls. -/
def WallOK (rs : List RingR) : Prop := ∀ k, k < rs.length → 500 ≤ (rg rs k).outer ∧ (rg rs k).outer ≤ 150000 ∧ 0 ≤ (rg rs k).inner ∧ (rg rs k).inner ≤ (rg rs k).outer
theorem WallOK.wall {rs : List RingR} (h : WallOK rs) {k : Nat} (hk : k < rs.length) : 0 ≤ wallR (rg rs k) ∧ wallR (rg rs k) ≤ 150000 := by
  have := h k hk
  unfold wallR; omega
theorem RingsOK.walls {rs : List RingR} (h : RingsOK rs) : WallOK rs := fun k hk => by
  have a := (h.ring k hk).o
  have b := (h.ring k hk).i
  omega
theorem wsum_bd {rs : List RingR} (h : WallOK rs) (a : Nat) : ∀ k, a + k ≤ rs.length → 0 ≤ wsum rs a k ∧ wsum rs a k ≤ 150000 * (k : Int)
  | 0, _ => by simp [wsum]
  | k + 1, hk => by
    have := wsum_bd h a k (by omega)
    have := h.wall (k := a + k) (by omega)
    unfold wsum; omega
theorem nr_bd {a b c : Int} (h0 : 0 ≤ a) (hb : 1 ≤ b) (h : a ≤ c * b) : 0 ≤ Pl.nr a b ∧ Pl.nr a b ≤ c := by
  unfold Pl.nr
  rw [if_pos h0]
  constructor
  · exact Int.ediv_nonneg (by omega) (by omega)
  · have h1 : 2 * a + b < (c + 1) * (2 * b) := by
      have e : (c + 1) * (2 * b) = 2 * (c * b) + 2 * b := by rw [Int.add_mul, Int.one_mul, Int.mul_left_comm]
      omega
    have := Int.ediv_lt_of_lt_mul (by omega) h1
    omega
theorem nr_mono {a a' b : Int} (h0 : 0 ≤ a) (hb : 1 ≤ b) (h : a ≤ a') : Pl.nr a b ≤ Pl.nr a' b := by
  unfold Pl.nr
  rw [if_pos h0, if_pos (by omega)]
  exact Int.ediv_le_ediv (by omega) (by omega)
theorem wallZ_bd {zs : List Int} {rs : List RingR} (hz : ZonesOK zs rs.length) (h : WallOK rs) {z : Nat} (hzl : z < zs.length) : 0 ≤ wallZ zs rs z ∧ wallZ zs rs z ≤ 150000 := by
  have a := hz.endZ_lt hzl
  have b := hz.nonneg hzl
  unfold wallZ
  have hs := wsum_bd h (ig zs z).toNat (endZ zs rs.length z - ig zs z).toNat (by omega)
  have e : (((endZ zs rs.length z - ig zs z).toNat : Nat) : Int) = endZ zs rs.length z - ig zs z := by omega
  rw [e] at hs
  exact nr_bd hs.1 (by omega) hs.2
theorem mom_bd {ws wl : List Int} (h1 : ∀ z, 0 ≤ ig ws z ∧ ig ws z ≤ 1000) (h2 : ∀ z, 0 ≤ ig wl z ∧ ig wl z ≤ 150000) : ∀ k : Nat, 0 ≤ mom ws wl k ∧ mom ws wl k ≤ 150000000 * (k : Int)
  | 0 => by simp [mom]
  | k + 1 => by
    have a := mom_bd h1 h2 k
    have b := h1 k
    have c := h2 k
    have d : 0 ≤ ig ws k * ig wl k := Int.mul_nonneg b.1 c.1
    have e : ig ws k * ig wl k ≤ 1000 * 150000 := Int.mul_le_mul b.2 c.2 c.1 (by omega)
    unfold mom; omega
theorem ig_all {l : List Int} {lo hi : Int} (h : ∀ k, k < l.length → lo ≤ ig l k ∧ ig l k ≤ hi) (h0 : lo ≤ 0) (h1 : 0 ≤ hi) : ∀ k, lo ≤ ig l k ∧ ig l k ≤ hi := fun k => by
  by_cases hk : k < l.length
  · exact h k hk
  · rw [ig_out (by omega)]; exact ⟨h0, h1⟩
theorem walls_bd {zs : List Int} {rs : List RingR} (hz : ZonesOK zs rs.length) (h : WallOK rs) : ∀ z, 0 ≤ ig (walls zs rs) z ∧ ig (walls zs rs) z ≤ 150000 :=
  ig_all (fun z hzl => by rw [walls_length] at hzl; rw [walls_get zs rs z hzl]; exact wallZ_bd hz h hzl) (by omega) (by omega)
theorem lip_bd {rs : List RingR} (h : WallOK rs) (h0 : 0 < rs.length) : 1000 ≤ lipR rs ∧ lipR rs ≤ 300000 := by
  have := h 0 h0
  unfold lipR; omega
theorem area_bd {rs : List RingR} (h : WallOK rs) (h0 : 0 < rs.length) : 1 ≤ area rs ∧ area rs ≤ 90000 := by
  have a := lip_bd h h0
  have b : 1000 * 1000 ≤ lipR rs * lipR rs := Int.mul_le_mul a.1 a.1 (by omega) (by omega)
  have c : lipR rs * lipR rs ≤ 300000 * 300000 := Int.mul_le_mul a.2 a.2 (by omega) (by omega)
  unfold area
  refine ⟨?_, (nr_bd (c := 90000) (by omega) (by omega) (by omega)).2⟩
  have := nr_mono (a := 1000000) (b := 1000000) (by omega) (by omega) (show (1000000 : Int) ≤ lipR rs * lipR rs by omega)
  have e : Pl.nr 1000000 1000000 = 1 := by decide
  omega
/-- Steps that are at least as many in each zone. -/
def StLe (st st' : List Int) : Prop := ∀ z, ig st z ≤ ig st' z
theorem wsum_turn {zs st st' : List Int} {rs : List RingR} (h : StLe st st') (a : Nat) : ∀ k, a + k ≤ rs.length → wsum (turn zs st' rs) a k ≤ wsum (turn zs st rs) a k
  | 0, _ => Int.le_refl _
  | k + 1, hk => by
    have ih := wsum_turn h (zs := zs) (rs := rs) a k (by omega)
    unfold wsum
    rw [rg_turn zs st rs (a + k) (by omega), rg_turn zs st' rs (a + k) (by omega)]
    have := h (zoneAt zs ((a + k : Nat) : Int))
    unfold wallR cutR
    simp only
    omega
end Go.Proofs.YtnefgafmnpblpaaGreat.Pn
namespace Go.Proofs.YtnefgafmnpblpaaGreat
open Go.RowKit Pn

theorem implwall (x0 x1 x2 : Int) (w : World) (h0 : 0 ≤ x0 ∧ x0 ≤ 150000) (h1 : 0 ≤ x1 ∧ x1 ≤ 150000) : Calls Tryz.prog 183 #[.agg #[.int .i64 x0, .int .i64 x1, .int .i64 x2]] w fun e w' => e = .returned (.int .i64 (wallR ⟨x0, x1, x2⟩)) ∧ Below w.heap.size w w' := by
  have E := hide (show wallR ⟨x0, x1, x2⟩ = x0 - x1 from rfl)
  go_enter Tryz.func183, Tryz.ntmps183
  go_wp2_with fail
  go_ret
  exact ⟨ret_int E.out.symm, (by repeat (first | with_reducible exact Below.refl _ _ | with_reducible assumption | (with_reducible refine Below.drew ?_) | (with_reducible refine below_drewN ?_ _) | ((with_reducible refine Below.alloc ?_ ?_ _); rotate_left; (focus (first | omega | (simp; omega) | simp))) | ((with_reducible refine Below.setCell ?_ ?_ _); rotate_left; (focus (first | omega | (simp; omega) | simp))) | (refine Below.trans ?_ (Below.mono (by assumption) (by first | omega | (simp; omega) | simp)))))⟩
theorem wallZ_eq {zs : List Int} {rs : List RingR} {z : Nat} {a b : Nat} (h1 : (a : Int) = ig zs z) (h2 : (b : Int) = endZ zs rs.length z) : wallZ zs rs z = Pl.nr (wsum rs a (b - a)) (endZ zs rs.length z - ig zs z) := by
  unfold wallZ
  rw [← h1, ← h2]
  rw [show ((b : Int) - a).toNat = b - a by omega]
  simp only [Int.toNat_natCast]
theorem RowAt.sub {w : World} {b o n : Nat} {rs : List RingR} (h : ∀ j, j < rs.length → w.cell? ⟨b, o + j * 3, none⟩ = some (.int .i64 (rg rs j).outer) ∧ w.cell? ⟨b, o + j * 3 + 1, none⟩ = some (.int .i64 (rg rs j).inner) ∧ w.cell? ⟨b, o + j * 3 + 2, none⟩ = some (.int .i64 (rg rs j).hgt)) {a j : Nat} (hj : a + j < rs.length) (hn : n = a) :
    w.cell? ⟨b, o + n * 3 + j * 3, none⟩ = some (.int .i64 (rg rs (a + j)).outer) ∧ w.cell? ⟨b, o + n * 3 + j * 3 + 1, none⟩ = some (.int .i64 (rg rs (a + j)).inner) ∧ w.cell? ⟨b, o + n * 3 + j * 3 + 2, none⟩ = some (.int .i64 (rg rs (a + j)).hgt) := by
  subst hn
  have := h (n + j) hj
  rw [show o + (n + j) * 3 = o + n * 3 + j * 3 by omega] at this
  exact this
set_option maxRecDepth 100000 in
set_option maxHeartbeats 1000000 in
theorem implzoneWalls (nm : ByteArray) (A : Option Addr) (c : Nat) (rs : List RingR) (Az : Option Addr) (cz : Nat) (zs : List Int) (w : World) (h : SlAt encRing 3 w A rs) (hz : SlAt encI 1 w Az zs) (hn : rs.length ≤ 32) (h0 : 0 < rs.length) (hc : rs.length ≤ c) (HZO : Hid (ZonesOK zs rs.length)) (HW : Hid (WallOK rs)) :
    Calls Tryz.prog 159 #[.agg #[.string nm, .slice A rs.length c], .slice Az zs.length cz] w (RowRes (walls zs rs) w) := by
  have hb0 : Below w.heap.size w (w.alloc (.cells #[.string nm, .slice A rs.length c] 30)) := (by repeat (first | with_reducible exact Below.refl _ _ | with_reducible assumption | (with_reducible refine Below.drew ?_) | (with_reducible refine below_drewN ?_ _) | ((with_reducible refine Below.alloc ?_ ?_ _); rotate_left; (focus (first | omega | (simp; omega) | simp))) | ((with_reducible refine Below.setCell ?_ ?_ _); rotate_left; (focus (first | omega | (simp; omega) | simp))) | (refine Below.trans ?_ (Below.mono (by assumption) (by first | omega | (simp; omega) | simp)))))
  have HP := hide (ProfAt.new (nm := nm) (c := c) h)
  have HZ := hide (hz.below hb0)
  have HB0 := hide hb0
  have hz8 := HZO.out.len8
  have hz1 := HZO.out.len1
  clear h hz hb0
  go_enter Tryz.func159, Tryz.ntmps159
  go_wp2_with fail
  generalize w.alloc (.cells #[.string nm, .slice A rs.length c] 30) = w0 at *
  go_loopw [14, 5, 6, 7, 8, 9, 11] (fun v o _ _ _ _ _ wr => ∃ (z : Nat) (A : Option Addr) (c : Nat) (ys : List Int), v = .int .i64 z ∧ o = .slice A ys.length c ∧ z ≤ zs.length ∧ ys.length = z ∧ Hid (ys = (walls zs rs).take z) ∧ Hid (OwnI wr w0.heap.size (.slice A ys.length c) ys) ∧ Hid (Below w0.heap.size w0 wr)) (fun v _ _ _ _ _ _ _ => zs.length - (intOf v).toNat)
  case atStart => exact ⟨0, none, 0, [], rfl, rfl, by omega, rfl, hide (by simp), hide Own.nil, hide (Below.refl _ _)⟩
  case round =>
    obtain ⟨z, A2, c2, ys, rfl, rfl, hzz, hy, HY, HO, HB⟩ := hrel
    have hzw := HB.out.size
    have HLY := hide hy
    by_cases hlt : z < zs.length
    · have HPr := hide (HP.out.below HB.out)
      have HZr := hide (HZ.out.below HB.out)
      have p0 := HPr.out.c0
      have p1 := HPr.out.c1
      have pl := HPr.out.lt
      obtain ⟨bz, oz, rfl, hbz, hcz⟩ := HZr.out.getA (by omega)
      have hczz := hcz z hlt
      obtain ⟨fr, hfr⟩ : ∃ fr : Nat, (fr : Int) = ig zs z := ⟨(ig zs z).toNat, Int.toNat_of_nonneg (HZO.out.nonneg hlt)⟩
      obtain ⟨tq, hto⟩ : ∃ tq : Nat, (tq : Int) = endZ zs rs.length z := ⟨(endZ zs rs.length z).toNat, Int.toNat_of_nonneg (by have := HZO.out.endZ_lt hlt; have := HZO.out.nonneg hlt; omega)⟩
      have hft : fr < tq ∧ tq ≤ rs.length := by have := HZO.out.endZ_lt hlt; omega
      have HWZ := hide (wallZ_eq hfr hto)
      have HN2 := hide (show ys ++ [wallZ zs rs z] = (walls zs rs).take (z + 1) from by rw [HY.out, take_ig (by rw [walls_length]; exact hlt), walls_get zs rs z hlt])
      have HC := hide (implzoneEnd nm A rs.length c _ cz zs z wr HZr.out (by omega) hlt)
      have HNR := hide (show Pl.nr (wsum rs fr (tq - fr)) ((tq : Int) - fr) = wallZ zs rs z from by rw [HWZ.out, hfr, hto])
      rw [← hfr] at hczz
      rw [← hto] at HC
      clear hy HY hfr hto HWZ hcz
      go_wp2_with fail
      refine HC.out.mono ?_
      rintro e w5 ⟨rfl, hb5⟩
      have HP5 := hide (HPr.out.below hb5)
      have HO5 := hide (HO.out.below hb5)
      have HB5 := hide (HB.out.trans (hb5.mono hzw))
      have hz5 := HB5.out.size
      clear HC hb5 HO HB p0 p1 pl HPr HZr hczz hbz
      have p1 := HP5.out.c1
      have pl := HP5.out.lt
      obtain ⟨br, or_, rfl, hbr, hcr⟩ := HP5.out.sl.getR h0
      have HCR := hide hcr
      clear hcr
      go_wp2_with fail
      have hlen : tq - fr ≤ 32 := by omega
      go_loopw [29, 8, 11] (fun v s _ wk => ∃ j : Nat, v = .int .i64 j ∧ s = .int .i64 (wsum rs fr j) ∧ j ≤ tq - fr ∧ Hid (Below w5.heap.size w5 wk)) (fun v _ _ _ => (tq - fr) - (intOf v).toNat)
      case atStart => exact ⟨0, rfl, rfl, by omega, hide (Below.refl _ _)⟩
      case round =>
        obtain ⟨j, rfl, rfl, hj, HK⟩ := hrel
        have hkz := HK.out.size
        by_cases hjl : j < tq - fr
        · obtain ⟨q0, q1, q2⟩ := RowAt.sub (n := fr) (j := j) HCR.out (by omega) rfl
          have r0 := (HK.out.cell (p := ⟨br, or_ + fr * 3 + j * 3, none⟩) hbr).trans q0
          have r1 := (HK.out.cell (p := ⟨br, or_ + fr * 3 + j * 3 + 1, none⟩) hbr).trans q1
          have r2 := (HK.out.cell (p := ⟨br, or_ + fr * 3 + j * 3 + 2, none⟩) hbr).trans q2
          have hwk := HW.out (fr + j) (by omega)
          have hsb := wsum_bd HW.out fr j (by omega)
          have hww := HW.out.wall (k := fr + j) (by omega)
          have E2 := hide (show wsum rs fr j + wallR (rg rs (fr + j)) = wsum rs fr (j + 1) from rfl)
          have hbrk : br < wr.heap.size := by omega
          clear q0 q1 q2
          generalize wsum rs fr j = s at *
          generalize rg rs (fr + j) = x at *
          obtain ⟨x0, x1, x2⟩ := x
          simp only at r0 r1 r2 hwk
          go_wp2_with fail
          refine (implwall x0 x1 x2 _ (by omega) (by omega)).mono ?_
          rintro e w7 ⟨rfl, hb7⟩
          have HK7 := hide (HK.out.trans (Below.trans (show Below w5.heap.size wr (wr.alloc (.cells #[.int .i64 x0, .int .i64 x1, .int .i64 x2] 156)) from (Below.refl _ _).alloc hkz _) (hb7.mono (by simp; omega))))
          clear hb7 r0 r1 r2
          generalize wallR ⟨x0, x1, x2⟩ = d at *
          go_wp2_with fail
          go_roundw
          case rel => exact ⟨j + 1, by go_num, by rw [← E2.out], by omega, HK7⟩
          case measure => simp [intOf]; omega
        · obtain rfl : j = tq - fr := by omega
          have hsb := wsum_bd HW.out fr (tq - fr) (by omega)
          have HO6 := hide (HO5.out.below HK.out)
          have HB6 := hide (HB5.out.trans (HK.out.mono hz5))
          have hz6 := HB6.out.size
          have hww := wallZ_bd HZO.out HW.out hlt
          have HCN := hide (fun W => show Calls Tryz.prog 111 #[.int .i64 (wsum rs fr (tq - fr)), .int .i64 ((tq : Int) - fr)] W fun e w' => e = .returned (.int .i64 (wallZ zs rs z)) ∧ ∃ n, W.drewN n = w' from by rw [← HNR.out]; exact nearest_any _ _ W (by omega) (by omega) (by omega) (by omega))
          clear HNR HO5 HB5 HK p1 pl
          generalize wallZ zs rs z = d at *
          generalize wsum rs fr (tq - fr) = s at *
          go_wp2_with fail
          refine (HCN.out _).mono ?_
          rintro e w8 ⟨rfl, nd, rfl⟩
          have HO8 := hide (show OwnI (wr.drewN nd) w0.heap.size (.slice A2 ys.length c2) ys from HO6.out)
          have HB8 := hide (below_drewN HB6.out nd)
          have hz8' := HB8.out.size
          clear HO6 HB6 HCN
          generalize wr.drewN nd = w9 at *
          go_wp2_with (at_builtin; refine wpList_appI rfl _ _ rfl w0.heap.size rfl HO8.out rfl (by have := HLY.out; omega) ?_ ?_; (focus (exact hz8')); intro A6 c6 w6 ho6 hb6 _hg6; have HO6 := hide ho6; have HB6 := hide (HB8.out.trans hb6); clear ho6 hb6)
          go_roundw
          case rel => exact ⟨z + 1, A6, c6, ys ++ [d], by go_num, by simp, by omega, by simp [HLY.out], HN2, hide (by simpa using HO6.out), HB6⟩
          case measure => simp [intOf]; omega
    · have he : ys = walls zs rs := by rw [HY.out, List.take_of_length_le (by rw [walls_length]; omega)]
      have HE := hide HB0.out.size
      clear hy HY HLY
      subst he
      go_wp2_with fail
      go_ret
      exact ⟨A2, c2, rfl, HO.out.mono HE.out, HB0.out.trans (HB.out.mono HE.out)⟩
set_option maxRecDepth 100000 in
theorem impllip (nm : ByteArray) (A : Option Addr) (c : Nat) (rs : List RingR) (w : World) (h : SlAt encRing 3 w A rs) (h0 : 0 < rs.length) (HW : Hid (WallOK rs)) :
    Calls Tryz.prog 160 #[.agg #[.string nm, .slice A rs.length c]] w fun e w' => e = .returned (.int .i64 (lipR rs)) ∧ Below w.heap.size w w' := by
  obtain ⟨b, o, rfl, hb, hc⟩ := (h.below ((Below.refl _ _).alloc (Nat.le_refl _) (.cells #[.string nm, .slice A rs.length c] 30))).getR h0
  have q0 := (hc 0 h0).1
  have hw := HW.out 0 h0
  have E := hide (show lipR rs = 2 * (rg rs 0).outer from rfl)
  simp only [Nat.zero_mul, Nat.add_zero] at q0
  clear hc h
  generalize rg rs 0 = x at *
  obtain ⟨x0, x1, x2⟩ := x
  simp only at q0 hw E
  go_enter Tryz.func160, Tryz.ntmps160
  go_wp2_with fail
  go_ret
  exact ⟨ret_int E.out.symm, (by repeat (first | with_reducible exact Below.refl _ _ | with_reducible assumption | (with_reducible refine Below.drew ?_) | (with_reducible refine below_drewN ?_ _) | ((with_reducible refine Below.alloc ?_ ?_ _); rotate_left; (focus (first | omega | (simp; omega) | simp))) | ((with_reducible refine Below.setCell ?_ ?_ _); rotate_left; (focus (first | omega | (simp; omega) | simp))) | (refine Below.trans ?_ (Below.mono (by assumption) (by first | omega | (simp; omega) | simp)))))⟩
theorem impllip_is (nm : ByteArray) (A : Option Addr) (c : Nat) (rs : List RingR) (v : Int) (w : World) (h : SlAt encRing 3 w A rs) (h0 : 0 < rs.length) (HW : Hid (WallOK rs)) (hv : Hid (v = lipR rs)) :
    Calls Tryz.prog 160 #[.agg #[.string nm, .slice A rs.length c]] w fun e w' => e = .returned (.int .i64 v) ∧ Below w.heap.size w w' := by
  rw [hv.out]; exact impllip nm A c rs w h h0 HW
/-- The sums of the weighted walls for all partials. -/
@[irreducible] def momL (zs : List Int) (ws : List (List Int)) (rs : List RingR) : List Int := (List.range 5).map fun k => mom (wr_ ws k) (walls zs rs) zs.length
theorem momL_length (zs : List Int) (ws : List (List Int)) (rs : List RingR) : (momL zs ws rs).length = 5 := by unfold momL; simp
theorem momL_get (zs : List Int) (ws : List (List Int)) (rs : List RingR) {k : Nat} (h : k < 5) : ig (momL zs ws rs) k = mom (wr_ ws k) (walls zs rs) zs.length := by unfold momL; exact ig_map (fun k => mom (wr_ ws k) (walls zs rs) zs.length) _ _ h
theorem ModelW {zs : List Int} {ws : List (List Int)} {bs : List Int} (h : ModelOK zs ws bs) {k : Nat} (hk : k < 5) : ∀ z, 0 ≤ ig (wr_ ws k) z ∧ ig (wr_ ws k) z ≤ 1000 :=
  ig_all (fun z hz => (h.row' k hk).w z (by rw [← (h.row' k hk).len]; exact hz)) (by omega) (by omega)
theorem momL_bd {zs : List Int} {ws : List (List Int)} {bs : List Int} {rs : List RingR} (h : ModelOK zs ws bs) (hz : ZonesOK zs rs.length) (hw : WallOK rs) {k : Nat} (hk : k < 5) : 0 ≤ mom (wr_ ws k) (walls zs rs) zs.length ∧ mom (wr_ ws k) (walls zs rs) zs.length ≤ 1200000000 := by
  have a := mom_bd (ModelW h hk) (walls_bd hz hw) zs.length
  have := hz.len8
  omega
set_option maxRecDepth 100000 in
set_option maxHeartbeats 1000000 in
theorem implweighted (Az Aw Ab : Option Addr) (cz cw cb : Nat) (zs : List Int) (ws : List (List Int)) (bs : List Int) (nm : ByteArray) (A : Option Addr) (c : Nat) (rs : List RingR) (w : World) (hm : MdAt w Az Aw Ab zs ws bs) (hr : SlAt encRing 3 w A rs) (hn : rs.length ≤ 32) (h0 : 0 < rs.length) (hc : rs.length ≤ c) (HM : Hid (ModelOK zs ws bs)) (HZO : Hid (ZonesOK zs rs.length)) (HW : Hid (WallOK rs)) :
    Calls Tryz.prog 110 #[.agg #[.slice Az zs.length cz, .slice Aw ws.length cw, .slice Ab bs.length cb], .agg #[.string nm, .slice A rs.length c]] w fun e w' => ∃ A' c', e = .returned (.tuple #[.slice A' 5 c', .int .i64 (area rs)]) ∧ OwnI w' w.heap.size (.slice A' 5 c') (momL zs ws rs) ∧ Below w.heap.size w w' := by
  have HX := hide (boxes2 (cz := cz) (cw := cw) (cb := cb) (nm := nm) (c := c) hm hr)
  have c0 := HX.out.m.c0
  have p0 := HX.out.p.c0
  have p1 := HX.out.p.c1
  have pl := HX.out.p.lt
  have hz8 := HZO.out.len8
  have hz1 := HZO.out.len1
  have H5 := hide HM.out.wlen
  clear hm hr
  go_enter Tryz.func110, Tryz.ntmps110
  go_wp2_with fail
  generalize ((w.alloc (.cells #[.slice Az zs.length cz, .slice Aw ws.length cw, .slice Ab bs.length cb] 27)).alloc (.cells #[.string nm, .slice A rs.length c] 30)) = w0 at *
  refine (implzoneWalls nm A c rs Az cz zs w0 HX.out.p.sl HX.out.m.md.z hn h0 hc HZO HW).mono ?_
  rintro e w1 ⟨A1, c1, rfl, ho1, hb1⟩
  rw [walls_length] at ho1 ⊢
  have HO1 := hide ho1
  have HX1 := hide (HX.out.below hb1)
  have HGW := hide HX1.out.bel
  clear ho1 hb1 HX c0 p0 p1 pl
  have c1' := HX1.out.m.c1
  rw [H5.out] at c1'
  have ml := HX1.out.m.lt
  go_wp2_with fail
  go_loopw [20, 7, 9, 10, 11, 12] (fun v o _ _ _ _ wr => ∃ (k : Nat) (A : Option Addr) (c : Nat) (ys : List Int), v = .int .i64 k ∧ o = .slice A ys.length c ∧ k ≤ 5 ∧ ys.length = k ∧ Hid (ys = (momL zs ws rs).take k) ∧ Hid (OwnI wr w1.heap.size (.slice A ys.length c) ys) ∧ Hid (Below w1.heap.size w1 wr)) (fun v _ _ _ _ _ _ => 5 - (intOf v).toNat)
  case atStart => exact ⟨0, none, 0, [], rfl, rfl, by omega, rfl, hide (by simp), hide Own.nil, hide (Below.refl _ _)⟩
  case round =>
    obtain ⟨k, A2, c2, ys, rfl, rfl, hk, hy, HY, HO, HB⟩ := hrel
    have hzw := HB.out.size
    have HLY := hide hy
    by_cases hlt : k < 5
    · have HXr := hide (HX1.out.below HB.out)
      have HN2 := hide (show ys ++ [mom (wr_ ws k) (walls zs rs) zs.length] = (momL zs ws rs).take (k + 1) from by rw [HY.out, take_ig (by rw [momL_length]; exact hlt), momL_get zs ws rs hlt])
      obtain ⟨b, o, Ar, cr, hAw, hb, hck, hs⟩ := HXr.out.m.md.g.get (k := k) (by have := H5.out; omega)
      subst hAw
      have hck2 : wr.cell? ⟨b, o + k, none⟩ = some (.slice Ar (wr_ ws k).length cr) := hck
      rw [(HM.out.row' k hlt).len] at hck2
      have HRW := hide (show SlAt encI 1 wr Ar (wr_ ws k) from hs)
      have HWL := hide (OwnI.sl (HO1.out.below HB.out) (walls_length zs rs).symm)
      have hmb := fun z => ModelW HM.out hlt z
      have HMB := hide hmb
      have HBM := hide (momL_bd HM.out HZO.out HW.out hlt)
      have HRL := hide (HM.out.row' k hlt).len
      clear hy HY hck hs hmb
      go_wp2_with fail
      go_loopw [26, 10, 11, 12] (fun v s _ _ wk => ∃ z : Nat, v = .int .i64 z ∧ s = .int .i64 (mom (wr_ ws k) (walls zs rs) z) ∧ z ≤ zs.length ∧ wr = wk) (fun v _ _ _ _ => zs.length - (intOf v).toNat)
      case atStart => exact ⟨0, rfl, rfl, by omega, rfl⟩
      case round =>
        obtain ⟨z, rfl, rfl, hz, rfl⟩ := hrel
        by_cases hzl : z < zs.length
        · obtain ⟨b1, o1, rfl, hb1, hc1⟩ := HRW.out.getA (by have := HRL.out; omega)
          obtain ⟨b2, o2, rfl, hb2, hc2'⟩ := HWL.out.getA (by rw [walls_length]; omega)
          have q1 := hc1 z (by have := HRL.out; omega)
          have q2 := hc2' z (by rw [walls_length]; omega)
          have hb := mom_bd HMB.out (walls_bd HZO.out HW.out) z
          have hx := HMB.out z
          have hy := walls_bd HZO.out HW.out z
          have E2 := hide (show mom (wr_ ws k) (walls zs rs) z + ig (wr_ ws k) z * ig (walls zs rs) z = mom (wr_ ws k) (walls zs rs) (z + 1) from rfl)
          clear hc1 hc2'
          generalize mom (wr_ ws k) (walls zs rs) z = s at *
          generalize ig (wr_ ws k) z = x at *
          generalize ig (walls zs rs) z = y at *
          have hxy0 : 0 ≤ x * y := Int.mul_nonneg hx.1 hy.1
          have hxy1 : x * y ≤ 1000 * 150000 := Int.mul_le_mul hx.2 hy.2 hy.1 (by omega)
          have kw1 : IntKind.i64.wrap (x * y) = x * y := IntWalk.i64_in _ (by omega)
          have kw2 : IntKind.i64.wrap (s + x * y) = s + x * y := IntWalk.i64_in _ (by omega)
          go_wp2_with fail
          go_roundw
          case rel => exact ⟨z + 1, by go_num, by rw [← E2.out], by omega, trivial⟩
          case measure => simp [intOf]; omega
        · obtain rfl : z = zs.length := by omega
          clear HBM
          generalize mom (wr_ ws k) (walls zs rs) zs.length = d at *
          go_wp2_with (at_builtin; refine wpList_appI rfl _ _ rfl w1.heap.size rfl HO.out rfl (by have := HLY.out; omega) ?_ ?_; (focus (exact hzw)); intro A6 c6 w6 ho6 hb6 _hg6; have HO6 := hide ho6; have HB6 := hide (HB.out.trans hb6); clear ho6 hb6)
          go_roundw
          case rel => exact ⟨k + 1, A6, c6, ys ++ [d], by go_num, by simp, by omega, by simp [HLY.out], HN2, hide (by simpa using HO6.out), HB6⟩
          case measure => simp [intOf]; omega
    · have he : ys = momL zs ws rs := by rw [HY.out, List.take_of_length_le (by rw [momL_length]; omega)]
      obtain rfl : k = 5 := by omega
      have HXr := hide (HX1.out.below HB.out)
      have p0 := HXr.out.p.c0
      have p1 := HXr.out.p.c1
      have pl := HXr.out.p.lt
      have hl := lip_bd HW.out h0
      have hl2 : 1000 * 1000 ≤ lipR rs * lipR rs := Int.mul_le_mul hl.1 hl.1 (by omega) (by omega)
      have hl3 : lipR rs * lipR rs ≤ 300000 * 300000 := Int.mul_le_mul hl.2 hl.2 (by omega) (by omega)
      have HAR := hide (show area rs = Pl.nr (lipR rs * lipR rs) 1000000 by unfold area; rfl)
      obtain ⟨l, hlv⟩ : ∃ l, l = lipR rs := ⟨_, rfl⟩
      rw [← hlv] at HAR hl hl2 hl3
      have HLV := hide hlv
      have kw : IntKind.i64.wrap (l * l) = l * l := IntWalk.i64_in _ (by omega)
      have HND := hide (fun W => nearest_any (l * l) 1000000 W (by omega) (by omega) (by omega) (by omega))
      rw [← HAR.out] at HND
      have HE := hide HGW.out.size
      have HLP := hide (fun u : Kept wr => impllip_is nm A c rs l u.w' (HXr.out.p.sl.below u.h) h0 HW HLV)
      clear hy HLY HY hlv HAR
      subst he
      rw [momL_length] at HO ⊢

      generalize har : area rs = ar at HND
      have HARE := hide har
      clear har
      go_wp2_with fail
      refine wp_region_kept (by kernel_rfl) (by kernel_rfl) ?_
      intro gc gf gz
      repeat (go_big_quiet_step ((first | (go_at_call 160; exact Calls.kept (HLP.out _)) | (go_at_call 111; exact Calls.kept_drew (HND.out _)))))
      refine wpQuiet_nil ?_
      intro w4 hw'
      obtain ⟨⟨_, hb4⟩, rfl⟩ := hw'
      clear gc gf gz
      try dsimp only
      have fs4 := hb4.size
      try simp at fs4 hb4
      go_wp2_with fail
      go_ret2
      exact ⟨A2, c2, by simp; exact HARE.out.symm, (HO.out.below hb4).mono HE.out, HGW.out.trans ((HB.out.trans (hb4.mono hzw)).mono HE.out)⟩
/-- What the partials of valid arguments are. -/
theorem raw_bd {zs : List Int} {ws : List (List Int)} {bs : List Int} {rs : List RingR} (h : ModelOK zs ws bs) (hz : ZonesOK zs rs.length) (hw : WallOK rs) (h0 : 0 < rs.length) {k : Nat} (hk : k < 5) :
    0 ≤ ig bs k * mom (wr_ ws k) (walls zs rs) zs.length ∧ ig bs k * mom (wr_ ws k) (walls zs rs) zs.length ≤ 1200000000000000000 ∧ 0 ≤ ig (rawP zs ws bs rs) k ∧ ig (rawP zs ws bs rs) k ≤ 1200000000000000000 := by
  have a := momL_bd h hz hw hk
  have b := h.b k hk
  have c : 0 ≤ ig bs k * mom (wr_ ws k) (walls zs rs) zs.length := Int.mul_nonneg (by omega) a.1
  have d : ig bs k * mom (wr_ ws k) (walls zs rs) zs.length ≤ 1000000000 * 1200000000 := Int.mul_le_mul b.2 a.2 a.1 (by omega)
  have e := area_bd hw h0
  have f : ig (rawP zs ws bs rs) k = Pl.nr (ig bs k * mom (wr_ ws k) (walls zs rs) zs.length) (area rs) := rawP_get zs ws bs rs k hk
  have g := nr_bd (c := 1200000000000000000) c e.1 (by
    have : (1200000000000000000 : Int) * 1 ≤ 1200000000000000000 * area rs := Int.mul_le_mul_of_nonneg_left e.1 (by omega)
    omega)
  rw [f]
  exact ⟨c, by omega, g.1, g.2⟩
set_option maxRecDepth 100000 in
set_option maxHeartbeats 1000000 in
theorem implrawPartials (Az Aw Ab : Option Addr) (cz cw cb : Nat) (zs : List Int) (ws : List (List Int)) (bs : List Int) (nm : ByteArray) (A : Option Addr) (c : Nat) (rs : List RingR) (w : World) (hm : MdAt w Az Aw Ab zs ws bs) (hr : SlAt encRing 3 w A rs) (hn : rs.length ≤ 32) (h0 : 0 < rs.length) (hc : rs.length ≤ c) (HM : Hid (ModelOK zs ws bs)) (HZO : Hid (ZonesOK zs rs.length)) (HW : Hid (WallOK rs)) :
    Calls Tryz.prog 56 #[.agg #[.slice Az zs.length cz, .slice Aw ws.length cw, .slice Ab bs.length cb], .agg #[.string nm, .slice A rs.length c]] w fun e w' => ∃ A' c', e = .returned (.slice A' 5 c') ∧ OwnI w' w.heap.size (.slice A' 5 c') (rawP zs ws bs rs) ∧ Below w.heap.size w w' := by
  have HX := hide (boxes2 (cz := cz) (cw := cw) (cb := cb) (nm := nm) (c := c) hm hr)
  have c0 := HX.out.m.c0
  have c1 := HX.out.m.c1
  have c2 := HX.out.m.c2
  have p0 := HX.out.p.c0
  have p1 := HX.out.p.c1
  have pl := HX.out.p.lt
  have HB5 := hide HM.out.blen
  clear hm hr
  go_enter Tryz.func56, Tryz.ntmps56
  go_wp2_with fail
  generalize ((w.alloc (.cells #[.slice Az zs.length cz, .slice Aw ws.length cw, .slice Ab bs.length cb] 27)).alloc (.cells #[.string nm, .slice A rs.length c] 30)) = w0 at *
  refine (implweighted Az Aw Ab cz cw cb zs ws bs nm A c rs w0 HX.out.m.md HX.out.p.sl hn h0 hc HM HZO HW).mono ?_
  rintro e w1 ⟨A1, c1', rfl, ho1, hb1⟩
  have HO1 := hide ho1
  have HX1 := hide (HX.out.below hb1)
  have HGW := hide HX1.out.bel
  have HAR := hide (area_bd HW.out h0)
  have HRG := hide (fun k hk => show ig (rawP zs ws bs rs) k = Pl.nr (ig bs k * mom (wr_ ws k) (walls zs rs) zs.length) (area rs) from rawP_get zs ws bs rs k hk)
  clear ho1 hb1 HX c0 c1 c2 p0 p1 pl
  generalize har : area rs = ar at *
  clear har
  go_wp2_with fail
  go_loopw [18, 7, 8, 9] (fun v o _ _ wr => ∃ (k : Nat) (A : Option Addr) (c : Nat) (ys : List Int), v = .int .i64 k ∧ o = .slice A ys.length c ∧ k ≤ 5 ∧ ys.length = k ∧ Hid (ys = (rawP zs ws bs rs).take k) ∧ Hid (OwnI wr w1.heap.size (.slice A ys.length c) ys) ∧ Hid (Below w1.heap.size w1 wr)) (fun v _ _ _ _ => 5 - (intOf v).toNat)
  case atStart => exact ⟨0, none, 0, [], rfl, rfl, by omega, rfl, hide (by simp), hide Own.nil, hide (Below.refl _ _)⟩
  case round =>
    obtain ⟨k, A2, c2, ys, rfl, rfl, hk, hy, HY, HO, HB⟩ := hrel
    have hzw := HB.out.size
    have HLY := hide hy
    by_cases hlt : k < 5
    · have HXr := hide (HX1.out.below HB.out)
      have d2 := HXr.out.m.c2
      rw [HB5.out] at d2
      have ml := HXr.out.m.lt
      have HN2 := hide (show ys ++ [ig (rawP zs ws bs rs) k] = (rawP zs ws bs rs).take (k + 1) from by rw [HY.out, take_ig (by rw [rawP_length]; exact hlt)])
      obtain ⟨b1, o1, rfl, hb1, hc1⟩ := HXr.out.m.md.b.getA (by have := HB5.out; omega)
      have q1 := hc1 k (by have := HB5.out; omega)
      obtain ⟨g, hA, -, -, g1, -⟩ := own_get1 (k := k) (HO1.out.below HB.out) (by rw [momL_length]; exact hlt)
      subst hA
      rw [momL_get zs ws rs hlt] at g1
      have hrb := raw_bd HM.out HZO.out HW.out h0 hlt
      have hmb := momL_bd HM.out HZO.out HW.out hlt
      have hbb := HM.out.b k hlt
      have HRK := hide (HRG.out k hlt)
      have hki : (k : Int) < 5 := by omega
      clear hy HY hc1
      generalize ig (rawP zs ws bs rs) k = d at *
      generalize ig bs k = x at *
      generalize mom (wr_ ws k) (walls zs rs) zs.length = y at *
      have kw1 : IntKind.i64.wrap (x * y) = x * y := IntWalk.i64_in _ (by omega)
      have HND := hide (fun W => show Calls Tryz.prog 111 #[.int .i64 (x * y), .int .i64 ar] W fun e w' => e = .returned (.int .i64 d) ∧ ∃ n, W.drewN n = w' from by rw [HRK.out]; exact nearest_any (x * y) ar W (by omega) (by omega) HAR.out.1 (by have := HAR.out.2; omega))
      go_wp2_with fail
      refine (HND.out _).mono ?_
      rintro e w8 ⟨rfl, nd, rfl⟩
      have HO8 := hide (show OwnI (wr.drewN nd) w1.heap.size (.slice A2 ys.length c2) ys from HO.out)
      have HB8 := hide (below_drewN HB.out nd)
      have hz8' := HB8.out.size
      clear HO HB HND
      generalize wr.drewN nd = w9 at *
      go_wp2_with (at_builtin; refine wpList_appI rfl _ _ rfl w1.heap.size rfl HO8.out rfl (by have := HLY.out; omega) ?_ ?_; (focus (exact hz8')); intro A6 c6 w6 ho6 hb6 _hg6; have HO6 := hide ho6; have HB6 := hide (HB8.out.trans hb6); clear ho6 hb6)
      go_roundw
      case rel => exact ⟨k + 1, A6, c6, ys ++ [d], by go_num, by simp, by omega, by simp [HLY.out], HN2, hide (by simpa using HO6.out), HB6⟩
      case measure => simp [intOf]; omega
    · have he : ys = rawP zs ws bs rs := by rw [HY.out, List.take_of_length_le (by rw [rawP_length]; omega)]
      obtain rfl : k = 5 := by omega
      have HE := hide HGW.out.size
      clear hy HLY HY
      subst he
      rw [rawP_length] at HO ⊢
      go_wp2_with fail
      go_ret
      exact ⟨A2, c2, rfl, HO.out.mono HE.out, HGW.out.trans (HB.out.mono HE.out)⟩
end Go.Proofs.YtnefgafmnpblpaaGreat
