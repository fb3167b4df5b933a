/- Contracts: walls of zones, the reference's partials. -/
import Derived.Test.YtnefgafmnpblpaaGreatPnQa
namespace Go.Proofs.YtnefgafmnpblpaaGreat
open Go.RowKit Pn

set_option maxRecDepth 100000 in
theorem specl08Area (bp : Nat) (nm : ByteArray) (A : Option Addr) (c : Nat) (rs : List RingR) (w : World) (h : ProfAt w bp nm A c rs) (h0 : 0 < rs.length) (HW : Hid (WallOK rs)) :
    Calls Tryz.prog 146 #[.pointer (some ⟨bp, 0, none⟩)] w fun e w' => e = .returned (.int .i64 (area rs)) ∧ w = w' := by
  obtain ⟨b, o, rfl, hb, hc⟩ := h.sl.getR h0
  have q0 := (hc 0 h0).1
  have c1 := h.c1
  have hl := lip_bd HW.out h0
  have hw := HW.out 0 h0
  have E := hide (show lipR rs = 2 * (rg rs 0).outer from rfl)
  have hl2 : 1000 * 1000 ≤ lipR rs * lipR rs := Int.mul_le_mul hl.1 hl.1 (by omega) (by omega)
  have hl3 : lipR rs * lipR rs ≤ 300000 * 300000 := Int.mul_le_mul hl.2 hl.2 (by omega) (by omega)
  have HAR := hide (show area rs = Pl.nr (lipR rs * lipR rs) 1000000 by unfold area; rfl)
  simp only [Nat.zero_mul, Nat.add_zero] at q0
  rw [E.out] at HAR hl2 hl3
  clear hc h hl E
  generalize rg rs 0 = x at *
  obtain ⟨x0, x1, x2⟩ := x
  simp only at q0 hw HAR hl2 hl3
  obtain ⟨l, hlv⟩ : ∃ l, l = 2 * x0 := ⟨_, rfl⟩
  rw [← hlv] at HAR hl2 hl3
  have kl : IntKind.i64.wrap (2 * x0) = l := by rw [hlv]; exact IntWalk.i64_in _ (by omega)
  have kw : IntKind.i64.wrap (l * l) = l * l := IntWalk.i64_in _ (by omega)
  have HND := hide (fun W => l01Div_any (l * l) 1000000 W (by omega) (by omega) (by omega) (by omega))
  rw [← HAR.out] at HND
  clear hlv
  go_enter Tryz.func146, Tryz.ntmps146
  go_wp2_with fail
  refine (HND.out _).mono ?_
  rintro e w2 ⟨rfl, rfl⟩
  go_wp2_with fail
  go_ret
  exact ⟨rfl, rfl⟩
set_option maxRecDepth 100000 in
set_option maxHeartbeats 1000000 in
theorem specl08Moment (bm : Nat) (Az Aw Ab : Option Addr) (cz cw cb : Nat) (zs : List Int) (ws : List (List Int)) (bs : List Int) (B : Option Addr) (c : Nat) (wl : List Int) (k : Nat) (w : World) (hm : MpAt w bm Az cz Aw cw Ab cb zs ws bs) (hb : SlAt encI 1 w B wl) (HM : Hid (ModelOK zs ws bs)) (hn : wl.length = zs.length) (HWL : Hid (∀ z, 0 ≤ ig wl z ∧ ig wl z ≤ 150000)) (hk : k < 5) :
    Calls Tryz.prog 145 #[.pointer (some ⟨bm, 0, none⟩), .slice B zs.length c, .int .i64 k] w fun e w' => e = .returned (.int .i64 (mom (wr_ ws k) wl zs.length)) ∧ Below w.heap.size w w' := by
  have HP := hide hm
  have HB := hide hb
  have H5 := hide HM.out.wlen
  have HN := hide hn
  have hz8 := HM.out.zones.len8
  have hk0 : (0 : Int) ≤ k := by omega
  have hk5 : (k : Int) < 5 := by omega
  have HMB := hide (ModelW HM.out hk)
  have HRL := hide (HM.out.row' k hk).len
  clear hm hb hn
  go_enter Tryz.func145, Tryz.ntmps145
  go_wp2_with fail
  go_loopw [8, 7] (fun v s wr => ∃ z : Nat, v = .int .i64 z ∧ s = .int .i64 (mom (wr_ ws k) wl z) ∧ z ≤ zs.length ∧ Hid (Below w.heap.size w wr)) (fun v _ _ => zs.length - (intOf v).toNat)
  case atStart => exact ⟨0, rfl, rfl, by omega, hide (Below.refl _ _)⟩
  case round =>
    obtain ⟨z, rfl, rfl, hz, HBR⟩ := hrel
    have hzw := HBR.out.size
    by_cases hlt : z < zs.length
    · have HPr := hide (HP.out.below HBR.out)
      have d1 := HPr.out.c1
      rw [H5.out] at d1
      have ml := HPr.out.lt
      obtain ⟨b, o, Ar, cr, rfl, hb, hck, hs⟩ := HPr.out.md.g.get (k := k) (by have := H5.out; omega)
      have hck2 : wr.cell? ⟨b, o + k, none⟩ = some (.slice Ar (wr_ ws k).length cr) := hck
      rw [HRL.out] at hck2
      obtain ⟨b1, o1, rfl, hb1, hc1⟩ := (show SlAt encI 1 wr Ar (wr_ ws k) from hs).getA (by have := HRL.out; omega)
      obtain ⟨b2, o2, rfl, hb2, hc2⟩ := (HB.out.below HBR.out).getA (by have := HN.out; omega)
      have q1 := hc1 z (by have := HRL.out; omega)
      have q2 := hc2 z (by have := HN.out; omega)
      have hbd := mom_bd HMB.out HWL.out z
      have hx := HMB.out z
      have hy := HWL.out z
      have E2 := hide (show mom (wr_ ws k) wl z + ig (wr_ ws k) z * ig wl z = mom (wr_ ws k) wl (z + 1) from rfl)
      have hzi : (z : Int) < zs.length := by omega
      have hz0 : (0 : Int) ≤ z := by omega
      clear hc1 hc2 hck hs
      generalize mom (wr_ ws k) wl z = s at *
      generalize ig (wr_ ws k) z = x at *
      generalize ig wl z = y at *
      have hxy0 : 0 ≤ x * y := Int.mul_nonneg hx.1 hy.1
      have hxy1 : x * y ≤ 1000 * 150000 := Int.mul_le_mul hx.2 hy.2 hy.1 (by omega)
      have kw1 : IntKind.i64.wrap (x * y) = x * y := IntWalk.i64_in _ (by omega)
      have kw2 : IntKind.i64.wrap (s + x * y) = s + x * y := IntWalk.i64_in _ (by omega)
      go_wp2_with fail
      refine wp_region_kept (by kernel_rfl) (by kernel_rfl) ?_
      intro gc gf gz
      repeat (go_big_quiet_step (fail))
      refine wpQuiet_nil ?_
      intro w4 hw'
      obtain ⟨⟨_, hb4⟩, rfl⟩ := hw'
      clear gc gf gz
      try dsimp only
      have fs4 := hb4.size
      try simp at fs4 hb4
      go_wp2_with fail
      go_roundw
      case rel => exact ⟨z + 1, by go_num, by rw [← E2.out], by omega, hide (HBR.out.trans (hb4.mono hzw))⟩
      case measure => simp [intOf]; omega
    · obtain rfl : z = zs.length := by omega
      go_wp2_with fail
      go_ret
      exact ⟨rfl, HBR.out⟩
set_option maxRecDepth 100000 in
set_option maxHeartbeats 1000000 in
theorem specl08Walls (bp : Nat) (nm : ByteArray) (A : Option Addr) (c : Nat) (rs : List RingR) (Az : Option Addr) (cz : Nat) (zs : List Int) (w : World) (h : ProfAt w bp nm A c rs) (hz : SlAt encI 1 w Az zs) (hn : rs.length ≤ 32) (h0 : 0 < rs.length) (HZO : Hid (ZonesOK zs rs.length)) (HW : Hid (WallOK rs)) :
    Calls Tryz.prog 144 #[.pointer (some ⟨bp, 0, none⟩), .slice Az zs.length cz] w (RowRes (walls zs rs) w) := by
  have HP := hide h
  have HZ := hide hz
  have HB0 := hide ((Below.refl w.heap.size w).alloc (Nat.le_refl _) (.cells #[] 2))
  have H00 := hide (own_made (enc := encI) (sz := 1) (T := 2) w rfl (Nat.le_refl _))
  have hz8 := HZO.out.len8
  have hz1 := HZO.out.len1
  clear h hz
  go_enter Tryz.func144, Tryz.ntmps144
  go_wp2_with fail
  generalize w.alloc (.cells #[] 2) = w0 at *
  go_loopw [6, 5, 7, 8, 9] (fun v o _ _ _ wr => ∃ (z : Nat) (A : Option Addr) (c : Nat) (ys : List Int), v = .int .i64 z ∧ o = .slice A ys.length c ∧ z ≤ zs.length ∧ ys.length = z ∧ Hid (ys = (walls zs rs).take z) ∧ Hid (OwnI wr w.heap.size (.slice A ys.length c) ys) ∧ Hid (Below w.heap.size w wr)) (fun v _ _ _ _ _ => zs.length - (intOf v).toNat)
  case atStart => exact ⟨0, _, _, [], rfl, rfl, by omega, rfl, hide (by simp), H00, HB0⟩
  case round =>
    obtain ⟨z, A2, c2, ys, rfl, rfl, hzz, hy, HY, HO, HB⟩ := hrel
    have hzw := HB.out.size
    have HLY := hide hy
    by_cases hlt : z < zs.length
    · have HPr := hide (HP.out.below HB.out)
      have HZr := hide (HZ.out.below HB.out)
      have p1 := HPr.out.c1
      have pl := HPr.out.lt
      obtain ⟨bz, oz, rfl, hbz, hcz⟩ := HZr.out.getA (by omega)
      have hczz := hcz z hlt
      obtain ⟨fr, hfr⟩ : ∃ fr : Nat, (fr : Int) = ig zs z := ⟨(ig zs z).toNat, Int.toNat_of_nonneg (HZO.out.nonneg hlt)⟩
      obtain ⟨tq, htq⟩ : ∃ tq : Nat, (tq : Int) = endZ zs rs.length z := ⟨(endZ zs rs.length z).toNat, Int.toNat_of_nonneg (by have := HZO.out.endZ_lt hlt; have := HZO.out.nonneg hlt; omega)⟩
      have hft : fr < tq ∧ tq ≤ rs.length := by have := HZO.out.endZ_lt hlt; omega
      have HWZ := hide (wallZ_eq hfr htq)
      have HN2 := hide (show ys ++ [wallZ zs rs z] = (walls zs rs).take (z + 1) from by rw [HY.out, take_ig (by rw [walls_length]; exact hlt), walls_get zs rs z hlt])
      have HNR := hide (show Pl.nr (wsum rs fr (tq - fr)) ((tq : Int) - fr) = wallZ zs rs z from by rw [HWZ.out, hfr, htq])
      rw [← hfr] at hczz
      have hzi : (z : Int) < zs.length := by omega
      obtain ⟨br, or_, rfl, hbr, hcr⟩ := HPr.out.sl.getR h0
      have HCR := hide hcr
      have HNX := hide (show z + 1 < zs.length → wr.cell? ⟨bz, oz + (z + 1), none⟩ = some (.int .i64 tq) from fun h => by rw [hcz (z + 1) h, htq]; unfold endZ; rw [if_pos h])
      have HNE := hide (show ¬ z + 1 < zs.length → (tq : Int) = rs.length from fun h => by rw [htq]; unfold endZ; rw [if_neg h])
      clear hy HY hfr htq HWZ hcz hcr
      go_upto_if 26 with fail
      go_cut [7] (fun s7 wx => s7 = .int .i64 tq ∧ wr = wx)
      case first =>
        by_cases h1 : z + 1 < zs.length
        · have hn1 := HNX.out h1
          have h1i : (z : Int) + 1 < zs.length := by omega
          clear HNX HNE
          go_wp2_with fail
          go_meet
          exact ⟨rfl, rfl⟩
        · have hn1 := HNE.out h1
          have h1i : ¬ (z : Int) + 1 < zs.length := by omega
          clear HNX HNE
          go_wp2_with fail
          go_meet
          exact ⟨by rw [hn1], rfl⟩
      case rest =>
        obtain ⟨rfl, rfl⟩ := hcut
        obtain ⟨w4, rfl⟩ : ∃ w4, w4 = wr := ⟨_, rfl⟩
        have hlen : tq ≤ 32 := by omega
        clear HNX HNE
        go_wp2_with fail
        go_loopw [9, 8] (fun v s wk => ∃ j : Nat, v = .int .i64 ((fr + j : Nat) : Int) ∧ s = .int .i64 (wsum rs fr j) ∧ j ≤ tq - fr ∧ Hid (Below w4.heap.size w4 wk)) (fun v _ _ => tq - (intOf v).toNat)
        case atStart => exact ⟨0, rfl, rfl, by omega, hide (Below.refl _ _)⟩
        case round =>
          obtain ⟨j, rfl, rfl, hj, HK⟩ := hrel
          have hkz := HK.out.size
          have hpq := (HPr.out.below HK.out).c1
          have hpl := (HPr.out.below HK.out).lt
          by_cases hjl : j < tq - fr
          · obtain ⟨q0, q1, q2⟩ := HCR.out (fr + j) (by omega)
            have r0 := (HK.out.cell (p := ⟨br, or_ + (fr + j) * 3, none⟩) hbr).trans q0
            have r1 := (HK.out.cell (p := ⟨br, or_ + (fr + j) * 3 + 1, none⟩) hbr).trans q1
            have hwk := HW.out (fr + j) (by omega)
            have hsb := wsum_bd HW.out fr j (by omega)
            have E2 := hide (show wsum rs fr j + ((rg rs (fr + j)).outer - (rg rs (fr + j)).inner) = wsum rs fr (j + 1) from rfl)
            have hbrk : br < wr.heap.size := by omega
            obtain ⟨k, hk⟩ : ∃ k, k = fr + j := ⟨_, rfl⟩
            have HKE := hide (show k + 1 = fr + (j + 1) by omega)
            rw [← hk] at r0 r1 hwk E2 ⊢
            have hkt : (k : Int) < tq := by omega
            have hk0 : (0 : Int) ≤ k := by omega
            have hkr : (k : Int) < rs.length := by omega
            have hk32 : k ≤ 32 := by omega
            clear q0 q1 q2 hk hczz hbz pl p1
            generalize wsum rs fr j = s at *
            generalize rg rs k = x at *
            obtain ⟨x0, x1, x2⟩ := x
            simp only at r0 r1 hwk E2
            go_wp2_with fail
            refine wp_region_kept (by kernel_rfl) (by kernel_rfl) ?_
            intro gc gf gz
            repeat (go_big_quiet_step (fail))
            refine wpQuiet_nil ?_
            intro w7 hw'
            obtain ⟨⟨_, hb7⟩, rfl⟩ := hw'
            clear gc gf gz
            try dsimp only
            have fs7 := hb7.size
            try simp at fs7 hb7
            go_wp2_with fail
            go_roundw
            case rel => exact ⟨j + 1, by rw [← HKE.out]; go_num, by rw [← E2.out], by omega, hide (HK.out.trans (hb7.mono hkz))⟩
            case measure => simp [intOf]; omega
          · obtain rfl : j = tq - fr := by omega
            have hsb := wsum_bd HW.out fr (tq - fr) (by omega)
            have HO6 := hide (HO.out.below HK.out)
            have HB6 := hide (HB.out.trans (HK.out.mono hzw))
            have hz6 := HB6.out.size
            have hcz5 := (HK.out.cell (p := ⟨bz, oz + z, none⟩) hbz).trans hczz
            have hfe : fr + (tq - fr) = tq := by omega
            have HCN := hide (fun W => show Calls Tryz.prog 138 #[.int .i64 (wsum rs fr (tq - fr)), .int .i64 ((tq : Int) - fr)] W fun e w' => e = .returned (.int .i64 (wallZ zs rs z)) ∧ W = w' from by rw [← HNR.out]; exact l01Div_any _ _ W (by omega) (by omega) (by omega) (by omega))
            rw [hfe]
            clear HNR HO HB HK hfe hczz p1 pl hpq hpl
            generalize wallZ zs rs z = d at *
            generalize wsum rs fr (tq - fr) = s at *
            go_wp2_with fail
            refine (HCN.out _).mono ?_
            rintro e w8 ⟨rfl, rfl⟩
            go_wp2_with (at_builtin; refine wpList_appI rfl _ _ rfl w.heap.size rfl HO6.out rfl (by have := HLY.out; omega) ?_ ?_; (focus (exact hz6)); intro A6 c6 w6 ho6 hb6 _hg6; have HO7 := hide ho6; have HB7 := hide (HB6.out.trans hb6); clear ho6 hb6)
            go_roundw
            case rel => exact ⟨z + 1, A6, c6, ys ++ [d], by go_num, by simp, by omega, by simp [HLY.out], HN2, hide (by simpa using HO7.out), HB7⟩
            case measure => simp [intOf]; omega
    · have he : ys = walls zs rs := by rw [HY.out, List.take_of_length_le (by rw [walls_length]; omega)]
      clear hy HY HLY
      subst he
      go_wp2_with fail
      go_ret
      exact ⟨A2, c2, rfl, HO.out, HB.out⟩
set_option maxRecDepth 100000 in
set_option maxHeartbeats 1000000 in
theorem specl08Raw (bm bp : Nat) (Az Aw Ab : Option Addr) (cz cw cb : Nat) (zs : List Int) (ws : List (List Int)) (bs : List Int) (nm : ByteArray) (A : Option Addr) (c : Nat) (rs : List RingR) (w : World) (hm : MpAt w bm Az cz Aw cw Ab cb zs ws bs) (hr : ProfAt w bp nm A c rs) (hn : rs.length ≤ 32) (h0 : 0 < rs.length) (HM : Hid (ModelOK zs ws bs)) (HZO : Hid (ZonesOK zs rs.length)) (HW : Hid (WallOK rs)) :
    Calls Tryz.prog 92 #[.pointer (some ⟨bm, 0, none⟩), .pointer (some ⟨bp, 0, none⟩)] w fun e w' => ∃ A' c', e = .returned (.slice A' 5 c') ∧ OwnI w' w.heap.size (.slice A' 5 c') (rawP zs ws bs rs) ∧ Below w.heap.size w w' := by
  have HP := hide hm
  have HR := hide hr
  have c0 := hm.c0
  have HB5 := hide HM.out.blen
  have HAR := hide (area_bd HW.out h0)
  have HRG := hide (fun k hk => show ig (rawP zs ws bs rs) k = Pl.nr (ig bs k * mom (wr_ ws k) (walls zs rs) zs.length) (area rs) from rawP_get zs ws bs rs k hk)
  have HCW := hide (specl08Walls bp nm A c rs Az cz zs w hr hm.md.z hn h0 HZO HW)
  clear hm hr
  go_enter Tryz.func92, Tryz.ntmps92
  go_wp2_with fail
  refine HCW.out.mono ?_
  rintro e w1 ⟨A1, c1, rfl, ho1, hb1⟩
  rw [walls_length] at ho1 ⊢
  have HWS := hide (OwnI.sl ho1 (walls_length zs rs).symm)
  have HP1 := hide (HP.out.below hb1)
  have HR1 := hide (HR.out.below hb1)
  have HB0 := hide hb1
  clear ho1 hb1 HCW c0
  have HA0 := hide ((Below.refl w1.heap.size w1).alloc (Nat.le_refl _) (.cells #[] 2))
  have H00 := hide (own_made (enc := encI) (sz := 1) (T := 2) w1 rfl (Nat.le_refl _))
  have HHC := hide (fun W (hb : Below w1.heap.size w1 W) (k : Nat) (hk : k < 5) => specl08Moment bm Az Aw Ab cz cw cb zs ws bs A1 c1 (walls zs rs) k W (HP1.out.below hb) (HWS.out.below hb) HM (walls_length zs rs) (hide (walls_bd HZO.out HW.out)) hk)
  have HHA := hide (fun W (hb : Below w1.heap.size w1 W) => specl08Area bp nm A c rs W (HR1.out.below hb) h0 HW)
  generalize har : area rs = ar at *
  clear har
  go_wp2_with fail
  generalize w1.alloc (.cells #[] 2) = w2 at *
  go_loopw [7, 6] (fun v o wr => ∃ (k : Nat) (A : Option Addr) (c : Nat) (ys : List Int), v = .int .i64 k ∧ o = .slice A ys.length c ∧ k ≤ 5 ∧ ys.length = k ∧ Hid (ys = (rawP zs ws bs rs).take k) ∧ Hid (OwnI wr w1.heap.size (.slice A ys.length c) ys) ∧ Hid (Below w1.heap.size w1 wr)) (fun v _ _ => 5 - (intOf v).toNat)
  case atStart => exact ⟨0, _, _, [], rfl, rfl, by omega, rfl, hide (by simp), H00, HA0⟩
  case round =>
    obtain ⟨k, A2, c2, ys, rfl, rfl, hk, hy, HY, HO0, HB⟩ := hrel
    have HLY := hide hy
    by_cases hlt : k < 5
    · have HN2 := hide (show ys ++ [ig (rawP zs ws bs rs) k] = (rawP zs ws bs rs).take (k + 1) from by rw [HY.out, take_ig (by rw [rawP_length]; exact hlt)])
      obtain ⟨b1, o1, hAb, hb1, hc1⟩ := HP1.out.md.b.getA (by have := HB5.out; omega)
      have hq1 := hc1 k (by have := HB5.out; omega)
      have P2 : ∀ w', Below w1.heap.size w1 w' → w'.cell? ⟨bm, 2, none⟩ = some (.slice (some ⟨b1, o1, none⟩) 5 cb) := fun w' hb => by
        have := (HP1.out.below hb).c2
        rw [HB5.out, hAb] at this
        exact this
      have hrb := raw_bd HM.out HZO.out HW.out h0 hlt
      have hmb := momL_bd HM.out HZO.out HW.out hlt
      have hbb := HM.out.b k hlt
      have HRK := hide (HRG.out k hlt)
      have HMC := hide (fun W hb => HHC.out W hb k hlt)
      have hki : (k : Int) < 5 := by omega
      have hk0 : (0 : Int) ≤ k := by omega
      clear hy HY hc1
      generalize ig (rawP zs ws bs rs) k = d at *
      generalize ig bs k = x at *
      generalize mom (wr_ ws k) (walls zs rs) zs.length = y at *
      have P3 : ∀ w', Below w1.heap.size w1 w' → w'.cell? ⟨b1, o1 + k, none⟩ = some (.int .i64 x) := fun w' hb => (hb.cell (p := ⟨b1, o1 + k, none⟩) hb1).trans hq1
      clear hq1
      have kw1 : IntKind.i64.wrap (x * y) = x * y := IntWalk.i64_in _ (by omega)
      have HND := hide (fun W => show Calls Tryz.prog 138 #[.int .i64 (x * y), .int .i64 ar] W fun e w' => e = .returned (.int .i64 d) ∧ W = w' from by rw [HRK.out]; exact l01Div_any (x * y) ar W (by omega) (by omega) HAR.out.1 (by have := HAR.out.2; omega))
      have HO := hide (show OwnI wr.drew w1.heap.size (.slice A2 ys.length c2) ys from HO0.out)
      go_upto_region 6 with fail
      refine wp_region_noPanic ?_
      refine wp_region_held_drew (S := (fun w' => Below w1.heap.size w1 w')) (by kernel_rfl) (HB.out.drew) (fun hHeld => ?_)
      refine wpAnyH_take (i := 0) (oi := ?o0_1) (v := ?v0_1) ?hi0_1 ?hs0_1 ?hf0_1 ?hr0_1 (fun _ _ _ h => h) ?hy0_1 (by assumption) ?hh0_1
      case hi0_1 => ((simp only [List.getElem?_toArray, List.getElem?_cons_zero]); rfl)
      case hs0_1 => kernel_rfl
      case hf0_1 => kernel_rfl
      case hr0_1 => kernel_rfl
      case hy0_1 => exact Or.inl ⟨by rfl, by (intro wq hSw; (try dsimp only at hSw); go_simp; (try with_reducible rfl))⟩
      try simp only [Act.put, List.setIfInBounds_toArray, List.set_cons_zero, List.set_cons_succ]
      refine wpAnyH_take (i := 1) (oi := ?o1_2) (v := ?v1_2) ?hi1_2 ?hs1_2 ?hf1_2 ?hr1_2 (fun _ _ _ h => h) ?hy1_2 (by assumption) ?hh1_2
      case hi1_2 => ((simp only [List.getElem?_toArray, List.getElem?_cons_succ, List.getElem?_cons_zero]); rfl)
      case hs1_2 => kernel_rfl
      case hf1_2 => kernel_rfl
      case hr1_2 => kernel_rfl
      case hy1_2 => exact Or.inl ⟨by rfl, by (intro wq hSw; (try dsimp only at hSw); go_simp; (try with_reducible rfl))⟩
      try simp only [Act.put, List.setIfInBounds_toArray, List.set_cons_zero, List.set_cons_succ]
      refine wpAnyH_take (i := 2) (oi := ?o2_3) (v := ?v2_3) ?hi2_3 ?hs2_3 ?hf2_3 ?hr2_3 (fun _ _ _ h => h) ?hy2_3 (by assumption) ?hh2_3
      case hi2_3 => ((simp only [List.getElem?_toArray, List.getElem?_cons_succ, List.getElem?_cons_zero]); rfl)
      case hs2_3 => kernel_rfl
      case hf2_3 => kernel_rfl
      case hr2_3 => kernel_rfl
      case hy2_3 => exact Or.inl ⟨by rfl, by (intro wq hSw; (try dsimp only at hSw); go_simp; (try with_reducible rfl))⟩
      try simp only [Act.put, List.setIfInBounds_toArray, List.set_cons_zero, List.set_cons_succ]
      refine wpAnyH_take (i := 3) (oi := ?o3_4) (v := ?v3_4) ?hi3_4 ?hs3_4 ?hf3_4 ?hr3_4 (fun _ _ _ h => h) ?hy3_4 (by assumption) ?hh3_4
      case hi3_4 => ((simp only [List.getElem?_toArray, List.getElem?_cons_succ, List.getElem?_cons_zero]); rfl)
      case hs3_4 => kernel_rfl
      case hf3_4 => kernel_rfl
      case hr3_4 => kernel_rfl
      case hy3_4 => exact Or.inl ⟨by rfl, by (intro wq hSw; (try dsimp only at hSw); go_simp; (try with_reducible rfl))⟩
      try simp only [Act.put, List.setIfInBounds_toArray, List.set_cons_zero, List.set_cons_succ]
      refine wpAnyH_take (i := 4) (oi := ?o4_5) (v := ?v4_5) ?hi4_5 ?hs4_5 ?hf4_5 ?hr4_5 (fun _ _ _ h => h) ?hy4_5 (by assumption) ?hh4_5
      case hi4_5 => ((simp only [List.getElem?_toArray, List.getElem?_cons_succ, List.getElem?_cons_zero]); rfl)
      case hs4_5 => kernel_rfl
      case hf4_5 => kernel_rfl
      case hr4_5 => kernel_rfl
      case hy4_5 => exact Or.inl ⟨by rfl, by (intro wq hSw; (try dsimp only at hSw); go_simp; (try with_reducible rfl))⟩
      try simp only [Act.put, List.setIfInBounds_toArray, List.set_cons_zero, List.set_cons_succ]
      refine wpAnyH_take (i := 5) (oi := ?o5_6) (v := ?v5_6) ?hi5_6 ?hs5_6 ?hf5_6 ?hr5_6 (fun _ _ _ h => h) ?hy5_6 (by assumption) ?hh5_6
      case hi5_6 => ((simp only [List.getElem?_toArray, List.getElem?_cons_succ, List.getElem?_cons_zero]); rfl)
      case hs5_6 => kernel_rfl
      case hf5_6 => kernel_rfl
      case hr5_6 => kernel_rfl
      case hy5_6 => exact Or.inl ⟨by rfl, by (intro wq hSw; (try dsimp only at hSw); go_simp; (try with_reducible rfl))⟩
      try simp only [Act.put, List.setIfInBounds_toArray, List.set_cons_zero, List.set_cons_succ]
      refine wpAnyH_take (i := 6) (oi := ?o6_7) (v := ?v6_7) ?hi6_7 ?hs6_7 ?hf6_7 ?hr6_7 (fun _ _ _ h => h) ?hy6_7 (by assumption) ?hh6_7
      case hi6_7 => ((simp only [List.getElem?_toArray, List.getElem?_cons_succ, List.getElem?_cons_zero]); rfl)
      case hs6_7 => kernel_rfl
      case hf6_7 => kernel_rfl
      case hr6_7 => kernel_rfl
      case hy6_7 => exact Or.inl ⟨by rfl, by (intro wq hSw; (try dsimp only at hSw); go_simp; (try with_reducible rfl))⟩
      try simp only [Act.put, List.setIfInBounds_toArray, List.set_cons_zero, List.set_cons_succ]
      refine wpAnyH_take (i := 7) (oi := ?o7_8) (v := ?v7_8) ?hi7_8 ?hs7_8 ?hf7_8 ?hr7_8 (fun _ _ _ h => h) ?hy7_8 (by assumption) ?hh7_8
      case hi7_8 => ((simp only [List.getElem?_toArray, List.getElem?_cons_succ, List.getElem?_cons_zero]); rfl)
      case hs7_8 => kernel_rfl
      case hf7_8 => kernel_rfl
      case hr7_8 => kernel_rfl
      case hy7_8 => exact Or.inl ⟨by rfl, by (intro wq hSw; (try dsimp only at hSw); go_simp; (try with_reducible rfl))⟩
      try simp only [Act.put, List.setIfInBounds_toArray, List.set_cons_zero, List.set_cons_succ]
      refine wpAnyH_take (i := 8) (oi := ?o8_9) (v := ?v8_9) ?hi8_9 ?hs8_9 ?hf8_9 ?hr8_9 (fun _ _ _ h => h) ?hy8_9 (by assumption) ?hh8_9
      case hi8_9 => ((simp only [List.getElem?_toArray, List.getElem?_cons_succ, List.getElem?_cons_zero]); rfl)
      case hs8_9 => kernel_rfl
      case hf8_9 => kernel_rfl
      case hr8_9 => kernel_rfl
      case hy8_9 => exact Or.inl ⟨by rfl, by (intro wq hSw; (try dsimp only at hSw); go_simp; (try with_reducible rfl))⟩
      try simp only [Act.put, List.setIfInBounds_toArray, List.set_cons_zero, List.set_cons_succ]
      refine wpAnyH_take (i := 9) (oi := ?o9_10) (v := ?v9_10) ?hi9_10 ?hs9_10 ?hf9_10 ?hr9_10 (fun _ _ _ h => h) ?hy9_10 (by assumption) ?hh9_10
      case hi9_10 => ((simp only [List.getElem?_toArray, List.getElem?_cons_succ, List.getElem?_cons_zero]); rfl)
      case hs9_10 => kernel_rfl
      case hf9_10 => kernel_rfl
      case hr9_10 => kernel_rfl
      case hy9_10 => exact Or.inl ⟨by rfl, by (intro wq hSw; (try dsimp only at hSw); go_simp; (try with_reducible rfl))⟩
      try simp only [Act.put, List.setIfInBounds_toArray, List.set_cons_zero, List.set_cons_succ]
      refine wpAnyH_take (i := 10) (oi := ?o10_11) (v := ?v10_11) ?hi10_11 ?hs10_11 ?hf10_11 ?hr10_11 (fun _ _ _ h => h) ?hy10_11 (by assumption) ?hh10_11
      case hi10_11 => ((simp only [List.getElem?_toArray, List.getElem?_cons_succ, List.getElem?_cons_zero]); rfl)
      case hs10_11 => kernel_rfl
      case hf10_11 => kernel_rfl
      case hr10_11 => kernel_rfl
      case hy10_11 => exact Or.inl ⟨by rfl, by (intro wq hSw; (try dsimp only at hSw); go_simp; (try with_reducible rfl))⟩
      try simp only [Act.put, List.setIfInBounds_toArray, List.set_cons_zero, List.set_cons_succ]
      refine wpAnyH_take (i := 13) (oi := ?o13_12) (v := ?v13_12) ?hi13_12 ?hs13_12 ?hf13_12 ?hr13_12 (fun _ _ _ h => h) ?hy13_12 (by assumption) ?hh13_12
      case hi13_12 => ((simp only [List.getElem?_toArray, List.getElem?_cons_succ, List.getElem?_cons_zero]); rfl)
      case hs13_12 => kernel_rfl
      case hf13_12 => kernel_rfl
      case hr13_12 => kernel_rfl
      case hy13_12 => exact Or.inl ⟨by rfl, by (intro wq hSw; (try dsimp only at hSw); go_simp; (try with_reducible rfl))⟩
      try simp only [Act.put, List.setIfInBounds_toArray, List.set_cons_zero, List.set_cons_succ]
      refine wpAnyH_ready (rs := [11]) (by kernel_rfl) (by simp) ?_
      refine AllReadyH.cons (o := ?o11_13) ?hi11_13 (fun K hK => ?hh11_13) AllReadyH.nil
      case hi11_13 => ((simp only [List.getElem?_toArray, List.getElem?_cons_succ, List.getElem?_cons_zero]); rfl)
      go_simp
      (go_at_call 145; refine (HMC.out _ hHeld).mono ?_; rintro e w5 ⟨rfl, hb5⟩; have HO := hide (Own.below HO.out hb5); have HB5' := hide (hHeld.trans (hb5.mono hHeld.size)); have hz5 := HB5'.out.size)
      (try dsimp only)
      refine hK.out _ _ (HB5'.out) (fun hHeld2 => ?_)
      clear hK K hHeld
      have hHeld := hHeld2
      clear hHeld2
      try simp only [Act.put, List.setIfInBounds_toArray, List.set_cons_zero, List.set_cons_succ]
      refine wpAnyH_take (i := 12) (oi := ?o12_14) (v := ?v12_14) ?hi12_14 ?hs12_14 ?hf12_14 ?hr12_14 (fun _ _ _ h => h) ?hy12_14 (by assumption) ?hh12_14
      case hi12_14 => ((simp only [List.getElem?_toArray, List.getElem?_cons_succ, List.getElem?_cons_zero]); rfl)
      case hs12_14 => kernel_rfl
      case hf12_14 => kernel_rfl
      case hr12_14 => kernel_rfl
      case hy12_14 => exact Or.inl ⟨by rfl, by (intro wq hSw; (try dsimp only at hSw); go_simp; (try with_reducible rfl))⟩
      try simp only [Act.put, List.setIfInBounds_toArray, List.set_cons_zero, List.set_cons_succ]
      refine wpAnyH_ready (rs := [14]) (by kernel_rfl) (by simp) ?_
      refine AllReadyH.cons (o := ?o14_15) ?hi14_15 (fun K hK => ?hh14_15) AllReadyH.nil
      case hi14_15 => ((simp only [List.getElem?_toArray, List.getElem?_cons_succ, List.getElem?_cons_zero]); rfl)
      go_simp
      (go_at_call 146; refine (HHA.out _ hHeld).mono ?_; rintro e wA ⟨rfl, rfl⟩)
      (try dsimp only)
      refine hK.out _ _ (hHeld) (fun hHeld2 => ?_)
      clear hK K hHeld
      have hHeld := hHeld2
      clear hHeld2
      try simp only [Act.put, List.setIfInBounds_toArray, List.set_cons_zero, List.set_cons_succ]
      refine wpAnyH_ready (rs := [15]) (by kernel_rfl) (by simp) ?_
      refine AllReadyH.cons (o := ?o15_16) ?hi15_16 (fun K hK => ?hh15_16) AllReadyH.nil
      case hi15_16 => ((simp only [List.getElem?_toArray, List.getElem?_cons_succ, List.getElem?_cons_zero]); rfl)
      go_simp
      (go_at_call 138; refine (HND.out _).mono ?_; rintro e wD ⟨rfl, rfl⟩)
      (try dsimp only)
      refine hK.out _ _ (hHeld) (fun hHeld2 => ?_)
      clear hK K hHeld
      have hHeld := hHeld2
      clear hHeld2
      try simp only [Act.put, List.setIfInBounds_toArray, List.set_cons_zero, List.set_cons_succ]
      refine wpAnyH_ready (rs := [16]) (by kernel_rfl) (by simp) ?_
      refine AllReadyH.cons (o := ?o16_17) ?hi16_17 (fun K hK => ?hh16_17) AllReadyH.nil
      case hi16_17 => ((simp only [List.getElem?_toArray, List.getElem?_cons_succ, List.getElem?_cons_zero]); rfl)
      go_simp
      refine hK.out _ _ (hHeld.alloc hHeld.size _) (fun hHeld2 => ?_)
      clear hK K hHeld
      have hHeld := hHeld2
      clear hHeld2
      try simp only [Act.put, List.setIfInBounds_toArray, List.set_cons_zero, List.set_cons_succ]
      refine wpAnyH_ready (rs := [17]) (by kernel_rfl) (by simp) ?_
      refine AllReadyH.cons (o := ?o17_18) ?hi17_18 (fun K hK => ?hh17_18) AllReadyH.nil
      case hi17_18 => ((simp only [List.getElem?_toArray, List.getElem?_cons_succ, List.getElem?_cons_zero]); rfl)
      refine step_appI (by rfl) _ _ (by rfl) w1.heap.size (by rfl) HO.out (by rfl) (by have := HLY.out; omega) (by omega) ?_; intro A6 c6 w6 ho6 hb6 _; have HO6 := hide ho6; have HB6 := hide (hHeld.trans hb6); clear ho6 hb6
      refine hK.out _ _ (HB6.out) (fun hHeld2 => ?_)
      clear hK K hHeld
      have hHeld := hHeld2
      clear hHeld2
      try simp only [Act.put, List.setIfInBounds_toArray, List.set_cons_zero, List.set_cons_succ]
      refine wpAnyH_take (i := 18) (oi := ?o18_19) (v := ?v18_19) ?hi18_19 ?hs18_19 ?hf18_19 ?hr18_19 (fun _ _ _ h => h) ?hy18_19 (by assumption) ?hh18_19
      case hi18_19 => ((simp only [List.getElem?_toArray, List.getElem?_cons_succ, List.getElem?_cons_zero]); rfl)
      case hs18_19 => kernel_rfl
      case hf18_19 => kernel_rfl
      case hr18_19 => kernel_rfl
      case hy18_19 => exact Or.inl ⟨by rfl, by (intro wq hSw; (try dsimp only at hSw); go_simp; (try with_reducible rfl))⟩
      try simp only [Act.put, List.setIfInBounds_toArray, List.set_cons_zero, List.set_cons_succ]
      refine wpAnyH_done (by kernel_rfl) ?_ _
      refine NoPanic.normal ?_
      all_goals
        go_wp2_with fail
        go_roundw
        case rel => exact ⟨k + 1, A6, c6, ys ++ [d], by go_num, by simp, by omega, by simp [HLY.out], HN2, hide (by simpa using HO6.out), HB6⟩
        case measure => simp [intOf]; omega
    · have he : ys = rawP zs ws bs rs := by rw [HY.out, List.take_of_length_le (by rw [rawP_length]; omega)]
      obtain rfl : k = 5 := by omega
      have HE := hide HB0.out.size
      clear hy HLY HY
      subst he
      rw [rawP_length] at HO0 ⊢
      go_wp2_with fail
      go_ret
      exact ⟨A2, c2, rfl, HO0.out.mono HE.out, HB0.out.trans (HB.out.mono HE.out)⟩
end Go.Proofs.YtnefgafmnpblpaaGreat
