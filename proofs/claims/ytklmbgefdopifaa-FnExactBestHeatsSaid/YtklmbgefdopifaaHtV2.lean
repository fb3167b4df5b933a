/- A visit of the reference's search: its loops. -/
import Derived.Test.YtklmbgefdopifaaHtV1
namespace Go.Proofs.Ytklmbgefdopifaa
open Go.RowKit

theorem own_capX {α : Type} {enc : α → List Value} {sz : Nat} {T : TypeId} {w : World} {B n c : Nat} {A : Option Addr} {xs : List α} (h : Own enc sz T w B (.slice A n c) xs) (hn : n = xs.length) (h0 : 0 < n) : ∃ g, A = some ⟨g, 0, none⟩ ∧ n ≤ c := by
  subst hn
  rcases h.2 with ⟨e, q⟩ | ⟨g, cap, cur, e, _, _, hc, _⟩
  · omega
  · injection e with e1 e2 e3
    exact ⟨g, e1, by rw [e3]; exact hc⟩
theorem next_is {x : PourR} {y : CrucR} {fr a b cd : Int} {bp op bc oc : Nat} (w : World) (hx : vPourR x = true) (hy : vCrucR y = true) (h0 : y.fr ≤ fr) (h1 : fr ≤ 10000)
    (p1 : w.cell? ⟨bp, op + 1, none⟩ = some (.int .i64 x.mass)) (p2 : w.cell? ⟨bp, op + 2, none⟩ = some (.int .i64 x.rdy)) (p3 : w.cell? ⟨bp, op + 3, none⟩ = some (.int .i64 x.due)) (c1 : w.cell? ⟨bc, oc + 1, none⟩ = some (.int .i64 y.cap)) (c2 : w.cell? ⟨bc, oc + 2, none⟩ = some (.int .i64 y.ht)) (h : Ht.nxR x y fr = (a, b, cd)) :
    Calls Try.prog 104 #[.pointer (some ⟨bp, op, none⟩), .pointer (some ⟨bc, oc, none⟩), .int .i64 fr] w fun e w' => e = .returned (.tuple #[.int .i64 a, .int .i64 b, .int .i64 cd]) ∧ Below w.heap.size w w' := by
  refine (specl17Next bp op bc oc x.nm x.mass x.rdy x.due y.nm y.cap y.ht y.fr fr w hx hy h0 h1 p1 p2 p3 c1 c2).mono ?_
  rintro e w' ⟨a', b', cd', h', he, hb⟩
  have q := h.symm.trans h'
  simp only [Prod.mk.injEq] at q
  obtain ⟨rfl, rfl, rfl⟩ := q
  exact ⟨he, hb⟩
set_option maxRecDepth 100000 in
set_option maxHeartbeats 8000000 in
theorem hvisit_goes (w0 : World) (b : Nat) (A : Option Addr) (c : Nat) (ps : List PourR) (A1 : Option Addr) (c1 : Nat) (cs : List CrucR) (fA : Option Addr) (fc : Nat) (dA : Option Addr) (dc : Nat) (first : Bool) (budget : Int) (HX : Hid (SlAt encPour 4 w0 A ps)) (HY : Hid (SlAt encCruc 4 w0 A1 cs)) (HV : Hid (∀ x ∈ ps, vPourR x = true)) (HW : Hid (∀ y ∈ cs, vCrucR y = true)) (hn : ps.length ≤ 12) (hm : cs.length ≤ 4) (f : Nat) (ih : HVisit w0 b A c ps A1 c1 cs fA fc dA dc first budget f) (hs : List HeatR) (left count : Int) (best : List HeatR) (w : World) (hv : Option Addr) (hc : Nat) (bv : Option Addr) (bc : Nat) (hf : ps.length < f + 1 + hs.length)
    (HS : Hid (HtX w0 b A ps.length c A1 cs.length c1 fA fc dA dc first budget w hv hc hs bv bc (Ht.frees cs hs) (Ht.dones ps.length hs) (Ht.lastE best) ⟨left, false, count, best⟩)) (HG : Hid (Ht.GoodH ps cs hs)) (hle : hs.length ≤ ps.length) (HE : Hid (Ht.ended first ⟨left, false, count, best⟩ = false)) (hl0 : ¬ left = 0) (hfull : ¬ hs.length = ps.length) :
    Calls Try.prog 89 #[.pointer (some ⟨b, 0, none⟩)] w fun e w' => ∃ (s' : Ht.S) (hv' : Option Addr) (hc' : Nat) (bv' : Option Addr) (bc' : Nat), e = .returned (.bool (!Ht.ended first s')) ∧ Ht.srch first (Ht.nx ps cs) ps.length cs.length (f + 1) hs ⟨left, false, count, best⟩ = s' ∧ HtX w0 b A ps.length c A1 cs.length c1 fA fc dA dc first budget w' hv' hc' hs bv' bc' (Ht.frees cs hs) (Ht.dones ps.length hs) (Ht.lastE s'.best) s' := by
  have hgo := Ht.srch_goes (first := first) (nx := Ht.nx ps cs) (m := cs.length) (f := f) (hs := hs) (s := ⟨left, false, count, best⟩) HE.out hl0 hfull
  have HGO := hide hgo
  have hfu : ((hs.length : Int) == ps.length) = false := by simp; omega
  have hll : hs.length < ps.length := by omega
  have HE1 := hide (show Ht.ended first ⟨left - 1, false, count, best⟩ = false from HE.out)
  clear hgo hfull
  have _u1 := HX
  have _u2 := HY
  have _u3 := HV
  have _u4 := HW
  have _u5 := hn
  have _u6 := hm
  have _u7 := ih
  have _u8 := hf
  have _u9 := HG
  have _u10 := hle
  clear _u1 _u2 _u3 _u4 _u5 _u6 _u7 _u8 _u9 _u10
  have hbl := HS.out.lt
  have h1 := HS.out.st
  obtain ⟨l0, l1, l2, l3⟩ := HS.out.inv
  obtain ⟨u0, u1⟩ := HS.out.bud
  simp only at l0 l1 l2 l3 u0
  have hnd : Ht.nodes budget ⟨left, false, count, best⟩ = budget - left := by simp [Ht.nodes]
  simp only [hnd] at h1
  have g9 : w.cell? ⟨b, 9, none⟩ = some (.int .i64 (budget - left)) := by simp [World.cell?, h1]
  have g10 : w.cell? ⟨b, 10, none⟩ = some (.int .i64 budget) := by simp [World.cell?, h1]
  have f9 : w.frozen? ⟨b, 9, none⟩ = false := by simp [World.frozen?, h1]
  clear h1
  have HS1 := hide (HS.out.node (nd := budget - left + 1) hl0 (by rw [hnd]))
  have hgt : decide (budget < budget - left + 1) = false := by simp; omega
  have HL := hide hl0
  clear HS hnd hl0
  go_enter Try.func89, Try.ntmps89
  go_wp2_with fail
  generalize w.setCell ⟨b, 9, none⟩ (.int .i64 (budget - left + 1)) = w1 at *
  have hst := HS1.out.st
  have hb1 := HS1.out.lt
  have hnd1 : Ht.nodes budget ⟨left - 1, false, count, best⟩ = budget - left + 1 := by simp [Ht.nodes]; omega
  simp only [hnd1] at hst
  have g9' : w1.cell? ⟨b, 9, none⟩ = some (.int .i64 (budget - left + 1)) := by simp [World.cell?, hst]
  have g10' : w1.cell? ⟨b, 10, none⟩ = some (.int .i64 budget) := by simp [World.cell?, hst]
  clear hst hnd1 g9 g10 f9
  refine wp_region_kept (by kernel_rfl) (by kernel_rfl) ?_
  intro gc gf gz
  repeat (go_big_quiet_step (fail))
  refine wpQuiet_nil ?_
  intro w2 hw'
  obtain ⟨⟨_, hb2⟩, rfl⟩ := hw'
  clear gc gf gz
  try dsimp only
  have fs2 := hb2.size
  try simp at fs2 hb2
  have HS2 := hide (HS1.out.below hb2)
  clear HS1 hb2 fs2 hb1 g9' g10'
  have hst := HS2.out.st
  have hb2 := HS2.out.lt
  have g0 : w2.cell? ⟨b, 0, none⟩ = some (.slice A ps.length c) := by simp [World.cell?, hst]
  have g4 : w2.cell? ⟨b, 4, none⟩ = some (.slice hv hs.length hc) := by simp [World.cell?, hst]
  clear hst
  go_wp2_with fail
  clear hgt
  refine wp_region_kept (by kernel_rfl) (by kernel_rfl) ?_
  intro gc gf gz
  repeat (go_big_quiet_step (fail))
  refine wpQuiet_nil ?_
  intro w3 hw'
  obtain ⟨⟨_, hb3⟩, rfl⟩ := hw'
  clear gc gf gz
  try dsimp only
  have fs3 := hb3.size
  try simp at fs3 hb3
  have HS3 := hide (HS2.out.below hb3)
  clear HS2 hb3 fs3 hb2 g0 g4
  clear HE HL hfu
  go_wp2_with fail
  go_loopw [4] (fun v wr => ∃ (p : Nat) (s' : Ht.S) (hv' : Option Addr) (hc' : Nat) (bv' : Option Addr) (bc' : Nat), v = .int .i64 p ∧ p ≤ ps.length ∧ Hid (HtX w0 b A ps.length c A1 cs.length c1 fA fc dA dc first budget wr hv' hc' hs bv' bc' (Ht.frees cs hs) (Ht.dones ps.length hs) (Ht.lastE s'.best) s') ∧ Hid (Ht.ended first s' = false) ∧ Hid (Ht.rounds (Ht.stepP first (Ht.nx ps cs) ps.length cs.length f hs) (ps.length - p) p s' = Ht.srch first (Ht.nx ps cs) ps.length cs.length (f + 1) hs ⟨left, false, count, best⟩)) (fun v _ => ps.length - (intOf v).toNat)
  case atStart => exact ⟨0, ⟨left - 1, false, count, best⟩, hv, hc, bv, bc, rfl, by omega, HS3, HE1, hide (by rw [HGO.out, Nat.sub_zero])⟩
  case round =>
    clear HS3 HE1 HGO
    obtain ⟨p, s', hv', hc', bv', bc', rfl, hp, HSo, HEo, HRo⟩ := hrel
    obtain ⟨wo, rfl⟩ : ∃ wo, wo = wr := ⟨_, rfl⟩
    have hbo := HSo.out.lt
    have hst := HSo.out.st
    have g0 : wo.cell? ⟨b, 0, none⟩ = some (.slice A ps.length c) := by simp [World.cell?, hst]
    clear hst
    by_cases hlt : p < ps.length
    · have hr := Ht.rounds_more (stp := Ht.stepP first (Ht.nx ps cs) ps.length cs.length f hs) (s := s') hlt
      have HRP := hide hr
      clear hr
      go_wp2_with fail
      go_loopw [5] (fun v wr => ∃ (q : Nat) (s2 : Ht.S) (hv' : Option Addr) (hc' : Nat) (bv' : Option Addr) (bc' : Nat), v = .int .i64 q ∧ q ≤ cs.length ∧ Hid (HtX w0 b A ps.length c A1 cs.length c1 fA fc dA dc first budget wr hv' hc' hs bv' bc' (Ht.frees cs hs) (Ht.dones ps.length hs) (Ht.lastE s2.best) s2) ∧ Hid (Ht.ended first s2 = false) ∧ Hid (Ht.rounds (Ht.stepC first (Ht.nx ps cs) ps.length cs.length f hs p) (cs.length - q) q s2 = Ht.stepP first (Ht.nx ps cs) ps.length cs.length f hs p s')) (fun v _ => cs.length - (intOf v).toNat)
      case atStart => exact ⟨0, s', hv', hc', bv', bc', rfl, by omega, HSo, HEo, hide rfl⟩
      case round =>
        clear HSo HEo
        obtain ⟨q, s2, hv', hc', bv', bc', rfl, hq, HS, HE2, HR⟩ := hrel
        have hbr := HS.out.lt
        have hst := HS.out.st
        have g0 : wr.cell? ⟨b, 0, none⟩ = some (.slice A ps.length c) := by simp [World.cell?, hst]
        have g1 : wr.cell? ⟨b, 1, none⟩ = some (.slice A1 cs.length c1) := by simp [World.cell?, hst]
        have g2 : wr.cell? ⟨b, 2, none⟩ = some (.slice fA cs.length fc) := by simp [World.cell?, hst]
        have g3 : wr.cell? ⟨b, 3, none⟩ = some (.slice dA ps.length dc) := by simp [World.cell?, hst]
        clear hst
        by_cases hlc : q < cs.length
        · have hr := Ht.rounds_more (stp := Ht.stepC first (Ht.nx ps cs) ps.length cs.length f hs p) (s := s2) hlc
          have HRM := hide hr
          clear hr
          obtain ⟨dg, rfl, -, hdgl, d0, -⟩ := own_get1 (f := Value.bool) (fun _ => rfl) HS.out.od (show p < (Ht.dones ps.length hs).length by rw [Ht.dones_len]; exact hlt)
          rw [Ht.dones_get] at d0
          cases hhp : Ht.hasP hs p
          · rw [hhp] at d0
            replace hhp := hide hhp
            obtain ⟨fg, rfl, -, hfgl, e0, -⟩ := own_get1 (f := Value.int .i64) (fun _ => rfl) HS.out.of_ (show q < (Ht.frees cs hs).length by rw [Ht.frees_len]; exact hlc)
            rw [Ht.frees_get] at e0
            generalize hnxq : Ht.nx ps cs p q hs = nxv
            obtain ⟨a, b', cd⟩ := nxv
            have hnxe := hide hnxq
            obtain ⟨bp, op, rfl, hbp, hcx⟩ := (HX.out.below HS.out.bel) p hlt
            have p1 := hcx 1 _ rfl
            have p2 := hcx 2 _ rfl
            have p3 := hcx 3 _ rfl
            obtain ⟨bq, oq, rfl, hbq, hdx⟩ := (HY.out.below HS.out.bel) q hlc
            have q1 := hdx 1 _ rfl
            have q2 := hdx 2 _ rfl
            have hvx := HV.out ps[p] (List.getElem_mem hlt)
            have hvy := HW.out cs[q] (List.getElem_mem hlc)
            have hpk : Ht.pk ps p = ps[p] := by unfold Ht.pk; rw [Int.toNat_natCast, List.getD_eq_getElem?_getD, List.getElem?_eq_getElem hlt]; rfl
            have hck : Ht.ck cs q = cs[q] := by unfold Ht.ck; rw [Int.toNat_natCast, List.getD_eq_getElem?_getD, List.getElem?_eq_getElem hlc]; rfl
            have hvb := vCruc_true _ _ _ _ hvy
            have hvp := vPour_true hvx
            have hfb := Ht.free_bd (c := q) HG.out (b := (Ht.ck cs q).fr) (Int.le_refl _) (by rw [hck]; omega)
            unfold Ht.nx at hnxq
            rw [hpk] at hnxq
            generalize hfv : Ht.freeOf hs q (Ht.ck cs q).fr = fr at *
            have HFV := hide hfv
            rw [hck] at hnxq hfb
            have HCK := hide hck
            clear hpk hck hcx hdx hfv
            generalize ps[p] = x at *
            generalize cs[q] = y at *
            have hnb : cd = 0 → y.fr ≤ b' ∧ b' ≤ 10000 := fun e => by subst e; have := Ht.nxR_ok hnxq; omega
            have HNB := hide hnb
            have hnh := fun u : Kept wr => next_is (x := x) (y := y) u.w' hvx hvy hfb.1 hfb.2 ((u.h.cell (p := ⟨bp, op + p * 4 + 1, none⟩) hbp).trans p1) ((u.h.cell (p := ⟨bp, op + p * 4 + 2, none⟩) hbp).trans p2) ((u.h.cell (p := ⟨bp, op + p * 4 + 3, none⟩) hbp).trans p3) ((u.h.cell (p := ⟨bq, oq + q * 4 + 1, none⟩) hbq).trans q1) ((u.h.cell (p := ⟨bq, oq + q * 4 + 2, none⟩) hbq).trans q2) hnxq
            have HNH := hide hnh
            clear hnb hnh hnxq hvx hvy hvb hvp hfb p1 p2 p3 q1 q2
            go_upto_region 19 with fail
            refine wp_region_kept (by kernel_rfl) (by kernel_rfl) ?_
            intro gc gf gz
            repeat (go_big_quiet_step ((go_at_call 104; exact Calls.kept (HNH.out _))))
            refine wpQuiet_nil ?_
            intro w5 hw'
            obtain ⟨⟨_, hb5⟩, rfl⟩ := hw'
            clear gc gf gz
            try dsimp only
            have fs5 := hb5.size
            try simp at fs5 hb5
            have HS5 := hide (HS.out.below hb5)
            have hz5 := HS5.out.lt
            clear HS hb5 fs5 g0 g1 g2 g3 e0 d0 HNH hdgl hfgl
            by_cases hcd : cd = 0
            · replace HNB := hide (HNB.out hcd)
              subst hcd
              have hst := Ht.stepC_yes (first := first) (n := ps.length) (m := cs.length) (f := f) (s := s2) hhp.out hnxe.out
              have HST := hide hst
              clear hst
              have hgd : Ht.GoodH ps cs (hs ++ [⟨p, q, a, b'⟩]) := HG.out.snoc hlt hlc (by rw [HCK.out]; have := HNB.out.1; omega) HNB.out.2
              have HGD := hide hgd
              clear hgd
              have HS6 := hide (HS5.out.setD (k := p) true)
              have hst := HS5.out.st
              have g3 : w5.cell? ⟨b, 3, none⟩ = some (.slice (some ⟨dg, 0, none⟩) ps.length dc) := by simp [World.cell?, hst]
              clear hst
              obtain ⟨dg', hdg, -, hdgl, d0, df⟩ := own_get1 (f := Value.bool) (fun _ => rfl) HS5.out.od (show p < (Ht.dones ps.length hs).length by rw [Ht.dones_len]; exact hlt)
              obtain rfl : dg = dg' := by injection hdg with hdg; injection hdg
              clear hdg
              go_upto_region 22 with fail
              clear g3 d0 df hdgl HS5
              generalize w5.setCell ⟨dg, p, none⟩ (.bool true) = w6 at *
              have HS7 := hide (HS6.out.setF (k := q) b')
              have hst := HS6.out.st
              have hb6 := HS6.out.lt
              have g2 : w6.cell? ⟨b, 2, none⟩ = some (.slice (some ⟨fg, 0, none⟩) cs.length fc) := by simp [World.cell?, hst]
              clear hst
              obtain ⟨fg', hfg, -, hfgl, e0, ef⟩ := own_get1 (f := Value.int .i64) (fun _ => rfl) HS6.out.of_ (show q < (Ht.frees cs hs).length by rw [Ht.frees_len]; exact hlc)
              obtain rfl : fg = fg' := by injection hfg with hfg; injection hfg
              clear hfg
              go_upto_region 23 with fail
              clear g2 e0 ef hfgl HS6 hb6
              generalize w6.setCell ⟨fg, q, none⟩ (.int .i64 b') = w7 at *
              have hst := HS7.out.st
              have hb7 := HS7.out.lt
              have g4 : w7.cell? ⟨b, 4, none⟩ = some (.slice hv' hs.length hc') := by simp [World.cell?, hst]
              have f4 : w7.frozen? ⟨b, 4, none⟩ = false := by simp [World.frozen?, hst]
              clear hst
              go_wp2_with (at_builtin; refine wpList_appHeat_at rfl _ _ rfl (b + 1) rfl HS7.out.oh rfl (by omega) ?_ ?_; (focus omega); intro A8 c8 w8 ho8 hb8 hg8 hat8; have HP8 := hide (HS7.out.push ho8 hb8 hg8 hat8); have g4' : w8.cell? ⟨b, 4, none⟩ = some (.slice hv' hs.length hc') := (hb8.cell (p := ⟨b, 4, none⟩) (Nat.lt_succ_self b)).trans g4; have f4' : w8.frozen? ⟨b, 4, none⟩ = false := (hb8.frozen (p := ⟨b, 4, none⟩) (Nat.lt_succ_self b)).trans f4; clear ho8 hb8 hg8 hat8)
              clear g4 f4 g4' f4' HS7 hb7
              generalize w8.setCell ⟨b, 4, none⟩ (.slice A8 (hs.length + 1) c8) = w9 at *
              have hlen : (hs ++ [(⟨p, q, a, b'⟩ : HeatR)]).length = hs.length + 1 := by simp
              have hq := ih (hs ++ [⟨p, q, a, b'⟩]) s2 w9 A8 c8 bv' bc' (by omega) (hide (by rw [← Ht.frees_push, ← Ht.dones_push]; exact HP8.out)) HGD (by omega) HE2
              refine hq.mono ?_
              rintro e w13 ⟨s13, hv13, hc13, bv13, bc13, rfl, hs13, hS13⟩
              have HP13 := hide hS13
              have HS13 := hide hs13
              clear hs13 hS13 hq HP8
              go_upto_region 25 with fail
              go_cut [] (fun wx => Hid (HtX w0 b (some ⟨bp, op, none⟩) ps.length c (some ⟨bq, oq, none⟩) cs.length c1 (some ⟨fg, 0, none⟩) fc (some ⟨dg, 0, none⟩) dc first budget wx hv13 hc13 hs bv13 bc13 (Ht.frees cs (hs ++ [⟨p, q, a, b'⟩])) (Ht.dones ps.length (hs ++ [⟨p, q, a, b'⟩])) (Ht.lastE s13.best) s13))
              case first =>
                obtain ⟨g13, hcv, hcap⟩ := own_capX HP13.out.oh rfl (by simp)
                have hst := HP13.out.st
                have hb13 := HP13.out.lt
                rw [hlen] at hst hcap
                have g4 : w13.cell? ⟨b, 4, none⟩ = some (.slice hv13 (hs.length + 1) hc13) := by simp [World.cell?, hst]
                have f4 : w13.frozen? ⟨b, 4, none⟩ = false := by simp [World.frozen?, hst]
                have k0' : IntKind.i64.wrap ((hs.length : Int) + 1 - 1) = hs.length := by rw [show (hs.length : Int) + 1 - 1 = hs.length by omega]; exact IntWalk.i64_in _ (by omega)
                have hch : hs.length ≤ 12 := by omega
                have hcap2 : hs.length ≤ hc13 := by omega
                subst hcv
                clear hst
                go_region
                all_goals
                  go_wp2_with fail
                  go_meet
                  exact hide (by first | exact (HP13.out.below (Below.refl _ _).drew).pop rfl | exact HP13.out.pop rfl)
              case rest =>
                obtain ⟨w14, rfl⟩ : ∃ w14, w14 = wc := ⟨_, rfl⟩
                have HP14 := hcut
                clear HP13
                have HS15 := hide (HP14.out.setF (k := q) fr)
                have hst := HP14.out.st
                have hb14 := HP14.out.lt
                have g2 : w14.cell? ⟨b, 2, none⟩ = some (.slice (some ⟨fg, 0, none⟩) cs.length fc) := by simp [World.cell?, hst]
                clear hst
                obtain ⟨fg', hfg, -, hfgl, e0, ef⟩ := own_get1 (f := Value.int .i64) (fun _ => rfl) HP14.out.of_ (show q < (Ht.frees cs (hs ++ [⟨p, q, a, b'⟩])).length by rw [Ht.frees_len]; exact hlc)
                obtain rfl : fg = fg' := by injection hfg with hfg; injection hfg
                clear hfg
                go_upto_region 27 with fail
                clear g2 e0 ef hfgl HP14 hb14
                generalize w14.setCell ⟨fg, q, none⟩ (.int .i64 fr) = w15 at *
                have HS16 := hide (HS15.out.setD (k := p) false)
                have hst := HS15.out.st
                have hb15 := HS15.out.lt
                have g3 : w15.cell? ⟨b, 3, none⟩ = some (.slice (some ⟨dg, 0, none⟩) ps.length dc) := by simp [World.cell?, hst]
                clear hst
                obtain ⟨dg', hdg, -, hdgl, d0, df⟩ := own_get1 (f := Value.bool) (fun _ => rfl) HS15.out.od (show p < (Ht.dones ps.length (hs ++ [⟨p, q, a, b'⟩])).length by rw [Ht.dones_len]; exact hlt)
                obtain rfl : dg = dg' := by injection hdg with hdg; injection hdg
                clear hdg
                go_upto_region 28 with fail
                clear g3 d0 df hdgl HS15 hb15
                generalize w15.setCell ⟨dg, p, none⟩ (.bool false) = w16 at *
                have HP16 : Hid (HtX w0 b (some ⟨bp, op, none⟩) ps.length c (some ⟨bq, oq, none⟩) cs.length c1 (some ⟨fg, 0, none⟩) fc (some ⟨dg, 0, none⟩) dc first budget w16 hv13 hc13 hs bv13 bc13 (Ht.frees cs hs) (Ht.dones ps.length hs) (Ht.lastE s13.best) s13) := hide (by have q := HS16.out; rw [← HFV.out, Ht.frees_pop, Ht.dones_pop hhp.out] at q; exact q)
                clear HS16
                have HRX := hide (show Ht.rounds (Ht.stepC first (Ht.nx ps cs) ps.length cs.length f hs p) (cs.length - (q + 1)) (q + 1) s13 = Ht.stepP first (Ht.nx ps cs) ps.length cs.length f hs p s' from by rw [← HR.out, HRM.out, HST.out, HS13.out])
                cases hen : Ht.ended first s13
                · have HEN := hide hen
                  go_wp2_with fail
                  go_roundw
                  case rel => exact ⟨q + 1, s13, hv13, hc13, bv13, bc13, by go_num, by omega, HP16, HEN, HRX⟩
                  case measure => simp [intOf]; omega
                · have hrn := Ht.roundsC_ended (nx := Ht.nx ps cs) (n := ps.length) (m := cs.length) (f := f) (hs := hs) (p := p) hen (cs.length - (q + 1)) (q + 1)
                  have hrp := Ht.roundsP_ended (nx := Ht.nx ps cs) (n := ps.length) (m := cs.length) (f := f) (hs := hs) hen (ps.length - (p + 1)) (p + 1)
                  have HRN := hide (show Ht.srch first (Ht.nx ps cs) ps.length cs.length (f + 1) hs ⟨left, false, count, best⟩ = s13 from by rw [← HRo.out, HRP.out, ← HRX.out, hrn, hrp])
                  have HEN := hide hen
                  clear hrn hrp
                  go_wp2_with fail
                  ((try simp only [Exit.inBlock, Exit.then]); refine bodyPost_ret (results_tmp rfl _ _ _) rfl ?_)
                  exact ⟨s13, hv13, hc13, bv13, bc13, by rw [HEN.out]; rfl, HRN.out, HP16.out⟩
            · have hst := Ht.stepC_no (first := first) (nx := Ht.nx ps cs) (n := ps.length) (m := cs.length) (f := f) (hs := hs) (p := p) (c := q) (s := s2) (by rw [hnxe.out]; exact hcd)
              have HST := hide hst
              have hc2 : (cd == 0) = false := by simpa using hcd
              clear hst hcd
              go_wp2_with fail
              go_roundw
              case rel => exact ⟨q + 1, s2, hv', hc', bv', bc', by go_num, by omega, HS5, HE2, hide (by rw [← HR.out, HRM.out, HST.out])⟩
              case measure => simp [intOf]; omega
          · rw [hhp] at d0
            have hst := Ht.stepC_has (first := first) (nx := Ht.nx ps cs) (n := ps.length) (m := cs.length) (f := f) (p := p) (c := q) (s := s2) hhp
            have HST := hide hst
            clear hst hhp
            go_wp2_with fail
            go_roundw
            case rel => exact ⟨q + 1, s2, hv', hc', bv', bc', by go_num, by omega, HS, HE2, hide (by rw [← HR.out, HRM.out, HST.out])⟩
            case measure => simp [intOf]; omega
        · obtain rfl : q = cs.length := by omega
          have hr := Ht.rounds_none (stp := Ht.stepC first (Ht.nx ps cs) ps.length cs.length f hs p) (s := s2) (Nat.le_refl cs.length)
          have HE3 := hide (HR.out.symm.trans hr)
          clear hr
          go_wp2_with fail
          go_roundw
          case rel => exact ⟨p + 1, s2, hv', hc', bv', bc', by go_num, by omega, HS, HE2, hide (by rw [← HRo.out, HRP.out, HE3.out])⟩
          case measure => simp [intOf]; omega
    · obtain rfl : p = ps.length := by omega
      have hr := Ht.rounds_none (stp := Ht.stepP first (Ht.nx ps cs) ps.length cs.length f hs) (s := s') (Nat.le_refl ps.length)
      have HE3 := hide (HRo.out.symm.trans hr)
      clear hr
      go_wp2_with fail
      go_ret
      exact ⟨s', hv', hc', bv', bc', by rw [HEo.out]; rfl, HE3.out, HSo.out⟩
end Go.Proofs.Ytklmbgefdopifaa
