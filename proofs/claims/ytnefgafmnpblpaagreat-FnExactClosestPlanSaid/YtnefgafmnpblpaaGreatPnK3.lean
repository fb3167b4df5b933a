/- The law of ClosestPlan, walked out of the contracts of both sides. -/
import Derived.Test.YtnefgafmnpblpaaGreatPnK
namespace Go.Proofs.YtnefgafmnpblpaaGreat
open Go.RowKit Pn

set_option maxRecDepth 100000 in
set_option maxHeartbeats 4000000 in
theorem lawClosestPlan_x (x : Cx) (bud : Int) (w : World) (hm : MdAt w x.Az x.Aw x.Ab x.zs x.ws x.bs) (hr : SlAt encRing 3 w x.A x.rs) (hz : x.zs.length ≤ maxLen) (hw : x.ws.length ≤ maxLen) (hb : x.bs.length ≤ maxLen) (hl : ∀ l ∈ x.ws, l.length ≤ maxLen) (hs : x.nm.size ≤ maxLen) (hn : x.rs.length ≤ maxLen) :
    Calls Tryz.prog 6 #[.agg #[.slice x.Az x.zs.length x.cz, .slice x.Aw x.ws.length x.cw, .slice x.Ab x.bs.length x.cb], .agg #[.string x.nm, .slice x.A x.rs.length x.c], .agg #[.int .i64 x.t0, .int .i64 x.t1, .int .i64 x.t2, .int .i64 x.t3, .int .i64 x.t4, .int .i64 x.tol, .int .i64 x.most], .int .i64 bud] w fun e w' => e = .returned (.bool true) ∧ Below w.heap.size w w' := by
  have HMD := hide hm
  have HRG := hide hr
  have HLW := hide hl
  have HNM := hide hs
  have HRL := hide hn
  have HLB := hide (Lb.new x w)
  have HSC := hide (show ∀ (W : World) (Az : Option Addr) (cz : Nat) (Aw : Option Addr) (cw : Nat) (Ab : Option Addr) (cb : Nat) (A : Option Addr) (c : Nat), MdAt W Az Aw Ab x.zs x.ws x.bs → SlAt encRing 3 W A x.rs → MdSz x.zs x.ws x.bs → x.rs.length ≤ 1048576 → Calls Tryz.prog 31 #[.agg #[.slice Az x.zs.length cz, .slice Aw x.ws.length cw, .slice Ab x.bs.length cb], .agg #[.string x.nm, .slice A x.rs.length c], .agg #[.int .i64 x.t0, .int .i64 x.t1, .int .i64 x.t2, .int .i64 x.t3, .int .i64 x.t4, .int .i64 x.tol, .int .i64 x.most], .int .i64 bud] W (ClRes (closeP x.bare bud) W) from fun W Az cz Aw cw Ab cb A c h1 h2 h3 h4 => (specClosestPlan_x (x := ⟨Az, cz, x.zs, Aw, cw, x.ws, Ab, cb, x.bs, x.nm, A, c, x.rs, x.t0, x.t1, x.t2, x.t3, x.t4, x.tol, x.most⟩) bud (hide ⟨h1, h2, h3, h4, hs⟩)))
  have HIC := hide (show ∀ (W : World) (Az : Option Addr) (cz : Nat) (Aw : Option Addr) (cw : Nat) (Ab : Option Addr) (cb : Nat) (A : Option Addr) (c : Nat), MdAt W Az Aw Ab x.zs x.ws x.bs → SlAt encRing 3 W A x.rs → MdSz x.zs x.ws x.bs → x.rs.length ≤ 1048576 → Calls Tryz.prog 13 #[.agg #[.slice Az x.zs.length cz, .slice Aw x.ws.length cw, .slice Ab x.bs.length cb], .agg #[.string x.nm, .slice A x.rs.length c], .agg #[.int .i64 x.t0, .int .i64 x.t1, .int .i64 x.t2, .int .i64 x.t3, .int .i64 x.t4, .int .i64 x.tol, .int .i64 x.most], .int .i64 bud] W (ClRes (closeP x.bare bud) W) from fun W Az cz Aw cw Ab cb A c h1 h2 h3 h4 => (implClosestPlan_x (x := ⟨Az, cz, x.zs, Aw, cw, x.ws, Ab, cb, x.bs, x.nm, A, c, x.rs, x.t0, x.t1, x.t2, x.t3, x.t4, x.tol, x.most⟩) bud (hide ⟨h1, h2, h3, h4, hs⟩)))
  go_enter Tryz.func6, Tryz.ntmps6
  go_wp2_with fail
  generalize (((w.alloc (.cells #[.slice x.Az x.zs.length x.cz, .slice x.Aw x.ws.length x.cw, .slice x.Ab x.bs.length x.cb] 55)).alloc (.cells #[.string x.nm, .slice x.A x.rs.length x.c] 58)).alloc (.cells #[.int .i64 x.t0, .int .i64 x.t1, .int .i64 x.t2, .int .i64 x.t3, .int .i64 x.t4, .int .i64 x.tol, .int .i64 x.most] 61)) = w3 at *
  have HMA := hide (fun W (hb : Below w3.heap.size w3 W) => (HMD.out.below HLB.out.bel).below hb)
  have HSL := hide (fun W (hb : Below w3.heap.size w3 W) => (HRG.out.below HLB.out.bel).below hb)
  have HPC := hide (fun W (hb : Below w3.heap.size w3 W) => (HLB.out.below hb).cells)
  have HBW := hide HLB.out.bel
  clear HLB HMD HRG hm hr hl
  refine (szModel_any x.Az x.Aw x.Ab x.cz x.cw x.cb x.zs x.ws x.bs 1048576 w3 (HMA.out _ (Below.refl _ _)) hz hw hb HLW.out (by omega) (by omega)).mono ?_
  rintro e w4 ⟨r1, rfl, ra1, rb1, hsz1, hb4⟩
  have HB4 := hide hb4
  have HSZ1 := hide hsz1
  clear hb4 hsz1 hz hw hb
  by_cases q1 : 0 ≤ r1
  · obtain ⟨hmsz, htot⟩ := HSZ1.out q1
    have HSZ := hide hmsz
    have HTT := hide htot
    have q1' : ¬ r1 < 0 := by omega
    obtain ⟨c0, c1, c2, p0, p1, g0, g1, g2, g3, g4, g5, g6⟩ := HPC.out w4 HB4.out
    clear HSZ1 hmsz htot
    go_wp2_with fail
    clear c0 c1 c2 p0 p1 g0 g1 g2 g3 g4 g5 g6
    refine (szProfile_any x.nm x.A x.c x.rs r1 w4 HNM.out HRL.out q1 (by omega)).mono ?_
    rintro e w5 ⟨r2, rfl, ra2, rb2, hsz2, hb5⟩
    have HB5 := hide (HB4.out.trans (hb5.mono HB4.out.size))
    have HSZ2 := hide hsz2
    clear hb5 hsz2 HB4
    by_cases q2 : 0 ≤ r2
    · have HRN := hide (HSZ2.out q2).1
      have q2' : ¬ r2 < 0 := by omega
      clear HSZ2
      have C0 : ∀ W, Below w3.heap.size w3 W → W.cell? ⟨w.heap.size, 0, none⟩ = some (.slice x.Az x.zs.length x.cz) := fun W hb => (HPC.out W hb).1
      have C1 : ∀ W, Below w3.heap.size w3 W → W.cell? ⟨w.heap.size, 1, none⟩ = some (.slice x.Aw x.ws.length x.cw) := fun W hb => (HPC.out W hb).2.1
      have C2 : ∀ W, Below w3.heap.size w3 W → W.cell? ⟨w.heap.size, 2, none⟩ = some (.slice x.Ab x.bs.length x.cb) := fun W hb => (HPC.out W hb).2.2.1
      have P0 : ∀ W, Below w3.heap.size w3 W → W.cell? ⟨w.heap.size + 1, 0, none⟩ = some (.string x.nm) := fun W hb => (HPC.out W hb).2.2.2.1
      have P1 : ∀ W, Below w3.heap.size w3 W → W.cell? ⟨w.heap.size + 1, 1, none⟩ = some (.slice x.A x.rs.length x.c) := fun W hb => (HPC.out W hb).2.2.2.2.1
      have G0 : ∀ W, Below w3.heap.size w3 W → W.cell? ⟨w.heap.size + 1 + 1, 0, none⟩ = some (.int .i64 x.t0) := fun W hb => (HPC.out W hb).2.2.2.2.2.1
      have G1 : ∀ W, Below w3.heap.size w3 W → W.cell? ⟨w.heap.size + 1 + 1, 1, none⟩ = some (.int .i64 x.t1) := fun W hb => (HPC.out W hb).2.2.2.2.2.2.1
      have G2 : ∀ W, Below w3.heap.size w3 W → W.cell? ⟨w.heap.size + 1 + 1, 2, none⟩ = some (.int .i64 x.t2) := fun W hb => (HPC.out W hb).2.2.2.2.2.2.2.1
      have G3 : ∀ W, Below w3.heap.size w3 W → W.cell? ⟨w.heap.size + 1 + 1, 3, none⟩ = some (.int .i64 x.t3) := fun W hb => (HPC.out W hb).2.2.2.2.2.2.2.2.1
      have G4 : ∀ W, Below w3.heap.size w3 W → W.cell? ⟨w.heap.size + 1 + 1, 4, none⟩ = some (.int .i64 x.t4) := fun W hb => (HPC.out W hb).2.2.2.2.2.2.2.2.2.1
      have G5 : ∀ W, Below w3.heap.size w3 W → W.cell? ⟨w.heap.size + 1 + 1, 5, none⟩ = some (.int .i64 x.tol) := fun W hb => (HPC.out W hb).2.2.2.2.2.2.2.2.2.2.1
      have G6 : ∀ W, Below w3.heap.size w3 W → W.cell? ⟨w.heap.size + 1 + 1, 6, none⟩ = some (.int .i64 x.most) := fun W hb => (HPC.out W hb).2.2.2.2.2.2.2.2.2.2.2
      go_upto_region 8 with fail
      refine wp_region_noPanic ?_
      refine wp_region_held_drew (S := (fun w' => Below w3.heap.size w3 w')) (by kernel_rfl) (HB5.out.drew) (fun hHeld => ?_)
      refine wpAnyH_take (i := 0) (oi := ?o0_1) (v := ?v0_1) ?hi0_1 ?hs0_1 ?hf0_1 ?hr0_1 (fun _ _ _ h => h) ?hy0_1 (by assumption) ?hh0_1
      case hi0_1 => ((simp only [List.getElem?_toArray, List.getElem?_cons_zero]); rfl)
      case hs0_1 => kernel_rfl
      case hf0_1 => kernel_rfl
      case hr0_1 => kernel_rfl
      case hy0_1 => exact Or.inl ⟨by rfl, by (intro wq hSw; (try dsimp only at hSw); go_simp; (try with_reducible rfl))⟩
      try simp only [Act.put, List.setIfInBounds_toArray, List.set_cons_zero, List.set_cons_succ]
      refine wpAnyH_take (i := 2) (oi := ?o2_2) (v := ?v2_2) ?hi2_2 ?hs2_2 ?hf2_2 ?hr2_2 (fun _ _ _ h => h) ?hy2_2 (by assumption) ?hh2_2
      case hi2_2 => ((simp only [List.getElem?_toArray, List.getElem?_cons_succ, List.getElem?_cons_zero]); rfl)
      case hs2_2 => kernel_rfl
      case hf2_2 => kernel_rfl
      case hr2_2 => kernel_rfl
      case hy2_2 => exact Or.inl ⟨by rfl, by (intro wq hSw; (try dsimp only at hSw); go_simp; (try with_reducible rfl))⟩
      try simp only [Act.put, List.setIfInBounds_toArray, List.set_cons_zero, List.set_cons_succ]
      refine wpAnyH_take (i := 4) (oi := ?o4_3) (v := ?v4_3) ?hi4_3 ?hs4_3 ?hf4_3 ?hr4_3 (fun _ _ _ h => h) ?hy4_3 (by assumption) ?hh4_3
      case hi4_3 => ((simp only [List.getElem?_toArray, List.getElem?_cons_succ, List.getElem?_cons_zero]); rfl)
      case hs4_3 => kernel_rfl
      case hf4_3 => kernel_rfl
      case hr4_3 => kernel_rfl
      case hy4_3 => exact Or.inl ⟨by rfl, by (intro wq hSw; (try dsimp only at hSw); go_simp; (try with_reducible rfl))⟩
      try simp only [Act.put, List.setIfInBounds_toArray, List.set_cons_zero, List.set_cons_succ]
      refine wpAnyH_take (i := 6) (oi := ?o6_4) (v := ?v6_4) ?hi6_4 ?hs6_4 ?hf6_4 ?hr6_4 (fun _ _ _ h => h) ?hy6_4 (by assumption) ?hh6_4
      case hi6_4 => ((simp only [List.getElem?_toArray, List.getElem?_cons_succ, List.getElem?_cons_zero]); rfl)
      case hs6_4 => kernel_rfl
      case hf6_4 => kernel_rfl
      case hr6_4 => kernel_rfl
      case hy6_4 => exact Or.inl ⟨by rfl, by (intro wq hSw; (try dsimp only at hSw); go_simp; (try with_reducible rfl))⟩
      try simp only [Act.put, List.setIfInBounds_toArray, List.set_cons_zero, List.set_cons_succ]
      refine wpAnyH_ready (rs := [1]) (by kernel_rfl) (by simp) ?_
      refine AllReadyH.cons (o := ?o1_5) ?hi1_5 (fun K hK => ?hh1_5) AllReadyH.nil
      case hi1_5 => ((simp only [List.getElem?_toArray, List.getElem?_cons_succ, List.getElem?_cons_zero]); rfl)
      go_simp
      (go_at_call 26; refine (lawstoModel x.Az x.Aw x.Ab x.cz x.cw x.cb x.zs x.ws x.bs _ (HMA.out _ hHeld) HSZ).mono ?_; rintro e wa ⟨Az1, cz1, Aw1, cw1, Ab1, cb1, M1, M2, rfl, hm1, hba⟩; have HM1 := hide hm1; have HBA := hide (hHeld.trans (hba.mono hHeld.size)); have HHA := hide ((Below.refl w5.heap.size w5).drew.trans hba); clear hm1 hba)
      (try dsimp only)
      refine hK.out _ _ (HBA.out) (fun hHeld2 => ?_)
      clear hK K hHeld
      have hHeld := hHeld2
      clear hHeld2
      try simp only [Act.put, List.setIfInBounds_toArray, List.set_cons_zero, List.set_cons_succ]
      refine wpAnyH_ready (rs := [3]) (by kernel_rfl) (by simp) ?_
      refine AllReadyH.cons (o := ?o3_6) ?hi3_6 (fun K hK => ?hh3_6) AllReadyH.nil
      case hi3_6 => ((simp only [List.getElem?_toArray, List.getElem?_cons_succ, List.getElem?_cons_zero]); rfl)
      go_simp
      (go_at_call 27; refine (lawstoProfile_o x.nm x.A x.c x.rs wa (HSL.out _ HBA.out) HRN.out).mono ?_; rintro e wb ⟨bp1, rfl, hr1, hbb⟩; have HM2 := hide (HM1.out.below hbb); have HR2 := hide hr1; have HBB := hide (HBA.out.trans (hbb.mono HBA.out.size)); have HHB := hide (HHA.out.trans (hbb.mono HHA.out.size)); clear hr1 hbb)
      (try dsimp only)
      refine hK.out _ _ (HBB.out) (fun hHeld2 => ?_)
      clear hK K hHeld
      have hHeld := hHeld2
      clear hHeld2
      try simp only [Act.put, List.setIfInBounds_toArray, List.set_cons_zero, List.set_cons_succ]
      refine wpAnyH_ready (rs := [5]) (by kernel_rfl) (by simp) ?_
      refine AllReadyH.cons (o := ?o5_7) ?hi5_7 (fun K hK => ?hh5_7) AllReadyH.nil
      case hi5_7 => ((simp only [List.getElem?_toArray, List.getElem?_cons_succ, List.getElem?_cons_zero]); rfl)
      go_simp
      (go_at_call 28; refine (lawstoGoal x.t0 x.t1 x.t2 x.t3 x.t4 x.tol x.most wb).mono ?_; rintro e wg ⟨rfl, hbg⟩; have HM3 := hide (HM2.out.below hbg); have HR3 := hide (HR2.out.below hbg); have HBG := hide (HBB.out.trans (hbg.mono HBB.out.size)); have HHG := hide (HHB.out.trans (hbg.mono HHB.out.size)); clear hbg)
      (try dsimp only)
      refine hK.out _ _ (HBG.out) (fun hHeld2 => ?_)
      clear hK K hHeld
      have hHeld := hHeld2
      clear hHeld2
      try simp only [Act.put, List.setIfInBounds_toArray, List.set_cons_zero, List.set_cons_succ]
      refine wpAnyH_ready (rs := [7]) (by kernel_rfl) (by simp) ?_
      refine AllReadyH.cons (o := ?o7_8) ?hi7_8 (fun K hK => ?hh7_8) AllReadyH.nil
      case hi7_8 => ((simp only [List.getElem?_toArray, List.getElem?_cons_succ, List.getElem?_cons_zero]); rfl)
      go_simp
      (go_at_call 31; refine (HSC.out wg Az1 cz1 Aw1 cw1 Ab1 cb1 _ _ HM3.out.md (HR3.out.at_ (fun _ => rfl)) HSZ.out HRN.out).mono ?_; rintro e w8 ⟨AR, cR, xsR, dR, codeR, rfl, hpR, hlR, hoR, hbR⟩; have HOR := hide (hoR.mono (B' := w3.heap.size) (HBG.out.size)); have HBR := hide (HBG.out.trans (hbR.mono HBG.out.size)); have HHR := hide (HHG.out.trans (hbR.mono HHG.out.size)); have HPR := hide hpR; have HLR := hide hlR; clear hpR hlR hoR; clear hbR)
      (try dsimp only)
      refine hK.out _ _ (HBR.out) (fun hHeld2 => ?_)
      clear hK K hHeld
      have hHeld := hHeld2
      clear hHeld2
      try simp only [Act.put, List.setIfInBounds_toArray, List.set_cons_zero, List.set_cons_succ]
      refine wpAnyH_take (i := 8) (oi := ?o8_9) (v := ?v8_9) ?hi8_9 ?hs8_9 ?hf8_9 ?hr8_9 (fun _ _ _ h => h) ?hy8_9 (by assumption) ?hh8_9
      case hi8_9 => ((simp only [List.getElem?_toArray, List.getElem?_cons_succ, List.getElem?_cons_zero]); rfl)
      case hs8_9 => kernel_rfl
      case hf8_9 => kernel_rfl
      case hr8_9 => kernel_rfl
      case hy8_9 => exact Or.inl ⟨by rfl, by (intro wq hSw; (try dsimp only at hSw); go_simp; (try with_reducible rfl))⟩
      try simp only [Act.put, List.setIfInBounds_toArray, List.set_cons_zero, List.set_cons_succ]
      refine wpAnyH_take (i := 9) (oi := ?o9_10) (v := ?v9_10) ?hi9_10 ?hs9_10 ?hf9_10 ?hr9_10 (fun _ _ _ h => h) ?hy9_10 (by assumption) ?hh9_10
      case hi9_10 => ((simp only [List.getElem?_toArray, List.getElem?_cons_succ, List.getElem?_cons_zero]); rfl)
      case hs9_10 => kernel_rfl
      case hf9_10 => kernel_rfl
      case hr9_10 => kernel_rfl
      case hy9_10 => exact Or.inl ⟨by rfl, by (intro wq hSw; (try dsimp only at hSw); go_simp; (try with_reducible rfl))⟩
      try simp only [Act.put, List.setIfInBounds_toArray, List.set_cons_zero, List.set_cons_succ]
      refine wpAnyH_take (i := 10) (oi := ?o10_11) (v := ?v10_11) ?hi10_11 ?hs10_11 ?hf10_11 ?hr10_11 (fun _ _ _ h => h) ?hy10_11 (by assumption) ?hh10_11
      case hi10_11 => ((simp only [List.getElem?_toArray, List.getElem?_cons_succ, List.getElem?_cons_zero]); rfl)
      case hs10_11 => kernel_rfl
      case hf10_11 => kernel_rfl
      case hr10_11 => kernel_rfl
      case hy10_11 => exact Or.inl ⟨by rfl, by (intro wq hSw; (try dsimp only at hSw); go_simp; (try with_reducible rfl))⟩
      try simp only [Act.put, List.setIfInBounds_toArray, List.set_cons_zero, List.set_cons_succ]
      refine wpAnyH_take (i := 11) (oi := ?o11_12) (v := ?v11_12) ?hi11_12 ?hs11_12 ?hf11_12 ?hr11_12 (fun _ _ _ h => h) ?hy11_12 (by assumption) ?hh11_12
      case hi11_12 => ((simp only [List.getElem?_toArray, List.getElem?_cons_succ, List.getElem?_cons_zero]); rfl)
      case hs11_12 => kernel_rfl
      case hf11_12 => kernel_rfl
      case hr11_12 => kernel_rfl
      case hy11_12 => exact Or.inl ⟨by rfl, by (intro wq hSw; (try dsimp only at hSw); go_simp; (try with_reducible rfl))⟩
      try simp only [Act.put, List.setIfInBounds_toArray, List.set_cons_zero, List.set_cons_succ]
      refine wpAnyH_take (i := 12) (oi := ?o12_13) (v := ?v12_13) ?hi12_13 ?hs12_13 ?hf12_13 ?hr12_13 (fun _ _ _ h => h) ?hy12_13 (by assumption) ?hh12_13
      case hi12_13 => ((simp only [List.getElem?_toArray, List.getElem?_cons_succ, List.getElem?_cons_zero]); rfl)
      case hs12_13 => kernel_rfl
      case hf12_13 => kernel_rfl
      case hr12_13 => kernel_rfl
      case hy12_13 => exact Or.inl ⟨by rfl, by (intro wq hSw; (try dsimp only at hSw); go_simp; (try with_reducible rfl))⟩
      try simp only [Act.put, List.setIfInBounds_toArray, List.set_cons_zero, List.set_cons_succ]
      refine wpAnyH_take (i := 13) (oi := ?o13_14) (v := ?v13_14) ?hi13_14 ?hs13_14 ?hf13_14 ?hr13_14 (fun _ _ _ h => h) ?hy13_14 (by assumption) ?hh13_14
      case hi13_14 => ((simp only [List.getElem?_toArray, List.getElem?_cons_succ, List.getElem?_cons_zero]); rfl)
      case hs13_14 => kernel_rfl
      case hf13_14 => kernel_rfl
      case hr13_14 => kernel_rfl
      case hy13_14 => exact Or.inl ⟨by rfl, by (intro wq hSw; (try dsimp only at hSw); go_simp; (try with_reducible rfl))⟩
      try simp only [Act.put, List.setIfInBounds_toArray, List.set_cons_zero, List.set_cons_succ]
      refine wpAnyH_take (i := 14) (oi := ?o14_15) (v := ?v14_15) ?hi14_15 ?hs14_15 ?hf14_15 ?hr14_15 (fun _ _ _ h => h) ?hy14_15 (by assumption) ?hh14_15
      case hi14_15 => ((simp only [List.getElem?_toArray, List.getElem?_cons_succ, List.getElem?_cons_zero]); rfl)
      case hs14_15 => kernel_rfl
      case hf14_15 => kernel_rfl
      case hr14_15 => kernel_rfl
      case hy14_15 => exact Or.inl ⟨by rfl, by (intro wq hSw; (try dsimp only at hSw); go_simp; (try with_reducible rfl))⟩
      try simp only [Act.put, List.setIfInBounds_toArray, List.set_cons_zero, List.set_cons_succ]
      refine wpAnyH_done (by kernel_rfl) ?_ _
      refine NoPanic.normal ?_
      clear hHeld HM1 HM2 HM3 HR2 HR3 HBA HBB HBG HHA HHB HHG
      obtain ⟨As, rfl⟩ : ∃ As, As = AR := ⟨_, rfl⟩
      obtain ⟨cs, rfl⟩ : ∃ cs, cs = cR := ⟨_, rfl⟩
      obtain ⟨xs, rfl⟩ : ∃ xs, xs = xsR := ⟨_, rfl⟩
      obtain ⟨code, rfl⟩ : ∃ code, code = codeR := ⟨_, rfl⟩
      obtain ⟨dv, rfl⟩ : ∃ dv, dv = dR := ⟨_, rfl⟩
      have HP0 := hide HPR.out
      have HL0 := hide HLR.out
      have HS8 := hide HOR.out
      clear HPR HLR HOR
      have HB8 := hide HBR.out
      clear HBR HHR HB5
      have hc8 := HPC.out w8 HB8.out
      obtain ⟨c0, c1, c2, p0, p1, g0, g1, g2, g3, g4, g5, g6⟩ := hc8
      go_wp2_with fail
      clear c0 c1 c2 p0 p1 g0 g1 g2 g3 g4 g5 g6
      refine (lawstoModel x.Az x.Aw x.Ab x.cz x.cw x.cb x.zs x.ws x.bs w8 (HMA.out _ HB8.out) HSZ).mono ?_
      rintro e w9 ⟨Az2, cz2, Aw2, cw2, Ab2, cb2, N1, N2, rfl, hm9, hb9⟩
      have HM9 := hide hm9
      have HH9 := hide hb9
      clear hm9 hb9
      go_upto_region 10 with fail
      have hal : Below w9.heap.size w9 (w9.alloc (.cells #[.slice Az2 x.zs.length cz2, .slice Aw2 x.ws.length cw2, .slice Ab2 x.bs.length cb2] 27)) := (Below.refl _ _).alloc (Nat.le_refl _) _
      have HM10 := hide (HM9.out.below hal)
      have HX0 := hide (heap_alloc_new w9 (.cells #[.slice Az2 x.zs.length cz2, .slice Aw2 x.ws.length cw2, .slice Ab2 x.bs.length cb2] 27))
      have HH10 := hide (HH9.out.trans (hal.mono HH9.out.size))
      obtain ⟨b0, hb0⟩ : ∃ b0, b0 = w9.heap.size := ⟨_, rfl⟩
      have HZ10 := hide (show (w9.alloc (.cells #[.slice Az2 x.zs.length cz2, .slice Aw2 x.ws.length cw2, .slice Ab2 x.bs.length cb2] 27)).heap.size = b0 + 1 by rw [hb0]; simp)
      rw [← hb0] at HM10 HX0 ⊢
      clear hal hb0 HM9 HH9
      generalize w9.alloc (.cells #[.slice Az2 x.zs.length cz2, .slice Aw2 x.ws.length cw2, .slice Ab2 x.bs.length cb2] 27) = w10 at *
      have HB10 := hide (HB8.out.trans (HH10.out.mono HB8.out.size))
      obtain ⟨c0, c1, c2, p0, p1, g0, g1, g2, g3, g4, g5, g6⟩ := HPC.out w10 HB10.out
      go_wp2_with fail
      clear c0 c1 c2 p0 p1 g0 g1 g2 g3 g4 g5 g6
      refine (lawstoProfile_o x.nm x.A x.c x.rs w10 (HSL.out _ HB10.out) HRN.out).mono ?_
      rintro e w11 ⟨bq, rfl, hr11, hb11⟩
      have HR11 := hide hr11
      have HH11 := hide hb11
      clear hr11 hb11
      go_upto_region 11 with fail
      have hal : Below w11.heap.size w11 (w11.alloc (.cells #[.string x.nm, .slice (some ⟨bq, 0, none⟩) x.rs.length x.rs.length] 30)) := (Below.refl _ _).alloc (Nat.le_refl _) _
      have HLV := hide (show Lv x w3 ⟨As, cs, w8.heap.size, Az2, cz2, Aw2, cw2, Ab2, cb2, N1, N2, b0, some ⟨bq, 0, none⟩, x.rs.length, w11.heap.size⟩ xs (w11.alloc (.cells #[.string x.nm, .slice (some ⟨bq, 0, none⟩) x.rs.length x.rs.length] 30)) from by
        have hh : Below w10.heap.size w10 (w11.alloc (.cells #[.string x.nm, .slice (some ⟨bq, 0, none⟩) x.rs.length x.rs.length] 30)) := HH11.out.trans (hal.mono HH11.out.size)
        have hz := HZ10.out
        have hz1 := HH11.out.size
        exact ⟨HB10.out.trans (hh.mono HB10.out.size), (HS8.out.below HH10.out).below hh, fun k e => (HS8.out.lt k e).2, (hh.block _ (heap_lt HX0.out)).trans HX0.out, HM10.out.below hh, heap_alloc_new w11 _, (HR11.out.mono (show b0 + 1 ≤ w10.heap.size by omega)).below hal, fun k e => (HR11.out.lt k e).2, HB8.out.size, show b0 < w11.heap.size by omega⟩)
      clear hal HS8 HH10 HM10 HX0 HZ10 HB10 HR11 HH11 HB8
      generalize w11.alloc (.cells #[.string x.nm, .slice (some ⟨bq, 0, none⟩) x.rs.length x.rs.length] 30) = w12 at *
      obtain ⟨b1, hb1⟩ : ∃ b1, b1 = w11.heap.size := ⟨_, rfl⟩
      rw [← hb1] at HLV ⊢
      clear hb1
      obtain ⟨B0, hB0⟩ : ∃ B0, B0 = w8.heap.size := ⟨_, rfl⟩
      rw [← hB0] at HLV
      clear hB0
      obtain ⟨d, hd⟩ : ∃ d, d = (⟨As, cs, B0, Az2, cz2, Aw2, cw2, Ab2, cb2, N1, N2, b0, some ⟨bq, 0, none⟩, x.rs.length, b1⟩ : Ld) := ⟨_, rfl⟩
      rw [← hd] at HLV
      have HDA := hide (show d.As = As ∧ d.cs = cs from by rw [hd]; exact ⟨rfl, rfl⟩)
      have E0 : b0 = d.b0 := by rw [hd]
      have E1 : b1 = d.b1 := by rw [hd]
      rw [E0, E1]
      clear hd E0 E1
      have D0 : ∀ W, Below w12.heap.size w12 W → W.cell? ⟨d.b0, 0, none⟩ = some (.slice d.Az x.zs.length d.cz) := fun W hb => (HLV.out.below hb).cells.1
      have D1 : ∀ W, Below w12.heap.size w12 W → W.cell? ⟨d.b0, 1, none⟩ = some (.slice d.Aw x.ws.length d.cw) := fun W hb => (HLV.out.below hb).cells.2.1
      have D2 : ∀ W, Below w12.heap.size w12 W → W.cell? ⟨d.b0, 2, none⟩ = some (.slice d.Ab x.bs.length d.cb) := fun W hb => (HLV.out.below hb).cells.2.2.1
      have D3 : ∀ W, Below w12.heap.size w12 W → W.cell? ⟨d.b1, 0, none⟩ = some (.string x.nm) := fun W hb => (HLV.out.below hb).cells.2.2.2.1
      have D4 : ∀ W, Below w12.heap.size w12 W → W.cell? ⟨d.b1, 1, none⟩ = some (.slice d.A x.rs.length d.c) := fun W hb => (HLV.out.below hb).cells.2.2.2.2
      have QC0 : ∀ W, Below w12.heap.size w12 W → W.cell? ⟨w.heap.size, 0, none⟩ = some (.slice x.Az x.zs.length x.cz) := fun W hb => C0 W (HLV.out.below hb).bel
      have QC1 : ∀ W, Below w12.heap.size w12 W → W.cell? ⟨w.heap.size, 1, none⟩ = some (.slice x.Aw x.ws.length x.cw) := fun W hb => C1 W (HLV.out.below hb).bel
      have QC2 : ∀ W, Below w12.heap.size w12 W → W.cell? ⟨w.heap.size, 2, none⟩ = some (.slice x.Ab x.bs.length x.cb) := fun W hb => C2 W (HLV.out.below hb).bel
      have QP0 : ∀ W, Below w12.heap.size w12 W → W.cell? ⟨w.heap.size + 1, 0, none⟩ = some (.string x.nm) := fun W hb => P0 W (HLV.out.below hb).bel
      have QP1 : ∀ W, Below w12.heap.size w12 W → W.cell? ⟨w.heap.size + 1, 1, none⟩ = some (.slice x.A x.rs.length x.c) := fun W hb => P1 W (HLV.out.below hb).bel
      have QG0 : ∀ W, Below w12.heap.size w12 W → W.cell? ⟨w.heap.size + 1 + 1, 0, none⟩ = some (.int .i64 x.t0) := fun W hb => G0 W (HLV.out.below hb).bel
      have QG1 : ∀ W, Below w12.heap.size w12 W → W.cell? ⟨w.heap.size + 1 + 1, 1, none⟩ = some (.int .i64 x.t1) := fun W hb => G1 W (HLV.out.below hb).bel
      have QG2 : ∀ W, Below w12.heap.size w12 W → W.cell? ⟨w.heap.size + 1 + 1, 2, none⟩ = some (.int .i64 x.t2) := fun W hb => G2 W (HLV.out.below hb).bel
      have QG3 : ∀ W, Below w12.heap.size w12 W → W.cell? ⟨w.heap.size + 1 + 1, 3, none⟩ = some (.int .i64 x.t3) := fun W hb => G3 W (HLV.out.below hb).bel
      have QG4 : ∀ W, Below w12.heap.size w12 W → W.cell? ⟨w.heap.size + 1 + 1, 4, none⟩ = some (.int .i64 x.t4) := fun W hb => G4 W (HLV.out.below hb).bel
      have QG5 : ∀ W, Below w12.heap.size w12 W → W.cell? ⟨w.heap.size + 1 + 1, 5, none⟩ = some (.int .i64 x.tol) := fun W hb => G5 W (HLV.out.below hb).bel
      have QG6 : ∀ W, Below w12.heap.size w12 W → W.cell? ⟨w.heap.size + 1 + 1, 6, none⟩ = some (.int .i64 x.most) := fun W hb => G6 W (HLV.out.below hb).bel
      refine wp_region_noPanic ?_
      refine wp_region_held_drew (S := (fun w' => Below w12.heap.size w12 w')) (by kernel_rfl) ((Below.refl _ _).drew) (fun hHeld => ?_)
      refine wpAnyH_take (i := 0) (oi := ?o0_16) (v := ?v0_16) ?hi0_16 ?hs0_16 ?hf0_16 ?hr0_16 (fun _ _ _ h => h) ?hy0_16 (by assumption) ?hh0_16
      case hi0_16 => ((simp only [List.getElem?_toArray, List.getElem?_cons_zero]); rfl)
      case hs0_16 => kernel_rfl
      case hf0_16 => kernel_rfl
      case hr0_16 => kernel_rfl
      case hy0_16 => exact Or.inl ⟨by rfl, by (intro wq hSw; (try dsimp only at hSw); go_simp; (try with_reducible rfl))⟩
      try simp only [Act.put, List.setIfInBounds_toArray, List.set_cons_zero, List.set_cons_succ]
      refine wpAnyH_take (i := 1) (oi := ?o1_17) (v := ?v1_17) ?hi1_17 ?hs1_17 ?hf1_17 ?hr1_17 (fun _ _ _ h => h) ?hy1_17 (by assumption) ?hh1_17
      case hi1_17 => ((simp only [List.getElem?_toArray, List.getElem?_cons_succ, List.getElem?_cons_zero]); rfl)
      case hs1_17 => kernel_rfl
      case hf1_17 => kernel_rfl
      case hr1_17 => kernel_rfl
      case hy1_17 => exact Or.inl ⟨by rfl, by (intro wq hSw; (try dsimp only at hSw); go_simp; (try with_reducible rfl))⟩
      try simp only [Act.put, List.setIfInBounds_toArray, List.set_cons_zero, List.set_cons_succ]
      refine wpAnyH_take (i := 2) (oi := ?o2_18) (v := ?v2_18) ?hi2_18 ?hs2_18 ?hf2_18 ?hr2_18 (fun _ _ _ h => h) ?hy2_18 (by assumption) ?hh2_18
      case hi2_18 => ((simp only [List.getElem?_toArray, List.getElem?_cons_succ, List.getElem?_cons_zero]); rfl)
      case hs2_18 => kernel_rfl
      case hf2_18 => kernel_rfl
      case hr2_18 => kernel_rfl
      case hy2_18 => exact Or.inl ⟨by rfl, by (intro wq hSw; (try dsimp only at hSw); go_simp; (try with_reducible rfl))⟩
      try simp only [Act.put, List.setIfInBounds_toArray, List.set_cons_zero, List.set_cons_succ]
      refine wpAnyH_take (i := 4) (oi := ?o4_19) (v := ?v4_19) ?hi4_19 ?hs4_19 ?hf4_19 ?hr4_19 (fun _ _ _ h => h) ?hy4_19 (by assumption) ?hh4_19
      case hi4_19 => ((simp only [List.getElem?_toArray, List.getElem?_cons_succ, List.getElem?_cons_zero]); rfl)
      case hs4_19 => kernel_rfl
      case hf4_19 => kernel_rfl
      case hr4_19 => kernel_rfl
      case hy4_19 => exact Or.inl ⟨by rfl, by (intro wq hSw; (try dsimp only at hSw); go_simp; (try with_reducible rfl))⟩
      try simp only [Act.put, List.setIfInBounds_toArray, List.set_cons_zero, List.set_cons_succ]
      refine wpAnyH_ready (rs := [3]) (by kernel_rfl) (by simp) ?_
      refine AllReadyH.cons (o := ?o3_20) ?hi3_20 (fun K hK => ?hh3_20) AllReadyH.nil
      case hi3_20 => ((simp only [List.getElem?_toArray, List.getElem?_cons_succ, List.getElem?_cons_zero]); rfl)
      go_simp
      (go_at_call 28; refine (lawstoGoal x.t0 x.t1 x.t2 x.t3 x.t4 x.tol x.most _).mono ?_; rintro e wg ⟨rfl, hbg⟩; have HBG := hide (hHeld.trans (hbg.mono hHeld.size)); clear hbg)
      (try dsimp only)
      refine hK.out _ _ (HBG.out) (fun hHeld2 => ?_)
      clear hK K hHeld
      have hHeld := hHeld2
      clear hHeld2
      try simp only [Act.put, List.setIfInBounds_toArray, List.set_cons_zero, List.set_cons_succ]
      refine wpAnyH_ready (rs := [5]) (by kernel_rfl) (by simp) ?_
      refine AllReadyH.cons (o := ?o5_21) ?hi5_21 (fun K hK => ?hh5_21) AllReadyH.nil
      case hi5_21 => ((simp only [List.getElem?_toArray, List.getElem?_cons_succ, List.getElem?_cons_zero]); rfl)
      go_simp
      (go_at_call 13; refine (HIC.out wg d.Az d.cz d.Aw d.cw d.Ab d.cb d.A d.c (HLV.out.below HBG.out).m0.md ((HLV.out.below HBG.out).r1.at_ (fun _ => rfl)) HSZ.out HRN.out).mono ?_; rintro e w13 ⟨AR, cR, xsR, dR, codeR, rfl, hpR, hlR, hoR, hbR⟩; have HBR := hide (HBG.out.trans (hbR.mono HBG.out.size)); have HPR := hide hpR; have HOR := hide (hoR.mono (B' := d.b1 + 1) (by have := heap_lt HLV.out.h1; have := HBG.out.size; omega)); clear hpR hlR hoR; clear hbR)
      (try dsimp only)
      refine hK.out _ _ (HBR.out) (fun hHeld2 => ?_)
      clear hK K hHeld
      have hHeld := hHeld2
      clear hHeld2
      try simp only [Act.put, List.setIfInBounds_toArray, List.set_cons_zero, List.set_cons_succ]
      refine wpAnyH_take (i := 6) (oi := ?o6_22) (v := ?v6_22) ?hi6_22 ?hs6_22 ?hf6_22 ?hr6_22 (fun _ _ _ h => h) ?hy6_22 (by assumption) ?hh6_22
      case hi6_22 => ((simp only [List.getElem?_toArray, List.getElem?_cons_succ, List.getElem?_cons_zero]); rfl)
      case hs6_22 => kernel_rfl
      case hf6_22 => kernel_rfl
      case hr6_22 => kernel_rfl
      case hy6_22 => exact Or.inl ⟨by rfl, by (intro wq hSw; (try dsimp only at hSw); go_simp; (try with_reducible rfl))⟩
      try simp only [Act.put, List.setIfInBounds_toArray, List.set_cons_zero, List.set_cons_succ]
      refine wpAnyH_take (i := 7) (oi := ?o7_23) (v := ?v7_23) ?hi7_23 ?hs7_23 ?hf7_23 ?hr7_23 (fun _ _ _ h => h) ?hy7_23 (by assumption) ?hh7_23
      case hi7_23 => ((simp only [List.getElem?_toArray, List.getElem?_cons_succ, List.getElem?_cons_zero]); rfl)
      case hs7_23 => kernel_rfl
      case hf7_23 => kernel_rfl
      case hr7_23 => kernel_rfl
      case hy7_23 => exact Or.inl ⟨by rfl, by (intro wq hSw; (try dsimp only at hSw); go_simp; (try with_reducible rfl))⟩
      try simp only [Act.put, List.setIfInBounds_toArray, List.set_cons_zero, List.set_cons_succ]
      refine wpAnyH_take (i := 8) (oi := ?o8_24) (v := ?v8_24) ?hi8_24 ?hs8_24 ?hf8_24 ?hr8_24 (fun _ _ _ h => h) ?hy8_24 (by assumption) ?hh8_24
      case hi8_24 => ((simp only [List.getElem?_toArray, List.getElem?_cons_succ, List.getElem?_cons_zero]); rfl)
      case hs8_24 => kernel_rfl
      case hf8_24 => kernel_rfl
      case hr8_24 => kernel_rfl
      case hy8_24 => exact Or.inl ⟨by rfl, by (intro wq hSw; (try dsimp only at hSw); go_simp; (try with_reducible rfl))⟩
      try simp only [Act.put, List.setIfInBounds_toArray, List.set_cons_zero, List.set_cons_succ]
      refine wpAnyH_take (i := 9) (oi := ?o9_25) (v := ?v9_25) ?hi9_25 ?hs9_25 ?hf9_25 ?hr9_25 (fun _ _ _ h => h) ?hy9_25 (by assumption) ?hh9_25
      case hi9_25 => ((simp only [List.getElem?_toArray, List.getElem?_cons_succ, List.getElem?_cons_zero]); rfl)
      case hs9_25 => kernel_rfl
      case hf9_25 => kernel_rfl
      case hr9_25 => kernel_rfl
      case hy9_25 => exact Or.inl ⟨by rfl, by (intro wq hSw; (try dsimp only at hSw); go_simp; (try with_reducible rfl))⟩
      try simp only [Act.put, List.setIfInBounds_toArray, List.set_cons_zero, List.set_cons_succ]
      refine wpAnyH_take (i := 10) (oi := ?o10_26) (v := ?v10_26) ?hi10_26 ?hs10_26 ?hf10_26 ?hr10_26 (fun _ _ _ h => h) ?hy10_26 (by assumption) ?hh10_26
      case hi10_26 => ((simp only [List.getElem?_toArray, List.getElem?_cons_succ, List.getElem?_cons_zero]); rfl)
      case hs10_26 => kernel_rfl
      case hf10_26 => kernel_rfl
      case hr10_26 => kernel_rfl
      case hy10_26 => exact Or.inl ⟨by rfl, by (intro wq hSw; (try dsimp only at hSw); go_simp; (try with_reducible rfl))⟩
      try simp only [Act.put, List.setIfInBounds_toArray, List.set_cons_zero, List.set_cons_succ]
      refine wpAnyH_take (i := 11) (oi := ?o11_27) (v := ?v11_27) ?hi11_27 ?hs11_27 ?hf11_27 ?hr11_27 (fun _ _ _ h => h) ?hy11_27 (by assumption) ?hh11_27
      case hi11_27 => ((simp only [List.getElem?_toArray, List.getElem?_cons_succ, List.getElem?_cons_zero]); rfl)
      case hs11_27 => kernel_rfl
      case hf11_27 => kernel_rfl
      case hr11_27 => kernel_rfl
      case hy11_27 => exact Or.inl ⟨by rfl, by (intro wq hSw; (try dsimp only at hSw); go_simp; (try with_reducible rfl))⟩
      try simp only [Act.put, List.setIfInBounds_toArray, List.set_cons_zero, List.set_cons_succ]
      refine wpAnyH_take (i := 12) (oi := ?o12_28) (v := ?v12_28) ?hi12_28 ?hs12_28 ?hf12_28 ?hr12_28 (fun _ _ _ h => h) ?hy12_28 (by assumption) ?hh12_28
      case hi12_28 => ((simp only [List.getElem?_toArray, List.getElem?_cons_succ, List.getElem?_cons_zero]); rfl)
      case hs12_28 => kernel_rfl
      case hf12_28 => kernel_rfl
      case hr12_28 => kernel_rfl
      case hy12_28 => exact Or.inl ⟨by rfl, by (intro wq hSw; (try dsimp only at hSw); go_simp; (try with_reducible rfl))⟩
      try simp only [Act.put, List.setIfInBounds_toArray, List.set_cons_zero, List.set_cons_succ]
      refine wpAnyH_done (by kernel_rfl) ?_ _
      refine NoPanic.normal ?_
      clear hHeld HBG D0 D1 D2 D3 D4 QC0 QC1 QC2 QP0 QP1 QG0 QG1 QG2 QG3 QG4 QG5 QG6
      have HL13 := hide (HLV.out.below HBR.out)
      clear HLV HBR
      have hpq := HP0.out.symm.trans HPR.out
      obtain ⟨e1, e2⟩ := Prod.mk.inj hpq
      obtain ⟨e2, e3⟩ := Prod.mk.inj e2
      subst e1 e2 e3
      clear HPR hpq
      have HG13 := hide HOR.out
      clear HOR
      have hs13 := HL13.out.s0
      rw [HDA.out.1, HDA.out.2] at hs13
      have HS13 := hide hs13
      clear hs13
      go_wp2_with fail
      refine (lawseqCutS_same AR As cR cs xs w13 (HG13.out.at_ (fun _ => rfl)) (HS13.out.at_ (fun _ => rfl)) HL0.out).mono ?_
      rintro e w14 ⟨rfl, hb14⟩
      have HL14 := hide (HL13.out.below hb14)
      have HG14 := hide (HG13.out.below hb14)
      clear hb14 HL13 HG13 HS13
      go_upto_region 14 with fail
      have D0 : ∀ W, Below w14.heap.size w14 W → W.cell? ⟨d.b0, 0, none⟩ = some (.slice d.Az x.zs.length d.cz) := fun W hb => (HL14.out.below hb).cells.1
      have D1 : ∀ W, Below w14.heap.size w14 W → W.cell? ⟨d.b0, 1, none⟩ = some (.slice d.Aw x.ws.length d.cw) := fun W hb => (HL14.out.below hb).cells.2.1
      have D2 : ∀ W, Below w14.heap.size w14 W → W.cell? ⟨d.b0, 2, none⟩ = some (.slice d.Ab x.bs.length d.cb) := fun W hb => (HL14.out.below hb).cells.2.2.1
      have D3 : ∀ W, Below w14.heap.size w14 W → W.cell? ⟨d.b1, 0, none⟩ = some (.string x.nm) := fun W hb => (HL14.out.below hb).cells.2.2.2.1
      have D4 : ∀ W, Below w14.heap.size w14 W → W.cell? ⟨d.b1, 1, none⟩ = some (.slice d.A x.rs.length d.c) := fun W hb => (HL14.out.below hb).cells.2.2.2.2
      have QC0 : ∀ W, Below w14.heap.size w14 W → W.cell? ⟨w.heap.size, 0, none⟩ = some (.slice x.Az x.zs.length x.cz) := fun W hb => C0 W (HL14.out.below hb).bel
      have QC1 : ∀ W, Below w14.heap.size w14 W → W.cell? ⟨w.heap.size, 1, none⟩ = some (.slice x.Aw x.ws.length x.cw) := fun W hb => C1 W (HL14.out.below hb).bel
      have QC2 : ∀ W, Below w14.heap.size w14 W → W.cell? ⟨w.heap.size, 2, none⟩ = some (.slice x.Ab x.bs.length x.cb) := fun W hb => C2 W (HL14.out.below hb).bel
      have QP0 : ∀ W, Below w14.heap.size w14 W → W.cell? ⟨w.heap.size + 1, 0, none⟩ = some (.string x.nm) := fun W hb => P0 W (HL14.out.below hb).bel
      have QP1 : ∀ W, Below w14.heap.size w14 W → W.cell? ⟨w.heap.size + 1, 1, none⟩ = some (.slice x.A x.rs.length x.c) := fun W hb => P1 W (HL14.out.below hb).bel
      refine wp_region_noPanic ?_
      refine wp_region_held_drew (S := (fun w' => Below w14.heap.size w14 w')) (by kernel_rfl) ((Below.refl _ _).drew) (fun hHeld => ?_)
      refine wpAnyH_take (i := 0) (oi := ?o0_29) (v := ?v0_29) ?hi0_29 ?hs0_29 ?hf0_29 ?hr0_29 (fun _ _ _ h => h) ?hy0_29 (by assumption) ?hh0_29
      case hi0_29 => ((simp only [List.getElem?_toArray, List.getElem?_cons_zero]); rfl)
      case hs0_29 => kernel_rfl
      case hf0_29 => kernel_rfl
      case hr0_29 => kernel_rfl
      case hy0_29 => exact Or.inl ⟨by rfl, by (intro wq hSw; (try dsimp only at hSw); go_simp; (try with_reducible rfl))⟩
      try simp only [Act.put, List.setIfInBounds_toArray, List.set_cons_zero, List.set_cons_succ]
      refine wpAnyH_take (i := 1) (oi := ?o1_30) (v := ?v1_30) ?hi1_30 ?hs1_30 ?hf1_30 ?hr1_30 (fun _ _ _ h => h) ?hy1_30 (by assumption) ?hh1_30
      case hi1_30 => ((simp only [List.getElem?_toArray, List.getElem?_cons_succ, List.getElem?_cons_zero]); rfl)
      case hs1_30 => kernel_rfl
      case hf1_30 => kernel_rfl
      case hr1_30 => kernel_rfl
      case hy1_30 => exact Or.inl ⟨by rfl, by (intro wq hSw; (try dsimp only at hSw); go_simp; (try with_reducible rfl))⟩
      try simp only [Act.put, List.setIfInBounds_toArray, List.set_cons_zero, List.set_cons_succ]
      refine wpAnyH_ready (rs := [2]) (by kernel_rfl) (by simp) ?_
      refine AllReadyH.cons (o := ?o2_31) ?hi2_31 (fun K hK => ?hh2_31) AllReadyH.nil
      case hi2_31 => ((simp only [List.getElem?_toArray, List.getElem?_cons_succ, List.getElem?_cons_zero]); rfl)
      go_simp
      (go_at_call 26; refine (lawstoModel x.Az x.Aw x.Ab x.cz x.cw x.cb x.zs x.ws x.bs _ (HMA.out _ (HL14.out.below hHeld).bel) HSZ).mono ?_; rintro e wa ⟨Az1, cz1, Aw1, cw1, Ab1, cb1, M1, M2, rfl, hm1, hba⟩; have HM1 := hide hm1; have HBA := hide (hHeld.trans (hba.mono hHeld.size)); clear hm1 hba)
      (try dsimp only)
      refine hK.out _ _ (HBA.out) (fun hHeld2 => ?_)
      clear hK K hHeld
      have hHeld := hHeld2
      clear hHeld2
      try simp only [Act.put, List.setIfInBounds_toArray, List.set_cons_zero, List.set_cons_succ]
      refine wpAnyH_ready (rs := [3]) (by kernel_rfl) (by simp) ?_
      refine AllReadyH.cons (o := ?o3_32) ?hi3_32 (fun K hK => ?hh3_32) AllReadyH.nil
      case hi3_32 => ((simp only [List.getElem?_toArray, List.getElem?_cons_succ, List.getElem?_cons_zero]); rfl)
      go_simp
      (go_at_call 29; refine (lawseqModel_same d.Az d.Aw d.Ab Az1 Aw1 Ab1 d.cz d.cw d.cb cz1 cw1 cb1 x.zs x.ws x.bs wa (HL14.out.below HBA.out).m0.md HM1.out.md HSZ).mono ?_; rintro e w15 ⟨rfl, hb15⟩; have HBB := hide (HBA.out.trans (hb15.mono HBA.out.size)); clear hb15)
      (try dsimp only)
      refine hK.out _ _ (HBB.out) (fun hHeld2 => ?_)
      clear hK K hHeld
      have hHeld := hHeld2
      clear hHeld2
      try simp only [Act.put, List.setIfInBounds_toArray, List.set_cons_zero, List.set_cons_succ]
      refine wpAnyH_take (i := 4) (oi := ?o4_33) (v := ?v4_33) ?hi4_33 ?hs4_33 ?hf4_33 ?hr4_33 (fun _ _ _ h => h) ?hy4_33 (by assumption) ?hh4_33
      case hi4_33 => ((simp only [List.getElem?_toArray, List.getElem?_cons_succ, List.getElem?_cons_zero]); rfl)
      case hs4_33 => kernel_rfl
      case hf4_33 => kernel_rfl
      case hr4_33 => kernel_rfl
      case hy4_33 => exact Or.inl ⟨by rfl, by (intro wq hSw; (try dsimp only at hSw); go_simp; (try with_reducible rfl))⟩
      try simp only [Act.put, List.setIfInBounds_toArray, List.set_cons_zero, List.set_cons_succ]
      refine wpAnyH_done (by kernel_rfl) ?_ _
      refine NoPanic.normal ?_
      clear hHeld D0 D1 D2 D3 D4 QC0 QC1 QC2 QP0 QP1
      have HL15 := hide (HL14.out.below HBB.out)
      have HG15 := hide (HG14.out.below HBB.out)
      clear HM1 HBA HBB HL14 HG14
      go_upto_region 16 with fail
      have D0 : ∀ W, Below w15.heap.size w15 W → W.cell? ⟨d.b0, 0, none⟩ = some (.slice d.Az x.zs.length d.cz) := fun W hb => (HL15.out.below hb).cells.1
      have D1 : ∀ W, Below w15.heap.size w15 W → W.cell? ⟨d.b0, 1, none⟩ = some (.slice d.Aw x.ws.length d.cw) := fun W hb => (HL15.out.below hb).cells.2.1
      have D2 : ∀ W, Below w15.heap.size w15 W → W.cell? ⟨d.b0, 2, none⟩ = some (.slice d.Ab x.bs.length d.cb) := fun W hb => (HL15.out.below hb).cells.2.2.1
      have D3 : ∀ W, Below w15.heap.size w15 W → W.cell? ⟨d.b1, 0, none⟩ = some (.string x.nm) := fun W hb => (HL15.out.below hb).cells.2.2.2.1
      have D4 : ∀ W, Below w15.heap.size w15 W → W.cell? ⟨d.b1, 1, none⟩ = some (.slice d.A x.rs.length d.c) := fun W hb => (HL15.out.below hb).cells.2.2.2.2
      have QC0 : ∀ W, Below w15.heap.size w15 W → W.cell? ⟨w.heap.size, 0, none⟩ = some (.slice x.Az x.zs.length x.cz) := fun W hb => C0 W (HL15.out.below hb).bel
      have QC1 : ∀ W, Below w15.heap.size w15 W → W.cell? ⟨w.heap.size, 1, none⟩ = some (.slice x.Aw x.ws.length x.cw) := fun W hb => C1 W (HL15.out.below hb).bel
      have QC2 : ∀ W, Below w15.heap.size w15 W → W.cell? ⟨w.heap.size, 2, none⟩ = some (.slice x.Ab x.bs.length x.cb) := fun W hb => C2 W (HL15.out.below hb).bel
      have QP0 : ∀ W, Below w15.heap.size w15 W → W.cell? ⟨w.heap.size + 1, 0, none⟩ = some (.string x.nm) := fun W hb => P0 W (HL15.out.below hb).bel
      have QP1 : ∀ W, Below w15.heap.size w15 W → W.cell? ⟨w.heap.size + 1, 1, none⟩ = some (.slice x.A x.rs.length x.c) := fun W hb => P1 W (HL15.out.below hb).bel
      refine wp_region_noPanic ?_
      refine wp_region_held_drew (S := (fun w' => Below w15.heap.size w15 w')) (by kernel_rfl) ((Below.refl _ _).drew) (fun hHeld => ?_)
      refine wpAnyH_take (i := 0) (oi := ?o0_34) (v := ?v0_34) ?hi0_34 ?hs0_34 ?hf0_34 ?hr0_34 (fun _ _ _ h => h) ?hy0_34 (by assumption) ?hh0_34
      case hi0_34 => ((simp only [List.getElem?_toArray, List.getElem?_cons_zero]); rfl)
      case hs0_34 => kernel_rfl
      case hf0_34 => kernel_rfl
      case hr0_34 => kernel_rfl
      case hy0_34 => exact Or.inl ⟨by rfl, by (intro wq hSw; (try dsimp only at hSw); go_simp; (try with_reducible rfl))⟩
      try simp only [Act.put, List.setIfInBounds_toArray, List.set_cons_zero, List.set_cons_succ]
      refine wpAnyH_take (i := 1) (oi := ?o1_35) (v := ?v1_35) ?hi1_35 ?hs1_35 ?hf1_35 ?hr1_35 (fun _ _ _ h => h) ?hy1_35 (by assumption) ?hh1_35
      case hi1_35 => ((simp only [List.getElem?_toArray, List.getElem?_cons_succ, List.getElem?_cons_zero]); rfl)
      case hs1_35 => kernel_rfl
      case hf1_35 => kernel_rfl
      case hr1_35 => kernel_rfl
      case hy1_35 => exact Or.inl ⟨by rfl, by (intro wq hSw; (try dsimp only at hSw); go_simp; (try with_reducible rfl))⟩
      try simp only [Act.put, List.setIfInBounds_toArray, List.set_cons_zero, List.set_cons_succ]
      refine wpAnyH_ready (rs := [2]) (by kernel_rfl) (by simp) ?_
      refine AllReadyH.cons (o := ?o2_36) ?hi2_36 (fun K hK => ?hh2_36) AllReadyH.nil
      case hi2_36 => ((simp only [List.getElem?_toArray, List.getElem?_cons_succ, List.getElem?_cons_zero]); rfl)
      go_simp
      (go_at_call 27; refine (lawstoProfile_o x.nm x.A x.c x.rs _ (HSL.out _ (HL15.out.below hHeld).bel) HRN.out).mono ?_; rintro e wa ⟨bp1, rfl, hr1, hba⟩; have HR1 := hide hr1; have HBA := hide (hHeld.trans (hba.mono hHeld.size)); clear hr1 hba)
      (try dsimp only)
      refine hK.out _ _ (HBA.out) (fun hHeld2 => ?_)
      clear hK K hHeld
      have hHeld := hHeld2
      clear hHeld2
      try simp only [Act.put, List.setIfInBounds_toArray, List.set_cons_zero, List.set_cons_succ]
      refine wpAnyH_ready (rs := [3]) (by kernel_rfl) (by simp) ?_
      refine AllReadyH.cons (o := ?o3_37) ?hi3_37 (fun K hK => ?hh3_37) AllReadyH.nil
      case hi3_37 => ((simp only [List.getElem?_toArray, List.getElem?_cons_succ, List.getElem?_cons_zero]); rfl)
      go_simp
      (go_at_call 30; refine (lawseqProfile_same x.nm d.A (some ⟨bp1, 0, none⟩) d.c x.rs.length x.rs wa ((HL15.out.below HBA.out).r1.at_ (fun _ => rfl)) (HR1.out.at_ (fun _ => rfl)) HRN.out).mono ?_; rintro e w16 ⟨rfl, hb16⟩; have HBB := hide (HBA.out.trans (hb16.mono HBA.out.size)); clear hb16)
      (try dsimp only)
      refine hK.out _ _ (HBB.out) (fun hHeld2 => ?_)
      clear hK K hHeld
      have hHeld := hHeld2
      clear hHeld2
      try simp only [Act.put, List.setIfInBounds_toArray, List.set_cons_zero, List.set_cons_succ]
      refine wpAnyH_take (i := 4) (oi := ?o4_38) (v := ?v4_38) ?hi4_38 ?hs4_38 ?hf4_38 ?hr4_38 (fun _ _ _ h => h) ?hy4_38 (by assumption) ?hh4_38
      case hi4_38 => ((simp only [List.getElem?_toArray, List.getElem?_cons_succ, List.getElem?_cons_zero]); rfl)
      case hs4_38 => kernel_rfl
      case hf4_38 => kernel_rfl
      case hr4_38 => kernel_rfl
      case hy4_38 => exact Or.inl ⟨by rfl, by (intro wq hSw; (try dsimp only at hSw); go_simp; (try with_reducible rfl))⟩
      try simp only [Act.put, List.setIfInBounds_toArray, List.set_cons_zero, List.set_cons_succ]
      refine wpAnyH_done (by kernel_rfl) ?_ _
      refine NoPanic.normal ?_
      clear hHeld D0 D1 D2 D3 D4 QC0 QC1 QC2 QP0 QP1
      have HL16 := hide (HL15.out.below HBB.out)
      have HG16 := hide (HG15.out.below HBB.out)
      clear HR1 HBA HBB HL15 HG15
      obtain ⟨j0, j1, j2, j3, j4⟩ := HL16.out.cells
      go_wp2_with fail
      clear j0 j1 j2 j3 j4
      refine (markModel_is d.Az d.Aw d.Ab d.cz d.cw d.cb x.zs x.ws x.bs d.B0 d.N1 d.N2 d.b0 1 w16 HL16.out.m0 HSZ HTT.out (by omega) (by omega)).mono ?_
      rintro e w17 ⟨⟨k1, rfl, ka1, kb1⟩, hm17⟩
      have HM17 := hide hm17
      clear hm17
      have HO := hide (And.intro HL16.out.o0 (And.intro HL16.out.o1 (And.intro HL16.out.m0.o1 (And.intro HL16.out.m0.o2 HL16.out.m0.o3))))
      have HB17 := hide (HL16.out.bel.trans (HM17.out.bel.mono HO.out.1))
      have HS17 := hide (own_mid HL16.out.s0 (fun j e => .inl (HL16.out.sB j e)) HM17.out)
      have HSB := hide HL16.out.sB
      have HX17 := hide ((HM17.out.rest d.b1 (by have := HO.out.2.1; omega) (heap_lt HL16.out.h1)).trans HL16.out.h1)
      have HR17 := hide (own_mid HL16.out.r1 (fun j e => .inr (by have := (HL16.out.r1.lt j e).1; omega)) HM17.out)
      have HRB := hide HL16.out.rB
      have HG17 := hide (own_mid HG16.out (fun j e => .inr (by have := (HG16.out.lt j e).1; have := HO.out.2.1; omega)) HM17.out)
      clear HL16 HG16 HM17
      have x1 := HX17.out
      have j0 : w17.cell? ⟨d.b1, 0, none⟩ = some (.string x.nm) := by simp [World.cell?, x1]
      have j1 : w17.cell? ⟨d.b1, 1, none⟩ = some (.slice d.A x.rs.length d.c) := by simp [World.cell?, x1]
      have hb1w := heap_lt x1
      clear x1
      go_wp2_with fail
      clear j0 j1
      refine (markProfile_is x.nm d.A d.c (d.b0 + 1) d.b1 x.rs k1 w17 HR17.out HRB.out HRN.out (by have := HO.out.2.1; omega) ka1 (by omega)).mono ?_
      rintro e w18 ⟨⟨k2, rfl, ka2, kb2⟩, hm18⟩
      have HM18 := hide hm18
      clear hm18
      have HB18 := hide (HB17.out.trans (HM18.out.bel.mono (by have := HO.out; omega)))
      have hs18 := own_mid HS17.out (fun j e => .inl (by have := HSB.out j e; have := HO.out; omega)) HM18.out
      rw [HDA.out.1, HDA.out.2] at hs18
      have HS18 := hide hs18
      have hsb := HSB.out
      rw [HDA.out.1, HDA.out.2] at hsb
      have HSB2 := hide hsb
      have HG18 := hide (own_mid HG17.out (fun j e => .inr (by have := (HG17.out.lt j e).1; omega)) HM18.out)
      have hb1w2 : d.b1 < w18.heap.size := Nat.lt_of_lt_of_le hb1w HM18.out.bel.size
      clear hs18 hsb HS17 HG17 HX17 HR17 HRB HM18 HB17 HSB hb1w
      have hk2 : ¬ k2 < 0 := by omega
      go_wp2_with fail
      refine (lawseqCutS_same AR As cR cs xs w18 (HG18.out.at_ (fun _ => rfl)) (HS18.out.at_ (fun _ => rfl)) HL0.out).mono ?_
      rintro e w19 ⟨rfl, hb19⟩
      have HB19 := hide (HB18.out.trans (hb19.mono HB18.out.size))
      have HS19 := hide (HS18.out.below hb19)
      have HG19 := hide (HG18.out.below hb19)
      have hb1w3 : d.b1 < w19.heap.size := Nat.lt_of_lt_of_le hb1w2 hb19.size
      clear hb19 HB18 HS18 HG18 hb1w2 ka1 kb1 ka2 kb2
      go_wp2_with fail
      refine (lawsmarkCutS AR cR (d.b1 + 1) xs 1 w19 HG19.out HL0.out (by omega) (by omega)).mono ?_
      rintro e w20 ⟨rfl, hg20, hw20⟩
      have HG20 := hide hg20
      have HB20 := hide (Below.grown HB19.out hw20 HB19.out.size (fun j e => by have := (HG19.out.lt j e).1; have := HO.out; omega))
      have HS20 := hide (HS19.out.kept hw20 (by
        cases e : (Value.slice As xs.length cs).ownBlock with
        | none => exact .inl rfl
        | some j => exact .inr fun q => by have a := (HG19.out.lt j q.symm).1; have b := HSB2.out j e; have := HO.out; omega))
      have hb1w4 : d.b1 < w20.heap.size := Nat.lt_of_lt_of_le hb1w3 hw20.size
      clear hg20 hw20 HB19 HS19 HG19 hb1w3
      go_wp2_with fail
      refine (held_own_Cut HG20.out HL0.out (by omega) (by omega)).mono ?_
      rintro e w21 ⟨rfl, hb21⟩
      have HB21 := hide (HB20.out.trans (hb21.mono HB20.out.size))
      have HS21 := hide (HS20.out.below hb21)
      have HG21 := hide (HG20.out.below hb21)
      clear hb21 HB20 HS20 HG20
      have kq : ¬ (1 + 2 * (xs.length : Int) < 0) := by omega
      go_upto_region 31 with fail
      refine wp_region_noPanic ?_
      refine wp_region_held_drew (S := (fun w' => Below w3.heap.size w3 w')) (by kernel_rfl) (HB21.out.drew) (fun hHeld => ?_)
      refine wpAnyH_take (i := 0) (oi := ?o0_39) (v := ?v0_39) ?hi0_39 ?hs0_39 ?hf0_39 ?hr0_39 (fun _ _ _ h => h) ?hy0_39 (by assumption) ?hh0_39
      case hi0_39 => ((simp only [List.getElem?_toArray, List.getElem?_cons_zero]); rfl)
      case hs0_39 => kernel_rfl
      case hf0_39 => kernel_rfl
      case hr0_39 => kernel_rfl
      case hy0_39 => exact Or.inl ⟨by rfl, by (intro wq hSw; (try dsimp only at hSw); go_simp; (try with_reducible rfl))⟩
      try simp only [Act.put, List.setIfInBounds_toArray, List.set_cons_zero, List.set_cons_succ]
      refine wpAnyH_take (i := 2) (oi := ?o2_40) (v := ?v2_40) ?hi2_40 ?hs2_40 ?hf2_40 ?hr2_40 (fun _ _ _ h => h) ?hy2_40 (by assumption) ?hh2_40
      case hi2_40 => ((simp only [List.getElem?_toArray, List.getElem?_cons_succ, List.getElem?_cons_zero]); rfl)
      case hs2_40 => kernel_rfl
      case hf2_40 => kernel_rfl
      case hr2_40 => kernel_rfl
      case hy2_40 => exact Or.inl ⟨by rfl, by (intro wq hSw; (try dsimp only at hSw); go_simp; (try with_reducible rfl))⟩
      try simp only [Act.put, List.setIfInBounds_toArray, List.set_cons_zero, List.set_cons_succ]
      refine wpAnyH_take (i := 4) (oi := ?o4_41) (v := ?v4_41) ?hi4_41 ?hs4_41 ?hf4_41 ?hr4_41 (fun _ _ _ h => h) ?hy4_41 (by assumption) ?hh4_41
      case hi4_41 => ((simp only [List.getElem?_toArray, List.getElem?_cons_succ, List.getElem?_cons_zero]); rfl)
      case hs4_41 => kernel_rfl
      case hf4_41 => kernel_rfl
      case hr4_41 => kernel_rfl
      case hy4_41 => exact Or.inl ⟨by rfl, by (intro wq hSw; (try dsimp only at hSw); go_simp; (try with_reducible rfl))⟩
      try simp only [Act.put, List.setIfInBounds_toArray, List.set_cons_zero, List.set_cons_succ]
      refine wpAnyH_take (i := 6) (oi := ?o6_42) (v := ?v6_42) ?hi6_42 ?hs6_42 ?hf6_42 ?hr6_42 (fun _ _ _ h => h) ?hy6_42 (by assumption) ?hh6_42
      case hi6_42 => ((simp only [List.getElem?_toArray, List.getElem?_cons_succ, List.getElem?_cons_zero]); rfl)
      case hs6_42 => kernel_rfl
      case hf6_42 => kernel_rfl
      case hr6_42 => kernel_rfl
      case hy6_42 => exact Or.inl ⟨by rfl, by (intro wq hSw; (try dsimp only at hSw); go_simp; (try with_reducible rfl))⟩
      try simp only [Act.put, List.setIfInBounds_toArray, List.set_cons_zero, List.set_cons_succ]
      refine wpAnyH_ready (rs := [1]) (by kernel_rfl) (by simp) ?_
      refine AllReadyH.cons (o := ?o1_43) ?hi1_43 (fun K hK => ?hh1_43) AllReadyH.nil
      case hi1_43 => ((simp only [List.getElem?_toArray, List.getElem?_cons_succ, List.getElem?_cons_zero]); rfl)
      go_simp
      (go_at_call 26; refine (lawstoModel x.Az x.Aw x.Ab x.cz x.cw x.cb x.zs x.ws x.bs _ (HMA.out _ hHeld) HSZ).mono ?_; rintro e wa ⟨Az1, cz1, Aw1, cw1, Ab1, cb1, M1, M2, rfl, hm1, hba⟩; have HM1 := hide hm1; have HBA := hide (hHeld.trans (hba.mono hHeld.size)); have HHA := hide ((Below.refl w21.heap.size w21).drew.trans hba); clear hm1 hba)
      (try dsimp only)
      refine hK.out _ _ (HBA.out) (fun hHeld2 => ?_)
      clear hK K hHeld
      have hHeld := hHeld2
      clear hHeld2
      try simp only [Act.put, List.setIfInBounds_toArray, List.set_cons_zero, List.set_cons_succ]
      refine wpAnyH_ready (rs := [3]) (by kernel_rfl) (by simp) ?_
      refine AllReadyH.cons (o := ?o3_44) ?hi3_44 (fun K hK => ?hh3_44) AllReadyH.nil
      case hi3_44 => ((simp only [List.getElem?_toArray, List.getElem?_cons_succ, List.getElem?_cons_zero]); rfl)
      go_simp
      (go_at_call 27; refine (lawstoProfile_o x.nm x.A x.c x.rs wa (HSL.out _ HBA.out) HRN.out).mono ?_; rintro e wb ⟨bp1, rfl, hr1, hbb⟩; have HM2 := hide (HM1.out.below hbb); have HR2 := hide hr1; have HBB := hide (HBA.out.trans (hbb.mono HBA.out.size)); have HHB := hide (HHA.out.trans (hbb.mono HHA.out.size)); clear hr1 hbb)
      (try dsimp only)
      refine hK.out _ _ (HBB.out) (fun hHeld2 => ?_)
      clear hK K hHeld
      have hHeld := hHeld2
      clear hHeld2
      try simp only [Act.put, List.setIfInBounds_toArray, List.set_cons_zero, List.set_cons_succ]
      refine wpAnyH_ready (rs := [5]) (by kernel_rfl) (by simp) ?_
      refine AllReadyH.cons (o := ?o5_45) ?hi5_45 (fun K hK => ?hh5_45) AllReadyH.nil
      case hi5_45 => ((simp only [List.getElem?_toArray, List.getElem?_cons_succ, List.getElem?_cons_zero]); rfl)
      go_simp
      (go_at_call 28; refine (lawstoGoal x.t0 x.t1 x.t2 x.t3 x.t4 x.tol x.most wb).mono ?_; rintro e wg ⟨rfl, hbg⟩; have HM3 := hide (HM2.out.below hbg); have HR3 := hide (HR2.out.below hbg); have HBG := hide (HBB.out.trans (hbg.mono HBB.out.size)); have HHG := hide (HHB.out.trans (hbg.mono HHB.out.size)); clear hbg)
      (try dsimp only)
      refine hK.out _ _ (HBG.out) (fun hHeld2 => ?_)
      clear hK K hHeld
      have hHeld := hHeld2
      clear hHeld2
      try simp only [Act.put, List.setIfInBounds_toArray, List.set_cons_zero, List.set_cons_succ]
      refine wpAnyH_ready (rs := [7]) (by kernel_rfl) (by simp) ?_
      refine AllReadyH.cons (o := ?o7_46) ?hi7_46 (fun K hK => ?hh7_46) AllReadyH.nil
      case hi7_46 => ((simp only [List.getElem?_toArray, List.getElem?_cons_succ, List.getElem?_cons_zero]); rfl)
      go_simp
      (go_at_call 13; refine (HIC.out wg Az1 cz1 Aw1 cw1 Ab1 cb1 _ _ HM3.out.md (HR3.out.at_ (fun _ => rfl)) HSZ.out HRN.out).mono ?_; rintro e w22 ⟨AR_1, cR_1, xsR, dR, codeR, rfl, hpR, hlR, hoR, hbR⟩; have HOR := hide (hoR.mono (B' := w3.heap.size) (HBG.out.size)); have HBR := hide (HBG.out.trans (hbR.mono HBG.out.size)); have HHR := hide (HHG.out.trans (hbR.mono HHG.out.size)); have HPR := hide hpR; have HLR := hide hlR; clear hpR hlR hoR; clear hbR)
      (try dsimp only)
      refine hK.out _ _ (HBR.out) (fun hHeld2 => ?_)
      clear hK K hHeld
      have hHeld := hHeld2
      clear hHeld2
      try simp only [Act.put, List.setIfInBounds_toArray, List.set_cons_zero, List.set_cons_succ]
      refine wpAnyH_take (i := 8) (oi := ?o8_47) (v := ?v8_47) ?hi8_47 ?hs8_47 ?hf8_47 ?hr8_47 (fun _ _ _ h => h) ?hy8_47 (by assumption) ?hh8_47
      case hi8_47 => ((simp only [List.getElem?_toArray, List.getElem?_cons_succ, List.getElem?_cons_zero]); rfl)
      case hs8_47 => kernel_rfl
      case hf8_47 => kernel_rfl
      case hr8_47 => kernel_rfl
      case hy8_47 => exact Or.inl ⟨by rfl, by (intro wq hSw; (try dsimp only at hSw); go_simp; (try with_reducible rfl))⟩
      try simp only [Act.put, List.setIfInBounds_toArray, List.set_cons_zero, List.set_cons_succ]
      refine wpAnyH_take (i := 9) (oi := ?o9_48) (v := ?v9_48) ?hi9_48 ?hs9_48 ?hf9_48 ?hr9_48 (fun _ _ _ h => h) ?hy9_48 (by assumption) ?hh9_48
      case hi9_48 => ((simp only [List.getElem?_toArray, List.getElem?_cons_succ, List.getElem?_cons_zero]); rfl)
      case hs9_48 => kernel_rfl
      case hf9_48 => kernel_rfl
      case hr9_48 => kernel_rfl
      case hy9_48 => exact Or.inl ⟨by rfl, by (intro wq hSw; (try dsimp only at hSw); go_simp; (try with_reducible rfl))⟩
      try simp only [Act.put, List.setIfInBounds_toArray, List.set_cons_zero, List.set_cons_succ]
      refine wpAnyH_take (i := 10) (oi := ?o10_49) (v := ?v10_49) ?hi10_49 ?hs10_49 ?hf10_49 ?hr10_49 (fun _ _ _ h => h) ?hy10_49 (by assumption) ?hh10_49
      case hi10_49 => ((simp only [List.getElem?_toArray, List.getElem?_cons_succ, List.getElem?_cons_zero]); rfl)
      case hs10_49 => kernel_rfl
      case hf10_49 => kernel_rfl
      case hr10_49 => kernel_rfl
      case hy10_49 => exact Or.inl ⟨by rfl, by (intro wq hSw; (try dsimp only at hSw); go_simp; (try with_reducible rfl))⟩
      try simp only [Act.put, List.setIfInBounds_toArray, List.set_cons_zero, List.set_cons_succ]
      refine wpAnyH_take (i := 11) (oi := ?o11_50) (v := ?v11_50) ?hi11_50 ?hs11_50 ?hf11_50 ?hr11_50 (fun _ _ _ h => h) ?hy11_50 (by assumption) ?hh11_50
      case hi11_50 => ((simp only [List.getElem?_toArray, List.getElem?_cons_succ, List.getElem?_cons_zero]); rfl)
      case hs11_50 => kernel_rfl
      case hf11_50 => kernel_rfl
      case hr11_50 => kernel_rfl
      case hy11_50 => exact Or.inl ⟨by rfl, by (intro wq hSw; (try dsimp only at hSw); go_simp; (try with_reducible rfl))⟩
      try simp only [Act.put, List.setIfInBounds_toArray, List.set_cons_zero, List.set_cons_succ]
      refine wpAnyH_take (i := 12) (oi := ?o12_51) (v := ?v12_51) ?hi12_51 ?hs12_51 ?hf12_51 ?hr12_51 (fun _ _ _ h => h) ?hy12_51 (by assumption) ?hh12_51
      case hi12_51 => ((simp only [List.getElem?_toArray, List.getElem?_cons_succ, List.getElem?_cons_zero]); rfl)
      case hs12_51 => kernel_rfl
      case hf12_51 => kernel_rfl
      case hr12_51 => kernel_rfl
      case hy12_51 => exact Or.inl ⟨by rfl, by (intro wq hSw; (try dsimp only at hSw); go_simp; (try with_reducible rfl))⟩
      try simp only [Act.put, List.setIfInBounds_toArray, List.set_cons_zero, List.set_cons_succ]
      refine wpAnyH_take (i := 13) (oi := ?o13_52) (v := ?v13_52) ?hi13_52 ?hs13_52 ?hf13_52 ?hr13_52 (fun _ _ _ h => h) ?hy13_52 (by assumption) ?hh13_52
      case hi13_52 => ((simp only [List.getElem?_toArray, List.getElem?_cons_succ, List.getElem?_cons_zero]); rfl)
      case hs13_52 => kernel_rfl
      case hf13_52 => kernel_rfl
      case hr13_52 => kernel_rfl
      case hy13_52 => exact Or.inl ⟨by rfl, by (intro wq hSw; (try dsimp only at hSw); go_simp; (try with_reducible rfl))⟩
      try simp only [Act.put, List.setIfInBounds_toArray, List.set_cons_zero, List.set_cons_succ]
      refine wpAnyH_take (i := 14) (oi := ?o14_53) (v := ?v14_53) ?hi14_53 ?hs14_53 ?hf14_53 ?hr14_53 (fun _ _ _ h => h) ?hy14_53 (by assumption) ?hh14_53
      case hi14_53 => ((simp only [List.getElem?_toArray, List.getElem?_cons_succ, List.getElem?_cons_zero]); rfl)
      case hs14_53 => kernel_rfl
      case hf14_53 => kernel_rfl
      case hr14_53 => kernel_rfl
      case hy14_53 => exact Or.inl ⟨by rfl, by (intro wq hSw; (try dsimp only at hSw); go_simp; (try with_reducible rfl))⟩
      try simp only [Act.put, List.setIfInBounds_toArray, List.set_cons_zero, List.set_cons_succ]
      refine wpAnyH_done (by kernel_rfl) ?_ _
      refine NoPanic.normal ?_
      clear hHeld HM1 HM2 HM3 HR2 HR3 HBA HBB HBG HHA HHB HHG
      have hpq := HP0.out.symm.trans HPR.out
      obtain ⟨e1, e2⟩ := Prod.mk.inj hpq
      obtain ⟨e2, e3⟩ := Prod.mk.inj e2
      subst e1 e2 e3
      clear HPR hpq
      have HS22 := hide (HS21.out.below HHR.out)
      have HG22 := hide (HG21.out.below HHR.out)
      clear HS21 HG21 HB21
      go_wp2_with fail
      refine (lawseqCutS_same AR_1 As cR_1 cs xs w22 (HOR.out.at_ (fun _ => rfl)) (HS22.out.at_ (fun _ => rfl)) HL0.out).mono ?_
      rintro e w23 ⟨rfl, hb23⟩
      have HB23 := hide (HBR.out.trans (hb23.mono HBR.out.size))
      have HG23 := hide (HG22.out.below hb23)
      clear hb23 HBR HS22 HG22 HHR HOR
      go_wp2_with fail
      refine (held_own_Cut HG23.out HL0.out (by omega) (by omega)).mono ?_
      rintro e w24 ⟨rfl, hb24⟩
      have HB24 := hide (HB23.out.trans (hb24.mono HB23.out.size))
      clear hb24 HB23 HG23
      go_wp2_with fail
      go_ret
      exact ⟨rfl, HBW.out.trans (HB24.out.mono HBW.out.size)⟩
    · go_wp2_with fail
      go_ret
      exact ⟨rfl, HBW.out.trans (HB5.out.mono HBW.out.size)⟩
  · go_wp2_with fail
    go_ret
    exact ⟨rfl, HBW.out.trans (HB4.out.mono HBW.out.size)⟩
end Go.Proofs.YtnefgafmnpblpaaGreat
