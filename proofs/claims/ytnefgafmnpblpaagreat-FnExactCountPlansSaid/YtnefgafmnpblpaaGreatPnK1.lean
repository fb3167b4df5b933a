/- The law of CountPlans, walked out of the contracts of both sides. -/
import Derived.Test.YtnefgafmnpblpaaGreatPnK
namespace Go.Proofs.YtnefgafmnpblpaaGreat
open Go.RowKit Pn

set_option maxRecDepth 100000 in
set_option maxHeartbeats 4000000 in
theorem lawCountPlans_x (x : Cx) (bud : Int) (w : World) (hm : MdAt w x.Az x.Aw x.Ab x.zs x.ws x.bs) (hr : SlAt encRing 3 w x.A x.rs) (hz : x.zs.length ≤ maxLen) (hw : x.ws.length ≤ maxLen) (hb : x.bs.length ≤ maxLen) (hl : ∀ l ∈ x.ws, l.length ≤ maxLen) (hs : x.nm.size ≤ maxLen) (hn : x.rs.length ≤ maxLen) :
    Calls Tryz.prog 5 #[.agg #[.slice x.Az x.zs.length x.cz, .slice x.Aw x.ws.length x.cw, .slice x.Ab x.bs.length x.cb], .agg #[.string x.nm, .slice x.A x.rs.length x.c], .agg #[.int .i64 x.t0, .int .i64 x.t1, .int .i64 x.t2, .int .i64 x.t3, .int .i64 x.t4, .int .i64 x.tol, .int .i64 x.most], .int .i64 bud] w fun e w' => e = .returned (.bool true) ∧ Below w.heap.size w w' := by
  have HMD := hide hm
  have HRG := hide hr
  have HLW := hide hl
  have HNM := hide hs
  have HRL := hide hn
  have HLB := hide (Lb.new x w)
  obtain ⟨cn, cc, hcp⟩ : ∃ cn cc, cntP x.bare bud = (cn, cc) := ⟨_, _, rfl⟩
  have HCP := hide hcp
  have HSC := hide (show ∀ (W : World) (Az : Option Addr) (cz : Nat) (Aw : Option Addr) (cw : Nat) (Ab : Option Addr) (cb : Nat) (A : Option Addr) (c : Nat), MdAt W Az Aw Ab x.zs x.ws x.bs → SlAt encRing 3 W A x.rs → MdSz x.zs x.ws x.bs → x.rs.length ≤ 1048576 → Calls Tryz.prog 25 #[.agg #[.slice Az x.zs.length cz, .slice Aw x.ws.length cw, .slice Ab x.bs.length cb], .agg #[.string x.nm, .slice A x.rs.length c], .agg #[.int .i64 x.t0, .int .i64 x.t1, .int .i64 x.t2, .int .i64 x.t3, .int .i64 x.t4, .int .i64 x.tol, .int .i64 x.most], .int .i64 bud] W (fun e w' => e = .returned (.tuple #[.int .i64 cn, .int .i64 cc]) ∧ Below W.heap.size W w') from fun W Az cz Aw cw Ab cb A c h1 h2 h3 h4 => (specCountPlans_x (x := ⟨Az, cz, x.zs, Aw, cw, x.ws, Ab, cb, x.bs, x.nm, A, c, x.rs, x.t0, x.t1, x.t2, x.t3, x.t4, x.tol, x.most⟩) bud (hide ⟨h1, h2, h3, h4, hs⟩)).mono fun _ _ q => ⟨q.1.trans (ret_twoP (p := cntP x.bare bud) hcp).symm, q.2⟩)
  have HIC := hide (show ∀ (W : World) (Az : Option Addr) (cz : Nat) (Aw : Option Addr) (cw : Nat) (Ab : Option Addr) (cb : Nat) (A : Option Addr) (c : Nat), MdAt W Az Aw Ab x.zs x.ws x.bs → SlAt encRing 3 W A x.rs → MdSz x.zs x.ws x.bs → x.rs.length ≤ 1048576 → Calls Tryz.prog 17 #[.agg #[.slice Az x.zs.length cz, .slice Aw x.ws.length cw, .slice Ab x.bs.length cb], .agg #[.string x.nm, .slice A x.rs.length c], .agg #[.int .i64 x.t0, .int .i64 x.t1, .int .i64 x.t2, .int .i64 x.t3, .int .i64 x.t4, .int .i64 x.tol, .int .i64 x.most], .int .i64 bud] W (fun e w' => e = .returned (.tuple #[.int .i64 cn, .int .i64 cc]) ∧ Below W.heap.size W w') from fun W Az cz Aw cw Ab cb A c h1 h2 h3 h4 => (implCountPlans_x (x := ⟨Az, cz, x.zs, Aw, cw, x.ws, Ab, cb, x.bs, x.nm, A, c, x.rs, x.t0, x.t1, x.t2, x.t3, x.t4, x.tol, x.most⟩) bud (hide ⟨h1, h2, h3, h4, hs⟩)).mono fun _ _ q => ⟨q.1.trans (ret_twoP (p := cntP x.bare bud) hcp).symm, q.2⟩)
  clear hcp
  go_enter Tryz.func5, Tryz.ntmps5
  go_wp2_with fail
  generalize (((w.alloc (.cells #[.slice x.Az x.zs.length x.cz, .slice x.Aw x.ws.length x.cw, .slice x.Ab x.bs.length x.cb] 55)).alloc (.cells #[.string x.nm, .slice x.A x.rs.length x.c] 58)).alloc (.cells #[.int .i64 x.t0, .int .i64 x.t1, .int .i64 x.t2, .int .i64 x.t3, .int .i64 x.t4, .int .i64 x.tol, .int .i64 x.most] 61)) = w3 at *
  have HMA := hide (fun W (hb : Below w3.heap.size w3 W) => (HMD.out.below HLB.out.bel).below hb)
  have HSL := hide (fun W (hb : Below w3.heap.size w3 W) => (HRG.out.below HLB.out.bel).below hb)
  have HPC := hide (fun W (hb : Below w3.heap.size w3 W) => (HLB.out.below hb).cells)
  have HBW := hide HLB.out.bel
  clear HLB HMD HRG hm hr hl
  refine (szModel_any x.Az x.Aw x.Ab x.cz x.cw x.cb x.zs x.ws x.bs 1048576 w3 (HMA.out _ (Below.refl _ _)) hz hw hb HLW.out (by omega) (by omega)).mono ?_
  rintro e w4 ⟨r1, rfl, ra1, rb1, hsz1, hb4⟩
  have HB4 := hide hb4
  have HSZ1 := hide hsz1
  clear hb4 hsz1 hz hw hb
  by_cases q1 : 0 ≤ r1
  · obtain ⟨hmsz, htot⟩ := HSZ1.out q1
    have HSZ := hide hmsz
    have HTT := hide htot
    have q1' : ¬ r1 < 0 := by omega
    obtain ⟨c0, c1, c2, p0, p1, g0, g1, g2, g3, g4, g5, g6⟩ := HPC.out w4 HB4.out
    clear HSZ1 hmsz htot
    go_wp2_with fail
    clear c0 c1 c2 p0 p1 g0 g1 g2 g3 g4 g5 g6
    refine (szProfile_any x.nm x.A x.c x.rs r1 w4 HNM.out HRL.out q1 (by omega)).mono ?_
    rintro e w5 ⟨r2, rfl, ra2, rb2, hsz2, hb5⟩
    have HB5 := hide (HB4.out.trans (hb5.mono HB4.out.size))
    have HSZ2 := hide hsz2
    clear hb5 hsz2 HB4
    by_cases q2 : 0 ≤ r2
    · have HRN := hide (HSZ2.out q2).1
      have q2' : ¬ r2 < 0 := by omega
      clear HSZ2
      have C0 : ∀ W, Below w3.heap.size w3 W → W.cell? ⟨w.heap.size, 0, none⟩ = some (.slice x.Az x.zs.length x.cz) := fun W hb => (HPC.out W hb).1
      have C1 : ∀ W, Below w3.heap.size w3 W → W.cell? ⟨w.heap.size, 1, none⟩ = some (.slice x.Aw x.ws.length x.cw) := fun W hb => (HPC.out W hb).2.1
      have C2 : ∀ W, Below w3.heap.size w3 W → W.cell? ⟨w.heap.size, 2, none⟩ = some (.slice x.Ab x.bs.length x.cb) := fun W hb => (HPC.out W hb).2.2.1
      have P0 : ∀ W, Below w3.heap.size w3 W → W.cell? ⟨w.heap.size + 1, 0, none⟩ = some (.string x.nm) := fun W hb => (HPC.out W hb).2.2.2.1
      have P1 : ∀ W, Below w3.heap.size w3 W → W.cell? ⟨w.heap.size + 1, 1, none⟩ = some (.slice x.A x.rs.length x.c) := fun W hb => (HPC.out W hb).2.2.2.2.1
      have G0 : ∀ W, Below w3.heap.size w3 W → W.cell? ⟨w.heap.size + 1 + 1, 0, none⟩ = some (.int .i64 x.t0) := fun W hb => (HPC.out W hb).2.2.2.2.2.1
      have G1 : ∀ W, Below w3.heap.size w3 W → W.cell? ⟨w.heap.size + 1 + 1, 1, none⟩ = some (.int .i64 x.t1) := fun W hb => (HPC.out W hb).2.2.2.2.2.2.1
      have G2 : ∀ W, Below w3.heap.size w3 W → W.cell? ⟨w.heap.size + 1 + 1, 2, none⟩ = some (.int .i64 x.t2) := fun W hb => (HPC.out W hb).2.2.2.2.2.2.2.1
      have G3 : ∀ W, Below w3.heap.size w3 W → W.cell? ⟨w.heap.size + 1 + 1, 3, none⟩ = some (.int .i64 x.t3) := fun W hb => (HPC.out W hb).2.2.2.2.2.2.2.2.1
      have G4 : ∀ W, Below w3.heap.size w3 W → W.cell? ⟨w.heap.size + 1 + 1, 4, none⟩ = some (.int .i64 x.t4) := fun W hb => (HPC.out W hb).2.2.2.2.2.2.2.2.2.1
      have G5 : ∀ W, Below w3.heap.size w3 W → W.cell? ⟨w.heap.size + 1 + 1, 5, none⟩ = some (.int .i64 x.tol) := fun W hb => (HPC.out W hb).2.2.2.2.2.2.2.2.2.2.1
      have G6 : ∀ W, Below w3.heap.size w3 W → W.cell? ⟨w.heap.size + 1 + 1, 6, none⟩ = some (.int .i64 x.most) := fun W hb => (HPC.out W hb).2.2.2.2.2.2.2.2.2.2.2
      go_upto_region 8 with fail
      refine wp_region_noPanic ?_
      refine wp_region_held_drew (S := (fun w' => Below w3.heap.size w3 w')) (by kernel_rfl) (HB5.out.drew) (fun hHeld => ?_)
      refine wpAnyH_take (i := 0) (oi := ?o0_1) (v := ?v0_1) ?hi0_1 ?hs0_1 ?hf0_1 ?hr0_1 (fun _ _ _ h => h) ?hy0_1 (by assumption) ?hh0_1
      case hi0_1 => ((simp only [List.getElem?_toArray, List.getElem?_cons_zero]); rfl)
      case hs0_1 => kernel_rfl
      case hf0_1 => kernel_rfl
      case hr0_1 => kernel_rfl
      case hy0_1 => exact Or.inl ⟨by rfl, by (intro wq hSw; (try dsimp only at hSw); go_simp; (try with_reducible rfl))⟩
      try simp only [Act.put, List.setIfInBounds_toArray, List.set_cons_zero, List.set_cons_succ]
      refine wpAnyH_take (i := 2) (oi := ?o2_2) (v := ?v2_2) ?hi2_2 ?hs2_2 ?hf2_2 ?hr2_2 (fun _ _ _ h => h) ?hy2_2 (by assumption) ?hh2_2
      case hi2_2 => ((simp only [List.getElem?_toArray, List.getElem?_cons_succ, List.getElem?_cons_zero]); rfl)
      case hs2_2 => kernel_rfl
      case hf2_2 => kernel_rfl
      case hr2_2 => kernel_rfl
      case hy2_2 => exact Or.inl ⟨by rfl, by (intro wq hSw; (try dsimp only at hSw); go_simp; (try with_reducible rfl))⟩
      try simp only [Act.put, List.setIfInBounds_toArray, List.set_cons_zero, List.set_cons_succ]
      refine wpAnyH_take (i := 4) (oi := ?o4_3) (v := ?v4_3) ?hi4_3 ?hs4_3 ?hf4_3 ?hr4_3 (fun _ _ _ h => h) ?hy4_3 (by assumption) ?hh4_3
      case hi4_3 => ((simp only [List.getElem?_toArray, List.getElem?_cons_succ, List.getElem?_cons_zero]); rfl)
      case hs4_3 => kernel_rfl
      case hf4_3 => kernel_rfl
      case hr4_3 => kernel_rfl
      case hy4_3 => exact Or.inl ⟨by rfl, by (intro wq hSw; (try dsimp only at hSw); go_simp; (try with_reducible rfl))⟩
      try simp only [Act.put, List.setIfInBounds_toArray, List.set_cons_zero, List.set_cons_succ]
      refine wpAnyH_take (i := 6) (oi := ?o6_4) (v := ?v6_4) ?hi6_4 ?hs6_4 ?hf6_4 ?hr6_4 (fun _ _ _ h => h) ?hy6_4 (by assumption) ?hh6_4
      case hi6_4 => ((simp only [List.getElem?_toArray, List.getElem?_cons_succ, List.getElem?_cons_zero]); rfl)
      case hs6_4 => kernel_rfl
      case hf6_4 => kernel_rfl
      case hr6_4 => kernel_rfl
      case hy6_4 => exact Or.inl ⟨by rfl, by (intro wq hSw; (try dsimp only at hSw); go_simp; (try with_reducible rfl))⟩
      try simp only [Act.put, List.setIfInBounds_toArray, List.set_cons_zero, List.set_cons_succ]
      refine wpAnyH_ready (rs := [1]) (by kernel_rfl) (by simp) ?_
      refine AllReadyH.cons (o := ?o1_5) ?hi1_5 (fun K hK => ?hh1_5) AllReadyH.nil
      case hi1_5 => ((simp only [List.getElem?_toArray, List.getElem?_cons_succ, List.getElem?_cons_zero]); rfl)
      go_simp
      (go_at_call 26; refine (lawstoModel x.Az x.Aw x.Ab x.cz x.cw x.cb x.zs x.ws x.bs _ (HMA.out _ hHeld) HSZ).mono ?_; rintro e wa ⟨Az1, cz1, Aw1, cw1, Ab1, cb1, M1, M2, rfl, hm1, hba⟩; have HM1 := hide hm1; have HBA := hide (hHeld.trans (hba.mono hHeld.size)); have HHA := hide ((Below.refl w5.heap.size w5).drew.trans hba); clear hm1 hba)
      (try dsimp only)
      refine hK.out _ _ (HBA.out) (fun hHeld2 => ?_)
      clear hK K hHeld
      have hHeld := hHeld2
      clear hHeld2
      try simp only [Act.put, List.setIfInBounds_toArray, List.set_cons_zero, List.set_cons_succ]
      refine wpAnyH_ready (rs := [3]) (by kernel_rfl) (by simp) ?_
      refine AllReadyH.cons (o := ?o3_6) ?hi3_6 (fun K hK => ?hh3_6) AllReadyH.nil
      case hi3_6 => ((simp only [List.getElem?_toArray, List.getElem?_cons_succ, List.getElem?_cons_zero]); rfl)
      go_simp
      (go_at_call 27; refine (lawstoProfile_o x.nm x.A x.c x.rs wa (HSL.out _ HBA.out) HRN.out).mono ?_; rintro e wb ⟨bp1, rfl, hr1, hbb⟩; have HM2 := hide (HM1.out.below hbb); have HR2 := hide hr1; have HBB := hide (HBA.out.trans (hbb.mono HBA.out.size)); have HHB := hide (HHA.out.trans (hbb.mono HHA.out.size)); clear hr1 hbb)
      (try dsimp only)
      refine hK.out _ _ (HBB.out) (fun hHeld2 => ?_)
      clear hK K hHeld
      have hHeld := hHeld2
      clear hHeld2
      try simp only [Act.put, List.setIfInBounds_toArray, List.set_cons_zero, List.set_cons_succ]
      refine wpAnyH_ready (rs := [5]) (by kernel_rfl) (by simp) ?_
      refine AllReadyH.cons (o := ?o5_7) ?hi5_7 (fun K hK => ?hh5_7) AllReadyH.nil
      case hi5_7 => ((simp only [List.getElem?_toArray, List.getElem?_cons_succ, List.getElem?_cons_zero]); rfl)
      go_simp
      (go_at_call 28; refine (lawstoGoal x.t0 x.t1 x.t2 x.t3 x.t4 x.tol x.most wb).mono ?_; rintro e wg ⟨rfl, hbg⟩; have HM3 := hide (HM2.out.below hbg); have HR3 := hide (HR2.out.below hbg); have HBG := hide (HBB.out.trans (hbg.mono HBB.out.size)); have HHG := hide (HHB.out.trans (hbg.mono HHB.out.size)); clear hbg)
      (try dsimp only)
      refine hK.out _ _ (HBG.out) (fun hHeld2 => ?_)
      clear hK K hHeld
      have hHeld := hHeld2
      clear hHeld2
      try simp only [Act.put, List.setIfInBounds_toArray, List.set_cons_zero, List.set_cons_succ]
      refine wpAnyH_ready (rs := [7]) (by kernel_rfl) (by simp) ?_
      refine AllReadyH.cons (o := ?o7_8) ?hi7_8 (fun K hK => ?hh7_8) AllReadyH.nil
      case hi7_8 => ((simp only [List.getElem?_toArray, List.getElem?_cons_succ, List.getElem?_cons_zero]); rfl)
      go_simp
      (go_at_call 25; refine (HSC.out wg Az1 cz1 Aw1 cw1 Ab1 cb1 _ _ HM3.out.md (HR3.out.at_ (fun _ => rfl)) HSZ.out HRN.out).mono ?_; rintro e w8 ⟨rfl, hbR⟩; have HBR := hide (HBG.out.trans (hbR.mono HBG.out.size)); have HHR := hide (HHG.out.trans (hbR.mono HHG.out.size)); clear hbR)
      (try dsimp only)
      refine hK.out _ _ (HBR.out) (fun hHeld2 => ?_)
      clear hK K hHeld
      have hHeld := hHeld2
      clear hHeld2
      try simp only [Act.put, List.setIfInBounds_toArray, List.set_cons_zero, List.set_cons_succ]
      refine wpAnyH_take (i := 8) (oi := ?o8_9) (v := ?v8_9) ?hi8_9 ?hs8_9 ?hf8_9 ?hr8_9 (fun _ _ _ h => h) ?hy8_9 (by assumption) ?hh8_9
      case hi8_9 => ((simp only [List.getElem?_toArray, List.getElem?_cons_succ, List.getElem?_cons_zero]); rfl)
      case hs8_9 => kernel_rfl
      case hf8_9 => kernel_rfl
      case hr8_9 => kernel_rfl
      case hy8_9 => exact Or.inl ⟨by rfl, by (intro wq hSw; (try dsimp only at hSw); go_simp; (try with_reducible rfl))⟩
      try simp only [Act.put, List.setIfInBounds_toArray, List.set_cons_zero, List.set_cons_succ]
      refine wpAnyH_take (i := 9) (oi := ?o9_10) (v := ?v9_10) ?hi9_10 ?hs9_10 ?hf9_10 ?hr9_10 (fun _ _ _ h => h) ?hy9_10 (by assumption) ?hh9_10
      case hi9_10 => ((simp only [List.getElem?_toArray, List.getElem?_cons_succ, List.getElem?_cons_zero]); rfl)
      case hs9_10 => kernel_rfl
      case hf9_10 => kernel_rfl
      case hr9_10 => kernel_rfl
      case hy9_10 => exact Or.inl ⟨by rfl, by (intro wq hSw; (try dsimp only at hSw); go_simp; (try with_reducible rfl))⟩
      try simp only [Act.put, List.setIfInBounds_toArray, List.set_cons_zero, List.set_cons_succ]
      refine wpAnyH_take (i := 10) (oi := ?o10_11) (v := ?v10_11) ?hi10_11 ?hs10_11 ?hf10_11 ?hr10_11 (fun _ _ _ h => h) ?hy10_11 (by assumption) ?hh10_11
      case hi10_11 => ((simp only [List.getElem?_toArray, List.getElem?_cons_succ, List.getElem?_cons_zero]); rfl)
      case hs10_11 => kernel_rfl
      case hf10_11 => kernel_rfl
      case hr10_11 => kernel_rfl
      case hy10_11 => exact Or.inl ⟨by rfl, by (intro wq hSw; (try dsimp only at hSw); go_simp; (try with_reducible rfl))⟩
      try simp only [Act.put, List.setIfInBounds_toArray, List.set_cons_zero, List.set_cons_succ]
      refine wpAnyH_take (i := 11) (oi := ?o11_12) (v := ?v11_12) ?hi11_12 ?hs11_12 ?hf11_12 ?hr11_12 (fun _ _ _ h => h) ?hy11_12 (by assumption) ?hh11_12
      case hi11_12 => ((simp only [List.getElem?_toArray, List.getElem?_cons_succ, List.getElem?_cons_zero]); rfl)
      case hs11_12 => kernel_rfl
      case hf11_12 => kernel_rfl
      case hr11_12 => kernel_rfl
      case hy11_12 => exact Or.inl ⟨by rfl, by (intro wq hSw; (try dsimp only at hSw); go_simp; (try with_reducible rfl))⟩
      try simp only [Act.put, List.setIfInBounds_toArray, List.set_cons_zero, List.set_cons_succ]
      refine wpAnyH_take (i := 12) (oi := ?o12_13) (v := ?v12_13) ?hi12_13 ?hs12_13 ?hf12_13 ?hr12_13 (fun _ _ _ h => h) ?hy12_13 (by assumption) ?hh12_13
      case hi12_13 => ((simp only [List.getElem?_toArray, List.getElem?_cons_succ, List.getElem?_cons_zero]); rfl)
      case hs12_13 => kernel_rfl
      case hf12_13 => kernel_rfl
      case hr12_13 => kernel_rfl
      case hy12_13 => exact Or.inl ⟨by rfl, by (intro wq hSw; (try dsimp only at hSw); go_simp; (try with_reducible rfl))⟩
      try simp only [Act.put, List.setIfInBounds_toArray, List.set_cons_zero, List.set_cons_succ]
      refine wpAnyH_done (by kernel_rfl) ?_ _
      refine NoPanic.normal ?_
      clear hHeld HM1 HM2 HM3 HR2 HR3 HBA HBB HBG HHA HHB HHG
      have HS8 := hide (show OwnC w8 w3.heap.size (.slice none ([] : List CutR).length 0) [] from Own.nil)
      have HB8 := hide HBR.out
      clear HBR HHR HB5
      have hc8 := HPC.out w8 HB8.out
      obtain ⟨c0, c1, c2, p0, p1, g0, g1, g2, g3, g4, g5, g6⟩ := hc8
      go_wp2_with fail
      clear c0 c1 c2 p0 p1 g0 g1 g2 g3 g4 g5 g6
      refine (lawstoModel x.Az x.Aw x.Ab x.cz x.cw x.cb x.zs x.ws x.bs w8 (HMA.out _ HB8.out) HSZ).mono ?_
      rintro e w9 ⟨Az2, cz2, Aw2, cw2, Ab2, cb2, N1, N2, rfl, hm9, hb9⟩
      have HM9 := hide hm9
      have HH9 := hide hb9
      clear hm9 hb9
      go_upto_region 10 with fail
      have hal : Below w9.heap.size w9 (w9.alloc (.cells #[.slice Az2 x.zs.length cz2, .slice Aw2 x.ws.length cw2, .slice Ab2 x.bs.length cb2] 27)) := (Below.refl _ _).alloc (Nat.le_refl _) _
      have HM10 := hide (HM9.out.below hal)
      have HX0 := hide (heap_alloc_new w9 (.cells #[.slice Az2 x.zs.length cz2, .slice Aw2 x.ws.length cw2, .slice Ab2 x.bs.length cb2] 27))
      have HH10 := hide (HH9.out.trans (hal.mono HH9.out.size))
      obtain ⟨b0, hb0⟩ : ∃ b0, b0 = w9.heap.size := ⟨_, rfl⟩
      have HZ10 := hide (show (w9.alloc (.cells #[.slice Az2 x.zs.length cz2, .slice Aw2 x.ws.length cw2, .slice Ab2 x.bs.length cb2] 27)).heap.size = b0 + 1 by rw [hb0]; simp)
      rw [← hb0] at HM10 HX0 ⊢
      clear hal hb0 HM9 HH9
      generalize w9.alloc (.cells #[.slice Az2 x.zs.length cz2, .slice Aw2 x.ws.length cw2, .slice Ab2 x.bs.length cb2] 27) = w10 at *
      have HB10 := hide (HB8.out.trans (HH10.out.mono HB8.out.size))
      obtain ⟨c0, c1, c2, p0, p1, g0, g1, g2, g3, g4, g5, g6⟩ := HPC.out w10 HB10.out
      go_wp2_with fail
      clear c0 c1 c2 p0 p1 g0 g1 g2 g3 g4 g5 g6
      refine (lawstoProfile_o x.nm x.A x.c x.rs w10 (HSL.out _ HB10.out) HRN.out).mono ?_
      rintro e w11 ⟨bq, rfl, hr11, hb11⟩
      have HR11 := hide hr11
      have HH11 := hide hb11
      clear hr11 hb11
      go_upto_region 11 with fail
      have hal : Below w11.heap.size w11 (w11.alloc (.cells #[.string x.nm, .slice (some ⟨bq, 0, none⟩) x.rs.length x.rs.length] 30)) := (Below.refl _ _).alloc (Nat.le_refl _) _
      have HLV := hide (show Lv x w3 ⟨none, 0, w8.heap.size, Az2, cz2, Aw2, cw2, Ab2, cb2, N1, N2, b0, some ⟨bq, 0, none⟩, x.rs.length, w11.heap.size⟩ [] (w11.alloc (.cells #[.string x.nm, .slice (some ⟨bq, 0, none⟩) x.rs.length x.rs.length] 30)) from by
        have hh : Below w10.heap.size w10 (w11.alloc (.cells #[.string x.nm, .slice (some ⟨bq, 0, none⟩) x.rs.length x.rs.length] 30)) := HH11.out.trans (hal.mono HH11.out.size)
        have hz := HZ10.out
        have hz1 := HH11.out.size
        exact ⟨HB10.out.trans (hh.mono HB10.out.size), (HS8.out.below HH10.out).below hh, fun k e => (HS8.out.lt k e).2, (hh.block _ (heap_lt HX0.out)).trans HX0.out, HM10.out.below hh, heap_alloc_new w11 _, (HR11.out.mono (show b0 + 1 ≤ w10.heap.size by omega)).below hal, fun k e => (HR11.out.lt k e).2, HB8.out.size, show b0 < w11.heap.size by omega⟩)
      clear hal HS8 HH10 HM10 HX0 HZ10 HB10 HR11 HH11 HB8
      generalize w11.alloc (.cells #[.string x.nm, .slice (some ⟨bq, 0, none⟩) x.rs.length x.rs.length] 30) = w12 at *
      obtain ⟨b1, hb1⟩ : ∃ b1, b1 = w11.heap.size := ⟨_, rfl⟩
      rw [← hb1] at HLV ⊢
      clear hb1
      obtain ⟨B0, hB0⟩ : ∃ B0, B0 = w8.heap.size := ⟨_, rfl⟩
      rw [← hB0] at HLV
      clear hB0
      obtain ⟨d, hd⟩ : ∃ d, d = (⟨none, 0, B0, Az2, cz2, Aw2, cw2, Ab2, cb2, N1, N2, b0, some ⟨bq, 0, none⟩, x.rs.length, b1⟩ : Ld) := ⟨_, rfl⟩
      rw [← hd] at HLV
      have HDA := hide (show d.As = none ∧ d.cs = 0 from by rw [hd]; exact ⟨rfl, rfl⟩)
      have E0 : b0 = d.b0 := by rw [hd]
      have E1 : b1 = d.b1 := by rw [hd]
      rw [E0, E1]
      clear hd E0 E1
      have D0 : ∀ W, Below w12.heap.size w12 W → W.cell? ⟨d.b0, 0, none⟩ = some (.slice d.Az x.zs.length d.cz) := fun W hb => (HLV.out.below hb).cells.1
      have D1 : ∀ W, Below w12.heap.size w12 W → W.cell? ⟨d.b0, 1, none⟩ = some (.slice d.Aw x.ws.length d.cw) := fun W hb => (HLV.out.below hb).cells.2.1
      have D2 : ∀ W, Below w12.heap.size w12 W → W.cell? ⟨d.b0, 2, none⟩ = some (.slice d.Ab x.bs.length d.cb) := fun W hb => (HLV.out.below hb).cells.2.2.1
      have D3 : ∀ W, Below w12.heap.size w12 W → W.cell? ⟨d.b1, 0, none⟩ = some (.string x.nm) := fun W hb => (HLV.out.below hb).cells.2.2.2.1
      have D4 : ∀ W, Below w12.heap.size w12 W → W.cell? ⟨d.b1, 1, none⟩ = some (.slice d.A x.rs.length d.c) := fun W hb => (HLV.out.below hb).cells.2.2.2.2
      have QC0 : ∀ W, Below w12.heap.size w12 W → W.cell? ⟨w.heap.size, 0, none⟩ = some (.slice x.Az x.zs.length x.cz) := fun W hb => C0 W (HLV.out.below hb).bel
      have QC1 : ∀ W, Below w12.heap.size w12 W → W.cell? ⟨w.heap.size, 1, none⟩ = some (.slice x.Aw x.ws.length x.cw) := fun W hb => C1 W (HLV.out.below hb).bel
      have QC2 : ∀ W, Below w12.heap.size w12 W → W.cell? ⟨w.heap.size, 2, none⟩ = some (.slice x.Ab x.bs.length x.cb) := fun W hb => C2 W (HLV.out.below hb).bel
      have QP0 : ∀ W, Below w12.heap.size w12 W → W.cell? ⟨w.heap.size + 1, 0, none⟩ = some (.string x.nm) := fun W hb => P0 W (HLV.out.below hb).bel
      have QP1 : ∀ W, Below w12.heap.size w12 W → W.cell? ⟨w.heap.size + 1, 1, none⟩ = some (.slice x.A x.rs.length x.c) := fun W hb => P1 W (HLV.out.below hb).bel
      have QG0 : ∀ W, Below w12.heap.size w12 W → W.cell? ⟨w.heap.size + 1 + 1, 0, none⟩ = some (.int .i64 x.t0) := fun W hb => G0 W (HLV.out.below hb).bel
      have QG1 : ∀ W, Below w12.heap.size w12 W → W.cell? ⟨w.heap.size + 1 + 1, 1, none⟩ = some (.int .i64 x.t1) := fun W hb => G1 W (HLV.out.below hb).bel
      have QG2 : ∀ W, Below w12.heap.size w12 W → W.cell? ⟨w.heap.size + 1 + 1, 2, none⟩ = some (.int .i64 x.t2) := fun W hb => G2 W (HLV.out.below hb).bel
      have QG3 : ∀ W, Below w12.heap.size w12 W → W.cell? ⟨w.heap.size + 1 + 1, 3, none⟩ = some (.int .i64 x.t3) := fun W hb => G3 W (HLV.out.below hb).bel
      have QG4 : ∀ W, Below w12.heap.size w12 W → W.cell? ⟨w.heap.size + 1 + 1, 4, none⟩ = some (.int .i64 x.t4) := fun W hb => G4 W (HLV.out.below hb).bel
      have QG5 : ∀ W, Below w12.heap.size w12 W → W.cell? ⟨w.heap.size + 1 + 1, 5, none⟩ = some (.int .i64 x.tol) := fun W hb => G5 W (HLV.out.below hb).bel
      have QG6 : ∀ W, Below w12.heap.size w12 W → W.cell? ⟨w.heap.size + 1 + 1, 6, none⟩ = some (.int .i64 x.most) := fun W hb => G6 W (HLV.out.below hb).bel
      refine wp_region_noPanic ?_
      refine wp_region_held_drew (S := (fun w' => Below w12.heap.size w12 w')) (by kernel_rfl) ((Below.refl _ _).drew) (fun hHeld => ?_)
      refine wpAnyH_take (i := 0) (oi := ?o0_14) (v := ?v0_14) ?hi0_14 ?hs0_14 ?hf0_14 ?hr0_14 (fun _ _ _ h => h) ?hy0_14 (by assumption) ?hh0_14
      case hi0_14 => ((simp only [List.getElem?_toArray, List.getElem?_cons_zero]); rfl)
      case hs0_14 => kernel_rfl
      case hf0_14 => kernel_rfl
      case hr0_14 => kernel_rfl
      case hy0_14 => exact Or.inl ⟨by rfl, by (intro wq hSw; (try dsimp only at hSw); go_simp; (try with_reducible rfl))⟩
      try simp only [Act.put, List.setIfInBounds_toArray, List.set_cons_zero, List.set_cons_succ]
      refine wpAnyH_take (i := 1) (oi := ?o1_15) (v := ?v1_15) ?hi1_15 ?hs1_15 ?hf1_15 ?hr1_15 (fun _ _ _ h => h) ?hy1_15 (by assumption) ?hh1_15
      case hi1_15 => ((simp only [List.getElem?_toArray, List.getElem?_cons_succ, List.getElem?_cons_zero]); rfl)
      case hs1_15 => kernel_rfl
      case hf1_15 => kernel_rfl
      case hr1_15 => kernel_rfl
      case hy1_15 => exact Or.inl ⟨by rfl, by (intro wq hSw; (try dsimp only at hSw); go_simp; (try with_reducible rfl))⟩
      try simp only [Act.put, List.setIfInBounds_toArray, List.set_cons_zero, List.set_cons_succ]
      refine wpAnyH_take (i := 2) (oi := ?o2_16) (v := ?v2_16) ?hi2_16 ?hs2_16 ?hf2_16 ?hr2_16 (fun _ _ _ h => h) ?hy2_16 (by assumption) ?hh2_16
      case hi2_16 => ((simp only [List.getElem?_toArray, List.getElem?_cons_succ, List.getElem?_cons_zero]); rfl)
      case hs2_16 => kernel_rfl
      case hf2_16 => kernel_rfl
      case hr2_16 => kernel_rfl
      case hy2_16 => exact Or.inl ⟨by rfl, by (intro wq hSw; (try dsimp only at hSw); go_simp; (try with_reducible rfl))⟩
      try simp only [Act.put, List.setIfInBounds_toArray, List.set_cons_zero, List.set_cons_succ]
      refine wpAnyH_take (i := 4) (oi := ?o4_17) (v := ?v4_17) ?hi4_17 ?hs4_17 ?hf4_17 ?hr4_17 (fun _ _ _ h => h) ?hy4_17 (by assumption) ?hh4_17
      case hi4_17 => ((simp only [List.getElem?_toArray, List.getElem?_cons_succ, List.getElem?_cons_zero]); rfl)
      case hs4_17 => kernel_rfl
      case hf4_17 => kernel_rfl
      case hr4_17 => kernel_rfl
      case hy4_17 => exact Or.inl ⟨by rfl, by (intro wq hSw; (try dsimp only at hSw); go_simp; (try with_reducible rfl))⟩
      try simp only [Act.put, List.setIfInBounds_toArray, List.set_cons_zero, List.set_cons_succ]
      refine wpAnyH_ready (rs := [3]) (by kernel_rfl) (by simp) ?_
      refine AllReadyH.cons (o := ?o3_18) ?hi3_18 (fun K hK => ?hh3_18) AllReadyH.nil
      case hi3_18 => ((simp only [List.getElem?_toArray, List.getElem?_cons_succ, List.getElem?_cons_zero]); rfl)
      go_simp
      (go_at_call 28; refine (lawstoGoal x.t0 x.t1 x.t2 x.t3 x.t4 x.tol x.most _).mono ?_; rintro e wg ⟨rfl, hbg⟩; have HBG := hide (hHeld.trans (hbg.mono hHeld.size)); clear hbg)
      (try dsimp only)
      refine hK.out _ _ (HBG.out) (fun hHeld2 => ?_)
      clear hK K hHeld
      have hHeld := hHeld2
      clear hHeld2
      try simp only [Act.put, List.setIfInBounds_toArray, List.set_cons_zero, List.set_cons_succ]
      refine wpAnyH_ready (rs := [5]) (by kernel_rfl) (by simp) ?_
      refine AllReadyH.cons (o := ?o5_19) ?hi5_19 (fun K hK => ?hh5_19) AllReadyH.nil
      case hi5_19 => ((simp only [List.getElem?_toArray, List.getElem?_cons_succ, List.getElem?_cons_zero]); rfl)
      go_simp
      (go_at_call 17; refine (HIC.out wg d.Az d.cz d.Aw d.cw d.Ab d.cb d.A d.c (HLV.out.below HBG.out).m0.md ((HLV.out.below HBG.out).r1.at_ (fun _ => rfl)) HSZ.out HRN.out).mono ?_; rintro e w13 ⟨rfl, hbR⟩; have HBR := hide (HBG.out.trans (hbR.mono HBG.out.size)); clear hbR)
      (try dsimp only)
      refine hK.out _ _ (HBR.out) (fun hHeld2 => ?_)
      clear hK K hHeld
      have hHeld := hHeld2
      clear hHeld2
      try simp only [Act.put, List.setIfInBounds_toArray, List.set_cons_zero, List.set_cons_succ]
      refine wpAnyH_take (i := 6) (oi := ?o6_20) (v := ?v6_20) ?hi6_20 ?hs6_20 ?hf6_20 ?hr6_20 (fun _ _ _ h => h) ?hy6_20 (by assumption) ?hh6_20
      case hi6_20 => ((simp only [List.getElem?_toArray, List.getElem?_cons_succ, List.getElem?_cons_zero]); rfl)
      case hs6_20 => kernel_rfl
      case hf6_20 => kernel_rfl
      case hr6_20 => kernel_rfl
      case hy6_20 => exact Or.inl ⟨by rfl, by (intro wq hSw; (try dsimp only at hSw); go_simp; (try with_reducible rfl))⟩
      try simp only [Act.put, List.setIfInBounds_toArray, List.set_cons_zero, List.set_cons_succ]
      refine wpAnyH_take (i := 7) (oi := ?o7_21) (v := ?v7_21) ?hi7_21 ?hs7_21 ?hf7_21 ?hr7_21 (fun _ _ _ h => h) ?hy7_21 (by assumption) ?hh7_21
      case hi7_21 => ((simp only [List.getElem?_toArray, List.getElem?_cons_succ, List.getElem?_cons_zero]); rfl)
      case hs7_21 => kernel_rfl
      case hf7_21 => kernel_rfl
      case hr7_21 => kernel_rfl
      case hy7_21 => exact Or.inl ⟨by rfl, by (intro wq hSw; (try dsimp only at hSw); go_simp; (try with_reducible rfl))⟩
      try simp only [Act.put, List.setIfInBounds_toArray, List.set_cons_zero, List.set_cons_succ]
      refine wpAnyH_take (i := 8) (oi := ?o8_22) (v := ?v8_22) ?hi8_22 ?hs8_22 ?hf8_22 ?hr8_22 (fun _ _ _ h => h) ?hy8_22 (by assumption) ?hh8_22
      case hi8_22 => ((simp only [List.getElem?_toArray, List.getElem?_cons_succ, List.getElem?_cons_zero]); rfl)
      case hs8_22 => kernel_rfl
      case hf8_22 => kernel_rfl
      case hr8_22 => kernel_rfl
      case hy8_22 => exact Or.inl ⟨by rfl, by (intro wq hSw; (try dsimp only at hSw); go_simp; (try with_reducible rfl))⟩
      try simp only [Act.put, List.setIfInBounds_toArray, List.set_cons_zero, List.set_cons_succ]
      refine wpAnyH_take (i := 9) (oi := ?o9_23) (v := ?v9_23) ?hi9_23 ?hs9_23 ?hf9_23 ?hr9_23 (fun _ _ _ h => h) ?hy9_23 (by assumption) ?hh9_23
      case hi9_23 => ((simp only [List.getElem?_toArray, List.getElem?_cons_succ, List.getElem?_cons_zero]); rfl)
      case hs9_23 => kernel_rfl
      case hf9_23 => kernel_rfl
      case hr9_23 => kernel_rfl
      case hy9_23 => exact Or.inl ⟨by rfl, by (intro wq hSw; (try dsimp only at hSw); go_simp; (try with_reducible rfl))⟩
      try simp only [Act.put, List.setIfInBounds_toArray, List.set_cons_zero, List.set_cons_succ]
      refine wpAnyH_take (i := 10) (oi := ?o10_24) (v := ?v10_24) ?hi10_24 ?hs10_24 ?hf10_24 ?hr10_24 (fun _ _ _ h => h) ?hy10_24 (by assumption) ?hh10_24
      case hi10_24 => ((simp only [List.getElem?_toArray, List.getElem?_cons_succ, List.getElem?_cons_zero]); rfl)
      case hs10_24 => kernel_rfl
      case hf10_24 => kernel_rfl
      case hr10_24 => kernel_rfl
      case hy10_24 => exact Or.inl ⟨by rfl, by (intro wq hSw; (try dsimp only at hSw); go_simp; (try with_reducible rfl))⟩
      try simp only [Act.put, List.setIfInBounds_toArray, List.set_cons_zero, List.set_cons_succ]
      refine wpAnyH_done (by kernel_rfl) ?_ _
      refine NoPanic.normal ?_
      clear hHeld HBG D0 D1 D2 D3 D4 QC0 QC1 QC2 QP0 QP1 QG0 QG1 QG2 QG3 QG4 QG5 QG6
      have HL13 := hide (HLV.out.below HBR.out)
      clear HLV HBR
      obtain ⟨w14, rfl⟩ : ∃ w14, w14 = w13 := ⟨_, rfl⟩
      have HL14 := hide HL13.out
      clear HL13
      go_upto_region 14 with fail
      have D0 : ∀ W, Below w14.heap.size w14 W → W.cell? ⟨d.b0, 0, none⟩ = some (.slice d.Az x.zs.length d.cz) := fun W hb => (HL14.out.below hb).cells.1
      have D1 : ∀ W, Below w14.heap.size w14 W → W.cell? ⟨d.b0, 1, none⟩ = some (.slice d.Aw x.ws.length d.cw) := fun W hb => (HL14.out.below hb).cells.2.1
      have D2 : ∀ W, Below w14.heap.size w14 W → W.cell? ⟨d.b0, 2, none⟩ = some (.slice d.Ab x.bs.length d.cb) := fun W hb => (HL14.out.below hb).cells.2.2.1
      have D3 : ∀ W, Below w14.heap.size w14 W → W.cell? ⟨d.b1, 0, none⟩ = some (.string x.nm) := fun W hb => (HL14.out.below hb).cells.2.2.2.1
      have D4 : ∀ W, Below w14.heap.size w14 W → W.cell? ⟨d.b1, 1, none⟩ = some (.slice d.A x.rs.length d.c) := fun W hb => (HL14.out.below hb).cells.2.2.2.2
      have QC0 : ∀ W, Below w14.heap.size w14 W → W.cell? ⟨w.heap.size, 0, none⟩ = some (.slice x.Az x.zs.length x.cz) := fun W hb => C0 W (HL14.out.below hb).bel
      have QC1 : ∀ W, Below w14.heap.size w14 W → W.cell? ⟨w.heap.size, 1, none⟩ = some (.slice x.Aw x.ws.length x.cw) := fun W hb => C1 W (HL14.out.below hb).bel
      have QC2 : ∀ W, Below w14.heap.size w14 W → W.cell? ⟨w.heap.size, 2, none⟩ = some (.slice x.Ab x.bs.length x.cb) := fun W hb => C2 W (HL14.out.below hb).bel
      have QP0 : ∀ W, Below w14.heap.size w14 W → W.cell? ⟨w.heap.size + 1, 0, none⟩ = some (.string x.nm) := fun W hb => P0 W (HL14.out.below hb).bel
      have QP1 : ∀ W, Below w14.heap.size w14 W → W.cell? ⟨w.heap.size + 1, 1, none⟩ = some (.slice x.A x.rs.length x.c) := fun W hb => P1 W (HL14.out.below hb).bel
      refine wp_region_noPanic ?_
      refine wp_region_held_drew (S := (fun w' => Below w14.heap.size w14 w')) (by kernel_rfl) ((Below.refl _ _).drew) (fun hHeld => ?_)
      refine wpAnyH_take (i := 0) (oi := ?o0_25) (v := ?v0_25) ?hi0_25 ?hs0_25 ?hf0_25 ?hr0_25 (fun _ _ _ h => h) ?hy0_25 (by assumption) ?hh0_25
      case hi0_25 => ((simp only [List.getElem?_toArray, List.getElem?_cons_zero]); rfl)
      case hs0_25 => kernel_rfl
      case hf0_25 => kernel_rfl
      case hr0_25 => kernel_rfl
      case hy0_25 => exact Or.inl ⟨by rfl, by (intro wq hSw; (try dsimp only at hSw); go_simp; (try with_reducible rfl))⟩
      try simp only [Act.put, List.setIfInBounds_toArray, List.set_cons_zero, List.set_cons_succ]
      refine wpAnyH_take (i := 1) (oi := ?o1_26) (v := ?v1_26) ?hi1_26 ?hs1_26 ?hf1_26 ?hr1_26 (fun _ _ _ h => h) ?hy1_26 (by assumption) ?hh1_26
      case hi1_26 => ((simp only [List.getElem?_toArray, List.getElem?_cons_succ, List.getElem?_cons_zero]); rfl)
      case hs1_26 => kernel_rfl
      case hf1_26 => kernel_rfl
      case hr1_26 => kernel_rfl
      case hy1_26 => exact Or.inl ⟨by rfl, by (intro wq hSw; (try dsimp only at hSw); go_simp; (try with_reducible rfl))⟩
      try simp only [Act.put, List.setIfInBounds_toArray, List.set_cons_zero, List.set_cons_succ]
      refine wpAnyH_ready (rs := [2]) (by kernel_rfl) (by simp) ?_
      refine AllReadyH.cons (o := ?o2_27) ?hi2_27 (fun K hK => ?hh2_27) AllReadyH.nil
      case hi2_27 => ((simp only [List.getElem?_toArray, List.getElem?_cons_succ, List.getElem?_cons_zero]); rfl)
      go_simp
      (go_at_call 26; refine (lawstoModel x.Az x.Aw x.Ab x.cz x.cw x.cb x.zs x.ws x.bs _ (HMA.out _ (HL14.out.below hHeld).bel) HSZ).mono ?_; rintro e wa ⟨Az1, cz1, Aw1, cw1, Ab1, cb1, M1, M2, rfl, hm1, hba⟩; have HM1 := hide hm1; have HBA := hide (hHeld.trans (hba.mono hHeld.size)); clear hm1 hba)
      (try dsimp only)
      refine hK.out _ _ (HBA.out) (fun hHeld2 => ?_)
      clear hK K hHeld
      have hHeld := hHeld2
      clear hHeld2
      try simp only [Act.put, List.setIfInBounds_toArray, List.set_cons_zero, List.set_cons_succ]
      refine wpAnyH_ready (rs := [3]) (by kernel_rfl) (by simp) ?_
      refine AllReadyH.cons (o := ?o3_28) ?hi3_28 (fun K hK => ?hh3_28) AllReadyH.nil
      case hi3_28 => ((simp only [List.getElem?_toArray, List.getElem?_cons_succ, List.getElem?_cons_zero]); rfl)
      go_simp
      (go_at_call 29; refine (lawseqModel_same d.Az d.Aw d.Ab Az1 Aw1 Ab1 d.cz d.cw d.cb cz1 cw1 cb1 x.zs x.ws x.bs wa (HL14.out.below HBA.out).m0.md HM1.out.md HSZ).mono ?_; rintro e w15 ⟨rfl, hb15⟩; have HBB := hide (HBA.out.trans (hb15.mono HBA.out.size)); clear hb15)
      (try dsimp only)
      refine hK.out _ _ (HBB.out) (fun hHeld2 => ?_)
      clear hK K hHeld
      have hHeld := hHeld2
      clear hHeld2
      try simp only [Act.put, List.setIfInBounds_toArray, List.set_cons_zero, List.set_cons_succ]
      refine wpAnyH_take (i := 4) (oi := ?o4_29) (v := ?v4_29) ?hi4_29 ?hs4_29 ?hf4_29 ?hr4_29 (fun _ _ _ h => h) ?hy4_29 (by assumption) ?hh4_29
      case hi4_29 => ((simp only [List.getElem?_toArray, List.getElem?_cons_succ, List.getElem?_cons_zero]); rfl)
      case hs4_29 => kernel_rfl
      case hf4_29 => kernel_rfl
      case hr4_29 => kernel_rfl
      case hy4_29 => exact Or.inl ⟨by rfl, by (intro wq hSw; (try dsimp only at hSw); go_simp; (try with_reducible rfl))⟩
      try simp only [Act.put, List.setIfInBounds_toArray, List.set_cons_zero, List.set_cons_succ]
      refine wpAnyH_done (by kernel_rfl) ?_ _
      refine NoPanic.normal ?_
      clear hHeld D0 D1 D2 D3 D4 QC0 QC1 QC2 QP0 QP1
      have HL15 := hide (HL14.out.below HBB.out)
      clear HM1 HBA HBB HL14
      go_upto_region 16 with fail
      have D0 : ∀ W, Below w15.heap.size w15 W → W.cell? ⟨d.b0, 0, none⟩ = some (.slice d.Az x.zs.length d.cz) := fun W hb => (HL15.out.below hb).cells.1
      have D1 : ∀ W, Below w15.heap.size w15 W → W.cell? ⟨d.b0, 1, none⟩ = some (.slice d.Aw x.ws.length d.cw) := fun W hb => (HL15.out.below hb).cells.2.1
      have D2 : ∀ W, Below w15.heap.size w15 W → W.cell? ⟨d.b0, 2, none⟩ = some (.slice d.Ab x.bs.length d.cb) := fun W hb => (HL15.out.below hb).cells.2.2.1
      have D3 : ∀ W, Below w15.heap.size w15 W → W.cell? ⟨d.b1, 0, none⟩ = some (.string x.nm) := fun W hb => (HL15.out.below hb).cells.2.2.2.1
      have D4 : ∀ W, Below w15.heap.size w15 W → W.cell? ⟨d.b1, 1, none⟩ = some (.slice d.A x.rs.length d.c) := fun W hb => (HL15.out.below hb).cells.2.2.2.2
      have QC0 : ∀ W, Below w15.heap.size w15 W → W.cell? ⟨w.heap.size, 0, none⟩ = some (.slice x.Az x.zs.length x.cz) := fun W hb => C0 W (HL15.out.below hb).bel
      have QC1 : ∀ W, Below w15.heap.size w15 W → W.cell? ⟨w.heap.size, 1, none⟩ = some (.slice x.Aw x.ws.length x.cw) := fun W hb => C1 W (HL15.out.below hb).bel
      have QC2 : ∀ W, Below w15.heap.size w15 W → W.cell? ⟨w.heap.size, 2, none⟩ = some (.slice x.Ab x.bs.length x.cb) := fun W hb => C2 W (HL15.out.below hb).bel
      have QP0 : ∀ W, Below w15.heap.size w15 W → W.cell? ⟨w.heap.size + 1, 0, none⟩ = some (.string x.nm) := fun W hb => P0 W (HL15.out.below hb).bel
      have QP1 : ∀ W, Below w15.heap.size w15 W → W.cell? ⟨w.heap.size + 1, 1, none⟩ = some (.slice x.A x.rs.length x.c) := fun W hb => P1 W (HL15.out.below hb).bel
      refine wp_region_noPanic ?_
      refine wp_region_held_drew (S := (fun w' => Below w15.heap.size w15 w')) (by kernel_rfl) ((Below.refl _ _).drew) (fun hHeld => ?_)
      refine wpAnyH_take (i := 0) (oi := ?o0_30) (v := ?v0_30) ?hi0_30 ?hs0_30 ?hf0_30 ?hr0_30 (fun _ _ _ h => h) ?hy0_30 (by assumption) ?hh0_30
      case hi0_30 => ((simp only [List.getElem?_toArray, List.getElem?_cons_zero]); rfl)
      case hs0_30 => kernel_rfl
      case hf0_30 => kernel_rfl
      case hr0_30 => kernel_rfl
      case hy0_30 => exact Or.inl ⟨by rfl, by (intro wq hSw; (try dsimp only at hSw); go_simp; (try with_reducible rfl))⟩
      try simp only [Act.put, List.setIfInBounds_toArray, List.set_cons_zero, List.set_cons_succ]
      refine wpAnyH_take (i := 1) (oi := ?o1_31) (v := ?v1_31) ?hi1_31 ?hs1_31 ?hf1_31 ?hr1_31 (fun _ _ _ h => h) ?hy1_31 (by assumption) ?hh1_31
      case hi1_31 => ((simp only [List.getElem?_toArray, List.getElem?_cons_succ, List.getElem?_cons_zero]); rfl)
      case hs1_31 => kernel_rfl
      case hf1_31 => kernel_rfl
      case hr1_31 => kernel_rfl
      case hy1_31 => exact Or.inl ⟨by rfl, by (intro wq hSw; (try dsimp only at hSw); go_simp; (try with_reducible rfl))⟩
      try simp only [Act.put, List.setIfInBounds_toArray, List.set_cons_zero, List.set_cons_succ]
      refine wpAnyH_ready (rs := [2]) (by kernel_rfl) (by simp) ?_
      refine AllReadyH.cons (o := ?o2_32) ?hi2_32 (fun K hK => ?hh2_32) AllReadyH.nil
      case hi2_32 => ((simp only [List.getElem?_toArray, List.getElem?_cons_succ, List.getElem?_cons_zero]); rfl)
      go_simp
      (go_at_call 27; refine (lawstoProfile_o x.nm x.A x.c x.rs _ (HSL.out _ (HL15.out.below hHeld).bel) HRN.out).mono ?_; rintro e wa ⟨bp1, rfl, hr1, hba⟩; have HR1 := hide hr1; have HBA := hide (hHeld.trans (hba.mono hHeld.size)); clear hr1 hba)
      (try dsimp only)
      refine hK.out _ _ (HBA.out) (fun hHeld2 => ?_)
      clear hK K hHeld
      have hHeld := hHeld2
      clear hHeld2
      try simp only [Act.put, List.setIfInBounds_toArray, List.set_cons_zero, List.set_cons_succ]
      refine wpAnyH_ready (rs := [3]) (by kernel_rfl) (by simp) ?_
      refine AllReadyH.cons (o := ?o3_33) ?hi3_33 (fun K hK => ?hh3_33) AllReadyH.nil
      case hi3_33 => ((simp only [List.getElem?_toArray, List.getElem?_cons_succ, List.getElem?_cons_zero]); rfl)
      go_simp
      (go_at_call 30; refine (lawseqProfile_same x.nm d.A (some ⟨bp1, 0, none⟩) d.c x.rs.length x.rs wa ((HL15.out.below HBA.out).r1.at_ (fun _ => rfl)) (HR1.out.at_ (fun _ => rfl)) HRN.out).mono ?_; rintro e w16 ⟨rfl, hb16⟩; have HBB := hide (HBA.out.trans (hb16.mono HBA.out.size)); clear hb16)
      (try dsimp only)
      refine hK.out _ _ (HBB.out) (fun hHeld2 => ?_)
      clear hK K hHeld
      have hHeld := hHeld2
      clear hHeld2
      try simp only [Act.put, List.setIfInBounds_toArray, List.set_cons_zero, List.set_cons_succ]
      refine wpAnyH_take (i := 4) (oi := ?o4_34) (v := ?v4_34) ?hi4_34 ?hs4_34 ?hf4_34 ?hr4_34 (fun _ _ _ h => h) ?hy4_34 (by assumption) ?hh4_34
      case hi4_34 => ((simp only [List.getElem?_toArray, List.getElem?_cons_succ, List.getElem?_cons_zero]); rfl)
      case hs4_34 => kernel_rfl
      case hf4_34 => kernel_rfl
      case hr4_34 => kernel_rfl
      case hy4_34 => exact Or.inl ⟨by rfl, by (intro wq hSw; (try dsimp only at hSw); go_simp; (try with_reducible rfl))⟩
      try simp only [Act.put, List.setIfInBounds_toArray, List.set_cons_zero, List.set_cons_succ]
      refine wpAnyH_done (by kernel_rfl) ?_ _
      refine NoPanic.normal ?_
      clear hHeld D0 D1 D2 D3 D4 QC0 QC1 QC2 QP0 QP1
      have HL16 := hide (HL15.out.below HBB.out)
      clear HR1 HBA HBB HL15
      go_wp2_with fail
      go_ret
      exact ⟨rfl, HBW.out.trans (HL16.out.bel.mono HBW.out.size)⟩
    · go_wp2_with fail
      go_ret
      exact ⟨rfl, HBW.out.trans (HB5.out.mono HBW.out.size)⟩
  · go_wp2_with fail
    go_ret
    exact ⟨rfl, HBW.out.trans (HB4.out.mono HBW.out.size)⟩
end Go.Proofs.YtnefgafmnpblpaaGreat
