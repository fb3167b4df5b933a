/- Contracts: the program's BlockedBy. -/
import Derived.Test.YtnefgafmnpblpaaGreatPnI9
import Derived.Test.YtnefgafmnpblpaaGreatPnFa
namespace Go.Proofs.YtnefgafmnpblpaaGreat
open Go.RowKit Pn

def three (p : Int × Int × Int) : Value := .tuple #[.int .i64 p.1, .int .i64 p.2.1, .int .i64 p.2.2]
theorem ret_threeP {a b c : Int} {p : Int × Int × Int} (h : p = (a, b, c)) : Ending.returned (.tuple #[.int .i64 a, .int .i64 b, .int .i64 c]) = .returned (three p) := by subst h; rfl
set_option maxRecDepth 100000 in
set_option maxHeartbeats 1000000 in
theorem implBlockedBy_x {x : Cx} {w : World} (HI : Hid (x.In w)) (hcap : x.rs.length ≤ x.c) :
    Calls Tryz.prog 18 #[.agg #[.slice x.Az x.zs.length x.cz, .slice x.Aw x.ws.length x.cw, .slice x.Ab x.bs.length x.cb], .agg #[.string x.nm, .slice x.A x.rs.length x.c], .agg #[.int .i64 x.t0, .int .i64 x.t1, .int .i64 x.t2, .int .i64 x.t3, .int .i64 x.t4, .int .i64 x.tol, .int .i64 x.most]] w fun e w' => e = .returned (three (blkP x)) ∧ Below w.heap.size w w' := by
  have HB := hide (Bx.new HI.out)
  have HCAP := hide hcap
  clear hcap
  go_enter Tryz.func18, Tryz.ntmps18
  go_wp2_with fail
  generalize (((w.alloc (.cells #[.slice x.Az x.zs.length x.cz, .slice x.Aw x.ws.length x.cw, .slice x.Ab x.bs.length x.cb] 27)).alloc (.cells #[.string x.nm, .slice x.A x.rs.length x.c] 30)).alloc (.cells #[.int .i64 x.t0, .int .i64 x.t1, .int .i64 x.t2, .int .i64 x.t3, .int .i64 x.t4, .int .i64 x.tol, .int .i64 x.most] 34)) = w3 at *
  have HI3 := hide (HB.out.in_ HI.out)
  refine (implaimed x.Az x.Aw x.Ab x.cz x.cw x.cb x.zs x.ws x.bs x.nm x.A x.c x.rs x.t0 x.t1 x.t2 x.t3 x.t4 x.tol x.most w3 HI3.out.md (hide HI3.out.sz) HI3.out.rg HI3.out.rn HI3.out.nm).mono ?_
  rintro e w4 ⟨rfl, hb4⟩
  have HB4 := hide (HB.out.below hb4)
  have HI4 := hide (HB4.out.in_ HI.out)
  clear hb4 HB HI3
  obtain ⟨code, hc⟩ : ∃ code, code = aimB x.zs x.ws x.bs x.nm x.rs [x.t0, x.t1, x.t2, x.t3, x.t4] x.tol x.most := ⟨_, rfl⟩
  have HC := hide (show aimB x.zs x.ws x.bs x.nm x.rs x.t x.tol x.most = code from hc.symm)
  rw [← hc]
  clear hc
  by_cases h0 : code = 0
  · subst h0
    obtain ⟨ha, hgo⟩ := aim_ok HC.out
    have HA := hide ha
    have HGO := hide hgo
    have E := hide (show blkP x = ((blkF x.t x.tol (x.raw []) (x.raw x.lim) 5 0).1, (blkF x.t x.tol (x.raw []) (x.raw x.lim) 5 0).2, 0) from by unfold blkP; rw [if_pos HC.out])
    have hlb := Pn.lim_bd x.zs x.rs hgo.most.1
    have HLB := hide hlb
    have HPL := hide (show Pre x.lim x.lim from ⟨Nat.le_refl _, fun k _ => ⟨(hlb k).1, Int.le_refl _⟩⟩)
    have HWL := hide (turn_ok ha.r ha.z.len1 (Pre.fit HPL.out)).walls
    have HCR := hide (fun W (hb : Below w4.heap.size w4 W) => implrawPartials x.Az x.Aw x.Ab x.cz x.cw x.cb x.zs x.ws x.bs x.nm x.A x.c x.rs W ((HI4.out.below hb).md) ((HI4.out.below hb).rg) HA.out.r.len32 HA.out.r.len1 HCAP.out (hide HA.out.m) (hide HA.out.z) (hide HA.out.r.walls))
    have HCL := hide (fun W (hb : Below w4.heap.size w4 W) => impllimits x.Az x.Aw x.Ab x.cz x.cw x.cb x.zs x.ws x.bs x.nm x.A x.c x.rs x.t0 x.t1 x.t2 x.t3 x.t4 x.tol x.most W ((HI4.out.below hb).md) ((HI4.out.below hb).rg) HI4.out.nm HA)
    have HCT := hide (fun W (hb : Below w4.heap.size w4 W) (As : Option Addr) (cs : Nat) (hs : SlAt encI 1 W As x.lim) => implturned x.nm x.A x.c x.rs x.Az As x.cz cs x.zs x.lim W ((HI4.out.below hb).rg) ((HI4.out.below hb).md.z) hs HA.out.r.len32 HA.out.r.len1 (hide HA.out.z) (by rw [x.lim_length]; omega) (by rw [x.lim_length]; have := HA.out.z.len8; omega) (hide (fun k => by have := HLB.out k; unfold Cx.lim; omega)) (hide HA.out.r.inner))
    have HPC := hide (fun W (hb : Below w4.heap.size w4 W) => (HB4.out.below hb).cells)
    have P0 : ∀ W, Below w4.heap.size w4 W → W.cell? ⟨w.heap.size, 0, none⟩ = some (.slice x.Az x.zs.length x.cz) := fun W hb => (HPC.out W hb).1
    have P1 : ∀ W, Below w4.heap.size w4 W → W.cell? ⟨w.heap.size, 1, none⟩ = some (.slice x.Aw x.ws.length x.cw) := fun W hb => (HPC.out W hb).2.1
    have P2 : ∀ W, Below w4.heap.size w4 W → W.cell? ⟨w.heap.size, 2, none⟩ = some (.slice x.Ab x.bs.length x.cb) := fun W hb => (HPC.out W hb).2.2.1
    have P3 : ∀ W, Below w4.heap.size w4 W → W.cell? ⟨w.heap.size + 1, 0, none⟩ = some (.string x.nm) := fun W hb => (HPC.out W hb).2.2.2.1
    have P4 : ∀ W, Below w4.heap.size w4 W → W.cell? ⟨w.heap.size + 1, 1, none⟩ = some (.slice x.A x.rs.length x.c) := fun W hb => (HPC.out W hb).2.2.2.2.1
    have P5 : ∀ W, Below w4.heap.size w4 W → W.cell? ⟨w.heap.size + 1 + 1, 0, none⟩ = some (.int .i64 x.t0) := fun W hb => (HPC.out W hb).2.2.2.2.2.1
    have P6 : ∀ W, Below w4.heap.size w4 W → W.cell? ⟨w.heap.size + 1 + 1, 1, none⟩ = some (.int .i64 x.t1) := fun W hb => (HPC.out W hb).2.2.2.2.2.2.1
    have P7 : ∀ W, Below w4.heap.size w4 W → W.cell? ⟨w.heap.size + 1 + 1, 2, none⟩ = some (.int .i64 x.t2) := fun W hb => (HPC.out W hb).2.2.2.2.2.2.2.1
    have P8 : ∀ W, Below w4.heap.size w4 W → W.cell? ⟨w.heap.size + 1 + 1, 3, none⟩ = some (.int .i64 x.t3) := fun W hb => (HPC.out W hb).2.2.2.2.2.2.2.2.1
    have P9 : ∀ W, Below w4.heap.size w4 W → W.cell? ⟨w.heap.size + 1 + 1, 4, none⟩ = some (.int .i64 x.t4) := fun W hb => (HPC.out W hb).2.2.2.2.2.2.2.2.2.1
    have P10 : ∀ W, Below w4.heap.size w4 W → W.cell? ⟨w.heap.size + 1 + 1, 5, none⟩ = some (.int .i64 x.tol) := fun W hb => (HPC.out W hb).2.2.2.2.2.2.2.2.2.2.1
    have P11 : ∀ W, Below w4.heap.size w4 W → W.cell? ⟨w.heap.size + 1 + 1, 6, none⟩ = some (.int .i64 x.most) := fun W hb => (HPC.out W hb).2.2.2.2.2.2.2.2.2.2.2
    clear ha hgo hlb
    go_wp2_with fail
    refine wp_region_noPanic ?_
    refine wp_region_held_drew (S := (fun w' => Below w4.heap.size w4 w')) (by kernel_rfl) ((Below.refl _ _).drew) (fun hHeld => ?_)
    refine wpAnyH_take (i := 0) (oi := ?o0_1) (v := ?v0_1) ?hi0_1 ?hs0_1 ?hf0_1 ?hr0_1 (fun _ _ _ h => h) ?hy0_1 (by assumption) ?hh0_1
    case hi0_1 => ((simp only [List.getElem?_toArray, List.getElem?_cons_zero]); rfl)
    case hs0_1 => kernel_rfl
    case hf0_1 => kernel_rfl
    case hr0_1 => kernel_rfl
    case hy0_1 => exact Or.inl ⟨by rfl, by (intro wq hSw; (try dsimp only at hSw); go_simp; (try with_reducible rfl))⟩
    try simp only [Act.put, List.setIfInBounds_toArray, List.set_cons_zero, List.set_cons_succ]
    refine wpAnyH_take (i := 1) (oi := ?o1_2) (v := ?v1_2) ?hi1_2 ?hs1_2 ?hf1_2 ?hr1_2 (fun _ _ _ h => h) ?hy1_2 (by assumption) ?hh1_2
    case hi1_2 => ((simp only [List.getElem?_toArray, List.getElem?_cons_succ, List.getElem?_cons_zero]); rfl)
    case hs1_2 => kernel_rfl
    case hf1_2 => kernel_rfl
    case hr1_2 => kernel_rfl
    case hy1_2 => exact Or.inl ⟨by rfl, by (intro wq hSw; (try dsimp only at hSw); go_simp; (try with_reducible rfl))⟩
    try simp only [Act.put, List.setIfInBounds_toArray, List.set_cons_zero, List.set_cons_succ]
    refine wpAnyH_take (i := 3) (oi := ?o3_3) (v := ?v3_3) ?hi3_3 ?hs3_3 ?hf3_3 ?hr3_3 (fun _ _ _ h => h) ?hy3_3 (by assumption) ?hh3_3
    case hi3_3 => ((simp only [List.getElem?_toArray, List.getElem?_cons_succ, List.getElem?_cons_zero]); rfl)
    case hs3_3 => kernel_rfl
    case hf3_3 => kernel_rfl
    case hr3_3 => kernel_rfl
    case hy3_3 => exact Or.inl ⟨by rfl, by (intro wq hSw; (try dsimp only at hSw); go_simp; (try with_reducible rfl))⟩
    try simp only [Act.put, List.setIfInBounds_toArray, List.set_cons_zero, List.set_cons_succ]
    refine wpAnyH_take (i := 4) (oi := ?o4_4) (v := ?v4_4) ?hi4_4 ?hs4_4 ?hf4_4 ?hr4_4 (fun _ _ _ h => h) ?hy4_4 (by assumption) ?hh4_4
    case hi4_4 => ((simp only [List.getElem?_toArray, List.getElem?_cons_succ, List.getElem?_cons_zero]); rfl)
    case hs4_4 => kernel_rfl
    case hf4_4 => kernel_rfl
    case hr4_4 => kernel_rfl
    case hy4_4 => exact Or.inl ⟨by rfl, by (intro wq hSw; (try dsimp only at hSw); go_simp; (try with_reducible rfl))⟩
    try simp only [Act.put, List.setIfInBounds_toArray, List.set_cons_zero, List.set_cons_succ]
    refine wpAnyH_take (i := 5) (oi := ?o5_5) (v := ?v5_5) ?hi5_5 ?hs5_5 ?hf5_5 ?hr5_5 (fun _ _ _ h => h) ?hy5_5 (by assumption) ?hh5_5
    case hi5_5 => ((simp only [List.getElem?_toArray, List.getElem?_cons_succ, List.getElem?_cons_zero]); rfl)
    case hs5_5 => kernel_rfl
    case hf5_5 => kernel_rfl
    case hr5_5 => kernel_rfl
    case hy5_5 => exact Or.inl ⟨by rfl, by (intro wq hSw; (try dsimp only at hSw); go_simp; (try with_reducible rfl))⟩
    try simp only [Act.put, List.setIfInBounds_toArray, List.set_cons_zero, List.set_cons_succ]
    refine wpAnyH_take (i := 6) (oi := ?o6_6) (v := ?v6_6) ?hi6_6 ?hs6_6 ?hf6_6 ?hr6_6 (fun _ _ _ h => h) ?hy6_6 (by assumption) ?hh6_6
    case hi6_6 => ((simp only [List.getElem?_toArray, List.getElem?_cons_succ, List.getElem?_cons_zero]); rfl)
    case hs6_6 => kernel_rfl
    case hf6_6 => kernel_rfl
    case hr6_6 => kernel_rfl
    case hy6_6 => exact Or.inl ⟨by rfl, by (intro wq hSw; (try dsimp only at hSw); go_simp; (try with_reducible rfl))⟩
    try simp only [Act.put, List.setIfInBounds_toArray, List.set_cons_zero, List.set_cons_succ]
    refine wpAnyH_take (i := 7) (oi := ?o7_7) (v := ?v7_7) ?hi7_7 ?hs7_7 ?hf7_7 ?hr7_7 (fun _ _ _ h => h) ?hy7_7 (by assumption) ?hh7_7
    case hi7_7 => ((simp only [List.getElem?_toArray, List.getElem?_cons_succ, List.getElem?_cons_zero]); rfl)
    case hs7_7 => kernel_rfl
    case hf7_7 => kernel_rfl
    case hr7_7 => kernel_rfl
    case hy7_7 => exact Or.inl ⟨by rfl, by (intro wq hSw; (try dsimp only at hSw); go_simp; (try with_reducible rfl))⟩
    try simp only [Act.put, List.setIfInBounds_toArray, List.set_cons_zero, List.set_cons_succ]
    refine wpAnyH_take (i := 8) (oi := ?o8_8) (v := ?v8_8) ?hi8_8 ?hs8_8 ?hf8_8 ?hr8_8 (fun _ _ _ h => h) ?hy8_8 (by assumption) ?hh8_8
    case hi8_8 => ((simp only [List.getElem?_toArray, List.getElem?_cons_succ, List.getElem?_cons_zero]); rfl)
    case hs8_8 => kernel_rfl
    case hf8_8 => kernel_rfl
    case hr8_8 => kernel_rfl
    case hy8_8 => exact Or.inl ⟨by rfl, by (intro wq hSw; (try dsimp only at hSw); go_simp; (try with_reducible rfl))⟩
    try simp only [Act.put, List.setIfInBounds_toArray, List.set_cons_zero, List.set_cons_succ]
    refine wpAnyH_take (i := 9) (oi := ?o9_9) (v := ?v9_9) ?hi9_9 ?hs9_9 ?hf9_9 ?hr9_9 (fun _ _ _ h => h) ?hy9_9 (by assumption) ?hh9_9
    case hi9_9 => ((simp only [List.getElem?_toArray, List.getElem?_cons_succ, List.getElem?_cons_zero]); rfl)
    case hs9_9 => kernel_rfl
    case hf9_9 => kernel_rfl
    case hr9_9 => kernel_rfl
    case hy9_9 => exact Or.inl ⟨by rfl, by (intro wq hSw; (try dsimp only at hSw); go_simp; (try with_reducible rfl))⟩
    try simp only [Act.put, List.setIfInBounds_toArray, List.set_cons_zero, List.set_cons_succ]
    refine wpAnyH_ready (rs := [2]) (by kernel_rfl) (by simp) ?_
    refine AllReadyH.cons (o := ?o2_10) ?hi2_10 (fun K hK => ?hh2_10) AllReadyH.nil
    case hi2_10 => ((simp only [List.getElem?_toArray, List.getElem?_cons_succ, List.getElem?_cons_zero]); rfl)
    go_simp
    (go_at_call 56; refine (HCR.out _ hHeld).mono ?_; rintro e w5 ⟨A5, c5, rfl, ho5, hb5⟩; have HB5 := hide (hHeld.trans (hb5.mono hHeld.size)); have HO5 := hide ho5; clear ho5 hb5)
    (try dsimp only)
    refine hK.out _ _ (HB5.out) (fun hHeld2 => ?_)
    clear hK K hHeld
    have hHeld := hHeld2
    clear hHeld2
    try simp only [Act.put, List.setIfInBounds_toArray, List.set_cons_zero, List.set_cons_succ]
    refine wpAnyH_ready (rs := [10]) (by kernel_rfl) (by simp) ?_
    refine AllReadyH.cons (o := ?o10_11) ?hi10_11 (fun K hK => ?hh10_11) AllReadyH.nil
    case hi10_11 => ((simp only [List.getElem?_toArray, List.getElem?_cons_succ, List.getElem?_cons_zero]); rfl)
    go_simp
    (go_at_call 58; refine (HCL.out _ hHeld).mono ?_; rintro e w6 ⟨A6, c6, rfl, ho6, hb6⟩; have HB6 := hide (hHeld.trans (hb6.mono hHeld.size)); have HO6 := hide ho6; have HO5b := hide (HO5.out.below hb6); clear ho6 hb6)
    (try dsimp only)
    refine hK.out _ _ (HB6.out) (fun hHeld2 => ?_)
    clear hK K hHeld
    have hHeld := hHeld2
    clear hHeld2
    try simp only [Act.put, List.setIfInBounds_toArray, List.set_cons_zero, List.set_cons_succ]
    refine wpAnyH_ready (rs := [11]) (by kernel_rfl) (by simp) ?_
    refine AllReadyH.cons (o := ?o11_12) ?hi11_12 (fun K hK => ?hh11_12) AllReadyH.nil
    case hi11_12 => ((simp only [List.getElem?_toArray, List.getElem?_cons_succ, List.getElem?_cons_zero]); rfl)
    go_simp
    (go_at_call 57; refine (HCT.out _ hHeld A6 c6 (HO6.out.at_ (fun _ => rfl))).mono ?_; rintro e w7 ⟨A7, c7, rfl, ho7, hb7⟩; have HB7 := hide (hHeld.trans (hb7.mono hHeld.size)); have HO7 := hide ho7; have HO5c := hide (HO5b.out.below hb7); clear ho7 hb7)
    (try dsimp only)
    refine hK.out _ _ (HB7.out) (fun hHeld2 => ?_)
    clear hK K hHeld
    have hHeld := hHeld2
    clear hHeld2
    try simp only [Act.put, List.setIfInBounds_toArray, List.set_cons_zero, List.set_cons_succ]
    refine wpAnyH_ready (rs := [12]) (by kernel_rfl) (by simp) ?_
    refine AllReadyH.cons (o := ?o12_13) ?hi12_13 (fun K hK => ?hh12_13) AllReadyH.nil
    case hi12_13 => ((simp only [List.getElem?_toArray, List.getElem?_cons_succ, List.getElem?_cons_zero]); rfl)
    go_simp
    (go_at_call 56; refine (implrawPartials x.Az x.Aw x.Ab x.cz x.cw x.cb x.zs x.ws x.bs x.nm A7 c7 (turn x.zs x.lim x.rs) w7 ((HI4.out.below hHeld).md) (HO7.out.at_ (fun _ => rfl)) (by rw [turn_length]; exact HA.out.r.len32) (by rw [turn_length]; exact HA.out.r.len1) (ownR_cap HO7.out (by rw [turn_length]; exact HA.out.r.len1)) (hide HA.out.m) (hide (zones_turn HA.out.z)) (hide HWL.out)).mono ?_; rintro e w8 ⟨A8, c8, rfl, ho8, hb8⟩; have HB8 := hide (hHeld.trans (hb8.mono hHeld.size)); have HO8 := hide ho8; have HO5d := hide (HO5c.out.below hb8); clear ho8 hb8)
    (try dsimp only)
    refine hK.out _ _ (HB8.out) (fun hHeld2 => ?_)
    clear hK K hHeld
    have hHeld := hHeld2
    clear hHeld2
    try simp only [Act.put, List.setIfInBounds_toArray, List.set_cons_zero, List.set_cons_succ]
    refine wpAnyH_take (i := 13) (oi := ?o13_14) (v := ?v13_14) ?hi13_14 ?hs13_14 ?hf13_14 ?hr13_14 (fun _ _ _ h => h) ?hy13_14 (by assumption) ?hh13_14
    case hi13_14 => ((simp only [List.getElem?_toArray, List.getElem?_cons_succ, List.getElem?_cons_zero]); rfl)
    case hs13_14 => kernel_rfl
    case hf13_14 => kernel_rfl
    case hr13_14 => kernel_rfl
    case hy13_14 => exact Or.inl ⟨by rfl, by (intro wq hSw; (try dsimp only at hSw); go_simp; (try with_reducible rfl))⟩
    try simp only [Act.put, List.setIfInBounds_toArray, List.set_cons_zero, List.set_cons_succ]
    refine wpAnyH_take (i := 14) (oi := ?o14_15) (v := ?v14_15) ?hi14_15 ?hs14_15 ?hf14_15 ?hr14_15 (fun _ _ _ h => h) ?hy14_15 (by assumption) ?hh14_15
    case hi14_15 => ((simp only [List.getElem?_toArray, List.getElem?_cons_succ, List.getElem?_cons_zero]); rfl)
    case hs14_15 => kernel_rfl
    case hf14_15 => kernel_rfl
    case hr14_15 => kernel_rfl
    case hy14_15 => exact Or.inl ⟨by rfl, by (intro wq hSw; (try dsimp only at hSw); go_simp; (try with_reducible rfl))⟩
    try simp only [Act.put, List.setIfInBounds_toArray, List.set_cons_zero, List.set_cons_succ]
    refine wpAnyH_done (by kernel_rfl) ?_ _
    refine NoPanic.normal ?_
    have HR0 := hide (show SlAt encI 1 w8 A5 (x.raw []) from by
      have e : x.raw [] = rawP x.zs x.ws x.bs x.rs := by unfold Cx.raw rawT; rw [turn_zero fun z => by simp [ig]]
      rw [e]
      exact OwnI.sl HO5d.out (rawP_length _ _ _ _).symm)
    have HR1 := hide (show SlAt encI 1 w8 A8 (x.raw x.lim) from OwnI.sl HO8.out (rawP_length _ _ _ _).symm)
    have HB9 := hide (HB4.out.b.bel.trans (hHeld.mono HB4.out.b.bel.size))
    have HBX := hide (HB4.out.below hHeld)
    have HT := hide (show InF [x.t0, x.t1, x.t2, x.t3, x.t4] from SoundOK.inF HGO.out.t)
    obtain ⟨ht0, ht1⟩ := HGO.out.tol
    have HLN0 := hide (x.raw_length [])
    have HLN1 := hide (x.raw_length x.lim)
    generalize x.raw [] = R0 at *
    generalize x.raw x.lim = R1 at *
    clear hHeld HO5 HO5b HO5c HO5d HO6 HO7 HO8 HB5 HB6 HB7 HB8 P0 P1 P2 P3 P4 P5 P6 P7 P8 P9 P10 P11 HCR HCL HCT HPC HI4 HWL HPL HLB
    go_wp2_with fail
    go_loopw [35, 12, 38, 48] (fun v _ _ _ wr => ∃ k : Nat, v = .int .i64 k ∧ k ≤ 5 ∧ Hid (blkF x.t x.tol R0 R1 5 0 = blkF x.t x.tol R0 R1 (5 - k) k) ∧ Hid (Below w8.heap.size w8 wr)) (fun v _ _ _ _ => 5 - (intOf v).toNat)
    case atStart => exact ⟨0, rfl, by omega, hide rfl, hide (Below.refl _ _)⟩
    case round =>
      obtain ⟨k, rfl, hk, HK, HBW⟩ := hrel
      obtain ⟨w9, rfl⟩ : ∃ w9, w9 = wr := ⟨_, rfl⟩
      by_cases hlt : k < 5
      · have HKU := hide (show blkF x.t x.tol R0 R1 5 0 = if lowK x.t x.tol k (ig R0 k) then ((k : Int) + 1, -1) else if highK x.t x.tol k (ig R1 k) then ((k : Int) + 1, 1) else blkF x.t x.tol R0 R1 (5 - (k + 1)) (k + 1) from by rw [HK.out, show 5 - k = (5 - (k + 1)) + 1 by omega]; rfl)
        have hkl : (k : Int) < 5 := by omega
        have kw1 : IntKind.i64.wrap ((k : Int) + 1) = (k : Int) + 1 := IntWalk.i64_in _ (by omega)
        obtain ⟨b0, o0, hA0, hbl0, hc0⟩ := (HR0.out.below HBW.out).getA (by rw [HLN0.out]; omega)
        subst hA0
        have q0 := hc0 k (by rw [HLN0.out]; omega)
        clear hc0
        have HPW := hide (fun W (hb : Below w9.heap.size w9 W) => ((HBX.out.below HBW.out).below hb).cells)
        have P5 : ∀ W, Below w9.heap.size w9 W → W.cell? ⟨w.heap.size + 1 + 1, 0, none⟩ = some (.int .i64 x.t0) := fun W hb => (HPW.out W hb).2.2.2.2.2.1
        have P6 : ∀ W, Below w9.heap.size w9 W → W.cell? ⟨w.heap.size + 1 + 1, 1, none⟩ = some (.int .i64 x.t1) := fun W hb => (HPW.out W hb).2.2.2.2.2.2.1
        have P7 : ∀ W, Below w9.heap.size w9 W → W.cell? ⟨w.heap.size + 1 + 1, 2, none⟩ = some (.int .i64 x.t2) := fun W hb => (HPW.out W hb).2.2.2.2.2.2.2.1
        have P8 : ∀ W, Below w9.heap.size w9 W → W.cell? ⟨w.heap.size + 1 + 1, 3, none⟩ = some (.int .i64 x.t3) := fun W hb => (HPW.out W hb).2.2.2.2.2.2.2.2.1
        have P9 : ∀ W, Below w9.heap.size w9 W → W.cell? ⟨w.heap.size + 1 + 1, 4, none⟩ = some (.int .i64 x.t4) := fun W hb => (HPW.out W hb).2.2.2.2.2.2.2.2.2.1
        have P10 : ∀ W, Below w9.heap.size w9 W → W.cell? ⟨w.heap.size + 1 + 1, 5, none⟩ = some (.int .i64 x.tol) := fun W hb => (HPW.out W hb).2.2.2.2.2.2.2.2.2.2.1
        have P11 : ∀ W, Below w9.heap.size w9 W → W.cell? ⟨w.heap.size + 1 + 1, 6, none⟩ = some (.int .i64 x.most) := fun W hb => (HPW.out W hb).2.2.2.2.2.2.2.2.2.2.2
        have Y0 : ∀ W, Below w9.heap.size w9 W → W.cell? ⟨b0, o0 + k, none⟩ = some (.int .i64 (ig R0 k)) := fun W hb => (hb.cell (p := ⟨b0, o0 + k, none⟩) hbl0).trans q0
        clear q0
        obtain ⟨f0, hf0⟩ : ∃ f0, f0 = ig R0 k := ⟨_, rfl⟩
        obtain ⟨vl, hvl⟩ : ∃ vl, vl = lowK x.t x.tol k (ig R0 k) := ⟨_, rfl⟩
        have HVL := hide (show lowK [x.t0, x.t1, x.t2, x.t3, x.t4] x.tol k f0 = vl from by rw [hf0]; exact hvl.symm)
        rw [← hvl] at HKU
        rw [← hf0] at Y0
        clear hf0 hvl
        go_upto_region 8 with fail
        refine wp_region_noPanic ?_
        refine wp_region_held_drew (S := (fun w' => Below w9.heap.size w9 w')) (by kernel_rfl) ((Below.refl _ _).drew) (fun hHeld => ?_)
        refine wpAnyH_take (i := 0) (oi := ?o0_16) (v := ?v0_16) ?hi0_16 ?hs0_16 ?hf0_16 ?hr0_16 (fun _ _ _ h => h) ?hy0_16 (by assumption) ?hh0_16
        case hi0_16 => ((simp only [List.getElem?_toArray, List.getElem?_cons_zero]); rfl)
        case hs0_16 => kernel_rfl
        case hf0_16 => kernel_rfl
        case hr0_16 => kernel_rfl
        case hy0_16 => exact Or.inl ⟨by rfl, by (intro wq hSw; (try dsimp only at hSw); go_simp; (try with_reducible rfl))⟩
        try simp only [Act.put, List.setIfInBounds_toArray, List.set_cons_zero, List.set_cons_succ]
        refine wpAnyH_take (i := 1) (oi := ?o1_17) (v := ?v1_17) ?hi1_17 ?hs1_17 ?hf1_17 ?hr1_17 (fun _ _ _ h => h) ?hy1_17 (by assumption) ?hh1_17
        case hi1_17 => ((simp only [List.getElem?_toArray, List.getElem?_cons_succ, List.getElem?_cons_zero]); rfl)
        case hs1_17 => kernel_rfl
        case hf1_17 => kernel_rfl
        case hr1_17 => kernel_rfl
        case hy1_17 => exact Or.inl ⟨by rfl, by (intro wq hSw; (try dsimp only at hSw); go_simp; (try with_reducible rfl))⟩
        try simp only [Act.put, List.setIfInBounds_toArray, List.set_cons_zero, List.set_cons_succ]
        refine wpAnyH_take (i := 2) (oi := ?o2_18) (v := ?v2_18) ?hi2_18 ?hs2_18 ?hf2_18 ?hr2_18 (fun _ _ _ h => h) ?hy2_18 (by assumption) ?hh2_18
        case hi2_18 => ((simp only [List.getElem?_toArray, List.getElem?_cons_succ, List.getElem?_cons_zero]); rfl)
        case hs2_18 => kernel_rfl
        case hf2_18 => kernel_rfl
        case hr2_18 => kernel_rfl
        case hy2_18 => exact Or.inl ⟨by rfl, by (intro wq hSw; (try dsimp only at hSw); go_simp; (try with_reducible rfl))⟩
        try simp only [Act.put, List.setIfInBounds_toArray, List.set_cons_zero, List.set_cons_succ]
        refine wpAnyH_take (i := 3) (oi := ?o3_19) (v := ?v3_19) ?hi3_19 ?hs3_19 ?hf3_19 ?hr3_19 (fun _ _ _ h => h) ?hy3_19 (by assumption) ?hh3_19
        case hi3_19 => ((simp only [List.getElem?_toArray, List.getElem?_cons_succ, List.getElem?_cons_zero]); rfl)
        case hs3_19 => kernel_rfl
        case hf3_19 => kernel_rfl
        case hr3_19 => kernel_rfl
        case hy3_19 => exact Or.inl ⟨by rfl, by (intro wq hSw; (try dsimp only at hSw); go_simp; (try with_reducible rfl))⟩
        try simp only [Act.put, List.setIfInBounds_toArray, List.set_cons_zero, List.set_cons_succ]
        refine wpAnyH_take (i := 4) (oi := ?o4_20) (v := ?v4_20) ?hi4_20 ?hs4_20 ?hf4_20 ?hr4_20 (fun _ _ _ h => h) ?hy4_20 (by assumption) ?hh4_20
        case hi4_20 => ((simp only [List.getElem?_toArray, List.getElem?_cons_succ, List.getElem?_cons_zero]); rfl)
        case hs4_20 => kernel_rfl
        case hf4_20 => kernel_rfl
        case hr4_20 => kernel_rfl
        case hy4_20 => exact Or.inl ⟨by rfl, by (intro wq hSw; (try dsimp only at hSw); go_simp; (try with_reducible rfl))⟩
        try simp only [Act.put, List.setIfInBounds_toArray, List.set_cons_zero, List.set_cons_succ]
        refine wpAnyH_take (i := 5) (oi := ?o5_21) (v := ?v5_21) ?hi5_21 ?hs5_21 ?hf5_21 ?hr5_21 (fun _ _ _ h => h) ?hy5_21 (by assumption) ?hh5_21
        case hi5_21 => ((simp only [List.getElem?_toArray, List.getElem?_cons_succ, List.getElem?_cons_zero]); rfl)
        case hs5_21 => kernel_rfl
        case hf5_21 => kernel_rfl
        case hr5_21 => kernel_rfl
        case hy5_21 => exact Or.inl ⟨by rfl, by (intro wq hSw; (try dsimp only at hSw); go_simp; (try with_reducible rfl))⟩
        try simp only [Act.put, List.setIfInBounds_toArray, List.set_cons_zero, List.set_cons_succ]
        refine wpAnyH_ready (rs := [6]) (by kernel_rfl) (by simp) ?_
        refine AllReadyH.cons (o := ?o6_22) ?hi6_22 (fun K hK => ?hh6_22) AllReadyH.nil
        case hi6_22 => ((simp only [List.getElem?_toArray, List.getElem?_cons_succ, List.getElem?_cons_zero]); rfl)
        go_simp
        (go_at_call 59; refine (implisTooLow_is x.t0 x.t1 x.t2 x.t3 x.t4 x.tol x.most k f0 _ HT hlt ht0 ht1).mono ?_; rintro e w10 ⟨rfl, hb10⟩; rw [HVL.out]; have HB10 := hide (hHeld.trans (hb10.mono hHeld.size)); clear hb10)
        (try dsimp only)
        refine hK.out _ _ (HB10.out) (fun hHeld2 => ?_)
        clear hK K hHeld
        have hHeld := hHeld2
        clear hHeld2
        try simp only [Act.put, List.setIfInBounds_toArray, List.set_cons_zero, List.set_cons_succ]
        refine wpAnyH_take (i := 7) (oi := ?o7_23) (v := ?v7_23) ?hi7_23 ?hs7_23 ?hf7_23 ?hr7_23 (fun _ _ _ h => h) ?hy7_23 (by assumption) ?hh7_23
        case hi7_23 => ((simp only [List.getElem?_toArray, List.getElem?_cons_succ, List.getElem?_cons_zero]); rfl)
        case hs7_23 => kernel_rfl
        case hf7_23 => kernel_rfl
        case hr7_23 => kernel_rfl
        case hy7_23 => exact Or.inl ⟨by rfl, by (intro wq hSw; (try dsimp only at hSw); go_simp; (try with_reducible rfl))⟩
        try simp only [Act.put, List.setIfInBounds_toArray, List.set_cons_zero, List.set_cons_succ]
        refine wpAnyH_done (by kernel_rfl) ?_ _
        refine NoPanic.normal ?_
        have HBE := hide (HBW.out.trans (hHeld.mono HBW.out.size))
        cases vl
        · clear Y0 P5 P6 P7 P8 P9 P10 P11 HB10 HPW hHeld HVL
          have HKV := hide (show blkF x.t x.tol R0 R1 5 0 = if highK x.t x.tol k (ig R1 k) then ((k : Int) + 1, 1) else blkF x.t x.tol R0 R1 (5 - (k + 1)) (k + 1) from by rw [HKU.out]; rfl)
          obtain ⟨b1, o1, hA1, hbl1, hc1⟩ := (HR1.out.below HBE.out).getA (by rw [HLN1.out]; omega)
          subst hA1
          have q1 := hc1 k (by rw [HLN1.out]; omega)
          clear hc1
          have HPW := hide (fun W (hb : Below w10.heap.size w10 W) => ((HBX.out.below HBE.out).below hb).cells)
          have P5 : ∀ W, Below w10.heap.size w10 W → W.cell? ⟨w.heap.size + 1 + 1, 0, none⟩ = some (.int .i64 x.t0) := fun W hb => (HPW.out W hb).2.2.2.2.2.1
          have P6 : ∀ W, Below w10.heap.size w10 W → W.cell? ⟨w.heap.size + 1 + 1, 1, none⟩ = some (.int .i64 x.t1) := fun W hb => (HPW.out W hb).2.2.2.2.2.2.1
          have P7 : ∀ W, Below w10.heap.size w10 W → W.cell? ⟨w.heap.size + 1 + 1, 2, none⟩ = some (.int .i64 x.t2) := fun W hb => (HPW.out W hb).2.2.2.2.2.2.2.1
          have P8 : ∀ W, Below w10.heap.size w10 W → W.cell? ⟨w.heap.size + 1 + 1, 3, none⟩ = some (.int .i64 x.t3) := fun W hb => (HPW.out W hb).2.2.2.2.2.2.2.2.1
          have P9 : ∀ W, Below w10.heap.size w10 W → W.cell? ⟨w.heap.size + 1 + 1, 4, none⟩ = some (.int .i64 x.t4) := fun W hb => (HPW.out W hb).2.2.2.2.2.2.2.2.2.1
          have P10 : ∀ W, Below w10.heap.size w10 W → W.cell? ⟨w.heap.size + 1 + 1, 5, none⟩ = some (.int .i64 x.tol) := fun W hb => (HPW.out W hb).2.2.2.2.2.2.2.2.2.2.1
          have P11 : ∀ W, Below w10.heap.size w10 W → W.cell? ⟨w.heap.size + 1 + 1, 6, none⟩ = some (.int .i64 x.most) := fun W hb => (HPW.out W hb).2.2.2.2.2.2.2.2.2.2.2
          have Y1 : ∀ W, Below w10.heap.size w10 W → W.cell? ⟨b1, o1 + k, none⟩ = some (.int .i64 (ig R1 k)) := fun W hb => (hb.cell (p := ⟨b1, o1 + k, none⟩) hbl1).trans q1
          clear q1
          obtain ⟨f1, hf1⟩ : ∃ f1, f1 = ig R1 k := ⟨_, rfl⟩
          obtain ⟨vh, hvh⟩ : ∃ vh, vh = highK x.t x.tol k (ig R1 k) := ⟨_, rfl⟩
          have HVH := hide (show highK [x.t0, x.t1, x.t2, x.t3, x.t4] x.tol k f1 = vh from by rw [hf1]; exact hvh.symm)
          rw [← hvh] at HKV
          rw [← hf1] at Y1
          clear hf1 hvh HKU
          go_upto_region 10 with fail
          refine wp_region_noPanic ?_
          refine wp_region_held_drew (S := (fun w' => Below w10.heap.size w10 w')) (by kernel_rfl) ((Below.refl _ _).drew) (fun hHeld => ?_)
          refine wpAnyH_take (i := 0) (oi := ?o0_24) (v := ?v0_24) ?hi0_24 ?hs0_24 ?hf0_24 ?hr0_24 (fun _ _ _ h => h) ?hy0_24 (by assumption) ?hh0_24
          case hi0_24 => ((simp only [List.getElem?_toArray, List.getElem?_cons_zero]); rfl)
          case hs0_24 => kernel_rfl
          case hf0_24 => kernel_rfl
          case hr0_24 => kernel_rfl
          case hy0_24 => exact Or.inl ⟨by rfl, by (intro wq hSw; (try dsimp only at hSw); go_simp; (try with_reducible rfl))⟩
          try simp only [Act.put, List.setIfInBounds_toArray, List.set_cons_zero, List.set_cons_succ]
          refine wpAnyH_take (i := 1) (oi := ?o1_25) (v := ?v1_25) ?hi1_25 ?hs1_25 ?hf1_25 ?hr1_25 (fun _ _ _ h => h) ?hy1_25 (by assumption) ?hh1_25
          case hi1_25 => ((simp only [List.getElem?_toArray, List.getElem?_cons_succ, List.getElem?_cons_zero]); rfl)
          case hs1_25 => kernel_rfl
          case hf1_25 => kernel_rfl
          case hr1_25 => kernel_rfl
          case hy1_25 => exact Or.inl ⟨by rfl, by (intro wq hSw; (try dsimp only at hSw); go_simp; (try with_reducible rfl))⟩
          try simp only [Act.put, List.setIfInBounds_toArray, List.set_cons_zero, List.set_cons_succ]
          refine wpAnyH_take (i := 2) (oi := ?o2_26) (v := ?v2_26) ?hi2_26 ?hs2_26 ?hf2_26 ?hr2_26 (fun _ _ _ h => h) ?hy2_26 (by assumption) ?hh2_26
          case hi2_26 => ((simp only [List.getElem?_toArray, List.getElem?_cons_succ, List.getElem?_cons_zero]); rfl)
          case hs2_26 => kernel_rfl
          case hf2_26 => kernel_rfl
          case hr2_26 => kernel_rfl
          case hy2_26 => exact Or.inl ⟨by rfl, by (intro wq hSw; (try dsimp only at hSw); go_simp; (try with_reducible rfl))⟩
          try simp only [Act.put, List.setIfInBounds_toArray, List.set_cons_zero, List.set_cons_succ]
          refine wpAnyH_take (i := 3) (oi := ?o3_27) (v := ?v3_27) ?hi3_27 ?hs3_27 ?hf3_27 ?hr3_27 (fun _ _ _ h => h) ?hy3_27 (by assumption) ?hh3_27
          case hi3_27 => ((simp only [List.getElem?_toArray, List.getElem?_cons_succ, List.getElem?_cons_zero]); rfl)
          case hs3_27 => kernel_rfl
          case hf3_27 => kernel_rfl
          case hr3_27 => kernel_rfl
          case hy3_27 => exact Or.inl ⟨by rfl, by (intro wq hSw; (try dsimp only at hSw); go_simp; (try with_reducible rfl))⟩
          try simp only [Act.put, List.setIfInBounds_toArray, List.set_cons_zero, List.set_cons_succ]
          refine wpAnyH_take (i := 4) (oi := ?o4_28) (v := ?v4_28) ?hi4_28 ?hs4_28 ?hf4_28 ?hr4_28 (fun _ _ _ h => h) ?hy4_28 (by assumption) ?hh4_28
          case hi4_28 => ((simp only [List.getElem?_toArray, List.getElem?_cons_succ, List.getElem?_cons_zero]); rfl)
          case hs4_28 => kernel_rfl
          case hf4_28 => kernel_rfl
          case hr4_28 => kernel_rfl
          case hy4_28 => exact Or.inl ⟨by rfl, by (intro wq hSw; (try dsimp only at hSw); go_simp; (try with_reducible rfl))⟩
          try simp only [Act.put, List.setIfInBounds_toArray, List.set_cons_zero, List.set_cons_succ]
          refine wpAnyH_take (i := 5) (oi := ?o5_29) (v := ?v5_29) ?hi5_29 ?hs5_29 ?hf5_29 ?hr5_29 (fun _ _ _ h => h) ?hy5_29 (by assumption) ?hh5_29
          case hi5_29 => ((simp only [List.getElem?_toArray, List.getElem?_cons_succ, List.getElem?_cons_zero]); rfl)
          case hs5_29 => kernel_rfl
          case hf5_29 => kernel_rfl
          case hr5_29 => kernel_rfl
          case hy5_29 => exact Or.inl ⟨by rfl, by (intro wq hSw; (try dsimp only at hSw); go_simp; (try with_reducible rfl))⟩
          try simp only [Act.put, List.setIfInBounds_toArray, List.set_cons_zero, List.set_cons_succ]
          refine wpAnyH_ready (rs := [6]) (by kernel_rfl) (by simp) ?_
          refine AllReadyH.cons (o := ?o6_30) ?hi6_30 (fun K hK => ?hh6_30) AllReadyH.nil
          case hi6_30 => ((simp only [List.getElem?_toArray, List.getElem?_cons_succ, List.getElem?_cons_zero]); rfl)
          go_simp
          (go_at_call 60; refine (implisTooHigh_is x.t0 x.t1 x.t2 x.t3 x.t4 x.tol x.most k f1 _ HT hlt ht0 ht1).mono ?_; rintro e w11 ⟨rfl, hb11⟩; rw [HVH.out]; have HB11 := hide (hHeld.trans (hb11.mono hHeld.size)); clear hb11)
          (try dsimp only)
          refine hK.out _ _ (HB11.out) (fun hHeld2 => ?_)
          clear hK K hHeld
          have hHeld := hHeld2
          clear hHeld2
          try simp only [Act.put, List.setIfInBounds_toArray, List.set_cons_zero, List.set_cons_succ]
          refine wpAnyH_take (i := 7) (oi := ?o7_31) (v := ?v7_31) ?hi7_31 ?hs7_31 ?hf7_31 ?hr7_31 (fun _ _ _ h => h) ?hy7_31 (by assumption) ?hh7_31
          case hi7_31 => ((simp only [List.getElem?_toArray, List.getElem?_cons_succ, List.getElem?_cons_zero]); rfl)
          case hs7_31 => kernel_rfl
          case hf7_31 => kernel_rfl
          case hr7_31 => kernel_rfl
          case hy7_31 => exact Or.inl ⟨by rfl, by (intro wq hSw; (try dsimp only at hSw); go_simp; (try with_reducible rfl))⟩
          try simp only [Act.put, List.setIfInBounds_toArray, List.set_cons_zero, List.set_cons_succ]
          refine wpAnyH_done (by kernel_rfl) ?_ _
          refine NoPanic.normal ?_
          have HBF := hide (HBE.out.trans (hHeld.mono HBE.out.size))
          cases vh
          · clear Y1 P5 P6 P7 P8 P9 P10 P11 HPW
            have HKN := hide (show blkF x.t x.tol R0 R1 5 0 = blkF x.t x.tol R0 R1 (5 - (k + 1)) (k + 1) from by rw [HKV.out]; rfl)
            go_wp2_with fail
            go_roundw
            case rel => exact ⟨k + 1, by go_num, by omega, HKN, HBF⟩
            case measure => simp [intOf]; omega
          · have E2 := hide (show blkP x = ((k : Int) + 1, 1, 0) from by rw [E.out, HKV.out]; rfl)
            go_wp2_with fail
            refine bodyPost_ret (v := .tuple #[.int .i64 ((k : Int) + 1), .int .i64 1, .int .i64 0]) (by simp [results, Tryz.results18, go_sem]) rfl ⟨ret_threeP E2.out, HB9.out.trans (HBF.out.mono HB9.out.size)⟩
        · have E2 := hide (show blkP x = ((k : Int) + 1, -1, 0) from by rw [E.out, HKU.out]; rfl)
          go_wp2_with fail
          refine bodyPost_ret (v := .tuple #[.int .i64 ((k : Int) + 1), .int .i64 (-1), .int .i64 0]) (by simp [results, Tryz.results18, go_sem]) rfl ⟨ret_threeP E2.out, HB9.out.trans (HBE.out.mono HB9.out.size)⟩
      · obtain rfl : k = 5 := by omega
        have E2 := hide (show blkP x = (0, 0, 0) from by rw [E.out, HK.out]; rfl)
        go_wp2_with fail
        refine bodyPost_ret (v := .tuple #[.int .i64 0, .int .i64 0, .int .i64 0]) (by simp [results, Tryz.results18, go_sem]) rfl ⟨ret_threeP E2.out, HB9.out.trans (HBW.out.mono HB9.out.size)⟩
  · have hne : (code == 0) = false := by simpa using h0
    have hne2 : (code != 0) = true := by simpa using h0
    have E := hide (show blkP x = (0, 0, code) from by unfold blkP; rw [HC.out, if_neg h0])
    have HBL := hide HB4.out.b.bel
    clear h0
    go_wp2_with fail
    refine bodyPost_ret (v := .tuple #[.int .i64 0, .int .i64 0, .int .i64 code]) (by simp [results, Tryz.results18, go_sem]) rfl ⟨ret_threeP E.out, HBL.out⟩
end Go.Proofs.YtnefgafmnpblpaaGreat
