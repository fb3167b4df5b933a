/- Contracts: the program's search for plans: whether steps are too low, or a plan. -/
import Derived.Test.YtnefgafmnpblpaaGreatPnIa
namespace Go.Proofs.YtnefgafmnpblpaaGreat
open Go.RowKit Pn

set_option maxRecDepth 100000 in
set_option maxHeartbeats 1000000 in
theorem tooLow_is {x : Cx} {w0 w : World} {b gl lc gs sc : Nat} {sum : Int} {first : Bool} {ss : List Int} {s : S} (HX : Hid (x.OK w0)) (HS : Hid (CuI x w0 b gl lc gs sc sum first w ss s)) (HST : Hid (StOK x.zs x.rs ss)) :
    Calls Tryz.prog 99 #[.pointer (some ⟨b, 0, none⟩)] w fun e w' => e = .returned (.bool (x.low ss)) ∧ Below w.heap.size w w' := by
  have HPC := hide (fun w' (hb : Below w.heap.size w w') => (HS.out.below hb).all)
  have P2 : ∀ w', Below w.heap.size w w' → w'.cell? ⟨b, 2, none⟩ = some (.slice x.Az x.zs.length x.cz) := fun w' hb => by obtain ⟨k0, k1, k2, _⟩ := HPC.out w' hb; exact k2
  have P3 : ∀ w', Below w.heap.size w w' → w'.cell? ⟨b, 3, none⟩ = some (.slice x.Aw x.ws.length x.cw) := fun w' hb => by obtain ⟨k0, k1, k2, k3, _⟩ := HPC.out w' hb; exact k3
  have P4 : ∀ w', Below w.heap.size w w' → w'.cell? ⟨b, 4, none⟩ = some (.slice x.Ab x.bs.length x.cb) := fun w' hb => by obtain ⟨k0, k1, k2, k3, k4, _⟩ := HPC.out w' hb; exact k4
  have P5 : ∀ w', Below w.heap.size w w' → w'.cell? ⟨b, 5, none⟩ = some (.string x.nm) := fun w' hb => by obtain ⟨k0, k1, k2, k3, k4, k5, _⟩ := HPC.out w' hb; exact k5
  have P6 : ∀ w', Below w.heap.size w w' → w'.cell? ⟨b, 6, none⟩ = some (.slice x.A x.rs.length x.c) := fun w' hb => by obtain ⟨k0, k1, k2, k3, k4, k5, k6, _⟩ := HPC.out w' hb; exact k6
  have P15 : ∀ w', Below w.heap.size w w' → w'.cell? ⟨b, 15, none⟩ = some (.slice (some ⟨gs, 0, none⟩) x.zs.length sc) := fun w' hb => by obtain ⟨k0, k1, k2, k3, k4, k5, k6, k7, k8, k9, k10, k11, k12, k13, k14, k15, _⟩ := HPC.out w' hb; exact k15
  have HCT := hide (fun W (hb : Below w.heap.size w W) => by
    have hW := HX.out.below ((HS.out.below hb).bel)
    have hcon := implturned x.nm x.A x.c x.rs x.Az (some ⟨gs, 0, none⟩) x.cz sc x.zs ss W hW.rg hW.md.z (OwnI.sl (HS.out.below hb).row HST.out.len.symm) hW.ask.r.len32 hW.ask.r.len1 (hide hW.ask.z) (by have := HST.out.len; omega) (by have := HST.out.len; have := hW.ask.z.len8; omega) (hide HST.out.small) (hide hW.ask.r.inner)
    rw [HST.out.len] at hcon
    exact hcon)
  have hl1 : 0 < (turn x.zs ss x.rs).length := by rw [turn_length]; exact HX.out.ask.r.len1
  have hl32 : (turn x.zs ss x.rs).length ≤ 32 := by rw [turn_length]; exact HX.out.ask.r.len32
  have HWL := hide HST.out.ok.walls
  have HZT := hide (zones_turn (st := ss) HX.out.ask.z)
  have HBS := hide HS.out.bel
  go_enter Tryz.func99, Tryz.ntmps99
  go_upto_region 1 with fail
  refine wp_region_noPanic ?_
  refine wp_region_held_drew (S := (fun w' => Below w.heap.size w w')) (by kernel_rfl) ((Below.refl _ _).drew) (fun hHeld => ?_)
  refine wpAnyH_take (i := 0) (oi := ?o0_1) (v := ?v0_1) ?hi0_1 ?hs0_1 ?hf0_1 ?hr0_1 (fun _ _ _ h => h) ?hy0_1 (by assumption) ?hh0_1
  case hi0_1 => ((simp only [List.getElem?_toArray, List.getElem?_cons_zero]); rfl)
  case hs0_1 => kernel_rfl
  case hf0_1 => kernel_rfl
  case hr0_1 => kernel_rfl
  case hy0_1 => exact Or.inl ⟨by rfl, by (intro wq hSw; (try dsimp only at hSw); go_simp; (try with_reducible rfl))⟩
  try simp only [Act.put, List.setIfInBounds_toArray, List.set_cons_zero, List.set_cons_succ]
  refine wpAnyH_take (i := 1) (oi := ?o1_2) (v := ?v1_2) ?hi1_2 ?hs1_2 ?hf1_2 ?hr1_2 (fun _ _ _ h => h) ?hy1_2 (by assumption) ?hh1_2
  case hi1_2 => ((simp only [List.getElem?_toArray, List.getElem?_cons_succ, List.getElem?_cons_zero]); rfl)
  case hs1_2 => kernel_rfl
  case hf1_2 => kernel_rfl
  case hr1_2 => kernel_rfl
  case hy1_2 => exact Or.inl ⟨by rfl, by (intro wq hSw; (try dsimp only at hSw); go_simp; (try with_reducible rfl))⟩
  try simp only [Act.put, List.setIfInBounds_toArray, List.set_cons_zero, List.set_cons_succ]
  refine wpAnyH_take (i := 2) (oi := ?o2_3) (v := ?v2_3) ?hi2_3 ?hs2_3 ?hf2_3 ?hr2_3 (fun _ _ _ h => h) ?hy2_3 (by assumption) ?hh2_3
  case hi2_3 => ((simp only [List.getElem?_toArray, List.getElem?_cons_succ, List.getElem?_cons_zero]); rfl)
  case hs2_3 => kernel_rfl
  case hf2_3 => kernel_rfl
  case hr2_3 => kernel_rfl
  case hy2_3 => exact Or.inl ⟨by rfl, by (intro wq hSw; (try dsimp only at hSw); go_simp; (try with_reducible rfl))⟩
  try simp only [Act.put, List.setIfInBounds_toArray, List.set_cons_zero, List.set_cons_succ]
  refine wpAnyH_take (i := 3) (oi := ?o3_4) (v := ?v3_4) ?hi3_4 ?hs3_4 ?hf3_4 ?hr3_4 (fun _ _ _ h => h) ?hy3_4 (by assumption) ?hh3_4
  case hi3_4 => ((simp only [List.getElem?_toArray, List.getElem?_cons_succ, List.getElem?_cons_zero]); rfl)
  case hs3_4 => kernel_rfl
  case hf3_4 => kernel_rfl
  case hr3_4 => kernel_rfl
  case hy3_4 => exact Or.inl ⟨by rfl, by (intro wq hSw; (try dsimp only at hSw); go_simp; (try with_reducible rfl))⟩
  try simp only [Act.put, List.setIfInBounds_toArray, List.set_cons_zero, List.set_cons_succ]
  refine wpAnyH_take (i := 4) (oi := ?o4_5) (v := ?v4_5) ?hi4_5 ?hs4_5 ?hf4_5 ?hr4_5 (fun _ _ _ h => h) ?hy4_5 (by assumption) ?hh4_5
  case hi4_5 => ((simp only [List.getElem?_toArray, List.getElem?_cons_succ, List.getElem?_cons_zero]); rfl)
  case hs4_5 => kernel_rfl
  case hf4_5 => kernel_rfl
  case hr4_5 => kernel_rfl
  case hy4_5 => exact Or.inl ⟨by rfl, by (intro wq hSw; (try dsimp only at hSw); go_simp; (try with_reducible rfl))⟩
  try simp only [Act.put, List.setIfInBounds_toArray, List.set_cons_zero, List.set_cons_succ]
  refine wpAnyH_take (i := 5) (oi := ?o5_6) (v := ?v5_6) ?hi5_6 ?hs5_6 ?hf5_6 ?hr5_6 (fun _ _ _ h => h) ?hy5_6 (by assumption) ?hh5_6
  case hi5_6 => ((simp only [List.getElem?_toArray, List.getElem?_cons_succ, List.getElem?_cons_zero]); rfl)
  case hs5_6 => kernel_rfl
  case hf5_6 => kernel_rfl
  case hr5_6 => kernel_rfl
  case hy5_6 => exact Or.inl ⟨by rfl, by (intro wq hSw; (try dsimp only at hSw); go_simp; (try with_reducible rfl))⟩
  try simp only [Act.put, List.setIfInBounds_toArray, List.set_cons_zero, List.set_cons_succ]
  refine wpAnyH_take (i := 6) (oi := ?o6_7) (v := ?v6_7) ?hi6_7 ?hs6_7 ?hf6_7 ?hr6_7 (fun _ _ _ h => h) ?hy6_7 (by assumption) ?hh6_7
  case hi6_7 => ((simp only [List.getElem?_toArray, List.getElem?_cons_succ, List.getElem?_cons_zero]); rfl)
  case hs6_7 => kernel_rfl
  case hf6_7 => kernel_rfl
  case hr6_7 => kernel_rfl
  case hy6_7 => exact Or.inl ⟨by rfl, by (intro wq hSw; (try dsimp only at hSw); go_simp; (try with_reducible rfl))⟩
  try simp only [Act.put, List.setIfInBounds_toArray, List.set_cons_zero, List.set_cons_succ]
  refine wpAnyH_take (i := 7) (oi := ?o7_8) (v := ?v7_8) ?hi7_8 ?hs7_8 ?hf7_8 ?hr7_8 (fun _ _ _ h => h) ?hy7_8 (by assumption) ?hh7_8
  case hi7_8 => ((simp only [List.getElem?_toArray, List.getElem?_cons_succ, List.getElem?_cons_zero]); rfl)
  case hs7_8 => kernel_rfl
  case hf7_8 => kernel_rfl
  case hr7_8 => kernel_rfl
  case hy7_8 => exact Or.inl ⟨by rfl, by (intro wq hSw; (try dsimp only at hSw); go_simp; (try with_reducible rfl))⟩
  try simp only [Act.put, List.setIfInBounds_toArray, List.set_cons_zero, List.set_cons_succ]
  refine wpAnyH_take (i := 8) (oi := ?o8_9) (v := ?v8_9) ?hi8_9 ?hs8_9 ?hf8_9 ?hr8_9 (fun _ _ _ h => h) ?hy8_9 (by assumption) ?hh8_9
  case hi8_9 => ((simp only [List.getElem?_toArray, List.getElem?_cons_succ, List.getElem?_cons_zero]); rfl)
  case hs8_9 => kernel_rfl
  case hf8_9 => kernel_rfl
  case hr8_9 => kernel_rfl
  case hy8_9 => exact Or.inl ⟨by rfl, by (intro wq hSw; (try dsimp only at hSw); go_simp; (try with_reducible rfl))⟩
  try simp only [Act.put, List.setIfInBounds_toArray, List.set_cons_zero, List.set_cons_succ]
  refine wpAnyH_take (i := 9) (oi := ?o9_10) (v := ?v9_10) ?hi9_10 ?hs9_10 ?hf9_10 ?hr9_10 (fun _ _ _ h => h) ?hy9_10 (by assumption) ?hh9_10
  case hi9_10 => ((simp only [List.getElem?_toArray, List.getElem?_cons_succ, List.getElem?_cons_zero]); rfl)
  case hs9_10 => kernel_rfl
  case hf9_10 => kernel_rfl
  case hr9_10 => kernel_rfl
  case hy9_10 => exact Or.inl ⟨by rfl, by (intro wq hSw; (try dsimp only at hSw); go_simp; (try with_reducible rfl))⟩
  try simp only [Act.put, List.setIfInBounds_toArray, List.set_cons_zero, List.set_cons_succ]
  refine wpAnyH_take (i := 10) (oi := ?o10_11) (v := ?v10_11) ?hi10_11 ?hs10_11 ?hf10_11 ?hr10_11 (fun _ _ _ h => h) ?hy10_11 (by assumption) ?hh10_11
  case hi10_11 => ((simp only [List.getElem?_toArray, List.getElem?_cons_succ, List.getElem?_cons_zero]); rfl)
  case hs10_11 => kernel_rfl
  case hf10_11 => kernel_rfl
  case hr10_11 => kernel_rfl
  case hy10_11 => exact Or.inl ⟨by rfl, by (intro wq hSw; (try dsimp only at hSw); go_simp; (try with_reducible rfl))⟩
  try simp only [Act.put, List.setIfInBounds_toArray, List.set_cons_zero, List.set_cons_succ]
  refine wpAnyH_take (i := 11) (oi := ?o11_12) (v := ?v11_12) ?hi11_12 ?hs11_12 ?hf11_12 ?hr11_12 (fun _ _ _ h => h) ?hy11_12 (by assumption) ?hh11_12
  case hi11_12 => ((simp only [List.getElem?_toArray, List.getElem?_cons_succ, List.getElem?_cons_zero]); rfl)
  case hs11_12 => kernel_rfl
  case hf11_12 => kernel_rfl
  case hr11_12 => kernel_rfl
  case hy11_12 => exact Or.inl ⟨by rfl, by (intro wq hSw; (try dsimp only at hSw); go_simp; (try with_reducible rfl))⟩
  try simp only [Act.put, List.setIfInBounds_toArray, List.set_cons_zero, List.set_cons_succ]
  refine wpAnyH_take (i := 12) (oi := ?o12_13) (v := ?v12_13) ?hi12_13 ?hs12_13 ?hf12_13 ?hr12_13 (fun _ _ _ h => h) ?hy12_13 (by assumption) ?hh12_13
  case hi12_13 => ((simp only [List.getElem?_toArray, List.getElem?_cons_succ, List.getElem?_cons_zero]); rfl)
  case hs12_13 => kernel_rfl
  case hf12_13 => kernel_rfl
  case hr12_13 => kernel_rfl
  case hy12_13 => exact Or.inl ⟨by rfl, by (intro wq hSw; (try dsimp only at hSw); go_simp; (try with_reducible rfl))⟩
  try simp only [Act.put, List.setIfInBounds_toArray, List.set_cons_zero, List.set_cons_succ]
  refine wpAnyH_take (i := 13) (oi := ?o13_14) (v := ?v13_14) ?hi13_14 ?hs13_14 ?hf13_14 ?hr13_14 (fun _ _ _ h => h) ?hy13_14 (by assumption) ?hh13_14
  case hi13_14 => ((simp only [List.getElem?_toArray, List.getElem?_cons_succ, List.getElem?_cons_zero]); rfl)
  case hs13_14 => kernel_rfl
  case hf13_14 => kernel_rfl
  case hr13_14 => kernel_rfl
  case hy13_14 => exact Or.inl ⟨by rfl, by (intro wq hSw; (try dsimp only at hSw); go_simp; (try with_reducible rfl))⟩
  try simp only [Act.put, List.setIfInBounds_toArray, List.set_cons_zero, List.set_cons_succ]
  refine wpAnyH_take (i := 14) (oi := ?o14_15) (v := ?v14_15) ?hi14_15 ?hs14_15 ?hf14_15 ?hr14_15 (fun _ _ _ h => h) ?hy14_15 (by assumption) ?hh14_15
  case hi14_15 => ((simp only [List.getElem?_toArray, List.getElem?_cons_succ, List.getElem?_cons_zero]); rfl)
  case hs14_15 => kernel_rfl
  case hf14_15 => kernel_rfl
  case hr14_15 => kernel_rfl
  case hy14_15 => exact Or.inl ⟨by rfl, by (intro wq hSw; (try dsimp only at hSw); go_simp; (try with_reducible rfl))⟩
  try simp only [Act.put, List.setIfInBounds_toArray, List.set_cons_zero, List.set_cons_succ]
  refine wpAnyH_take (i := 15) (oi := ?o15_16) (v := ?v15_16) ?hi15_16 ?hs15_16 ?hf15_16 ?hr15_16 (fun _ _ _ h => h) ?hy15_16 (by assumption) ?hh15_16
  case hi15_16 => ((simp only [List.getElem?_toArray, List.getElem?_cons_succ, List.getElem?_cons_zero]); rfl)
  case hs15_16 => kernel_rfl
  case hf15_16 => kernel_rfl
  case hr15_16 => kernel_rfl
  case hy15_16 => exact Or.inl ⟨by rfl, by (intro wq hSw; (try dsimp only at hSw); go_simp; (try with_reducible rfl))⟩
  try simp only [Act.put, List.setIfInBounds_toArray, List.set_cons_zero, List.set_cons_succ]
  refine wpAnyH_take (i := 16) (oi := ?o16_17) (v := ?v16_17) ?hi16_17 ?hs16_17 ?hf16_17 ?hr16_17 (fun _ _ _ h => h) ?hy16_17 (by assumption) ?hh16_17
  case hi16_17 => ((simp only [List.getElem?_toArray, List.getElem?_cons_succ, List.getElem?_cons_zero]); rfl)
  case hs16_17 => kernel_rfl
  case hf16_17 => kernel_rfl
  case hr16_17 => kernel_rfl
  case hy16_17 => exact Or.inl ⟨by rfl, by (intro wq hSw; (try dsimp only at hSw); go_simp; (try with_reducible rfl))⟩
  try simp only [Act.put, List.setIfInBounds_toArray, List.set_cons_zero, List.set_cons_succ]
  refine wpAnyH_take (i := 20) (oi := ?o20_18) (v := ?v20_18) ?hi20_18 ?hs20_18 ?hf20_18 ?hr20_18 (fun _ _ _ h => h) ?hy20_18 (by assumption) ?hh20_18
  case hi20_18 => ((simp only [List.getElem?_toArray, List.getElem?_cons_succ, List.getElem?_cons_zero]); rfl)
  case hs20_18 => kernel_rfl
  case hf20_18 => kernel_rfl
  case hr20_18 => kernel_rfl
  case hy20_18 => exact Or.inl ⟨by rfl, by (intro wq hSw; (try dsimp only at hSw); go_simp; (try with_reducible rfl))⟩
  try simp only [Act.put, List.setIfInBounds_toArray, List.set_cons_zero, List.set_cons_succ]
  refine wpAnyH_ready (rs := [17]) (by kernel_rfl) (by simp) ?_
  refine AllReadyH.cons (o := ?o17_19) ?hi17_19 (fun K hK => ?hh17_19) AllReadyH.nil
  case hi17_19 => ((simp only [List.getElem?_toArray, List.getElem?_cons_succ, List.getElem?_cons_zero]); rfl)
  go_simp
  (go_at_call 57; refine (HCT.out _ hHeld).mono ?_; rintro e w5 ⟨A5, c5, rfl, ho5, hb5⟩; have HS5 := hide (Own.at_ (enc := encRing) (fun _ => rfl) ho5); have HC5 := hide (ownR_cap ho5 hl1); have HB5 := hide (hHeld.trans (hb5.mono hHeld.size)); clear ho5 hb5)
  (try dsimp only)
  refine hK.out _ _ (HB5.out) (fun hHeld2 => ?_)
  clear hK K hHeld
  have hHeld := hHeld2
  clear hHeld2
  try simp only [Act.put, List.setIfInBounds_toArray, List.set_cons_zero, List.set_cons_succ]
  refine wpAnyH_ready (rs := [18]) (by kernel_rfl) (by simp) ?_
  refine AllReadyH.cons (o := ?o18_20) ?hi18_20 (fun K hK => ?hh18_20) AllReadyH.nil
  case hi18_20 => ((simp only [List.getElem?_toArray, List.getElem?_cons_succ, List.getElem?_cons_zero]); rfl)
  go_simp
  (go_at_call 56; refine (implrawPartials x.Az x.Aw x.Ab x.cz x.cw x.cb x.zs x.ws x.bs x.nm A5 c5 (turn x.zs ss x.rs) w5 (HX.out.below ((HS.out.below HB5.out).bel)).md HS5.out hl32 hl1 HC5.out (hide HX.out.ask.m) HZT HWL).mono ?_; rintro e w6 ⟨A6, c6, rfl, ho6, hb6⟩; have HO6 := hide (show SlAt encI 1 w6 A6 (x.raw ss) from OwnI.sl ho6 (x.raw_length ss).symm); have HB6 := hide (HB5.out.trans (hb6.mono HB5.out.size)); clear ho6 hb6)
  (try dsimp only)
  refine hK.out _ _ (HB6.out) (fun hHeld2 => ?_)
  clear hK K hHeld
  have hHeld := hHeld2
  clear hHeld2
  try simp only [Act.put, List.setIfInBounds_toArray, List.set_cons_zero, List.set_cons_succ]
  refine wpAnyH_take (i := 19) (oi := ?o19_21) (v := ?v19_21) ?hi19_21 ?hs19_21 ?hf19_21 ?hr19_21 (fun _ _ _ h => h) ?hy19_21 (by assumption) ?hh19_21
  case hi19_21 => ((simp only [List.getElem?_toArray, List.getElem?_cons_succ, List.getElem?_cons_zero]); rfl)
  case hs19_21 => kernel_rfl
  case hf19_21 => kernel_rfl
  case hr19_21 => kernel_rfl
  case hy19_21 => exact Or.inl ⟨by rfl, by (intro wq hSw; (try dsimp only at hSw); go_simp; (try with_reducible rfl))⟩
  try simp only [Act.put, List.setIfInBounds_toArray, List.set_cons_zero, List.set_cons_succ]
  refine wpAnyH_done (by kernel_rfl) ?_ _
  refine NoPanic.normal ?_
  go_wp2_with fail
  go_loopw [25, 3, 4] (fun v _ _ wr => ∃ k : Nat, v = .int .i64 k ∧ k ≤ 5 ∧ Hid (lowTo x.t x.tol (x.raw ss) k = false) ∧ Hid (Below w.heap.size w wr) ∧ Hid (SlAt encI 1 wr A6 (x.raw ss))) (fun v _ _ _ => 5 - (intOf v).toNat)
  case atStart => exact ⟨0, rfl, by omega, hide rfl, hide HB6.out, hide HO6.out⟩
  case round =>
    obtain ⟨k, rfl, hk, HL, HB, HO⟩ := hrel
    obtain ⟨w4, rfl⟩ : ∃ w4, w4 = wr := ⟨_, rfl⟩
    have hki : (k : Int) ≤ 5 := by omega
    have hk0 : (0 : Int) ≤ k := by omega
    by_cases hlt : k < 5
    · have hlen := x.raw_length ss
      obtain ⟨b6, o6, rfl, hb6, hc6⟩ := HO.out.getA (by omega)
      have hck := hc6 k (by omega)
      have hki5 : (k : Int) < 5 := by omega
      clear hc6 hlen
      obtain ⟨f, hf⟩ : ∃ f, f = ig (x.raw ss) k := ⟨_, rfl⟩
      rw [← hf] at hck
      have HF := hide hf
      clear hf
      obtain ⟨k0, k1, k2, k3, k4, k5, k6, k7, k8, k9, k10, k11, k12, k13, _⟩ := HPC.out _ HB.out
      clear k0 k1 k2 k3 k4 k5 k6
      have hg := HX.out.goal
      have HCT4 := hide (fun W => implisTooLow_is x.t0 x.t1 x.t2 x.t3 x.t4 x.tol x.most k f W (hide (SoundOK.inF hg.t)) hlt hg.tol.1 hg.tol.2)
      have HK := hide (show lowTo x.t x.tol (x.raw ss) (k + 1) = lowK x.t x.tol k f from by rw [HF.out]; simp only [lowTo, HL.out, Bool.false_or])
      clear hg
      by_cases hlow : lowK x.t x.tol k f = true
      · have HR := hide (show x.low ss = true from by rw [Cx.low, lowB, lowTo_iff]; exact ⟨k, hlt, by rw [← HF.out]; exact hlow⟩)
        rw [hlow] at HCT4
        clear hlow
        go_wp2_with fail
        refine (HCT4.out _).mono ?_
        rintro e w5 ⟨rfl, hb5⟩
        dsimp only
        go_wp2_with fail
        go_ret
        exact ⟨ret_bool HR.out.symm, HB.out.trans (hb5.mono HB.out.size)⟩
      · have hlowf : lowK x.t x.tol k f = false := by simpa using hlow
        have HR := hide (show lowTo x.t x.tol (x.raw ss) (k + 1) = false from by rw [HK.out, hlowf])
        rw [hlowf] at HCT4
        clear hlow hlowf
        go_wp2_with fail
        refine (HCT4.out _).mono ?_
        rintro e w5 ⟨rfl, hb5⟩
        dsimp only
        go_wp2_with fail
        go_roundw
        case rel => exact ⟨k + 1, by go_num, by omega, HR, hide (HB.out.trans (hb5.mono HB.out.size)), hide (HO.out.below hb5)⟩
        case measure => simp [intOf]; omega
    · obtain rfl : k = 5 := by omega
      have HR := hide (show x.low ss = false from by rw [Cx.low, lowB]; exact HL.out)
      go_wp2_with fail
      go_ret
      exact ⟨ret_bool HR.out.symm, HB.out⟩
theorem devs_bd {t l : List Int} (ht : InF t) (hl : InF l) : ∀ k, k < (devs t l).length → -4000000000000000000 ≤ ig (devs t l) k ∧ ig (devs t l) k ≤ 4000000000000000000 := by
  intro k hk
  rw [devs_length] at hk
  rw [devs_get t l k hk, ctB]
  obtain ⟨a1, a2⟩ := ht k hk
  obtain ⟨b1, b2⟩ := hl k hk
  have := lgT_nonneg (ig t k)
  have := lgT_nonneg (ig l k)
  have := lgT_lt (n := ig t k) (by omega) (by omega)
  have := lgT_lt (n := ig l k) (by omega) (by omega)
  omega
theorem heap_setD {w : World} {b j : Nat} {vs : Array Value} {T : TypeId} (v : Value) (h : w.heap[b]? = some (.cells vs T (0, 0))) : (w.setCell ⟨b, j, none⟩ v).heap[b]? = some (.cells (vs.setIfInBounds j v) T (0, 0)) := by
  simp [World.setCell, Array.getElem?_modify, h]
theorem heap_set5 {w : World} {b : Nat} {u0 u1 u2 u3 u4 : Value} {T : TypeId} (v0 v1 v2 v3 v4 : Value) (h : w.heap[b]? = some (.cells #[u0, u1, u2, u3, u4] T (0, 0))) : (((((w.setCell ⟨b, 0, none⟩ v0).setCell ⟨b, 1, none⟩ v1).setCell ⟨b, 2, none⟩ v2).setCell ⟨b, 3, none⟩ v3).setCell ⟨b, 4, none⟩ v4).heap[b]? = some (.cells #[v0, v1, v2, v3, v4] T (0, 0)) := by
  simpa using heap_setD v4 (heap_setD v3 (heap_setD v2 (heap_setD v1 (heap_setD v0 h (j := 0)) (j := 1)) (j := 2)) (j := 3)) (j := 4)
theorem zero5 {w w5 : World} (hb : Below (w.alloc (.cells #[.int .i64 0, .int .i64 0, .int .i64 0, .int .i64 0, .int .i64 0] 32)).drew.heap.size (w.alloc (.cells #[.int .i64 0, .int .i64 0, .int .i64 0, .int .i64 0, .int .i64 0] 32)).drew w5) : w5.heap[w.heap.size]? = some (.cells #[.int .i64 0, .int .i64 0, .int .i64 0, .int .i64 0, .int .i64 0] 32 (0, 0)) :=
  (hb.block w.heap.size (show w.heap.size < (w.alloc _).heap.size by simp)).trans (heap_alloc_new w _)
set_option maxRecDepth 100000 in
set_option maxHeartbeats 1000000 in
theorem isPlan_is {x : Cx} {w0 w : World} {b gl lc gs sc : Nat} {sum : Int} {first : Bool} {ss : List Int} {s : S} (HX : Hid (x.OK w0)) (HS : Hid (CuI x w0 b gl lc gs sc sum first w ss s)) (HST : Hid (StOK x.zs x.rs ss)) :
    Calls Tryz.prog 95 #[.pointer (some ⟨b, 0, none⟩)] w fun e w' => e = .returned (.bool (x.plan ss)) ∧ Below w.heap.size w w' := by
  have HPC := hide (fun w' (hb : Below w.heap.size w w') => (HS.out.below hb).all)
  have P2 : ∀ w', Below w.heap.size w w' → w'.cell? ⟨b, 2, none⟩ = some (.slice x.Az x.zs.length x.cz) := fun w' hb => by obtain ⟨k0, k1, k2, _⟩ := HPC.out w' hb; exact k2
  have P3 : ∀ w', Below w.heap.size w w' → w'.cell? ⟨b, 3, none⟩ = some (.slice x.Aw x.ws.length x.cw) := fun w' hb => by obtain ⟨k0, k1, k2, k3, _⟩ := HPC.out w' hb; exact k3
  have P4 : ∀ w', Below w.heap.size w w' → w'.cell? ⟨b, 4, none⟩ = some (.slice x.Ab x.bs.length x.cb) := fun w' hb => by obtain ⟨k0, k1, k2, k3, k4, _⟩ := HPC.out w' hb; exact k4
  have P5 : ∀ w', Below w.heap.size w w' → w'.cell? ⟨b, 5, none⟩ = some (.string x.nm) := fun w' hb => by obtain ⟨k0, k1, k2, k3, k4, k5, _⟩ := HPC.out w' hb; exact k5
  have P6 : ∀ w', Below w.heap.size w w' → w'.cell? ⟨b, 6, none⟩ = some (.slice x.A x.rs.length x.c) := fun w' hb => by obtain ⟨k0, k1, k2, k3, k4, k5, k6, _⟩ := HPC.out w' hb; exact k6
  have P15 : ∀ w', Below w.heap.size w w' → w'.cell? ⟨b, 15, none⟩ = some (.slice (some ⟨gs, 0, none⟩) x.zs.length sc) := fun w' hb => by obtain ⟨k0, k1, k2, k3, k4, k5, k6, k7, k8, k9, k10, k11, k12, k13, k14, k15, _⟩ := HPC.out w' hb; exact k15
  have HCT := hide (fun W (hb : Below w.heap.size w W) => by
    have hW := HX.out.below ((HS.out.below hb).bel)
    have hcon := implsoundAfter x.Az x.Aw x.Ab x.cz x.cw x.cb x.zs x.ws x.bs x.nm x.A x.c x.rs (some ⟨gs, 0, none⟩) sc ss W hW.md hW.rg (OwnI.sl (HS.out.below hb).row HST.out.len.symm) hW.nm (hide hW.ask) HST
    exact hcon)
  obtain ⟨r0, hr0⟩ : ∃ r, r = ig (x.raw ss) 0 := ⟨_, rfl⟩
  obtain ⟨r1, hr1⟩ : ∃ r, r = ig (x.raw ss) 1 := ⟨_, rfl⟩
  obtain ⟨r2, hr2⟩ : ∃ r, r = ig (x.raw ss) 2 := ⟨_, rfl⟩
  obtain ⟨r3, hr3⟩ : ∃ r, r = ig (x.raw ss) 3 := ⟨_, rfl⟩
  obtain ⟨r4, hr4⟩ : ∃ r, r = ig (x.raw ss) 4 := ⟨_, rfl⟩
  have HRW := hide (show [r0, r1, r2, r3, r4] = x.raw ss from by rw [hr0, hr1, hr2, hr3, hr4]; exact five_eta (x.raw_length ss))
  have HCT := hide (show ∀ W, Below w.heap.size w W → Calls Tryz.prog 48 #[.agg #[.slice x.Az x.zs.length x.cz, .slice x.Aw x.ws.length x.cw, .slice x.Ab x.bs.length x.cb], .agg #[.string x.nm, .slice x.A x.rs.length x.c], .slice (some ⟨gs, 0, none⟩) x.zs.length sc] W fun e w' => e = .returned (.tuple #[.agg #[.int .i64 r0, .int .i64 r1, .int .i64 r2, .int .i64 r3, .int .i64 r4], .bool (x.snd ss)]) ∧ Below W.heap.size W w' from fun W hb => by rw [hr0, hr1, hr2, hr3, hr4]; exact HCT.out W hb)
  clear hr0 hr1 hr2 hr3 hr4
  have hbl := HS.out.lt
  obtain ⟨sb, hsb⟩ : ∃ sb, sb = x.snd ss := ⟨_, rfl⟩
  rw [← hsb] at HCT
  have HSB := hide hsb
  clear hsb
  go_enter Tryz.func95, Tryz.ntmps95
  go_upto_region 1 with fail
  go_cut [3, 4] (fun s3 s4 wx => ∃ q, s3 = .pointer (some ⟨q, 0, none⟩) ∧ s4 = .bool sb ∧ Hid (wx.heap[q]? = some (.cells #[.int .i64 r0, .int .i64 r1, .int .i64 r2, .int .i64 r3, .int .i64 r4] 32 (0, 0))) ∧ Hid (Below w.heap.size w wx))
  case first =>
    refine wp_region_noPanic ?_
    refine wp_region_held_drew (S := (fun w' => Below w.heap.size w w')) (by kernel_rfl) ((Below.refl _ _).drew) (fun hHeld => ?_)
    refine wpAnyH_take (i := 0) (oi := ?o0_22) (v := ?v0_22) ?hi0_22 ?hs0_22 ?hf0_22 ?hr0_22 (fun _ _ _ h => h) ?hy0_22 (by assumption) ?hh0_22
    case hi0_22 => ((simp only [List.getElem?_toArray, List.getElem?_cons_zero]); rfl)
    case hs0_22 => kernel_rfl
    case hf0_22 => kernel_rfl
    case hr0_22 => kernel_rfl
    case hy0_22 => exact Or.inl ⟨by rfl, by (intro wq hSw; (try dsimp only at hSw); go_simp; (try with_reducible rfl))⟩
    try simp only [Act.put, List.setIfInBounds_toArray, List.set_cons_zero, List.set_cons_succ]
    refine wpAnyH_take (i := 1) (oi := ?o1_23) (v := ?v1_23) ?hi1_23 ?hs1_23 ?hf1_23 ?hr1_23 (fun _ _ _ h => h) ?hy1_23 (by assumption) ?hh1_23
    case hi1_23 => ((simp only [List.getElem?_toArray, List.getElem?_cons_succ, List.getElem?_cons_zero]); rfl)
    case hs1_23 => kernel_rfl
    case hf1_23 => kernel_rfl
    case hr1_23 => kernel_rfl
    case hy1_23 => exact Or.inl ⟨by rfl, by (intro wq hSw; (try dsimp only at hSw); go_simp; (try with_reducible rfl))⟩
    try simp only [Act.put, List.setIfInBounds_toArray, List.set_cons_zero, List.set_cons_succ]
    refine wpAnyH_take (i := 2) (oi := ?o2_24) (v := ?v2_24) ?hi2_24 ?hs2_24 ?hf2_24 ?hr2_24 (fun _ _ _ h => h) ?hy2_24 (by assumption) ?hh2_24
    case hi2_24 => ((simp only [List.getElem?_toArray, List.getElem?_cons_succ, List.getElem?_cons_zero]); rfl)
    case hs2_24 => kernel_rfl
    case hf2_24 => kernel_rfl
    case hr2_24 => kernel_rfl
    case hy2_24 => exact Or.inl ⟨by rfl, by (intro wq hSw; (try dsimp only at hSw); go_simp; (try with_reducible rfl))⟩
    try simp only [Act.put, List.setIfInBounds_toArray, List.set_cons_zero, List.set_cons_succ]
    refine wpAnyH_take (i := 3) (oi := ?o3_25) (v := ?v3_25) ?hi3_25 ?hs3_25 ?hf3_25 ?hr3_25 (fun _ _ _ h => h) ?hy3_25 (by assumption) ?hh3_25
    case hi3_25 => ((simp only [List.getElem?_toArray, List.getElem?_cons_succ, List.getElem?_cons_zero]); rfl)
    case hs3_25 => kernel_rfl
    case hf3_25 => kernel_rfl
    case hr3_25 => kernel_rfl
    case hy3_25 => exact Or.inl ⟨by rfl, by (intro wq hSw; (try dsimp only at hSw); go_simp; (try with_reducible rfl))⟩
    try simp only [Act.put, List.setIfInBounds_toArray, List.set_cons_zero, List.set_cons_succ]
    refine wpAnyH_take (i := 4) (oi := ?o4_26) (v := ?v4_26) ?hi4_26 ?hs4_26 ?hf4_26 ?hr4_26 (fun _ _ _ h => h) ?hy4_26 (by assumption) ?hh4_26
    case hi4_26 => ((simp only [List.getElem?_toArray, List.getElem?_cons_succ, List.getElem?_cons_zero]); rfl)
    case hs4_26 => kernel_rfl
    case hf4_26 => kernel_rfl
    case hr4_26 => kernel_rfl
    case hy4_26 => exact Or.inl ⟨by rfl, by (intro wq hSw; (try dsimp only at hSw); go_simp; (try with_reducible rfl))⟩
    try simp only [Act.put, List.setIfInBounds_toArray, List.set_cons_zero, List.set_cons_succ]
    refine wpAnyH_take (i := 5) (oi := ?o5_27) (v := ?v5_27) ?hi5_27 ?hs5_27 ?hf5_27 ?hr5_27 (fun _ _ _ h => h) ?hy5_27 (by assumption) ?hh5_27
    case hi5_27 => ((simp only [List.getElem?_toArray, List.getElem?_cons_succ, List.getElem?_cons_zero]); rfl)
    case hs5_27 => kernel_rfl
    case hf5_27 => kernel_rfl
    case hr5_27 => kernel_rfl
    case hy5_27 => exact Or.inl ⟨by rfl, by (intro wq hSw; (try dsimp only at hSw); go_simp; (try with_reducible rfl))⟩
    try simp only [Act.put, List.setIfInBounds_toArray, List.set_cons_zero, List.set_cons_succ]
    refine wpAnyH_take (i := 6) (oi := ?o6_28) (v := ?v6_28) ?hi6_28 ?hs6_28 ?hf6_28 ?hr6_28 (fun _ _ _ h => h) ?hy6_28 (by assumption) ?hh6_28
    case hi6_28 => ((simp only [List.getElem?_toArray, List.getElem?_cons_succ, List.getElem?_cons_zero]); rfl)
    case hs6_28 => kernel_rfl
    case hf6_28 => kernel_rfl
    case hr6_28 => kernel_rfl
    case hy6_28 => exact Or.inl ⟨by rfl, by (intro wq hSw; (try dsimp only at hSw); go_simp; (try with_reducible rfl))⟩
    try simp only [Act.put, List.setIfInBounds_toArray, List.set_cons_zero, List.set_cons_succ]
    refine wpAnyH_take (i := 7) (oi := ?o7_29) (v := ?v7_29) ?hi7_29 ?hs7_29 ?hf7_29 ?hr7_29 (fun _ _ _ h => h) ?hy7_29 (by assumption) ?hh7_29
    case hi7_29 => ((simp only [List.getElem?_toArray, List.getElem?_cons_succ, List.getElem?_cons_zero]); rfl)
    case hs7_29 => kernel_rfl
    case hf7_29 => kernel_rfl
    case hr7_29 => kernel_rfl
    case hy7_29 => exact Or.inl ⟨by rfl, by (intro wq hSw; (try dsimp only at hSw); go_simp; (try with_reducible rfl))⟩
    try simp only [Act.put, List.setIfInBounds_toArray, List.set_cons_zero, List.set_cons_succ]
    refine wpAnyH_take (i := 8) (oi := ?o8_30) (v := ?v8_30) ?hi8_30 ?hs8_30 ?hf8_30 ?hr8_30 (fun _ _ _ h => h) ?hy8_30 (by assumption) ?hh8_30
    case hi8_30 => ((simp only [List.getElem?_toArray, List.getElem?_cons_succ, List.getElem?_cons_zero]); rfl)
    case hs8_30 => kernel_rfl
    case hf8_30 => kernel_rfl
    case hr8_30 => kernel_rfl
    case hy8_30 => exact Or.inl ⟨by rfl, by (intro wq hSw; (try dsimp only at hSw); go_simp; (try with_reducible rfl))⟩
    try simp only [Act.put, List.setIfInBounds_toArray, List.set_cons_zero, List.set_cons_succ]
    refine wpAnyH_take (i := 9) (oi := ?o9_31) (v := ?v9_31) ?hi9_31 ?hs9_31 ?hf9_31 ?hr9_31 (fun _ _ _ h => h) ?hy9_31 (by assumption) ?hh9_31
    case hi9_31 => ((simp only [List.getElem?_toArray, List.getElem?_cons_succ, List.getElem?_cons_zero]); rfl)
    case hs9_31 => kernel_rfl
    case hf9_31 => kernel_rfl
    case hr9_31 => kernel_rfl
    case hy9_31 => exact Or.inl ⟨by rfl, by (intro wq hSw; (try dsimp only at hSw); go_simp; (try with_reducible rfl))⟩
    try simp only [Act.put, List.setIfInBounds_toArray, List.set_cons_zero, List.set_cons_succ]
    refine wpAnyH_take (i := 10) (oi := ?o10_32) (v := ?v10_32) ?hi10_32 ?hs10_32 ?hf10_32 ?hr10_32 (fun _ _ _ h => h) ?hy10_32 (by assumption) ?hh10_32
    case hi10_32 => ((simp only [List.getElem?_toArray, List.getElem?_cons_succ, List.getElem?_cons_zero]); rfl)
    case hs10_32 => kernel_rfl
    case hf10_32 => kernel_rfl
    case hr10_32 => kernel_rfl
    case hy10_32 => exact Or.inl ⟨by rfl, by (intro wq hSw; (try dsimp only at hSw); go_simp; (try with_reducible rfl))⟩
    try simp only [Act.put, List.setIfInBounds_toArray, List.set_cons_zero, List.set_cons_succ]
    refine wpAnyH_take (i := 11) (oi := ?o11_33) (v := ?v11_33) ?hi11_33 ?hs11_33 ?hf11_33 ?hr11_33 (fun _ _ _ h => h) ?hy11_33 (by assumption) ?hh11_33
    case hi11_33 => ((simp only [List.getElem?_toArray, List.getElem?_cons_succ, List.getElem?_cons_zero]); rfl)
    case hs11_33 => kernel_rfl
    case hf11_33 => kernel_rfl
    case hr11_33 => kernel_rfl
    case hy11_33 => exact Or.inl ⟨by rfl, by (intro wq hSw; (try dsimp only at hSw); go_simp; (try with_reducible rfl))⟩
    try simp only [Act.put, List.setIfInBounds_toArray, List.set_cons_zero, List.set_cons_succ]
    refine wpAnyH_ready (rs := [12, 16]) (by kernel_rfl) (by simp) ?_
    refine AllReadyH.cons (o := ?o12_34) ?hi12_34 (fun K hK => ?hh12_34) (AllReadyH.cons (o := ?o16_35) ?hi16_35 (fun K hK => ?hh16_35) AllReadyH.nil)
    case hi12_34 => ((simp only [List.getElem?_toArray, List.getElem?_cons_succ, List.getElem?_cons_zero]); rfl)
    case hi16_35 => ((simp only [List.getElem?_toArray, List.getElem?_cons_succ, List.getElem?_cons_zero]); rfl)
    go_simp
    (go_at_call 48; refine (HCT.out _ hHeld).mono ?_; rintro e w5 ⟨rfl, hb5⟩; have HB5 := hide (hHeld.trans (hb5.mono hHeld.size)); (try (have hqr := zero5 hb5; have y0 : w5.cell? ⟨w.heap.size, 0, none⟩ = some (.int .i64 0) := (by simp [World.cell?, hqr]); have y1 : w5.cell? ⟨w.heap.size, 1, none⟩ = some (.int .i64 0) := (by simp [World.cell?, hqr]); have y2 : w5.cell? ⟨w.heap.size, 2, none⟩ = some (.int .i64 0) := (by simp [World.cell?, hqr]); have y3 : w5.cell? ⟨w.heap.size, 3, none⟩ = some (.int .i64 0) := (by simp [World.cell?, hqr]); have y4 : w5.cell? ⟨w.heap.size, 4, none⟩ = some (.int .i64 0) := (by simp [World.cell?, hqr]); have z : ∀ j, w5.frozen? ⟨w.heap.size, j, none⟩ = false := (fun j => by simp [World.frozen?, hqr]); have z0 := z 0; have z1 := z 1; have z2 := z 2; have z3 := z 3; have z4 := z 4; have HQR := hide hqr; clear hqr)))
    (try dsimp only)
    refine hK.out _ _ (HB5.out) (fun hHeld2 => ?_)
    clear hK K hHeld
    have hHeld := hHeld2
    clear hHeld2
    try simp only [Act.put, List.setIfInBounds_toArray, List.set_cons_zero, List.set_cons_succ]
    refine wpAnyH_take (i := 13) (oi := ?o13_36) (v := ?v13_36) ?hi13_36 ?hs13_36 ?hf13_36 ?hr13_36 (fun _ _ _ h => h) ?hy13_36 (by assumption) ?hh13_36
    case hi13_36 => ((simp only [List.getElem?_toArray, List.getElem?_cons_succ, List.getElem?_cons_zero]); rfl)
    case hs13_36 => kernel_rfl
    case hf13_36 => kernel_rfl
    case hr13_36 => kernel_rfl
    case hy13_36 => exact Or.inl ⟨by rfl, by (intro wq hSw; (try dsimp only at hSw); go_simp; (try with_reducible rfl))⟩
    try simp only [Act.put, List.setIfInBounds_toArray, List.set_cons_zero, List.set_cons_succ]
    refine wpAnyH_take (i := 14) (oi := ?o14_37) (v := ?v14_37) ?hi14_37 ?hs14_37 ?hf14_37 ?hr14_37 (fun _ _ _ h => h) ?hy14_37 (by assumption) ?hh14_37
    case hi14_37 => ((simp only [List.getElem?_toArray, List.getElem?_cons_succ, List.getElem?_cons_zero]); rfl)
    case hs14_37 => kernel_rfl
    case hf14_37 => kernel_rfl
    case hr14_37 => kernel_rfl
    case hy14_37 => exact Or.inl ⟨by rfl, by (intro wq hSw; (try dsimp only at hSw); go_simp; (try with_reducible rfl))⟩
    try simp only [Act.put, List.setIfInBounds_toArray, List.set_cons_zero, List.set_cons_succ]
    refine wpAnyH_take (i := 15) (oi := ?o15_38) (v := ?v15_38) ?hi15_38 ?hs15_38 ?hf15_38 ?hr15_38 (fun _ _ _ h => h) ?hy15_38 (by assumption) ?hh15_38
    case hi15_38 => ((simp only [List.getElem?_toArray, List.getElem?_cons_succ, List.getElem?_cons_zero]); rfl)
    case hs15_38 => kernel_rfl
    case hf15_38 => kernel_rfl
    case hr15_38 => kernel_rfl
    case hy15_38 => exact Or.inl ⟨by rfl, by (intro wq hSw; (try dsimp only at hSw); go_simp; (try with_reducible rfl))⟩
    try simp only [Act.put, List.setIfInBounds_toArray, List.set_cons_zero, List.set_cons_succ]
    refine wpAnyH_ready (rs := [16]) (by kernel_rfl) (by simp) ?_
    refine AllReadyH.cons (o := ?o16_39) ?hi16_39 (fun K hK => ?hh16_39) AllReadyH.nil
    case hi16_39 => ((simp only [List.getElem?_toArray, List.getElem?_cons_succ, List.getElem?_cons_zero]); rfl)
    go_simp
    refine hK.out _ _ (hHeld.alloc hHeld.size _) (fun hHeld2 => ?_)
    clear hK K hHeld
    have hHeld := hHeld2
    clear hHeld2
    try simp only [Act.put, List.setIfInBounds_toArray, List.set_cons_zero, List.set_cons_succ]
    refine wpAnyH_ready (rs := [17]) (by kernel_rfl) (by simp) ?_
    refine AllReadyH.cons (o := ?o17_40) ?hi17_40 (fun K hK => ?hh17_40) AllReadyH.nil
    case hi17_40 => ((simp only [List.getElem?_toArray, List.getElem?_cons_succ, List.getElem?_cons_zero]); rfl)
    go_simp
    refine hK.out _ _ (by first | exact HB5.out.alloc HB5.out.size _ | ((repeat (refine Below.setCell ?_ (show w.heap.size ≤ w.heap.size from Nat.le_refl _) _)); exact HB5.out)) (fun hHeld2 => ?_)
    clear hK K hHeld
    have hHeld := hHeld2
    clear hHeld2
    try simp only [Act.put, List.setIfInBounds_toArray, List.set_cons_zero, List.set_cons_succ]
    refine wpAnyH_take (i := 18) (oi := ?o18_41) (v := ?v18_41) ?hi18_41 ?hs18_41 ?hf18_41 ?hr18_41 (fun _ _ _ h => h) ?hy18_41 (by assumption) ?hh18_41
    case hi18_41 => ((simp only [List.getElem?_toArray, List.getElem?_cons_succ, List.getElem?_cons_zero]); rfl)
    case hs18_41 => kernel_rfl
    case hf18_41 => kernel_rfl
    case hr18_41 => kernel_rfl
    case hy18_41 => exact Or.inl ⟨by rfl, by (intro wq hSw; (try dsimp only at hSw); go_simp; (try with_reducible rfl))⟩
    try simp only [Act.put, List.setIfInBounds_toArray, List.set_cons_zero, List.set_cons_succ]
    refine wpAnyH_done (by kernel_rfl) ?_ _
    refine NoPanic.normal ?_
    rotate_left
    go_simp
    refine hK.out _ _ (hHeld.alloc hHeld.size _) (fun hHeld2 => ?_)
    clear hK K hHeld
    have hHeld := hHeld2
    clear hHeld2
    try simp only [Act.put, List.setIfInBounds_toArray, List.set_cons_zero, List.set_cons_succ]
    refine wpAnyH_ready (rs := [12]) (by kernel_rfl) (by simp) ?_
    refine AllReadyH.cons (o := ?o12_42) ?hi12_42 (fun K hK => ?hh12_42) AllReadyH.nil
    case hi12_42 => ((simp only [List.getElem?_toArray, List.getElem?_cons_succ, List.getElem?_cons_zero]); rfl)
    go_simp
    (go_at_call 48; refine (HCT.out _ hHeld).mono ?_; rintro e w5 ⟨rfl, hb5⟩; have HB5 := hide (hHeld.trans (hb5.mono hHeld.size)); (try (have hqr := zero5 hb5; have y0 : w5.cell? ⟨w.heap.size, 0, none⟩ = some (.int .i64 0) := (by simp [World.cell?, hqr]); have y1 : w5.cell? ⟨w.heap.size, 1, none⟩ = some (.int .i64 0) := (by simp [World.cell?, hqr]); have y2 : w5.cell? ⟨w.heap.size, 2, none⟩ = some (.int .i64 0) := (by simp [World.cell?, hqr]); have y3 : w5.cell? ⟨w.heap.size, 3, none⟩ = some (.int .i64 0) := (by simp [World.cell?, hqr]); have y4 : w5.cell? ⟨w.heap.size, 4, none⟩ = some (.int .i64 0) := (by simp [World.cell?, hqr]); have z : ∀ j, w5.frozen? ⟨w.heap.size, j, none⟩ = false := (fun j => by simp [World.frozen?, hqr]); have z0 := z 0; have z1 := z 1; have z2 := z 2; have z3 := z 3; have z4 := z 4; have HQR := hide hqr; clear hqr)))
    (try dsimp only)
    refine hK.out _ _ (HB5.out) (fun hHeld2 => ?_)
    clear hK K hHeld
    have hHeld := hHeld2
    clear hHeld2
    try simp only [Act.put, List.setIfInBounds_toArray, List.set_cons_zero, List.set_cons_succ]
    refine wpAnyH_take (i := 13) (oi := ?o13_43) (v := ?v13_43) ?hi13_43 ?hs13_43 ?hf13_43 ?hr13_43 (fun _ _ _ h => h) ?hy13_43 (by assumption) ?hh13_43
    case hi13_43 => ((simp only [List.getElem?_toArray, List.getElem?_cons_succ, List.getElem?_cons_zero]); rfl)
    case hs13_43 => kernel_rfl
    case hf13_43 => kernel_rfl
    case hr13_43 => kernel_rfl
    case hy13_43 => exact Or.inl ⟨by rfl, by (intro wq hSw; (try dsimp only at hSw); go_simp; (try with_reducible rfl))⟩
    try simp only [Act.put, List.setIfInBounds_toArray, List.set_cons_zero, List.set_cons_succ]
    refine wpAnyH_take (i := 14) (oi := ?o14_44) (v := ?v14_44) ?hi14_44 ?hs14_44 ?hf14_44 ?hr14_44 (fun _ _ _ h => h) ?hy14_44 (by assumption) ?hh14_44
    case hi14_44 => ((simp only [List.getElem?_toArray, List.getElem?_cons_succ, List.getElem?_cons_zero]); rfl)
    case hs14_44 => kernel_rfl
    case hf14_44 => kernel_rfl
    case hr14_44 => kernel_rfl
    case hy14_44 => exact Or.inl ⟨by rfl, by (intro wq hSw; (try dsimp only at hSw); go_simp; (try with_reducible rfl))⟩
    try simp only [Act.put, List.setIfInBounds_toArray, List.set_cons_zero, List.set_cons_succ]
    refine wpAnyH_take (i := 15) (oi := ?o15_45) (v := ?v15_45) ?hi15_45 ?hs15_45 ?hf15_45 ?hr15_45 (fun _ _ _ h => h) ?hy15_45 (by assumption) ?hh15_45
    case hi15_45 => ((simp only [List.getElem?_toArray, List.getElem?_cons_succ, List.getElem?_cons_zero]); rfl)
    case hs15_45 => kernel_rfl
    case hf15_45 => kernel_rfl
    case hr15_45 => kernel_rfl
    case hy15_45 => exact Or.inl ⟨by rfl, by (intro wq hSw; (try dsimp only at hSw); go_simp; (try with_reducible rfl))⟩
    try simp only [Act.put, List.setIfInBounds_toArray, List.set_cons_zero, List.set_cons_succ]
    refine wpAnyH_ready (rs := [17]) (by kernel_rfl) (by simp) ?_
    refine AllReadyH.cons (o := ?o17_46) ?hi17_46 (fun K hK => ?hh17_46) AllReadyH.nil
    case hi17_46 => ((simp only [List.getElem?_toArray, List.getElem?_cons_succ, List.getElem?_cons_zero]); rfl)
    go_simp
    refine hK.out _ _ (by first | exact HB5.out.alloc HB5.out.size _ | ((repeat (refine Below.setCell ?_ (show w.heap.size ≤ w.heap.size from Nat.le_refl _) _)); exact HB5.out)) (fun hHeld2 => ?_)
    clear hK K hHeld
    have hHeld := hHeld2
    clear hHeld2
    try simp only [Act.put, List.setIfInBounds_toArray, List.set_cons_zero, List.set_cons_succ]
    refine wpAnyH_take (i := 18) (oi := ?o18_47) (v := ?v18_47) ?hi18_47 ?hs18_47 ?hf18_47 ?hr18_47 (fun _ _ _ h => h) ?hy18_47 (by assumption) ?hh18_47
    case hi18_47 => ((simp only [List.getElem?_toArray, List.getElem?_cons_succ, List.getElem?_cons_zero]); rfl)
    case hs18_47 => kernel_rfl
    case hf18_47 => kernel_rfl
    case hr18_47 => kernel_rfl
    case hy18_47 => exact Or.inl ⟨by rfl, by (intro wq hSw; (try dsimp only at hSw); go_simp; (try with_reducible rfl))⟩
    try simp only [Act.put, List.setIfInBounds_toArray, List.set_cons_zero, List.set_cons_succ]
    refine wpAnyH_done (by kernel_rfl) ?_ _
    refine NoPanic.normal ?_
    rotate_left
    · go_wp2_with fail
      go_meet
      exact ⟨_, rfl, rfl, hide (heap_alloc_new w5 _), hide hHeld⟩
    · go_wp2_with fail
      go_meet
      exact ⟨_, rfl, rfl, hide (heap_set5 _ _ _ _ _ HQR.out), hide hHeld⟩
  case rest =>
    obtain ⟨w6, rfl⟩ : ∃ w6, w6 = wc := ⟨_, rfl⟩
    obtain ⟨q, rfl, rfl, HQ, HB6⟩ := hcut
    have hq := HQ.out
    have hql := heap_lt hq
    clear P2 P3 P4 P5 P6 P15
    have P7 : ∀ w', Below w6.heap.size w6 w' → w'.cell? ⟨b, 7, none⟩ = some (.int .i64 x.t0) := fun w' hb => by obtain ⟨k0, k1, k2, k3, k4, k5, k6, k7, _⟩ := HPC.out w' (HB6.out.trans (hb.mono HB6.out.size)); exact k7
    have P8 : ∀ w', Below w6.heap.size w6 w' → w'.cell? ⟨b, 8, none⟩ = some (.int .i64 x.t1) := fun w' hb => by obtain ⟨k0, k1, k2, k3, k4, k5, k6, k7, k8, _⟩ := HPC.out w' (HB6.out.trans (hb.mono HB6.out.size)); exact k8
    have P9 : ∀ w', Below w6.heap.size w6 w' → w'.cell? ⟨b, 9, none⟩ = some (.int .i64 x.t2) := fun w' hb => by obtain ⟨k0, k1, k2, k3, k4, k5, k6, k7, k8, k9, _⟩ := HPC.out w' (HB6.out.trans (hb.mono HB6.out.size)); exact k9
    have P10 : ∀ w', Below w6.heap.size w6 w' → w'.cell? ⟨b, 10, none⟩ = some (.int .i64 x.t3) := fun w' hb => by obtain ⟨k0, k1, k2, k3, k4, k5, k6, k7, k8, k9, k10, _⟩ := HPC.out w' (HB6.out.trans (hb.mono HB6.out.size)); exact k10
    have P11 : ∀ w', Below w6.heap.size w6 w' → w'.cell? ⟨b, 11, none⟩ = some (.int .i64 x.t4) := fun w' hb => by obtain ⟨k0, k1, k2, k3, k4, k5, k6, k7, k8, k9, k10, k11, _⟩ := HPC.out w' (HB6.out.trans (hb.mono HB6.out.size)); exact k11
    have P12 : ∀ w', Below w6.heap.size w6 w' → w'.cell? ⟨b, 12, none⟩ = some (.int .i64 x.tol) := fun w' hb => by obtain ⟨k0, k1, k2, k3, k4, k5, k6, k7, k8, k9, k10, k11, k12, _⟩ := HPC.out w' (HB6.out.trans (hb.mono HB6.out.size)); exact k12
    have Y0 : ∀ w', Below w6.heap.size w6 w' → w'.cell? ⟨q, 0, none⟩ = some (.int .i64 r0) := fun w' hb => (hb.cell (p := ⟨q, 0, none⟩) hql).trans (by simp [World.cell?, hq])
    have Y1 : ∀ w', Below w6.heap.size w6 w' → w'.cell? ⟨q, 1, none⟩ = some (.int .i64 r1) := fun w' hb => (hb.cell (p := ⟨q, 1, none⟩) hql).trans (by simp [World.cell?, hq])
    have Y2 : ∀ w', Below w6.heap.size w6 w' → w'.cell? ⟨q, 2, none⟩ = some (.int .i64 r2) := fun w' hb => (hb.cell (p := ⟨q, 2, none⟩) hql).trans (by simp [World.cell?, hq])
    have Y3 : ∀ w', Below w6.heap.size w6 w' → w'.cell? ⟨q, 3, none⟩ = some (.int .i64 r3) := fun w' hb => (hb.cell (p := ⟨q, 3, none⟩) hql).trans (by simp [World.cell?, hq])
    have Y4 : ∀ w', Below w6.heap.size w6 w' → w'.cell? ⟨q, 4, none⟩ = some (.int .i64 r4) := fun w' hb => (hb.cell (p := ⟨q, 4, none⟩) hql).trans (by simp [World.cell?, hq])
    clear hq
    cases sb
    · have HR := hide (show x.plan ss = false from by rw [Cx.plan, ← HSB.out]; rfl)
      go_wp2_with fail
      refine wp_region_kept (by kernel_rfl) (by kernel_rfl) ?_
      intro gc gf gz
      repeat (go_big_quiet_step (fail))
      refine wpQuiet_nil ?_
      intro w2 hw'
      obtain ⟨⟨_, hb2⟩, rfl⟩ := hw'
      clear gc gf gz
      try dsimp only
      have fs2 := hb2.size
      try simp at fs2 hb2
      go_wp2_with fail
      go_ret
      exact ⟨ret_bool HR.out.symm, HB6.out.trans (hb2.mono HB6.out.size)⟩
    · have hsd : SoundOK (x.raw ss) := by have h := HSB.out; rw [Cx.snd] at h; simpa [dc] using h.symm
      have HSI := hide (show InF [r0, r1, r2, r3, r4] from by rw [HRW.out]; exact SoundOK.inF hsd)
      have HTI := hide (show InF [x.t0, x.t1, x.t2, x.t3, x.t4] from SoundOK.inF HX.out.goal.t)
      have HR := hide (show x.plan ss = decide (grB (devs [x.t0, x.t1, x.t2, x.t3, x.t4] [r0, r1, r2, r3, r4]) ≤ x.tol) from by rw [Cx.plan, ← HSB.out, HRW.out]; rfl)
      clear hsd
      go_wp2_with fail
      refine wp_region_noPanic ?_
      refine wp_region_held_drew (S := (fun w' => Below w6.heap.size w6 w')) (by kernel_rfl) ((Below.refl _ _).drew) (fun hHeld => ?_)
      refine wpAnyH_take (i := 0) (oi := ?o0_48) (v := ?v0_48) ?hi0_48 ?hs0_48 ?hf0_48 ?hr0_48 (fun _ _ _ h => h) ?hy0_48 (by assumption) ?hh0_48
      case hi0_48 => ((simp only [List.getElem?_toArray, List.getElem?_cons_zero]); rfl)
      case hs0_48 => kernel_rfl
      case hf0_48 => kernel_rfl
      case hr0_48 => kernel_rfl
      case hy0_48 => exact Or.inl ⟨by rfl, by (intro wq hSw; (try dsimp only at hSw); go_simp; (try with_reducible rfl))⟩
      try simp only [Act.put, List.setIfInBounds_toArray, List.set_cons_zero, List.set_cons_succ]
      refine wpAnyH_take (i := 1) (oi := ?o1_49) (v := ?v1_49) ?hi1_49 ?hs1_49 ?hf1_49 ?hr1_49 (fun _ _ _ h => h) ?hy1_49 (by assumption) ?hh1_49
      case hi1_49 => ((simp only [List.getElem?_toArray, List.getElem?_cons_succ, List.getElem?_cons_zero]); rfl)
      case hs1_49 => kernel_rfl
      case hf1_49 => kernel_rfl
      case hr1_49 => kernel_rfl
      case hy1_49 => exact Or.inl ⟨by rfl, by (intro wq hSw; (try dsimp only at hSw); go_simp; (try with_reducible rfl))⟩
      try simp only [Act.put, List.setIfInBounds_toArray, List.set_cons_zero, List.set_cons_succ]
      refine wpAnyH_take (i := 2) (oi := ?o2_50) (v := ?v2_50) ?hi2_50 ?hs2_50 ?hf2_50 ?hr2_50 (fun _ _ _ h => h) ?hy2_50 (by assumption) ?hh2_50
      case hi2_50 => ((simp only [List.getElem?_toArray, List.getElem?_cons_succ, List.getElem?_cons_zero]); rfl)
      case hs2_50 => kernel_rfl
      case hf2_50 => kernel_rfl
      case hr2_50 => kernel_rfl
      case hy2_50 => exact Or.inl ⟨by rfl, by (intro wq hSw; (try dsimp only at hSw); go_simp; (try with_reducible rfl))⟩
      try simp only [Act.put, List.setIfInBounds_toArray, List.set_cons_zero, List.set_cons_succ]
      refine wpAnyH_take (i := 3) (oi := ?o3_51) (v := ?v3_51) ?hi3_51 ?hs3_51 ?hf3_51 ?hr3_51 (fun _ _ _ h => h) ?hy3_51 (by assumption) ?hh3_51
      case hi3_51 => ((simp only [List.getElem?_toArray, List.getElem?_cons_succ, List.getElem?_cons_zero]); rfl)
      case hs3_51 => kernel_rfl
      case hf3_51 => kernel_rfl
      case hr3_51 => kernel_rfl
      case hy3_51 => exact Or.inl ⟨by rfl, by (intro wq hSw; (try dsimp only at hSw); go_simp; (try with_reducible rfl))⟩
      try simp only [Act.put, List.setIfInBounds_toArray, List.set_cons_zero, List.set_cons_succ]
      refine wpAnyH_take (i := 4) (oi := ?o4_52) (v := ?v4_52) ?hi4_52 ?hs4_52 ?hf4_52 ?hr4_52 (fun _ _ _ h => h) ?hy4_52 (by assumption) ?hh4_52
      case hi4_52 => ((simp only [List.getElem?_toArray, List.getElem?_cons_succ, List.getElem?_cons_zero]); rfl)
      case hs4_52 => kernel_rfl
      case hf4_52 => kernel_rfl
      case hr4_52 => kernel_rfl
      case hy4_52 => exact Or.inl ⟨by rfl, by (intro wq hSw; (try dsimp only at hSw); go_simp; (try with_reducible rfl))⟩
      try simp only [Act.put, List.setIfInBounds_toArray, List.set_cons_zero, List.set_cons_succ]
      refine wpAnyH_take (i := 5) (oi := ?o5_53) (v := ?v5_53) ?hi5_53 ?hs5_53 ?hf5_53 ?hr5_53 (fun _ _ _ h => h) ?hy5_53 (by assumption) ?hh5_53
      case hi5_53 => ((simp only [List.getElem?_toArray, List.getElem?_cons_succ, List.getElem?_cons_zero]); rfl)
      case hs5_53 => kernel_rfl
      case hf5_53 => kernel_rfl
      case hr5_53 => kernel_rfl
      case hy5_53 => exact Or.inl ⟨by rfl, by (intro wq hSw; (try dsimp only at hSw); go_simp; (try with_reducible rfl))⟩
      try simp only [Act.put, List.setIfInBounds_toArray, List.set_cons_zero, List.set_cons_succ]
      refine wpAnyH_take (i := 6) (oi := ?o6_54) (v := ?v6_54) ?hi6_54 ?hs6_54 ?hf6_54 ?hr6_54 (fun _ _ _ h => h) ?hy6_54 (by assumption) ?hh6_54
      case hi6_54 => ((simp only [List.getElem?_toArray, List.getElem?_cons_succ, List.getElem?_cons_zero]); rfl)
      case hs6_54 => kernel_rfl
      case hf6_54 => kernel_rfl
      case hr6_54 => kernel_rfl
      case hy6_54 => exact Or.inl ⟨by rfl, by (intro wq hSw; (try dsimp only at hSw); go_simp; (try with_reducible rfl))⟩
      try simp only [Act.put, List.setIfInBounds_toArray, List.set_cons_zero, List.set_cons_succ]
      refine wpAnyH_take (i := 7) (oi := ?o7_55) (v := ?v7_55) ?hi7_55 ?hs7_55 ?hf7_55 ?hr7_55 (fun _ _ _ h => h) ?hy7_55 (by assumption) ?hh7_55
      case hi7_55 => ((simp only [List.getElem?_toArray, List.getElem?_cons_succ, List.getElem?_cons_zero]); rfl)
      case hs7_55 => kernel_rfl
      case hf7_55 => kernel_rfl
      case hr7_55 => kernel_rfl
      case hy7_55 => exact Or.inl ⟨by rfl, by (intro wq hSw; (try dsimp only at hSw); go_simp; (try with_reducible rfl))⟩
      try simp only [Act.put, List.setIfInBounds_toArray, List.set_cons_zero, List.set_cons_succ]
      refine wpAnyH_take (i := 10) (oi := ?o10_56) (v := ?v10_56) ?hi10_56 ?hs10_56 ?hf10_56 ?hr10_56 (fun _ _ _ h => h) ?hy10_56 (by assumption) ?hh10_56
      case hi10_56 => ((simp only [List.getElem?_toArray, List.getElem?_cons_succ, List.getElem?_cons_zero]); rfl)
      case hs10_56 => kernel_rfl
      case hf10_56 => kernel_rfl
      case hr10_56 => kernel_rfl
      case hy10_56 => exact Or.inl ⟨by rfl, by (intro wq hSw; (try dsimp only at hSw); go_simp; (try with_reducible rfl))⟩
      try simp only [Act.put, List.setIfInBounds_toArray, List.set_cons_zero, List.set_cons_succ]
      refine wpAnyH_take (i := 11) (oi := ?o11_57) (v := ?v11_57) ?hi11_57 ?hs11_57 ?hf11_57 ?hr11_57 (fun _ _ _ h => h) ?hy11_57 (by assumption) ?hh11_57
      case hi11_57 => ((simp only [List.getElem?_toArray, List.getElem?_cons_succ, List.getElem?_cons_zero]); rfl)
      case hs11_57 => kernel_rfl
      case hf11_57 => kernel_rfl
      case hr11_57 => kernel_rfl
      case hy11_57 => exact Or.inl ⟨by rfl, by (intro wq hSw; (try dsimp only at hSw); go_simp; (try with_reducible rfl))⟩
      try simp only [Act.put, List.setIfInBounds_toArray, List.set_cons_zero, List.set_cons_succ]
      refine wpAnyH_take (i := 12) (oi := ?o12_58) (v := ?v12_58) ?hi12_58 ?hs12_58 ?hf12_58 ?hr12_58 (fun _ _ _ h => h) ?hy12_58 (by assumption) ?hh12_58
      case hi12_58 => ((simp only [List.getElem?_toArray, List.getElem?_cons_succ, List.getElem?_cons_zero]); rfl)
      case hs12_58 => kernel_rfl
      case hf12_58 => kernel_rfl
      case hr12_58 => kernel_rfl
      case hy12_58 => exact Or.inl ⟨by rfl, by (intro wq hSw; (try dsimp only at hSw); go_simp; (try with_reducible rfl))⟩
      try simp only [Act.put, List.setIfInBounds_toArray, List.set_cons_zero, List.set_cons_succ]
      refine wpAnyH_take (i := 13) (oi := ?o13_59) (v := ?v13_59) ?hi13_59 ?hs13_59 ?hf13_59 ?hr13_59 (fun _ _ _ h => h) ?hy13_59 (by assumption) ?hh13_59
      case hi13_59 => ((simp only [List.getElem?_toArray, List.getElem?_cons_succ, List.getElem?_cons_zero]); rfl)
      case hs13_59 => kernel_rfl
      case hf13_59 => kernel_rfl
      case hr13_59 => kernel_rfl
      case hy13_59 => exact Or.inl ⟨by rfl, by (intro wq hSw; (try dsimp only at hSw); go_simp; (try with_reducible rfl))⟩
      try simp only [Act.put, List.setIfInBounds_toArray, List.set_cons_zero, List.set_cons_succ]
      refine wpAnyH_take (i := 14) (oi := ?o14_60) (v := ?v14_60) ?hi14_60 ?hs14_60 ?hf14_60 ?hr14_60 (fun _ _ _ h => h) ?hy14_60 (by assumption) ?hh14_60
      case hi14_60 => ((simp only [List.getElem?_toArray, List.getElem?_cons_succ, List.getElem?_cons_zero]); rfl)
      case hs14_60 => kernel_rfl
      case hf14_60 => kernel_rfl
      case hr14_60 => kernel_rfl
      case hy14_60 => exact Or.inl ⟨by rfl, by (intro wq hSw; (try dsimp only at hSw); go_simp; (try with_reducible rfl))⟩
      try simp only [Act.put, List.setIfInBounds_toArray, List.set_cons_zero, List.set_cons_succ]
      refine wpAnyH_ready (rs := [8]) (by kernel_rfl) (by simp) ?_
      refine AllReadyH.cons (o := ?o8_61) ?hi8_61 (fun K hK => ?hh8_61) AllReadyH.nil
      case hi8_61 => ((simp only [List.getElem?_toArray, List.getElem?_cons_succ, List.getElem?_cons_zero]); rfl)
      go_simp
      (go_at_call 50; refine (apart_is _ _ _ _ _ _ _ _ _ _ _ HTI HSI).mono ?_; rintro e w7 ⟨A7, c7, rfl, ho7, hb7⟩; have HO7 := hide (OwnI.sl ho7 rfl); have HB7 := hide (hHeld.trans (hb7.mono hHeld.size)); clear ho7 hb7)
      (try dsimp only)
      refine hK.out _ _ (HB7.out) (fun hHeld2 => ?_)
      clear hK K hHeld
      have hHeld := hHeld2
      clear hHeld2
      try simp only [Act.put, List.setIfInBounds_toArray, List.set_cons_zero, List.set_cons_succ]
      refine wpAnyH_ready (rs := [9]) (by kernel_rfl) (by simp) ?_
      refine AllReadyH.cons (o := ?o9_62) ?hi9_62 (fun K hK => ?hh9_62) AllReadyH.nil
      case hi9_62 => ((simp only [List.getElem?_toArray, List.getElem?_cons_succ, List.getElem?_cons_zero]); rfl)
      go_simp
      (go_at_call 49; refine (greatest_is A7 c7 _ _ HO7.out (by rw [devs_length]; omega) (by rw [devs_length]; omega) (hide ?_)).mono ?_; rotate_left; rintro e w8 ⟨rfl, hb8⟩; have HB8 := hide (HB7.out.trans (hb8.mono HB7.out.size)); clear hb8)
      (try dsimp only)
      refine hK.out _ _ (HB8.out) (fun hHeld2 => ?_)
      clear hK K hHeld
      have hHeld := hHeld2
      clear hHeld2
      try simp only [Act.put, List.setIfInBounds_toArray, List.set_cons_zero, List.set_cons_succ]
      refine wpAnyH_take (i := 15) (oi := ?o15_63) (v := ?v15_63) ?hi15_63 ?hs15_63 ?hf15_63 ?hr15_63 (fun _ _ _ h => h) ?hy15_63 (by assumption) ?hh15_63
      case hi15_63 => ((simp only [List.getElem?_toArray, List.getElem?_cons_succ, List.getElem?_cons_zero]); rfl)
      case hs15_63 => kernel_rfl
      case hf15_63 => kernel_rfl
      case hr15_63 => kernel_rfl
      case hy15_63 => exact Or.inl ⟨by rfl, by (intro wq hSw; (try dsimp only at hSw); go_simp; (try with_reducible rfl))⟩
      try simp only [Act.put, List.setIfInBounds_toArray, List.set_cons_zero, List.set_cons_succ]
      refine wpAnyH_take (i := 16) (oi := ?o16_64) (v := ?v16_64) ?hi16_64 ?hs16_64 ?hf16_64 ?hr16_64 (fun _ _ _ h => h) ?hy16_64 (by assumption) ?hh16_64
      case hi16_64 => ((simp only [List.getElem?_toArray, List.getElem?_cons_succ, List.getElem?_cons_zero]); rfl)
      case hs16_64 => kernel_rfl
      case hf16_64 => kernel_rfl
      case hr16_64 => kernel_rfl
      case hy16_64 => exact Or.inl ⟨by rfl, by (intro wq hSw; (try dsimp only at hSw); go_simp; (try with_reducible rfl))⟩
      try simp only [Act.put, List.setIfInBounds_toArray, List.set_cons_zero, List.set_cons_succ]
      refine wpAnyH_take (i := 17) (oi := ?o17_65) (v := ?v17_65) ?hi17_65 ?hs17_65 ?hf17_65 ?hr17_65 (fun _ _ _ h => h) ?hy17_65 (by assumption) ?hh17_65
      case hi17_65 => ((simp only [List.getElem?_toArray, List.getElem?_cons_succ, List.getElem?_cons_zero]); rfl)
      case hs17_65 => kernel_rfl
      case hf17_65 => kernel_rfl
      case hr17_65 => kernel_rfl
      case hy17_65 => exact Or.inl ⟨by rfl, by (intro wq hSw; (try dsimp only at hSw); go_simp; (try with_reducible rfl))⟩
      try simp only [Act.put, List.setIfInBounds_toArray, List.set_cons_zero, List.set_cons_succ]
      refine wpAnyH_done (by kernel_rfl) ?_ _
      refine NoPanic.normal ?_
      · go_wp2_with fail
        go_ret
        exact ⟨ret_bool HR.out.symm, HB6.out.trans (hHeld.mono HB6.out.size)⟩
      · exact devs_bd HTI.out HSI.out
end Go.Proofs.YtnefgafmnpblpaaGreat
