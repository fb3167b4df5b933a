/- Contracts: what is too low or too high, on both sides; deviations of the reference. -/
import Derived.Test.YtnefgafmnpblpaaGreatPnB
namespace Go.Proofs.YtnefgafmnpblpaaGreat
open Go.RowKit Pn

set_option maxRecDepth 100000 in
set_option maxHeartbeats 2000000 in
theorem implisTooLow_is (t0 t1 t2 t3 t4 tol most : Int) (k : Nat) (f : Int) (w : World) (HT : Hid (InF [t0, t1, t2, t3, t4])) (hk : k < 5) (ht0 : 0 ≤ tol) (ht1 : tol ≤ 20000) :
    Calls Tryz.prog 59 #[.agg #[.int .i64 t0, .int .i64 t1, .int .i64 t2, .int .i64 t3, .int .i64 t4, .int .i64 tol, .int .i64 most], .int .i64 k, .int .i64 f] w fun e w' => e = .returned (.bool (lowK [t0, t1, t2, t3, t4] tol k f)) ∧ Below w.heap.size w w' := by
  by_cases h1 : f < 10000
  · have E := hide (show lowK [t0, t1, t2, t3, t4] tol k f = true from by unfold lowK; simp; omega)
    have hA : decide (f < 10000) = true := by simp [h1]
    have hA2 : decide (20000000 < f) = false := by simp; omega
    have hA3 : decide (10000 ≤ f) = false := by simp; omega
    go_enter Tryz.func59, Tryz.ntmps59
    go_wp2_with fail
    refine wp_region_kept (by kernel_rfl) (by kernel_rfl) ?_
    intro gc gf gz
    repeat (go_big_quiet_step (fail))
    refine wpQuiet_nil ?_
    intro w1 hw'
    obtain ⟨⟨_, hb1⟩, rfl⟩ := hw'
    clear gc gf gz
    try dsimp only
    have fs1 := hb1.size
    try simp at fs1 hb1
    go_wp2_with fail
    go_ret
    exact ⟨ret_bool E.out.symm, Below.trans (show Below w.heap.size w (w.alloc (.cells #[.int .i64 t0, .int .i64 t1, .int .i64 t2, .int .i64 t3, .int .i64 t4, .int .i64 tol, .int .i64 most] 34)) from (by repeat (first | with_reducible exact Below.refl _ _ | with_reducible assumption | (with_reducible refine Below.drew ?_) | (with_reducible refine below_drewN ?_ _) | ((with_reducible refine Below.alloc ?_ ?_ _); rotate_left; (focus (first | omega | (simp; omega) | simp))) | ((with_reducible refine Below.setCell ?_ ?_ _); rotate_left; (focus (first | omega | (simp; omega) | simp))) | (refine Below.trans ?_ (Below.mono (by assumption) (by first | omega | (simp; omega) | simp)))))) (hb1.mono (by simp))⟩
  · by_cases h2 : 20000000 < f
    · have E := hide (show lowK [t0, t1, t2, t3, t4] tol k f = false from by unfold lowK; simp; omega)
      have hA : decide (f < 10000) = false := by simp; omega
      have hA1 : decide (f ≤ 20000000) = false := by simp; omega
      have hA2 : decide (20000000 < f) = true := by simp; omega
      go_enter Tryz.func59, Tryz.ntmps59
      go_wp2_with fail
      refine wp_region_kept (by kernel_rfl) (by kernel_rfl) ?_
      intro gc gf gz
      repeat (go_big_quiet_step (fail))
      refine wpQuiet_nil ?_
      intro w1 hw'
      obtain ⟨⟨_, hb1⟩, rfl⟩ := hw'
      clear gc gf gz
      try dsimp only
      have fs1 := hb1.size
      try simp at fs1 hb1
      go_wp2_with fail
      go_ret
      exact ⟨ret_bool E.out.symm, Below.trans (show Below w.heap.size w (w.alloc (.cells #[.int .i64 t0, .int .i64 t1, .int .i64 t2, .int .i64 t3, .int .i64 t4, .int .i64 tol, .int .i64 most] 34)) from (by repeat (first | with_reducible exact Below.refl _ _ | with_reducible assumption | (with_reducible refine Below.drew ?_) | (with_reducible refine below_drewN ?_ _) | ((with_reducible refine Below.alloc ?_ ?_ _); rotate_left; (focus (first | omega | (simp; omega) | simp))) | ((with_reducible refine Below.setCell ?_ ?_ _); rotate_left; (focus (first | omega | (simp; omega) | simp))) | (refine Below.trans ?_ (Below.mono (by assumption) (by first | omega | (simp; omega) | simp)))))) (hb1.mono (by simp))⟩
    · have hA : decide (f < 10000) = false := by simp; omega
      have hA1 : decide (f ≤ 20000000) = true := by simp; omega
      have hA2 : decide (20000000 < f) = false := by simp; omega
      have hA3 : decide (10000 ≤ f) = true := by simp; omega
      obtain ⟨g1, g2⟩ := HT.out k hk
      have HC := hide (fun w => implcents_is (ig [t0, t1, t2, t3, t4] k) f w g1 g2 (by omega) (by omega))
      have E := hide (show ∀ d, d = ctB (ig [t0, t1, t2, t3, t4] k) f → lowK [t0, t1, t2, t3, t4] tol k f = decide (d < -tol) from fun d hd => by subst hd; unfold lowK; simp only [hA, hA1, Bool.false_or, Bool.true_and])
      obtain ⟨fk, hfk⟩ : ∃ fk, fk = ig [t0, t1, t2, t3, t4] k := ⟨_, rfl⟩
      rw [← hfk] at HC E
      obtain ⟨d, hd⟩ : ∃ d, d = ctB fk f := ⟨_, rfl⟩
      rw [← hd] at HC
      have HD := hide hd
      have HFK := hide hfk
      have kn : IntKind.i64.wrap (-tol) = -tol := IntWalk.i64_in _ (by omega)
      have hk0 : (0 : Int) ≤ (k : Int) := by omega
      have hk1 : (k : Int) < 5 := by omega
      clear hfk g1 g2 hd
      obtain ⟨w1, hw1⟩ : ∃ w1, w1 = w.alloc (.cells #[.int .i64 t0, .int .i64 t1, .int .i64 t2, .int .i64 t3, .int .i64 t4, .int .i64 tol, .int .i64 most] 34) := ⟨_, rfl⟩
      have P0 : ∀ w', Below w1.heap.size w1 w' → w'.cell? ⟨w.heap.size, 0, none⟩ = some (.int .i64 t0) := fun w' h => (h.cell (p := ⟨w.heap.size, 0, none⟩) (by rw [hw1]; simp)).trans (by rw [hw1]; simp)
      have P1 : ∀ w', Below w1.heap.size w1 w' → w'.cell? ⟨w.heap.size, 1, none⟩ = some (.int .i64 t1) := fun w' h => (h.cell (p := ⟨w.heap.size, 1, none⟩) (by rw [hw1]; simp)).trans (by rw [hw1]; simp)
      have P2 : ∀ w', Below w1.heap.size w1 w' → w'.cell? ⟨w.heap.size, 2, none⟩ = some (.int .i64 t2) := fun w' h => (h.cell (p := ⟨w.heap.size, 2, none⟩) (by rw [hw1]; simp)).trans (by rw [hw1]; simp)
      have P3 : ∀ w', Below w1.heap.size w1 w' → w'.cell? ⟨w.heap.size, 3, none⟩ = some (.int .i64 t3) := fun w' h => (h.cell (p := ⟨w.heap.size, 3, none⟩) (by rw [hw1]; simp)).trans (by rw [hw1]; simp)
      have P4 : ∀ w', Below w1.heap.size w1 w' → w'.cell? ⟨w.heap.size, 4, none⟩ = some (.int .i64 t4) := fun w' h => (h.cell (p := ⟨w.heap.size, 4, none⟩) (by rw [hw1]; simp)).trans (by rw [hw1]; simp)
      have P5 : ∀ w', Below w1.heap.size w1 w' → w'.cell? ⟨w.heap.size, 5, none⟩ = some (.int .i64 tol) := fun w' h => (h.cell (p := ⟨w.heap.size, 5, none⟩) (by rw [hw1]; simp)).trans (by rw [hw1]; simp)
      have HB1 := hide (show Below w.heap.size w w1 from by rw [hw1]; exact (Below.refl _ _).alloc (Nat.le_refl _) _)
      have hz1 : w.heap.size ≤ w1.heap.size := by rw [hw1]; simp
      go_enter Tryz.func59, Tryz.ntmps59
      go_wp2_with fail
      rw [← hw1]
      clear hw1
      refine wp_region_noPanic ?_
      refine wp_region_held_drew (S := (fun w' => Below w1.heap.size w1 w')) (by kernel_rfl) ((Below.refl _ _).drew) (fun hHeld => ?_)
      refine wpAnyH_take (i := 0) (oi := ?o0_1) (v := ?v0_1) ?hi0_1 ?hs0_1 ?hf0_1 ?hr0_1 (fun _ _ _ h => h) ?hy0_1 (by assumption) ?hh0_1
      case hi0_1 => ((simp only [List.getElem?_toArray, List.getElem?_cons_zero]); rfl)
      case hs0_1 => kernel_rfl
      case hf0_1 => kernel_rfl
      case hr0_1 => kernel_rfl
      case hy0_1 => exact Or.inl ⟨by rfl, by (intro wq hSw; (try dsimp only at hSw); go_simp; (try with_reducible rfl))⟩
      try simp only [Act.put, List.setIfInBounds_toArray, List.set_cons_zero, List.set_cons_succ]
      refine wpAnyH_take (i := 1) (oi := ?o1_2) (v := ?v1_2) ?hi1_2 ?hs1_2 ?hf1_2 ?hr1_2 (fun _ _ _ h => h) ?hy1_2 (by assumption) ?hh1_2
      case hi1_2 => ((simp only [List.getElem?_toArray, List.getElem?_cons_succ, List.getElem?_cons_zero]); rfl)
      case hs1_2 => kernel_rfl
      case hf1_2 => kernel_rfl
      case hr1_2 => kernel_rfl
      case hy1_2 => exact Or.inl ⟨by rfl, by (intro wq hSw; (try dsimp only at hSw); go_simp; (try with_reducible rfl))⟩
      try simp only [Act.put, List.setIfInBounds_toArray, List.set_cons_zero, List.set_cons_succ]
      refine wpAnyH_take (i := 2) (oi := ?o2_3) (v := ?v2_3) ?hi2_3 ?hs2_3 ?hf2_3 ?hr2_3 (fun _ _ _ h => h) ?hy2_3 (by assumption) ?hh2_3
      case hi2_3 => ((simp only [List.getElem?_toArray, List.getElem?_cons_succ, List.getElem?_cons_zero]); rfl)
      case hs2_3 => kernel_rfl
      case hf2_3 => kernel_rfl
      case hr2_3 => kernel_rfl
      case hy2_3 => exact Or.inl ⟨by rfl, by (intro wq hSw; (try dsimp only at hSw); go_simp; (try with_reducible rfl))⟩
      try simp only [Act.put, List.setIfInBounds_toArray, List.set_cons_zero, List.set_cons_succ]
      refine wpAnyH_take (i := 3) (oi := ?o3_4) (v := ?v3_4) ?hi3_4 ?hs3_4 ?hf3_4 ?hr3_4 (fun _ _ _ h => h) ?hy3_4 (by assumption) ?hh3_4
      case hi3_4 => ((simp only [List.getElem?_toArray, List.getElem?_cons_succ, List.getElem?_cons_zero]); rfl)
      case hs3_4 => kernel_rfl
      case hf3_4 => kernel_rfl
      case hr3_4 => kernel_rfl
      case hy3_4 => exact Or.inl ⟨by rfl, by (intro wq hSw; (try dsimp only at hSw); go_simp; (try with_reducible rfl))⟩
      try simp only [Act.put, List.setIfInBounds_toArray, List.set_cons_zero, List.set_cons_succ]
      refine wpAnyH_take (i := 4) (oi := ?o4_5) (v := ?v4_5) ?hi4_5 ?hs4_5 ?hf4_5 ?hr4_5 (fun _ _ _ h => h) ?hy4_5 (by assumption) ?hh4_5
      case hi4_5 => ((simp only [List.getElem?_toArray, List.getElem?_cons_succ, List.getElem?_cons_zero]); rfl)
      case hs4_5 => kernel_rfl
      case hf4_5 => kernel_rfl
      case hr4_5 => kernel_rfl
      case hy4_5 => exact Or.inl ⟨by rfl, by (intro wq hSw; (try dsimp only at hSw); go_simp; (try with_reducible rfl))⟩
      try simp only [Act.put, List.setIfInBounds_toArray, List.set_cons_zero, List.set_cons_succ]
      refine wpAnyH_take (i := 5) (oi := ?o5_6) (v := ?v5_6) ?hi5_6 ?hs5_6 ?hf5_6 ?hr5_6 (fun _ _ _ h => h) ?hy5_6 (by assumption) ?hh5_6
      case hi5_6 => ((simp only [List.getElem?_toArray, List.getElem?_cons_succ, List.getElem?_cons_zero]); rfl)
      case hs5_6 => kernel_rfl
      case hf5_6 => kernel_rfl
      case hr5_6 => kernel_rfl
      case hy5_6 => exact Or.inl ⟨by rfl, by (intro wq hSw; (try dsimp only at hSw); go_simp; (try with_reducible rfl))⟩
      try simp only [Act.put, List.setIfInBounds_toArray, List.set_cons_zero, List.set_cons_succ]
      refine wpAnyH_take (i := 6) (oi := ?o6_7) (v := ?v6_7) ?hi6_7 ?hs6_7 ?hf6_7 ?hr6_7 (fun _ _ _ h => h) ?hy6_7 (by assumption) ?hh6_7
      case hi6_7 => ((simp only [List.getElem?_toArray, List.getElem?_cons_succ, List.getElem?_cons_zero]); rfl)
      case hs6_7 => kernel_rfl
      case hf6_7 => kernel_rfl
      case hr6_7 => kernel_rfl
      case hy6_7 => exact Or.inl ⟨by rfl, by (intro wq hSw; (try dsimp only at hSw); go_simp; (try with_reducible rfl))⟩
      try simp only [Act.put, List.setIfInBounds_toArray, List.set_cons_zero, List.set_cons_succ]
      refine wpAnyH_take (i := 7) (oi := ?o7_8) (v := ?v7_8) ?hi7_8 ?hs7_8 ?hf7_8 ?hr7_8 (fun _ _ _ h => h) ?hy7_8 (by assumption) ?hh7_8
      case hi7_8 => ((simp only [List.getElem?_toArray, List.getElem?_cons_succ, List.getElem?_cons_zero]); rfl)
      case hs7_8 => kernel_rfl
      case hf7_8 => kernel_rfl
      case hr7_8 => kernel_rfl
      case hy7_8 => exact Or.inl ⟨by rfl, by (intro wq hSw; (try dsimp only at hSw); go_simp; (try with_reducible rfl))⟩
      try simp only [Act.put, List.setIfInBounds_toArray, List.set_cons_zero, List.set_cons_succ]
      refine wpAnyH_take (i := 9) (oi := ?o9_9) (v := ?v9_9) ?hi9_9 ?hs9_9 ?hf9_9 ?hr9_9 (fun _ _ _ h => h) ?hy9_9 (by assumption) ?hh9_9
      case hi9_9 => ((simp only [List.getElem?_toArray, List.getElem?_cons_succ, List.getElem?_cons_zero]); rfl)
      case hs9_9 => kernel_rfl
      case hf9_9 => kernel_rfl
      case hr9_9 => kernel_rfl
      case hy9_9 => exact Or.inl ⟨by rfl, by (intro wq hSw; (try dsimp only at hSw); go_simp; (try with_reducible rfl))⟩
      try simp only [Act.put, List.setIfInBounds_toArray, List.set_cons_zero, List.set_cons_succ]
      refine wpAnyH_take (i := 12) (oi := ?o12_10) (v := ?v12_10) ?hi12_10 ?hs12_10 ?hf12_10 ?hr12_10 (fun _ _ _ h => h) ?hy12_10 (by assumption) ?hh12_10
      case hi12_10 => ((simp only [List.getElem?_toArray, List.getElem?_cons_succ, List.getElem?_cons_zero]); rfl)
      case hs12_10 => kernel_rfl
      case hf12_10 => kernel_rfl
      case hr12_10 => kernel_rfl
      case hy12_10 => exact Or.inl ⟨by rfl, by (intro wq hSw; (try dsimp only at hSw); go_simp; (try with_reducible rfl))⟩
      try simp only [Act.put, List.setIfInBounds_toArray, List.set_cons_zero, List.set_cons_succ]
      refine wpAnyH_take (i := 14) (oi := ?o14_11) (v := ?v14_11) ?hi14_11 ?hs14_11 ?hf14_11 ?hr14_11 (fun _ _ _ h => h) ?hy14_11 (by assumption) ?hh14_11
      case hi14_11 => ((simp only [List.getElem?_toArray, List.getElem?_cons_succ, List.getElem?_cons_zero]); rfl)
      case hs14_11 => kernel_rfl
      case hf14_11 => kernel_rfl
      case hr14_11 => kernel_rfl
      case hy14_11 => exact Or.inl ⟨by rfl, by (intro wq hSw; (try dsimp only at hSw); go_simp; (try with_reducible rfl))⟩
      try simp only [Act.put, List.setIfInBounds_toArray, List.set_cons_zero, List.set_cons_succ]
      refine wpAnyH_take (i := 15) (oi := ?o15_12) (v := ?v15_12) ?hi15_12 ?hs15_12 ?hf15_12 ?hr15_12 (fun _ _ _ h => h) ?hy15_12 (by assumption) ?hh15_12
      case hi15_12 => ((simp only [List.getElem?_toArray, List.getElem?_cons_succ, List.getElem?_cons_zero]); rfl)
      case hs15_12 => kernel_rfl
      case hf15_12 => kernel_rfl
      case hr15_12 => kernel_rfl
      case hy15_12 => exact Or.inl ⟨by rfl, by (intro wq hSw; (try dsimp only at hSw); go_simp; (try with_reducible rfl))⟩
      try simp only [Act.put, List.setIfInBounds_toArray, List.set_cons_zero, List.set_cons_succ]
      refine wpAnyH_take (i := 16) (oi := ?o16_13) (v := ?v16_13) ?hi16_13 ?hs16_13 ?hf16_13 ?hr16_13 (fun _ _ _ h => h) ?hy16_13 (by assumption) ?hh16_13
      case hi16_13 => ((simp only [List.getElem?_toArray, List.getElem?_cons_succ, List.getElem?_cons_zero]); rfl)
      case hs16_13 => kernel_rfl
      case hf16_13 => kernel_rfl
      case hr16_13 => kernel_rfl
      case hy16_13 => exact Or.inl ⟨by rfl, by (intro wq hSw; (try dsimp only at hSw); go_simp; (try with_reducible rfl))⟩
      try simp only [Act.put, List.setIfInBounds_toArray, List.set_cons_zero, List.set_cons_succ]
      refine wpAnyH_ready (rs := [8]) (by kernel_rfl) (by simp) ?_
      refine AllReadyH.cons (o := ?o8_14) ?hi8_14 (fun K hK => ?hh8_14) AllReadyH.nil
      case hi8_14 => ((simp only [List.getElem?_toArray, List.getElem?_cons_succ, List.getElem?_cons_zero]); rfl)
      go_simp
      (go_at_call 107; refine (listOf_is _ _ _ _ _ _).mono ?_; rintro e1 wK ⟨bK, rfl, hoK, hbK⟩; obtain ⟨bL, oL, eL, hbL, hcL⟩ := (hoK.sl rfl).getA (by simp); injection eL with eL; injection eL with eL1 eL2; subst eL1; subst eL2; have hkL := hcL k (by simpa using hk); simp only [Nat.zero_add] at hkL; rw [← HFK.out] at hkL; have HBK := hide hbK; clear hcL hoK hbK)
      (try dsimp only)
      refine hK.out _ _ (hHeld.trans (HBK.out.mono hHeld.size)) (fun hHeld2 => ?_)
      clear hK K hHeld
      have hHeld := hHeld2
      clear hHeld2
      try simp only [Act.put, List.setIfInBounds_toArray, List.set_cons_zero, List.set_cons_succ]
      refine wpAnyH_take (i := 10) (oi := ?o10_15) (v := ?v10_15) ?hi10_15 ?hs10_15 ?hf10_15 ?hr10_15 (fun _ _ _ h => h) ?hy10_15 (by assumption) ?hh10_15
      case hi10_15 => ((simp only [List.getElem?_toArray, List.getElem?_cons_succ, List.getElem?_cons_zero]); rfl)
      case hs10_15 => kernel_rfl
      case hf10_15 => kernel_rfl
      case hr10_15 => kernel_rfl
      case hy10_15 => exact Or.inl ⟨by rfl, by (intro wq hSw; (try dsimp only at hSw); go_simp; (try with_reducible rfl))⟩
      try simp only [Act.put, List.setIfInBounds_toArray, List.set_cons_zero, List.set_cons_succ]
      refine wpAnyH_ready (rs := [11]) (by kernel_rfl) (by simp) ?_
      refine AllReadyH.cons (o := ?o11_16) ?hi11_16 (fun K hK => ?hh11_16) AllReadyH.nil
      case hi11_16 => ((simp only [List.getElem?_toArray, List.getElem?_cons_succ, List.getElem?_cons_zero]); rfl)
      go_simp
      refine hK.out _ _ (hHeld) (fun hHeld2 => ?_)
      clear hK K hHeld
      have hHeld := hHeld2
      clear hHeld2
      try simp only [Act.put, List.setIfInBounds_toArray, List.set_cons_zero, List.set_cons_succ]
      refine wpAnyH_ready (rs := [13]) (by kernel_rfl) (by simp) ?_
      refine AllReadyH.cons (o := ?o13_17) ?hi13_17 (fun K hK => ?hh13_17) AllReadyH.nil
      case hi13_17 => ((simp only [List.getElem?_toArray, List.getElem?_cons_succ, List.getElem?_cons_zero]); rfl)
      go_simp
      (go_at_call 108; refine (HC.out _).mono ?_; rintro e2 wC ⟨rfl, rfl⟩)
      (try dsimp only)
      refine hK.out _ _ (hHeld) (fun hHeld2 => ?_)
      clear hK K hHeld
      have hHeld := hHeld2
      clear hHeld2
      try simp only [Act.put, List.setIfInBounds_toArray, List.set_cons_zero, List.set_cons_succ]
      refine wpAnyH_take (i := 17) (oi := ?o17_18) (v := ?v17_18) ?hi17_18 ?hs17_18 ?hf17_18 ?hr17_18 (fun _ _ _ h => h) ?hy17_18 (by assumption) ?hh17_18
      case hi17_18 => ((simp only [List.getElem?_toArray, List.getElem?_cons_succ, List.getElem?_cons_zero]); rfl)
      case hs17_18 => kernel_rfl
      case hf17_18 => kernel_rfl
      case hr17_18 => kernel_rfl
      case hy17_18 => exact Or.inl ⟨by rfl, by (intro wq hSw; (try dsimp only at hSw); go_simp; (try with_reducible rfl))⟩
      try simp only [Act.put, List.setIfInBounds_toArray, List.set_cons_zero, List.set_cons_succ]
      refine wpAnyH_take (i := 18) (oi := ?o18_19) (v := ?v18_19) ?hi18_19 ?hs18_19 ?hf18_19 ?hr18_19 (fun _ _ _ h => h) ?hy18_19 (by assumption) ?hh18_19
      case hi18_19 => ((simp only [List.getElem?_toArray, List.getElem?_cons_succ, List.getElem?_cons_zero]); rfl)
      case hs18_19 => kernel_rfl
      case hf18_19 => kernel_rfl
      case hr18_19 => kernel_rfl
      case hy18_19 => exact Or.inl ⟨by rfl, by (intro wq hSw; (try dsimp only at hSw); go_simp; (try with_reducible rfl))⟩
      try simp only [Act.put, List.setIfInBounds_toArray, List.set_cons_zero, List.set_cons_succ]
      refine wpAnyH_take (i := 19) (oi := ?o19_20) (v := ?v19_20) ?hi19_20 ?hs19_20 ?hf19_20 ?hr19_20 (fun _ _ _ h => h) ?hy19_20 (by assumption) ?hh19_20
      case hi19_20 => ((simp only [List.getElem?_toArray, List.getElem?_cons_succ, List.getElem?_cons_zero]); rfl)
      case hs19_20 => kernel_rfl
      case hf19_20 => kernel_rfl
      case hr19_20 => kernel_rfl
      case hy19_20 => exact Or.inl ⟨by rfl, by (intro wq hSw; (try dsimp only at hSw); go_simp; (try with_reducible rfl))⟩
      try simp only [Act.put, List.setIfInBounds_toArray, List.set_cons_zero, List.set_cons_succ]
      refine wpAnyH_take (i := 20) (oi := ?o20_21) (v := ?v20_21) ?hi20_21 ?hs20_21 ?hf20_21 ?hr20_21 (fun _ _ _ h => h) ?hy20_21 (by assumption) ?hh20_21
      case hi20_21 => ((simp only [List.getElem?_toArray, List.getElem?_cons_succ, List.getElem?_cons_zero]); rfl)
      case hs20_21 => kernel_rfl
      case hf20_21 => kernel_rfl
      case hr20_21 => kernel_rfl
      case hy20_21 => exact Or.inl ⟨by rfl, by (intro wq hSw; (try dsimp only at hSw); go_simp; (try with_reducible rfl))⟩
      try simp only [Act.put, List.setIfInBounds_toArray, List.set_cons_zero, List.set_cons_succ]
      refine wpAnyH_done (by kernel_rfl) ?_ _
      refine NoPanic.normal ?_
      go_wp2_with fail
      go_ret
      exact ⟨ret_bool (E.out _ HD.out).symm, HB1.out.trans (hHeld.mono hz1)⟩
set_option maxRecDepth 100000 in
set_option maxHeartbeats 2000000 in
theorem implisTooHigh_is (t0 t1 t2 t3 t4 tol most : Int) (k : Nat) (f : Int) (w : World) (HT : Hid (InF [t0, t1, t2, t3, t4])) (hk : k < 5) (ht0 : 0 ≤ tol) (ht1 : tol ≤ 20000) :
    Calls Tryz.prog 60 #[.agg #[.int .i64 t0, .int .i64 t1, .int .i64 t2, .int .i64 t3, .int .i64 t4, .int .i64 tol, .int .i64 most], .int .i64 k, .int .i64 f] w fun e w' => e = .returned (.bool (highK [t0, t1, t2, t3, t4] tol k f)) ∧ Below w.heap.size w w' := by
  by_cases h1 : f < 10000
  · have E := hide (show highK [t0, t1, t2, t3, t4] tol k f = false from by unfold highK; simp; omega)
    have hA : decide (f < 10000) = true := by simp [h1]
    have hA2 : decide (20000000 < f) = false := by simp; omega
    have hA3 : decide (10000 ≤ f) = false := by simp; omega
    go_enter Tryz.func60, Tryz.ntmps60
    go_wp2_with fail
    refine wp_region_kept (by kernel_rfl) (by kernel_rfl) ?_
    intro gc gf gz
    repeat (go_big_quiet_step (fail))
    refine wpQuiet_nil ?_
    intro w1 hw'
    obtain ⟨⟨_, hb1⟩, rfl⟩ := hw'
    clear gc gf gz
    try dsimp only
    have fs1 := hb1.size
    try simp at fs1 hb1
    go_wp2_with fail
    go_ret
    exact ⟨ret_bool E.out.symm, Below.trans (show Below w.heap.size w (w.alloc (.cells #[.int .i64 t0, .int .i64 t1, .int .i64 t2, .int .i64 t3, .int .i64 t4, .int .i64 tol, .int .i64 most] 34)) from (by repeat (first | with_reducible exact Below.refl _ _ | with_reducible assumption | (with_reducible refine Below.drew ?_) | (with_reducible refine below_drewN ?_ _) | ((with_reducible refine Below.alloc ?_ ?_ _); rotate_left; (focus (first | omega | (simp; omega) | simp))) | ((with_reducible refine Below.setCell ?_ ?_ _); rotate_left; (focus (first | omega | (simp; omega) | simp))) | (refine Below.trans ?_ (Below.mono (by assumption) (by first | omega | (simp; omega) | simp)))))) (hb1.mono (by simp))⟩
  · by_cases h2 : 20000000 < f
    · have E := hide (show highK [t0, t1, t2, t3, t4] tol k f = true from by unfold highK; simp; omega)
      have hA : decide (f < 10000) = false := by simp; omega
      have hA1 : decide (f ≤ 20000000) = false := by simp; omega
      have hA2 : decide (20000000 < f) = true := by simp; omega
      go_enter Tryz.func60, Tryz.ntmps60
      go_wp2_with fail
      refine wp_region_kept (by kernel_rfl) (by kernel_rfl) ?_
      intro gc gf gz
      repeat (go_big_quiet_step (fail))
      refine wpQuiet_nil ?_
      intro w1 hw'
      obtain ⟨⟨_, hb1⟩, rfl⟩ := hw'
      clear gc gf gz
      try dsimp only
      have fs1 := hb1.size
      try simp at fs1 hb1
      go_wp2_with fail
      go_ret
      exact ⟨ret_bool E.out.symm, Below.trans (show Below w.heap.size w (w.alloc (.cells #[.int .i64 t0, .int .i64 t1, .int .i64 t2, .int .i64 t3, .int .i64 t4, .int .i64 tol, .int .i64 most] 34)) from (by repeat (first | with_reducible exact Below.refl _ _ | with_reducible assumption | (with_reducible refine Below.drew ?_) | (with_reducible refine below_drewN ?_ _) | ((with_reducible refine Below.alloc ?_ ?_ _); rotate_left; (focus (first | omega | (simp; omega) | simp))) | ((with_reducible refine Below.setCell ?_ ?_ _); rotate_left; (focus (first | omega | (simp; omega) | simp))) | (refine Below.trans ?_ (Below.mono (by assumption) (by first | omega | (simp; omega) | simp)))))) (hb1.mono (by simp))⟩
    · have hA : decide (f < 10000) = false := by simp; omega
      have hA1 : decide (f ≤ 20000000) = true := by simp; omega
      have hA2 : decide (20000000 < f) = false := by simp; omega
      have hA3 : decide (10000 ≤ f) = true := by simp; omega
      obtain ⟨g1, g2⟩ := HT.out k hk
      have HC := hide (fun w => implcents_is (ig [t0, t1, t2, t3, t4] k) f w g1 g2 (by omega) (by omega))
      have E := hide (show ∀ d, d = ctB (ig [t0, t1, t2, t3, t4] k) f → highK [t0, t1, t2, t3, t4] tol k f = decide (tol < d) from fun d hd => by subst hd; unfold highK; simp only [hA2, hA3, Bool.false_or, Bool.true_and])
      obtain ⟨fk, hfk⟩ : ∃ fk, fk = ig [t0, t1, t2, t3, t4] k := ⟨_, rfl⟩
      rw [← hfk] at HC E
      obtain ⟨d, hd⟩ : ∃ d, d = ctB fk f := ⟨_, rfl⟩
      rw [← hd] at HC
      have HD := hide hd
      have HFK := hide hfk
      have kn : IntKind.i64.wrap (-tol) = -tol := IntWalk.i64_in _ (by omega)
      have hk0 : (0 : Int) ≤ (k : Int) := by omega
      have hk1 : (k : Int) < 5 := by omega
      clear hfk g1 g2 hd
      obtain ⟨w1, hw1⟩ : ∃ w1, w1 = w.alloc (.cells #[.int .i64 t0, .int .i64 t1, .int .i64 t2, .int .i64 t3, .int .i64 t4, .int .i64 tol, .int .i64 most] 34) := ⟨_, rfl⟩
      have P0 : ∀ w', Below w1.heap.size w1 w' → w'.cell? ⟨w.heap.size, 0, none⟩ = some (.int .i64 t0) := fun w' h => (h.cell (p := ⟨w.heap.size, 0, none⟩) (by rw [hw1]; simp)).trans (by rw [hw1]; simp)
      have P1 : ∀ w', Below w1.heap.size w1 w' → w'.cell? ⟨w.heap.size, 1, none⟩ = some (.int .i64 t1) := fun w' h => (h.cell (p := ⟨w.heap.size, 1, none⟩) (by rw [hw1]; simp)).trans (by rw [hw1]; simp)
      have P2 : ∀ w', Below w1.heap.size w1 w' → w'.cell? ⟨w.heap.size, 2, none⟩ = some (.int .i64 t2) := fun w' h => (h.cell (p := ⟨w.heap.size, 2, none⟩) (by rw [hw1]; simp)).trans (by rw [hw1]; simp)
      have P3 : ∀ w', Below w1.heap.size w1 w' → w'.cell? ⟨w.heap.size, 3, none⟩ = some (.int .i64 t3) := fun w' h => (h.cell (p := ⟨w.heap.size, 3, none⟩) (by rw [hw1]; simp)).trans (by rw [hw1]; simp)
      have P4 : ∀ w', Below w1.heap.size w1 w' → w'.cell? ⟨w.heap.size, 4, none⟩ = some (.int .i64 t4) := fun w' h => (h.cell (p := ⟨w.heap.size, 4, none⟩) (by rw [hw1]; simp)).trans (by rw [hw1]; simp)
      have P5 : ∀ w', Below w1.heap.size w1 w' → w'.cell? ⟨w.heap.size, 5, none⟩ = some (.int .i64 tol) := fun w' h => (h.cell (p := ⟨w.heap.size, 5, none⟩) (by rw [hw1]; simp)).trans (by rw [hw1]; simp)
      have HB1 := hide (show Below w.heap.size w w1 from by rw [hw1]; exact (Below.refl _ _).alloc (Nat.le_refl _) _)
      have hz1 : w.heap.size ≤ w1.heap.size := by rw [hw1]; simp
      go_enter Tryz.func60, Tryz.ntmps60
      go_wp2_with fail
      rw [← hw1]
      clear hw1
      refine wp_region_noPanic ?_
      refine wp_region_held_drew (S := (fun w' => Below w1.heap.size w1 w')) (by kernel_rfl) ((Below.refl _ _).drew) (fun hHeld => ?_)
      refine wpAnyH_take (i := 0) (oi := ?o0_22) (v := ?v0_22) ?hi0_22 ?hs0_22 ?hf0_22 ?hr0_22 (fun _ _ _ h => h) ?hy0_22 (by assumption) ?hh0_22
      case hi0_22 => ((simp only [List.getElem?_toArray, List.getElem?_cons_zero]); rfl)
      case hs0_22 => kernel_rfl
      case hf0_22 => kernel_rfl
      case hr0_22 => kernel_rfl
      case hy0_22 => exact Or.inl ⟨by rfl, by (intro wq hSw; (try dsimp only at hSw); go_simp; (try with_reducible rfl))⟩
      try simp only [Act.put, List.setIfInBounds_toArray, List.set_cons_zero, List.set_cons_succ]
      refine wpAnyH_take (i := 1) (oi := ?o1_23) (v := ?v1_23) ?hi1_23 ?hs1_23 ?hf1_23 ?hr1_23 (fun _ _ _ h => h) ?hy1_23 (by assumption) ?hh1_23
      case hi1_23 => ((simp only [List.getElem?_toArray, List.getElem?_cons_succ, List.getElem?_cons_zero]); rfl)
      case hs1_23 => kernel_rfl
      case hf1_23 => kernel_rfl
      case hr1_23 => kernel_rfl
      case hy1_23 => exact Or.inl ⟨by rfl, by (intro wq hSw; (try dsimp only at hSw); go_simp; (try with_reducible rfl))⟩
      try simp only [Act.put, List.setIfInBounds_toArray, List.set_cons_zero, List.set_cons_succ]
      refine wpAnyH_take (i := 2) (oi := ?o2_24) (v := ?v2_24) ?hi2_24 ?hs2_24 ?hf2_24 ?hr2_24 (fun _ _ _ h => h) ?hy2_24 (by assumption) ?hh2_24
      case hi2_24 => ((simp only [List.getElem?_toArray, List.getElem?_cons_succ, List.getElem?_cons_zero]); rfl)
      case hs2_24 => kernel_rfl
      case hf2_24 => kernel_rfl
      case hr2_24 => kernel_rfl
      case hy2_24 => exact Or.inl ⟨by rfl, by (intro wq hSw; (try dsimp only at hSw); go_simp; (try with_reducible rfl))⟩
      try simp only [Act.put, List.setIfInBounds_toArray, List.set_cons_zero, List.set_cons_succ]
      refine wpAnyH_take (i := 3) (oi := ?o3_25) (v := ?v3_25) ?hi3_25 ?hs3_25 ?hf3_25 ?hr3_25 (fun _ _ _ h => h) ?hy3_25 (by assumption) ?hh3_25
      case hi3_25 => ((simp only [List.getElem?_toArray, List.getElem?_cons_succ, List.getElem?_cons_zero]); rfl)
      case hs3_25 => kernel_rfl
      case hf3_25 => kernel_rfl
      case hr3_25 => kernel_rfl
      case hy3_25 => exact Or.inl ⟨by rfl, by (intro wq hSw; (try dsimp only at hSw); go_simp; (try with_reducible rfl))⟩
      try simp only [Act.put, List.setIfInBounds_toArray, List.set_cons_zero, List.set_cons_succ]
      refine wpAnyH_take (i := 4) (oi := ?o4_26) (v := ?v4_26) ?hi4_26 ?hs4_26 ?hf4_26 ?hr4_26 (fun _ _ _ h => h) ?hy4_26 (by assumption) ?hh4_26
      case hi4_26 => ((simp only [List.getElem?_toArray, List.getElem?_cons_succ, List.getElem?_cons_zero]); rfl)
      case hs4_26 => kernel_rfl
      case hf4_26 => kernel_rfl
      case hr4_26 => kernel_rfl
      case hy4_26 => exact Or.inl ⟨by rfl, by (intro wq hSw; (try dsimp only at hSw); go_simp; (try with_reducible rfl))⟩
      try simp only [Act.put, List.setIfInBounds_toArray, List.set_cons_zero, List.set_cons_succ]
      refine wpAnyH_take (i := 5) (oi := ?o5_27) (v := ?v5_27) ?hi5_27 ?hs5_27 ?hf5_27 ?hr5_27 (fun _ _ _ h => h) ?hy5_27 (by assumption) ?hh5_27
      case hi5_27 => ((simp only [List.getElem?_toArray, List.getElem?_cons_succ, List.getElem?_cons_zero]); rfl)
      case hs5_27 => kernel_rfl
      case hf5_27 => kernel_rfl
      case hr5_27 => kernel_rfl
      case hy5_27 => exact Or.inl ⟨by rfl, by (intro wq hSw; (try dsimp only at hSw); go_simp; (try with_reducible rfl))⟩
      try simp only [Act.put, List.setIfInBounds_toArray, List.set_cons_zero, List.set_cons_succ]
      refine wpAnyH_take (i := 6) (oi := ?o6_28) (v := ?v6_28) ?hi6_28 ?hs6_28 ?hf6_28 ?hr6_28 (fun _ _ _ h => h) ?hy6_28 (by assumption) ?hh6_28
      case hi6_28 => ((simp only [List.getElem?_toArray, List.getElem?_cons_succ, List.getElem?_cons_zero]); rfl)
      case hs6_28 => kernel_rfl
      case hf6_28 => kernel_rfl
      case hr6_28 => kernel_rfl
      case hy6_28 => exact Or.inl ⟨by rfl, by (intro wq hSw; (try dsimp only at hSw); go_simp; (try with_reducible rfl))⟩
      try simp only [Act.put, List.setIfInBounds_toArray, List.set_cons_zero, List.set_cons_succ]
      refine wpAnyH_take (i := 7) (oi := ?o7_29) (v := ?v7_29) ?hi7_29 ?hs7_29 ?hf7_29 ?hr7_29 (fun _ _ _ h => h) ?hy7_29 (by assumption) ?hh7_29
      case hi7_29 => ((simp only [List.getElem?_toArray, List.getElem?_cons_succ, List.getElem?_cons_zero]); rfl)
      case hs7_29 => kernel_rfl
      case hf7_29 => kernel_rfl
      case hr7_29 => kernel_rfl
      case hy7_29 => exact Or.inl ⟨by rfl, by (intro wq hSw; (try dsimp only at hSw); go_simp; (try with_reducible rfl))⟩
      try simp only [Act.put, List.setIfInBounds_toArray, List.set_cons_zero, List.set_cons_succ]
      refine wpAnyH_take (i := 9) (oi := ?o9_30) (v := ?v9_30) ?hi9_30 ?hs9_30 ?hf9_30 ?hr9_30 (fun _ _ _ h => h) ?hy9_30 (by assumption) ?hh9_30
      case hi9_30 => ((simp only [List.getElem?_toArray, List.getElem?_cons_succ, List.getElem?_cons_zero]); rfl)
      case hs9_30 => kernel_rfl
      case hf9_30 => kernel_rfl
      case hr9_30 => kernel_rfl
      case hy9_30 => exact Or.inl ⟨by rfl, by (intro wq hSw; (try dsimp only at hSw); go_simp; (try with_reducible rfl))⟩
      try simp only [Act.put, List.setIfInBounds_toArray, List.set_cons_zero, List.set_cons_succ]
      refine wpAnyH_take (i := 12) (oi := ?o12_31) (v := ?v12_31) ?hi12_31 ?hs12_31 ?hf12_31 ?hr12_31 (fun _ _ _ h => h) ?hy12_31 (by assumption) ?hh12_31
      case hi12_31 => ((simp only [List.getElem?_toArray, List.getElem?_cons_succ, List.getElem?_cons_zero]); rfl)
      case hs12_31 => kernel_rfl
      case hf12_31 => kernel_rfl
      case hr12_31 => kernel_rfl
      case hy12_31 => exact Or.inl ⟨by rfl, by (intro wq hSw; (try dsimp only at hSw); go_simp; (try with_reducible rfl))⟩
      try simp only [Act.put, List.setIfInBounds_toArray, List.set_cons_zero, List.set_cons_succ]
      refine wpAnyH_take (i := 14) (oi := ?o14_32) (v := ?v14_32) ?hi14_32 ?hs14_32 ?hf14_32 ?hr14_32 (fun _ _ _ h => h) ?hy14_32 (by assumption) ?hh14_32
      case hi14_32 => ((simp only [List.getElem?_toArray, List.getElem?_cons_succ, List.getElem?_cons_zero]); rfl)
      case hs14_32 => kernel_rfl
      case hf14_32 => kernel_rfl
      case hr14_32 => kernel_rfl
      case hy14_32 => exact Or.inl ⟨by rfl, by (intro wq hSw; (try dsimp only at hSw); go_simp; (try with_reducible rfl))⟩
      try simp only [Act.put, List.setIfInBounds_toArray, List.set_cons_zero, List.set_cons_succ]
      refine wpAnyH_take (i := 15) (oi := ?o15_33) (v := ?v15_33) ?hi15_33 ?hs15_33 ?hf15_33 ?hr15_33 (fun _ _ _ h => h) ?hy15_33 (by assumption) ?hh15_33
      case hi15_33 => ((simp only [List.getElem?_toArray, List.getElem?_cons_succ, List.getElem?_cons_zero]); rfl)
      case hs15_33 => kernel_rfl
      case hf15_33 => kernel_rfl
      case hr15_33 => kernel_rfl
      case hy15_33 => exact Or.inl ⟨by rfl, by (intro wq hSw; (try dsimp only at hSw); go_simp; (try with_reducible rfl))⟩
      try simp only [Act.put, List.setIfInBounds_toArray, List.set_cons_zero, List.set_cons_succ]
      refine wpAnyH_ready (rs := [8]) (by kernel_rfl) (by simp) ?_
      refine AllReadyH.cons (o := ?o8_34) ?hi8_34 (fun K hK => ?hh8_34) AllReadyH.nil
      case hi8_34 => ((simp only [List.getElem?_toArray, List.getElem?_cons_succ, List.getElem?_cons_zero]); rfl)
      go_simp
      (go_at_call 107; refine (listOf_is _ _ _ _ _ _).mono ?_; rintro e1 wK ⟨bK, rfl, hoK, hbK⟩; obtain ⟨bL, oL, eL, hbL, hcL⟩ := (hoK.sl rfl).getA (by simp); injection eL with eL; injection eL with eL1 eL2; subst eL1; subst eL2; have hkL := hcL k (by simpa using hk); simp only [Nat.zero_add] at hkL; rw [← HFK.out] at hkL; have HBK := hide hbK; clear hcL hoK hbK)
      (try dsimp only)
      refine hK.out _ _ (hHeld.trans (HBK.out.mono hHeld.size)) (fun hHeld2 => ?_)
      clear hK K hHeld
      have hHeld := hHeld2
      clear hHeld2
      try simp only [Act.put, List.setIfInBounds_toArray, List.set_cons_zero, List.set_cons_succ]
      refine wpAnyH_take (i := 10) (oi := ?o10_35) (v := ?v10_35) ?hi10_35 ?hs10_35 ?hf10_35 ?hr10_35 (fun _ _ _ h => h) ?hy10_35 (by assumption) ?hh10_35
      case hi10_35 => ((simp only [List.getElem?_toArray, List.getElem?_cons_succ, List.getElem?_cons_zero]); rfl)
      case hs10_35 => kernel_rfl
      case hf10_35 => kernel_rfl
      case hr10_35 => kernel_rfl
      case hy10_35 => exact Or.inl ⟨by rfl, by (intro wq hSw; (try dsimp only at hSw); go_simp; (try with_reducible rfl))⟩
      try simp only [Act.put, List.setIfInBounds_toArray, List.set_cons_zero, List.set_cons_succ]
      refine wpAnyH_ready (rs := [11]) (by kernel_rfl) (by simp) ?_
      refine AllReadyH.cons (o := ?o11_36) ?hi11_36 (fun K hK => ?hh11_36) AllReadyH.nil
      case hi11_36 => ((simp only [List.getElem?_toArray, List.getElem?_cons_succ, List.getElem?_cons_zero]); rfl)
      go_simp
      refine hK.out _ _ (hHeld) (fun hHeld2 => ?_)
      clear hK K hHeld
      have hHeld := hHeld2
      clear hHeld2
      try simp only [Act.put, List.setIfInBounds_toArray, List.set_cons_zero, List.set_cons_succ]
      refine wpAnyH_ready (rs := [13]) (by kernel_rfl) (by simp) ?_
      refine AllReadyH.cons (o := ?o13_37) ?hi13_37 (fun K hK => ?hh13_37) AllReadyH.nil
      case hi13_37 => ((simp only [List.getElem?_toArray, List.getElem?_cons_succ, List.getElem?_cons_zero]); rfl)
      go_simp
      (go_at_call 108; refine (HC.out _).mono ?_; rintro e2 wC ⟨rfl, rfl⟩)
      (try dsimp only)
      refine hK.out _ _ (hHeld) (fun hHeld2 => ?_)
      clear hK K hHeld
      have hHeld := hHeld2
      clear hHeld2
      try simp only [Act.put, List.setIfInBounds_toArray, List.set_cons_zero, List.set_cons_succ]
      refine wpAnyH_take (i := 16) (oi := ?o16_38) (v := ?v16_38) ?hi16_38 ?hs16_38 ?hf16_38 ?hr16_38 (fun _ _ _ h => h) ?hy16_38 (by assumption) ?hh16_38
      case hi16_38 => ((simp only [List.getElem?_toArray, List.getElem?_cons_succ, List.getElem?_cons_zero]); rfl)
      case hs16_38 => kernel_rfl
      case hf16_38 => kernel_rfl
      case hr16_38 => kernel_rfl
      case hy16_38 => exact Or.inl ⟨by rfl, by (intro wq hSw; (try dsimp only at hSw); go_simp; (try with_reducible rfl))⟩
      try simp only [Act.put, List.setIfInBounds_toArray, List.set_cons_zero, List.set_cons_succ]
      refine wpAnyH_take (i := 17) (oi := ?o17_39) (v := ?v17_39) ?hi17_39 ?hs17_39 ?hf17_39 ?hr17_39 (fun _ _ _ h => h) ?hy17_39 (by assumption) ?hh17_39
      case hi17_39 => ((simp only [List.getElem?_toArray, List.getElem?_cons_succ, List.getElem?_cons_zero]); rfl)
      case hs17_39 => kernel_rfl
      case hf17_39 => kernel_rfl
      case hr17_39 => kernel_rfl
      case hy17_39 => exact Or.inl ⟨by rfl, by (intro wq hSw; (try dsimp only at hSw); go_simp; (try with_reducible rfl))⟩
      try simp only [Act.put, List.setIfInBounds_toArray, List.set_cons_zero, List.set_cons_succ]
      refine wpAnyH_take (i := 18) (oi := ?o18_40) (v := ?v18_40) ?hi18_40 ?hs18_40 ?hf18_40 ?hr18_40 (fun _ _ _ h => h) ?hy18_40 (by assumption) ?hh18_40
      case hi18_40 => ((simp only [List.getElem?_toArray, List.getElem?_cons_succ, List.getElem?_cons_zero]); rfl)
      case hs18_40 => kernel_rfl
      case hf18_40 => kernel_rfl
      case hr18_40 => kernel_rfl
      case hy18_40 => exact Or.inl ⟨by rfl, by (intro wq hSw; (try dsimp only at hSw); go_simp; (try with_reducible rfl))⟩
      try simp only [Act.put, List.setIfInBounds_toArray, List.set_cons_zero, List.set_cons_succ]
      refine wpAnyH_take (i := 19) (oi := ?o19_41) (v := ?v19_41) ?hi19_41 ?hs19_41 ?hf19_41 ?hr19_41 (fun _ _ _ h => h) ?hy19_41 (by assumption) ?hh19_41
      case hi19_41 => ((simp only [List.getElem?_toArray, List.getElem?_cons_succ, List.getElem?_cons_zero]); rfl)
      case hs19_41 => kernel_rfl
      case hf19_41 => kernel_rfl
      case hr19_41 => kernel_rfl
      case hy19_41 => exact Or.inl ⟨by rfl, by (intro wq hSw; (try dsimp only at hSw); go_simp; (try with_reducible rfl))⟩
      try simp only [Act.put, List.setIfInBounds_toArray, List.set_cons_zero, List.set_cons_succ]
      refine wpAnyH_done (by kernel_rfl) ?_ _
      refine NoPanic.normal ?_
      go_wp2_with fail
      go_ret
      exact ⟨ret_bool (E.out _ HD.out).symm, HB1.out.trans (hHeld.mono hz1)⟩
/-- A goal lies in a block. -/
structure GoalAt (w : World) (bg og : Nat) (t : List Int) (tol most : Int) : Prop where
  lt : bg < w.heap.size
  len : t.length = 5
  ct : ∀ j, j < 5 → w.cell? ⟨bg, og + j, none⟩ = some (.int .i64 (ig t j))
  c5 : w.cell? ⟨bg, og + 5, none⟩ = some (.int .i64 tol)
  c6 : w.cell? ⟨bg, og + 6, none⟩ = some (.int .i64 most)
theorem GoalAt.below {w w' : World} {bg og : Nat} {t : List Int} {tol most : Int} (h : GoalAt w bg og t tol most) (hb : Below w.heap.size w w') : GoalAt w' bg og t tol most :=
  ⟨Nat.lt_of_lt_of_le h.lt hb.size, h.len, fun j hj => (hb.cell (p := ⟨bg, og + j, none⟩) h.lt).trans (h.ct j hj), (hb.cell (p := ⟨bg, og + 5, none⟩) h.lt).trans h.c5, (hb.cell (p := ⟨bg, og + 6, none⟩) h.lt).trans h.c6⟩
theorem l04List_goal {t0 t1 t2 t3 t4 tol most : Int} {bg og : Nat} {w : World} (h : GoalAt w bg og [t0, t1, t2, t3, t4] tol most) : Calls Tryz.prog 142 #[.pointer (some ⟨bg, og, none⟩)] w (FiveRes [t0, t1, t2, t3, t4] w) :=
  l04List_is bg og t0 t1 t2 t3 t4 w (by simpa using h.ct 0 (by omega)) (by simpa using h.ct 1 (by omega)) (by simpa using h.ct 2 (by omega)) (by simpa using h.ct 3 (by omega)) (by simpa using h.ct 4 (by omega))
set_option maxRecDepth 100000 in
set_option maxHeartbeats 2000000 in
theorem l10Low_is (t0 t1 t2 t3 t4 tol most : Int) (k : Nat) (f : Int) (bg og : Nat) (w : World) (HP : Hid (GoalAt w bg og [t0, t1, t2, t3, t4] tol most)) (HT : Hid (InF [t0, t1, t2, t3, t4])) (hk : k < 5) (ht0 : 0 ≤ tol) (ht1 : tol ≤ 20000) :
    Calls Tryz.prog 133 #[.pointer (some ⟨bg, og, none⟩), .int .i64 f, .int .i64 k] w fun e w' => e = .returned (.bool (lowK [t0, t1, t2, t3, t4] tol k f)) ∧ Below w.heap.size w w' := by
  by_cases h1 : f < 10000
  · have E := hide (show lowK [t0, t1, t2, t3, t4] tol k f = true from by unfold lowK; simp; omega)
    have hA : decide (f < 10000) = true := by simp [h1]
    have hA2 : decide (20000000 < f) = false := by simp; omega
    have hA3 : decide (10000 ≤ f) = false := by simp; omega
    go_enter Tryz.func133, Tryz.ntmps133
    go_wp2_with fail
    refine wp_region_kept (by kernel_rfl) (by kernel_rfl) ?_
    intro gc gf gz
    repeat (go_big_quiet_step (fail))
    refine wpQuiet_nil ?_
    intro w1 hw'
    obtain ⟨⟨_, hb1⟩, rfl⟩ := hw'
    clear gc gf gz
    try dsimp only
    have fs1 := hb1.size
    try simp at fs1 hb1
    go_wp2_with fail
    go_ret
    exact ⟨ret_bool E.out.symm, hb1⟩
  · by_cases h2 : 20000000 < f
    · have E := hide (show lowK [t0, t1, t2, t3, t4] tol k f = false from by unfold lowK; simp; omega)
      have hA : decide (f < 10000) = false := by simp; omega
      have hA1 : decide (f ≤ 20000000) = false := by simp; omega
      have hA2 : decide (20000000 < f) = true := by simp; omega
      go_enter Tryz.func133, Tryz.ntmps133
      go_wp2_with fail
      refine wp_region_kept (by kernel_rfl) (by kernel_rfl) ?_
      intro gc gf gz
      repeat (go_big_quiet_step (fail))
      refine wpQuiet_nil ?_
      intro w1 hw'
      obtain ⟨⟨_, hb1⟩, rfl⟩ := hw'
      clear gc gf gz
      try dsimp only
      have fs1 := hb1.size
      try simp at fs1 hb1
      go_wp2_with fail
      go_ret
      exact ⟨ret_bool E.out.symm, hb1⟩
    · have hA : decide (f < 10000) = false := by simp; omega
      have hA1 : decide (f ≤ 20000000) = true := by simp; omega
      have hA2 : decide (20000000 < f) = false := by simp; omega
      have hA3 : decide (10000 ≤ f) = true := by simp; omega
      obtain ⟨g1, g2⟩ := HT.out k hk
      have HC := hide (fun w => specl02Between_is (ig [t0, t1, t2, t3, t4] k) f w g1 g2 (by omega) (by omega))
      have E := hide (show ∀ d, d = ctB (ig [t0, t1, t2, t3, t4] k) f → lowK [t0, t1, t2, t3, t4] tol k f = decide (d < -tol) from fun d hd => by subst hd; unfold lowK; simp only [hA, hA1, Bool.false_or, Bool.true_and])
      obtain ⟨fk, hfk⟩ : ∃ fk, fk = ig [t0, t1, t2, t3, t4] k := ⟨_, rfl⟩
      rw [← hfk] at HC E
      obtain ⟨d, hd⟩ : ∃ d, d = ctB fk f := ⟨_, rfl⟩
      rw [← hd] at HC
      have HD := hide hd
      have HFK := hide hfk
      have kn : IntKind.i64.wrap (-tol) = -tol := IntWalk.i64_in _ (by omega)
      have hk0 : (0 : Int) ≤ (k : Int) := by omega
      have hk1 : (k : Int) < 5 := by omega
      clear hfk g1 g2 hd
      have P5 : ∀ w', Below w.heap.size w w' → w'.cell? ⟨bg, og + 5, none⟩ = some (.int .i64 tol) := fun w' h => (HP.out.below h).c5
      go_enter Tryz.func133, Tryz.ntmps133
      go_wp2_with fail
      refine wp_region_noPanic ?_
      refine wp_region_held_drew (S := (fun w' => Below w.heap.size w w')) (by kernel_rfl) ((Below.refl _ _).drew) (fun hHeld => ?_)
      refine wpAnyH_take (i := 0) (oi := ?o0_42) (v := ?v0_42) ?hi0_42 ?hs0_42 ?hf0_42 ?hr0_42 (fun _ _ _ h => h) ?hy0_42 (by assumption) ?hh0_42
      case hi0_42 => ((simp only [List.getElem?_toArray, List.getElem?_cons_zero]); rfl)
      case hs0_42 => kernel_rfl
      case hf0_42 => kernel_rfl
      case hr0_42 => kernel_rfl
      case hy0_42 => exact Or.inl ⟨by rfl, by (intro wq hSw; (try dsimp only at hSw); go_simp; (try with_reducible rfl))⟩
      try simp only [Act.put, List.setIfInBounds_toArray, List.set_cons_zero, List.set_cons_succ]
      refine wpAnyH_take (i := 1) (oi := ?o1_43) (v := ?v1_43) ?hi1_43 ?hs1_43 ?hf1_43 ?hr1_43 (fun _ _ _ h => h) ?hy1_43 (by assumption) ?hh1_43
      case hi1_43 => ((simp only [List.getElem?_toArray, List.getElem?_cons_succ, List.getElem?_cons_zero]); rfl)
      case hs1_43 => kernel_rfl
      case hf1_43 => kernel_rfl
      case hr1_43 => kernel_rfl
      case hy1_43 => exact Or.inl ⟨by rfl, by (intro wq hSw; (try dsimp only at hSw); go_simp; (try with_reducible rfl))⟩
      try simp only [Act.put, List.setIfInBounds_toArray, List.set_cons_zero, List.set_cons_succ]
      refine wpAnyH_take (i := 2) (oi := ?o2_44) (v := ?v2_44) ?hi2_44 ?hs2_44 ?hf2_44 ?hr2_44 (fun _ _ _ h => h) ?hy2_44 (by assumption) ?hh2_44
      case hi2_44 => ((simp only [List.getElem?_toArray, List.getElem?_cons_succ, List.getElem?_cons_zero]); rfl)
      case hs2_44 => kernel_rfl
      case hf2_44 => kernel_rfl
      case hr2_44 => kernel_rfl
      case hy2_44 => exact Or.inl ⟨by rfl, by (intro wq hSw; (try dsimp only at hSw); go_simp; (try with_reducible rfl))⟩
      try simp only [Act.put, List.setIfInBounds_toArray, List.set_cons_zero, List.set_cons_succ]
      refine wpAnyH_take (i := 3) (oi := ?o3_45) (v := ?v3_45) ?hi3_45 ?hs3_45 ?hf3_45 ?hr3_45 (fun _ _ _ h => h) ?hy3_45 (by assumption) ?hh3_45
      case hi3_45 => ((simp only [List.getElem?_toArray, List.getElem?_cons_succ, List.getElem?_cons_zero]); rfl)
      case hs3_45 => kernel_rfl
      case hf3_45 => kernel_rfl
      case hr3_45 => kernel_rfl
      case hy3_45 => exact Or.inl ⟨by rfl, by (intro wq hSw; (try dsimp only at hSw); go_simp; (try with_reducible rfl))⟩
      try simp only [Act.put, List.setIfInBounds_toArray, List.set_cons_zero, List.set_cons_succ]
      refine wpAnyH_take (i := 4) (oi := ?o4_46) (v := ?v4_46) ?hi4_46 ?hs4_46 ?hf4_46 ?hr4_46 (fun _ _ _ h => h) ?hy4_46 (by assumption) ?hh4_46
      case hi4_46 => ((simp only [List.getElem?_toArray, List.getElem?_cons_succ, List.getElem?_cons_zero]); rfl)
      case hs4_46 => kernel_rfl
      case hf4_46 => kernel_rfl
      case hr4_46 => kernel_rfl
      case hy4_46 => exact Or.inl ⟨by rfl, by (intro wq hSw; (try dsimp only at hSw); go_simp; (try with_reducible rfl))⟩
      try simp only [Act.put, List.setIfInBounds_toArray, List.set_cons_zero, List.set_cons_succ]
      refine wpAnyH_take (i := 5) (oi := ?o5_47) (v := ?v5_47) ?hi5_47 ?hs5_47 ?hf5_47 ?hr5_47 (fun _ _ _ h => h) ?hy5_47 (by assumption) ?hh5_47
      case hi5_47 => ((simp only [List.getElem?_toArray, List.getElem?_cons_succ, List.getElem?_cons_zero]); rfl)
      case hs5_47 => kernel_rfl
      case hf5_47 => kernel_rfl
      case hr5_47 => kernel_rfl
      case hy5_47 => exact Or.inl ⟨by rfl, by (intro wq hSw; (try dsimp only at hSw); go_simp; (try with_reducible rfl))⟩
      try simp only [Act.put, List.setIfInBounds_toArray, List.set_cons_zero, List.set_cons_succ]
      refine wpAnyH_take (i := 6) (oi := ?o6_48) (v := ?v6_48) ?hi6_48 ?hs6_48 ?hf6_48 ?hr6_48 (fun _ _ _ h => h) ?hy6_48 (by assumption) ?hh6_48
      case hi6_48 => ((simp only [List.getElem?_toArray, List.getElem?_cons_succ, List.getElem?_cons_zero]); rfl)
      case hs6_48 => kernel_rfl
      case hf6_48 => kernel_rfl
      case hr6_48 => kernel_rfl
      case hy6_48 => exact Or.inl ⟨by rfl, by (intro wq hSw; (try dsimp only at hSw); go_simp; (try with_reducible rfl))⟩
      try simp only [Act.put, List.setIfInBounds_toArray, List.set_cons_zero, List.set_cons_succ]
      refine wpAnyH_take (i := 7) (oi := ?o7_49) (v := ?v7_49) ?hi7_49 ?hs7_49 ?hf7_49 ?hr7_49 (fun _ _ _ h => h) ?hy7_49 (by assumption) ?hh7_49
      case hi7_49 => ((simp only [List.getElem?_toArray, List.getElem?_cons_succ, List.getElem?_cons_zero]); rfl)
      case hs7_49 => kernel_rfl
      case hf7_49 => kernel_rfl
      case hr7_49 => kernel_rfl
      case hy7_49 => exact Or.inl ⟨by rfl, by (intro wq hSw; (try dsimp only at hSw); go_simp; (try with_reducible rfl))⟩
      try simp only [Act.put, List.setIfInBounds_toArray, List.set_cons_zero, List.set_cons_succ]
      refine wpAnyH_take (i := 8) (oi := ?o8_50) (v := ?v8_50) ?hi8_50 ?hs8_50 ?hf8_50 ?hr8_50 (fun _ _ _ h => h) ?hy8_50 (by assumption) ?hh8_50
      case hi8_50 => ((simp only [List.getElem?_toArray, List.getElem?_cons_succ, List.getElem?_cons_zero]); rfl)
      case hs8_50 => kernel_rfl
      case hf8_50 => kernel_rfl
      case hr8_50 => kernel_rfl
      case hy8_50 => exact Or.inl ⟨by rfl, by (intro wq hSw; (try dsimp only at hSw); go_simp; (try with_reducible rfl))⟩
      try simp only [Act.put, List.setIfInBounds_toArray, List.set_cons_zero, List.set_cons_succ]
      refine wpAnyH_take (i := 10) (oi := ?o10_51) (v := ?v10_51) ?hi10_51 ?hs10_51 ?hf10_51 ?hr10_51 (fun _ _ _ h => h) ?hy10_51 (by assumption) ?hh10_51
      case hi10_51 => ((simp only [List.getElem?_toArray, List.getElem?_cons_succ, List.getElem?_cons_zero]); rfl)
      case hs10_51 => kernel_rfl
      case hf10_51 => kernel_rfl
      case hr10_51 => kernel_rfl
      case hy10_51 => exact Or.inl ⟨by rfl, by (intro wq hSw; (try dsimp only at hSw); go_simp; (try with_reducible rfl))⟩
      try simp only [Act.put, List.setIfInBounds_toArray, List.set_cons_zero, List.set_cons_succ]
      refine wpAnyH_take (i := 13) (oi := ?o13_52) (v := ?v13_52) ?hi13_52 ?hs13_52 ?hf13_52 ?hr13_52 (fun _ _ _ h => h) ?hy13_52 (by assumption) ?hh13_52
      case hi13_52 => ((simp only [List.getElem?_toArray, List.getElem?_cons_succ, List.getElem?_cons_zero]); rfl)
      case hs13_52 => kernel_rfl
      case hf13_52 => kernel_rfl
      case hr13_52 => kernel_rfl
      case hy13_52 => exact Or.inl ⟨by rfl, by (intro wq hSw; (try dsimp only at hSw); go_simp; (try with_reducible rfl))⟩
      try simp only [Act.put, List.setIfInBounds_toArray, List.set_cons_zero, List.set_cons_succ]
      refine wpAnyH_take (i := 15) (oi := ?o15_53) (v := ?v15_53) ?hi15_53 ?hs15_53 ?hf15_53 ?hr15_53 (fun _ _ _ h => h) ?hy15_53 (by assumption) ?hh15_53
      case hi15_53 => ((simp only [List.getElem?_toArray, List.getElem?_cons_succ, List.getElem?_cons_zero]); rfl)
      case hs15_53 => kernel_rfl
      case hf15_53 => kernel_rfl
      case hr15_53 => kernel_rfl
      case hy15_53 => exact Or.inl ⟨by rfl, by (intro wq hSw; (try dsimp only at hSw); go_simp; (try with_reducible rfl))⟩
      try simp only [Act.put, List.setIfInBounds_toArray, List.set_cons_zero, List.set_cons_succ]
      refine wpAnyH_take (i := 16) (oi := ?o16_54) (v := ?v16_54) ?hi16_54 ?hs16_54 ?hf16_54 ?hr16_54 (fun _ _ _ h => h) ?hy16_54 (by assumption) ?hh16_54
      case hi16_54 => ((simp only [List.getElem?_toArray, List.getElem?_cons_succ, List.getElem?_cons_zero]); rfl)
      case hs16_54 => kernel_rfl
      case hf16_54 => kernel_rfl
      case hr16_54 => kernel_rfl
      case hy16_54 => exact Or.inl ⟨by rfl, by (intro wq hSw; (try dsimp only at hSw); go_simp; (try with_reducible rfl))⟩
      try simp only [Act.put, List.setIfInBounds_toArray, List.set_cons_zero, List.set_cons_succ]
      refine wpAnyH_take (i := 17) (oi := ?o17_55) (v := ?v17_55) ?hi17_55 ?hs17_55 ?hf17_55 ?hr17_55 (fun _ _ _ h => h) ?hy17_55 (by assumption) ?hh17_55
      case hi17_55 => ((simp only [List.getElem?_toArray, List.getElem?_cons_succ, List.getElem?_cons_zero]); rfl)
      case hs17_55 => kernel_rfl
      case hf17_55 => kernel_rfl
      case hr17_55 => kernel_rfl
      case hy17_55 => exact Or.inl ⟨by rfl, by (intro wq hSw; (try dsimp only at hSw); go_simp; (try with_reducible rfl))⟩
      try simp only [Act.put, List.setIfInBounds_toArray, List.set_cons_zero, List.set_cons_succ]
      refine wpAnyH_take (i := 18) (oi := ?o18_56) (v := ?v18_56) ?hi18_56 ?hs18_56 ?hf18_56 ?hr18_56 (fun _ _ _ h => h) ?hy18_56 (by assumption) ?hh18_56
      case hi18_56 => ((simp only [List.getElem?_toArray, List.getElem?_cons_succ, List.getElem?_cons_zero]); rfl)
      case hs18_56 => kernel_rfl
      case hf18_56 => kernel_rfl
      case hr18_56 => kernel_rfl
      case hy18_56 => exact Or.inl ⟨by rfl, by (intro wq hSw; (try dsimp only at hSw); go_simp; (try with_reducible rfl))⟩
      try simp only [Act.put, List.setIfInBounds_toArray, List.set_cons_zero, List.set_cons_succ]
      refine wpAnyH_take (i := 19) (oi := ?o19_57) (v := ?v19_57) ?hi19_57 ?hs19_57 ?hf19_57 ?hr19_57 (fun _ _ _ h => h) ?hy19_57 (by assumption) ?hh19_57
      case hi19_57 => ((simp only [List.getElem?_toArray, List.getElem?_cons_succ, List.getElem?_cons_zero]); rfl)
      case hs19_57 => kernel_rfl
      case hf19_57 => kernel_rfl
      case hr19_57 => kernel_rfl
      case hy19_57 => exact Or.inl ⟨by rfl, by (intro wq hSw; (try dsimp only at hSw); go_simp; (try with_reducible rfl))⟩
      try simp only [Act.put, List.setIfInBounds_toArray, List.set_cons_zero, List.set_cons_succ]
      refine wpAnyH_ready (rs := [9]) (by kernel_rfl) (by simp) ?_
      refine AllReadyH.cons (o := ?o9_58) ?hi9_58 (fun K hK => ?hh9_58) AllReadyH.nil
      case hi9_58 => ((simp only [List.getElem?_toArray, List.getElem?_cons_succ, List.getElem?_cons_zero]); rfl)
      go_simp
      (go_at_call 142; refine (l04List_goal (HP.out.below hHeld)).mono ?_; rintro e1 wK ⟨bK, rfl, hoK, hbK⟩; obtain ⟨bL, oL, eL, hbL, hcL⟩ := (hoK.sl rfl).getA (by simp); injection eL with eL; injection eL with eL1 eL2; subst eL1; subst eL2; have hkL := hcL k (by simpa using hk); simp only [Nat.zero_add] at hkL; rw [← HFK.out] at hkL; have HBK := hide hbK; clear hcL hoK hbK)
      (try dsimp only)
      refine hK.out _ _ (hHeld.trans (HBK.out.mono hHeld.size)) (fun hHeld2 => ?_)
      clear hK K hHeld
      have hHeld := hHeld2
      clear hHeld2
      try simp only [Act.put, List.setIfInBounds_toArray, List.set_cons_zero, List.set_cons_succ]
      refine wpAnyH_take (i := 11) (oi := ?o11_59) (v := ?v11_59) ?hi11_59 ?hs11_59 ?hf11_59 ?hr11_59 (fun _ _ _ h => h) ?hy11_59 (by assumption) ?hh11_59
      case hi11_59 => ((simp only [List.getElem?_toArray, List.getElem?_cons_succ, List.getElem?_cons_zero]); rfl)
      case hs11_59 => kernel_rfl
      case hf11_59 => kernel_rfl
      case hr11_59 => kernel_rfl
      case hy11_59 => exact Or.inl ⟨by rfl, by (intro wq hSw; (try dsimp only at hSw); go_simp; (try with_reducible rfl))⟩
      try simp only [Act.put, List.setIfInBounds_toArray, List.set_cons_zero, List.set_cons_succ]
      refine wpAnyH_ready (rs := [12]) (by kernel_rfl) (by simp) ?_
      refine AllReadyH.cons (o := ?o12_60) ?hi12_60 (fun K hK => ?hh12_60) AllReadyH.nil
      case hi12_60 => ((simp only [List.getElem?_toArray, List.getElem?_cons_succ, List.getElem?_cons_zero]); rfl)
      go_simp
      refine hK.out _ _ (hHeld) (fun hHeld2 => ?_)
      clear hK K hHeld
      have hHeld := hHeld2
      clear hHeld2
      try simp only [Act.put, List.setIfInBounds_toArray, List.set_cons_zero, List.set_cons_succ]
      refine wpAnyH_ready (rs := [14]) (by kernel_rfl) (by simp) ?_
      refine AllReadyH.cons (o := ?o14_61) ?hi14_61 (fun K hK => ?hh14_61) AllReadyH.nil
      case hi14_61 => ((simp only [List.getElem?_toArray, List.getElem?_cons_succ, List.getElem?_cons_zero]); rfl)
      go_simp
      (go_at_call 176; refine (HC.out _).mono ?_; rintro e2 wC ⟨rfl, rfl⟩)
      (try dsimp only)
      refine hK.out _ _ (hHeld) (fun hHeld2 => ?_)
      clear hK K hHeld
      have hHeld := hHeld2
      clear hHeld2
      try simp only [Act.put, List.setIfInBounds_toArray, List.set_cons_zero, List.set_cons_succ]
      refine wpAnyH_take (i := 20) (oi := ?o20_62) (v := ?v20_62) ?hi20_62 ?hs20_62 ?hf20_62 ?hr20_62 (fun _ _ _ h => h) ?hy20_62 (by assumption) ?hh20_62
      case hi20_62 => ((simp only [List.getElem?_toArray, List.getElem?_cons_succ, List.getElem?_cons_zero]); rfl)
      case hs20_62 => kernel_rfl
      case hf20_62 => kernel_rfl
      case hr20_62 => kernel_rfl
      case hy20_62 => exact Or.inl ⟨by rfl, by (intro wq hSw; (try dsimp only at hSw); go_simp; (try with_reducible rfl))⟩
      try simp only [Act.put, List.setIfInBounds_toArray, List.set_cons_zero, List.set_cons_succ]
      refine wpAnyH_take (i := 21) (oi := ?o21_63) (v := ?v21_63) ?hi21_63 ?hs21_63 ?hf21_63 ?hr21_63 (fun _ _ _ h => h) ?hy21_63 (by assumption) ?hh21_63
      case hi21_63 => ((simp only [List.getElem?_toArray, List.getElem?_cons_succ, List.getElem?_cons_zero]); rfl)
      case hs21_63 => kernel_rfl
      case hf21_63 => kernel_rfl
      case hr21_63 => kernel_rfl
      case hy21_63 => exact Or.inl ⟨by rfl, by (intro wq hSw; (try dsimp only at hSw); go_simp; (try with_reducible rfl))⟩
      try simp only [Act.put, List.setIfInBounds_toArray, List.set_cons_zero, List.set_cons_succ]
      refine wpAnyH_take (i := 22) (oi := ?o22_64) (v := ?v22_64) ?hi22_64 ?hs22_64 ?hf22_64 ?hr22_64 (fun _ _ _ h => h) ?hy22_64 (by assumption) ?hh22_64
      case hi22_64 => ((simp only [List.getElem?_toArray, List.getElem?_cons_succ, List.getElem?_cons_zero]); rfl)
      case hs22_64 => kernel_rfl
      case hf22_64 => kernel_rfl
      case hr22_64 => kernel_rfl
      case hy22_64 => exact Or.inl ⟨by rfl, by (intro wq hSw; (try dsimp only at hSw); go_simp; (try with_reducible rfl))⟩
      try simp only [Act.put, List.setIfInBounds_toArray, List.set_cons_zero, List.set_cons_succ]
      refine wpAnyH_take (i := 23) (oi := ?o23_65) (v := ?v23_65) ?hi23_65 ?hs23_65 ?hf23_65 ?hr23_65 (fun _ _ _ h => h) ?hy23_65 (by assumption) ?hh23_65
      case hi23_65 => ((simp only [List.getElem?_toArray, List.getElem?_cons_succ, List.getElem?_cons_zero]); rfl)
      case hs23_65 => kernel_rfl
      case hf23_65 => kernel_rfl
      case hr23_65 => kernel_rfl
      case hy23_65 => exact Or.inl ⟨by rfl, by (intro wq hSw; (try dsimp only at hSw); go_simp; (try with_reducible rfl))⟩
      try simp only [Act.put, List.setIfInBounds_toArray, List.set_cons_zero, List.set_cons_succ]
      refine wpAnyH_done (by kernel_rfl) ?_ _
      refine NoPanic.normal ?_
      go_wp2_with fail
      go_ret
      exact ⟨ret_bool (E.out _ HD.out).symm, hHeld⟩
end Go.Proofs.YtnefgafmnpblpaaGreat
