/- Contracts: the program's searcher made, and its finds as cuts. -/
import Derived.Test.YtnefgafmnpblpaaGreatPnI5
namespace Go.Proofs.YtnefgafmnpblpaaGreat
open Go.RowKit Pn

/-- A searcher made anew. -/
def NewCu (x : Cx) (left : Int) (w : World) (e : Ending) (w' : World) : Prop :=
  ∃ b gl lc gs sc, e = .returned (.pointer (some ⟨b, 0, none⟩)) ∧ CuI x w b gl lc gs sc (-1) false w' (pad x.zs.length []) ⟨left, false, 0, [], -1⟩ ∧ w'.cell? ⟨b, 19, none⟩ = some (.slice none 0 0)
/-- The whole search of the program. -/
theorem search_all {x : Cx} {w0 w : World} {b gl lc gs sc : Nat} {sum : Int} {first : Bool} {s : S} (HX : Hid (x.OK w0)) (h : CuI x w0 b gl lc gs sc sum first w (pad x.zs.length []) s) :
    Calls Tryz.prog 45 #[.pointer (some ⟨b, 0, none⟩), .int .i64 0, .int .i64 0] w fun e w' => e = .returned (.tuple #[]) ∧ CuI x w0 b gl lc gs sc sum first w' (pad x.zs.length []) (srch (x.q sum first) (x.zs.length + 1) [] s) := by
  have := HX.out.ask.z.len1
  exact search_any HX (x.zs.length + 1) w [] s h (Pre.nil _) (by simp) (.inr (by simp; omega))
theorem CuI.new {x : Cx} {w w6 : World} {gl lc gs sc : Nat} {left : Int} (hb : Below w.heap.size w w6) (hl : OwnI w6 w.heap.size (.slice (some ⟨gl, 0, none⟩) x.zs.length lc) x.lim) (hr : OwnI w6 w.heap.size (.slice (some ⟨gs, 0, none⟩) x.zs.length sc) (List.replicate x.zs.length 0)) (hne : gl ≠ gs) (h0 : 0 ≤ left) (h1 : left ≤ 20000) :
    CuI x w w6.heap.size gl lc gs sc (-1) false (w6.alloc (.cells (x.cells left false gl lc gs sc (-1) false 0 none 0 0) 85)) (pad x.zs.length []) ⟨left, false, 0, [], -1⟩ := by
  have hal : Below w6.heap.size w6 (w6.alloc (.cells (x.cells left false gl lc gs sc (-1) false 0 none 0 0) 85)) := (Below.refl _ _).alloc (Nat.le_refl _) _
  refine ⟨⟨none, 0, heap_alloc_new w6 _, Own.nil⟩, hl.below hal, ?_, ⟨hne, (hl.lt gl rfl).2, (hr.lt gs rfl).2⟩, ⟨h0, by simp, by simp; omega, .inl rfl, by simp⟩, hb.trans (hal.mono hb.size), hb.size⟩
  have e : pad x.zs.length [] = List.replicate x.zs.length 0 := by unfold pad; simp
  rw [e]
  exact hr.below hal
set_option maxRecDepth 100000 in
set_option maxHeartbeats 1000000 in
theorem newCutter_is {x : Cx} {w : World} (left : Int) (HX : Hid (x.OK w)) (h0 : 0 ≤ left) (h1 : left ≤ 20000) :
    Calls Tryz.prog 42 #[.agg #[.slice x.Az x.zs.length x.cz, .slice x.Aw x.ws.length x.cw, .slice x.Ab x.bs.length x.cb], .agg #[.string x.nm, .slice x.A x.rs.length x.c], .agg #[.int .i64 x.t0, .int .i64 x.t1, .int .i64 x.t2, .int .i64 x.t3, .int .i64 x.t4, .int .i64 x.tol, .int .i64 x.most], .int .i64 left] w (NewCu x left w) := by
  obtain ⟨w3, hw3⟩ : ∃ w3, w3 = (((w.alloc (.cells #[.slice x.Az x.zs.length x.cz, .slice x.Aw x.ws.length x.cw, .slice x.Ab x.bs.length x.cb] 27)).alloc (.cells #[.string x.nm, .slice x.A x.rs.length x.c] 30)).alloc (.cells #[.int .i64 x.t0, .int .i64 x.t1, .int .i64 x.t2, .int .i64 x.t3, .int .i64 x.t4, .int .i64 x.tol, .int .i64 x.most] 34)) := ⟨_, rfl⟩
  have hB := boxes3 (cz := x.cz) (cw := x.cw) (cb := x.cb) (nm := x.nm) (c := x.c) (t0 := x.t0) (t1 := x.t1) (t2 := x.t2) (t3 := x.t3) (t4 := x.t4) (tol := x.tol) (most := x.most) HX.out.md HX.out.rg
  rw [← hw3] at hB
  have HB := hide hB
  have hzw : w3.heap.size = w.heap.size + 3 := by rw [hw3]; simp
  have HZW := hide hzw
  clear hB hzw
  have P0 : ∀ w', Below w3.heap.size w3 w' → w'.cell? ⟨w.heap.size, 0, none⟩ = some (.slice x.Az x.zs.length x.cz) := fun w' hb => (HB.out.1.below hb).m.c0
  have P1 : ∀ w', Below w3.heap.size w3 w' → w'.cell? ⟨w.heap.size, 1, none⟩ = some (.slice x.Aw x.ws.length x.cw) := fun w' hb => (HB.out.1.below hb).m.c1
  have P2 : ∀ w', Below w3.heap.size w3 w' → w'.cell? ⟨w.heap.size, 2, none⟩ = some (.slice x.Ab x.bs.length x.cb) := fun w' hb => (HB.out.1.below hb).m.c2
  have P3 : ∀ w', Below w3.heap.size w3 w' → w'.cell? ⟨w.heap.size + 1, 0, none⟩ = some (.string x.nm) := fun w' hb => (HB.out.1.below hb).p.c0
  have P4 : ∀ w', Below w3.heap.size w3 w' → w'.cell? ⟨w.heap.size + 1, 1, none⟩ = some (.slice x.A x.rs.length x.c) := fun w' hb => (HB.out.1.below hb).p.c1
  have Q0 : ∀ w', Below w3.heap.size w3 w' → w'.cell? ⟨w.heap.size + 1 + 1, 0, none⟩ = some (.int .i64 x.t0) := fun w' hb => (HB.out.2.below hb).ct 0 (by omega)
  have Q1 : ∀ w', Below w3.heap.size w3 w' → w'.cell? ⟨w.heap.size + 1 + 1, 1, none⟩ = some (.int .i64 x.t1) := fun w' hb => by have := (HB.out.2.below hb).ct 1 (by omega); simpa using this
  have Q2 : ∀ w', Below w3.heap.size w3 w' → w'.cell? ⟨w.heap.size + 1 + 1, 2, none⟩ = some (.int .i64 x.t2) := fun w' hb => by have := (HB.out.2.below hb).ct 2 (by omega); simpa using this
  have Q3 : ∀ w', Below w3.heap.size w3 w' → w'.cell? ⟨w.heap.size + 1 + 1, 3, none⟩ = some (.int .i64 x.t3) := fun w' hb => by have := (HB.out.2.below hb).ct 3 (by omega); simpa using this
  have Q4 : ∀ w', Below w3.heap.size w3 w' → w'.cell? ⟨w.heap.size + 1 + 1, 4, none⟩ = some (.int .i64 x.t4) := fun w' hb => by have := (HB.out.2.below hb).ct 4 (by omega); simpa using this
  have Q5 : ∀ w', Below w3.heap.size w3 w' → w'.cell? ⟨w.heap.size + 1 + 1, 5, none⟩ = some (.int .i64 x.tol) := fun w' hb => by have := (HB.out.2.below hb).c5; simpa using this
  have Q6 : ∀ w', Below w3.heap.size w3 w' → w'.cell? ⟨w.heap.size + 1 + 1, 6, none⟩ = some (.int .i64 x.most) := fun w' hb => by have := (HB.out.2.below hb).c6; simpa using this
  have hz1 := HX.out.ask.z.len1
  have hz8 := HX.out.ask.z.len8
  have HZ1 := hide hz1
  have HZ8 := hide hz8
  have HCT := hide (fun W (hb : Below w3.heap.size w3 W) => by
    have hW := HX.out.below (HB.out.1.bel.trans (hb.mono HB.out.1.bel.size))
    exact impllimits x.Az x.Aw x.Ab x.cz x.cw x.cb x.zs x.ws x.bs x.nm x.A x.c x.rs x.t0 x.t1 x.t2 x.t3 x.t4 x.tol x.most W hW.md hW.rg hW.nm (hide hW.ask))
  obtain ⟨i0, hi, hz0, hz9, hz2⟩ := info_parts info_i64
  have hmk := fun W => run_make_rowN (P := Tryz.prog) 24 2 i0 _ Tryz.underlying24 hi hz0 .i64 .i64 x.zs.length x.zs.length (Nat.le_refl _) (by rw [hz2]; omega) (by omega) W
  rw [hz9] at hmk
  have HO := hide (fun W : World => fun B (hB : B ≤ W.heap.size) => own_zeros (w := W) (B := B) (n := x.zs.length) hB (by simp [maxLen]; omega))
  generalize madeCells (Value.int .i64 0).cells (x.zs.length * 1) = cs at hmk HO
  clear hz1 hz8 hi hz0 hz9 hz2
  go_enter Tryz.func42, Tryz.ntmps42
  go_upto_region 1 with fail
  rw [← hw3]
  clear hw3
  refine wp_region_noPanic ?_
  refine wp_region_held_drew (S := (fun w' => Below w3.heap.size w3 w')) (by kernel_rfl) ((Below.refl _ _).drew) (fun hHeld => ?_)
  refine wpAnyH_take (i := 0) (oi := ?o0_1) (v := ?v0_1) ?hi0_1 ?hs0_1 ?hf0_1 ?hr0_1 (fun _ _ _ h => h) ?hy0_1 (by assumption) ?hh0_1
  case hi0_1 => ((simp only [List.getElem?_toArray, List.getElem?_cons_zero]); rfl)
  case hs0_1 => kernel_rfl
  case hf0_1 => kernel_rfl
  case hr0_1 => kernel_rfl
  case hy0_1 => exact Or.inl ⟨by rfl, by (intro wq hSw; (try dsimp only at hSw); go_simp; (try with_reducible rfl))⟩
  try simp only [Act.put, List.setIfInBounds_toArray, List.set_cons_zero, List.set_cons_succ]
  refine wpAnyH_take (i := 1) (oi := ?o1_2) (v := ?v1_2) ?hi1_2 ?hs1_2 ?hf1_2 ?hr1_2 (fun _ _ _ h => h) ?hy1_2 (by assumption) ?hh1_2
  case hi1_2 => ((simp only [List.getElem?_toArray, List.getElem?_cons_succ, List.getElem?_cons_zero]); rfl)
  case hs1_2 => kernel_rfl
  case hf1_2 => kernel_rfl
  case hr1_2 => kernel_rfl
  case hy1_2 => exact Or.inl ⟨by rfl, by (intro wq hSw; (try dsimp only at hSw); go_simp; (try with_reducible rfl))⟩
  try simp only [Act.put, List.setIfInBounds_toArray, List.set_cons_zero, List.set_cons_succ]
  refine wpAnyH_take (i := 2) (oi := ?o2_3) (v := ?v2_3) ?hi2_3 ?hs2_3 ?hf2_3 ?hr2_3 (fun _ _ _ h => h) ?hy2_3 (by assumption) ?hh2_3
  case hi2_3 => ((simp only [List.getElem?_toArray, List.getElem?_cons_succ, List.getElem?_cons_zero]); rfl)
  case hs2_3 => kernel_rfl
  case hf2_3 => kernel_rfl
  case hr2_3 => kernel_rfl
  case hy2_3 => exact Or.inl ⟨by rfl, by (intro wq hSw; (try dsimp only at hSw); go_simp; (try with_reducible rfl))⟩
  try simp only [Act.put, List.setIfInBounds_toArray, List.set_cons_zero, List.set_cons_succ]
  refine wpAnyH_take (i := 3) (oi := ?o3_4) (v := ?v3_4) ?hi3_4 ?hs3_4 ?hf3_4 ?hr3_4 (fun _ _ _ h => h) ?hy3_4 (by assumption) ?hh3_4
  case hi3_4 => ((simp only [List.getElem?_toArray, List.getElem?_cons_succ, List.getElem?_cons_zero]); rfl)
  case hs3_4 => kernel_rfl
  case hf3_4 => kernel_rfl
  case hr3_4 => kernel_rfl
  case hy3_4 => exact Or.inl ⟨by rfl, by (intro wq hSw; (try dsimp only at hSw); go_simp; (try with_reducible rfl))⟩
  try simp only [Act.put, List.setIfInBounds_toArray, List.set_cons_zero, List.set_cons_succ]
  refine wpAnyH_take (i := 4) (oi := ?o4_5) (v := ?v4_5) ?hi4_5 ?hs4_5 ?hf4_5 ?hr4_5 (fun _ _ _ h => h) ?hy4_5 (by assumption) ?hh4_5
  case hi4_5 => ((simp only [List.getElem?_toArray, List.getElem?_cons_succ, List.getElem?_cons_zero]); rfl)
  case hs4_5 => kernel_rfl
  case hf4_5 => kernel_rfl
  case hr4_5 => kernel_rfl
  case hy4_5 => exact Or.inl ⟨by rfl, by (intro wq hSw; (try dsimp only at hSw); go_simp; (try with_reducible rfl))⟩
  try simp only [Act.put, List.setIfInBounds_toArray, List.set_cons_zero, List.set_cons_succ]
  refine wpAnyH_take (i := 5) (oi := ?o5_6) (v := ?v5_6) ?hi5_6 ?hs5_6 ?hf5_6 ?hr5_6 (fun _ _ _ h => h) ?hy5_6 (by assumption) ?hh5_6
  case hi5_6 => ((simp only [List.getElem?_toArray, List.getElem?_cons_succ, List.getElem?_cons_zero]); rfl)
  case hs5_6 => kernel_rfl
  case hf5_6 => kernel_rfl
  case hr5_6 => kernel_rfl
  case hy5_6 => exact Or.inl ⟨by rfl, by (intro wq hSw; (try dsimp only at hSw); go_simp; (try with_reducible rfl))⟩
  try simp only [Act.put, List.setIfInBounds_toArray, List.set_cons_zero, List.set_cons_succ]
  refine wpAnyH_take (i := 6) (oi := ?o6_7) (v := ?v6_7) ?hi6_7 ?hs6_7 ?hf6_7 ?hr6_7 (fun _ _ _ h => h) ?hy6_7 (by assumption) ?hh6_7
  case hi6_7 => ((simp only [List.getElem?_toArray, List.getElem?_cons_succ, List.getElem?_cons_zero]); rfl)
  case hs6_7 => kernel_rfl
  case hf6_7 => kernel_rfl
  case hr6_7 => kernel_rfl
  case hy6_7 => exact Or.inl ⟨by rfl, by (intro wq hSw; (try dsimp only at hSw); go_simp; (try with_reducible rfl))⟩
  try simp only [Act.put, List.setIfInBounds_toArray, List.set_cons_zero, List.set_cons_succ]
  refine wpAnyH_take (i := 7) (oi := ?o7_8) (v := ?v7_8) ?hi7_8 ?hs7_8 ?hf7_8 ?hr7_8 (fun _ _ _ h => h) ?hy7_8 (by assumption) ?hh7_8
  case hi7_8 => ((simp only [List.getElem?_toArray, List.getElem?_cons_succ, List.getElem?_cons_zero]); rfl)
  case hs7_8 => kernel_rfl
  case hf7_8 => kernel_rfl
  case hr7_8 => kernel_rfl
  case hy7_8 => exact Or.inl ⟨by rfl, by (intro wq hSw; (try dsimp only at hSw); go_simp; (try with_reducible rfl))⟩
  try simp only [Act.put, List.setIfInBounds_toArray, List.set_cons_zero, List.set_cons_succ]
  refine wpAnyH_take (i := 9) (oi := ?o9_9) (v := ?v9_9) ?hi9_9 ?hs9_9 ?hf9_9 ?hr9_9 (fun _ _ _ h => h) ?hy9_9 (by assumption) ?hh9_9
  case hi9_9 => ((simp only [List.getElem?_toArray, List.getElem?_cons_succ, List.getElem?_cons_zero]); rfl)
  case hs9_9 => kernel_rfl
  case hf9_9 => kernel_rfl
  case hr9_9 => kernel_rfl
  case hy9_9 => exact Or.inl ⟨by rfl, by (intro wq hSw; (try dsimp only at hSw); go_simp; (try with_reducible rfl))⟩
  try simp only [Act.put, List.setIfInBounds_toArray, List.set_cons_zero, List.set_cons_succ]
  refine wpAnyH_take (i := 10) (oi := ?o10_10) (v := ?v10_10) ?hi10_10 ?hs10_10 ?hf10_10 ?hr10_10 (fun _ _ _ h => h) ?hy10_10 (by assumption) ?hh10_10
  case hi10_10 => ((simp only [List.getElem?_toArray, List.getElem?_cons_succ, List.getElem?_cons_zero]); rfl)
  case hs10_10 => kernel_rfl
  case hf10_10 => kernel_rfl
  case hr10_10 => kernel_rfl
  case hy10_10 => exact Or.inl ⟨by rfl, by (intro wq hSw; (try dsimp only at hSw); go_simp; (try with_reducible rfl))⟩
  try simp only [Act.put, List.setIfInBounds_toArray, List.set_cons_zero, List.set_cons_succ]
  refine wpAnyH_take (i := 11) (oi := ?o11_11) (v := ?v11_11) ?hi11_11 ?hs11_11 ?hf11_11 ?hr11_11 (fun _ _ _ h => h) ?hy11_11 (by assumption) ?hh11_11
  case hi11_11 => ((simp only [List.getElem?_toArray, List.getElem?_cons_succ, List.getElem?_cons_zero]); rfl)
  case hs11_11 => kernel_rfl
  case hf11_11 => kernel_rfl
  case hr11_11 => kernel_rfl
  case hy11_11 => exact Or.inl ⟨by rfl, by (intro wq hSw; (try dsimp only at hSw); go_simp; (try with_reducible rfl))⟩
  try simp only [Act.put, List.setIfInBounds_toArray, List.set_cons_zero, List.set_cons_succ]
  refine wpAnyH_ready (rs := [8, 12]) (by kernel_rfl) (by simp) ?_
  refine AllReadyH.cons (o := ?o8_12) ?hi8_12 (fun K hK => ?hh8_12) (AllReadyH.cons (o := ?o12_13) ?hi12_13 (fun K hK => ?hh12_13) AllReadyH.nil)
  case hi8_12 => ((simp only [List.getElem?_toArray, List.getElem?_cons_succ, List.getElem?_cons_zero]); rfl)
  case hi12_13 => ((simp only [List.getElem?_toArray, List.getElem?_cons_succ, List.getElem?_cons_zero]); rfl)
  go_simp
  (go_at_call 58; refine (HCT.out _ hHeld).mono ?_; rintro e w5 ⟨A5, c5, rfl, ho5, hb5⟩; have HO5 := hide ho5; have HB5 := hide hb5; have HH5 := hide hHeld; clear ho5 hb5)
  (try dsimp only)
  refine hK.out _ _ (HH5.out.trans (HB5.out.mono HH5.out.size)) (fun hHeld2 => ?_)
  clear hK K hHeld
  have hHeld := hHeld2
  clear hHeld2
  try simp only [Act.put, List.setIfInBounds_toArray, List.set_cons_zero, List.set_cons_succ]
  refine wpAnyH_ready (rs := [12]) (by kernel_rfl) (by simp) ?_
  refine AllReadyH.cons (o := ?o12_14) ?hi12_14 (fun K hK => ?hh12_14) AllReadyH.nil
  case hi12_14 => ((simp only [List.getElem?_toArray, List.getElem?_cons_succ, List.getElem?_cons_zero]); rfl)
  go_simp
  refine hK.out _ _ (hHeld.alloc hHeld.size _) (fun hHeld2 => ?_)
  clear hK K hHeld
  have hHeld := hHeld2
  clear hHeld2
  try simp only [Act.put, List.setIfInBounds_toArray, List.set_cons_zero, List.set_cons_succ]
  refine wpAnyH_take (i := 13) (oi := ?o13_15) (v := ?v13_15) ?hi13_15 ?hs13_15 ?hf13_15 ?hr13_15 (fun _ _ _ h => h) ?hy13_15 (by assumption) ?hh13_15
  case hi13_15 => ((simp only [List.getElem?_toArray, List.getElem?_cons_succ, List.getElem?_cons_zero]); rfl)
  case hs13_15 => kernel_rfl
  case hf13_15 => kernel_rfl
  case hr13_15 => kernel_rfl
  case hy13_15 => exact Or.inl ⟨by rfl, by (intro wq hSw; (try dsimp only at hSw); go_simp; (try with_reducible rfl))⟩
  try simp only [Act.put, List.setIfInBounds_toArray, List.set_cons_zero, List.set_cons_succ]
  refine wpAnyH_ready (rs := [14]) (by kernel_rfl) (by simp) ?_
  refine AllReadyH.cons (o := ?o14_16) ?hi14_16 (fun K hK => ?hh14_16) AllReadyH.nil
  case hi14_16 => ((simp only [List.getElem?_toArray, List.getElem?_cons_succ, List.getElem?_cons_zero]); rfl)
  go_simp
  refine hK.out _ _ (hHeld.alloc hHeld.size _) (fun hHeld2 => ?_)
  clear hK K hHeld
  have hHeld := hHeld2
  clear hHeld2
  try simp only [Act.put, List.setIfInBounds_toArray, List.set_cons_zero, List.set_cons_succ]
  refine wpAnyH_take (i := 15) (oi := ?o15_17) (v := ?v15_17) ?hi15_17 ?hs15_17 ?hf15_17 ?hr15_17 (fun _ _ _ h => h) ?hy15_17 (by assumption) ?hh15_17
  case hi15_17 => ((simp only [List.getElem?_toArray, List.getElem?_cons_succ, List.getElem?_cons_zero]); rfl)
  case hs15_17 => kernel_rfl
  case hf15_17 => kernel_rfl
  case hr15_17 => kernel_rfl
  case hy15_17 => exact Or.inl ⟨by rfl, by (intro wq hSw; (try dsimp only at hSw); go_simp; (try with_reducible rfl))⟩
  try simp only [Act.put, List.setIfInBounds_toArray, List.set_cons_zero, List.set_cons_succ]
  refine wpAnyH_done (by kernel_rfl) ?_ _
  refine NoPanic.normal ?_
  rotate_left
  go_simp
  refine hK.out _ _ (hHeld.alloc hHeld.size _) (fun hHeld2 => ?_)
  clear hK K hHeld
  have hHeld := hHeld2
  clear hHeld2
  try simp only [Act.put, List.setIfInBounds_toArray, List.set_cons_zero, List.set_cons_succ]
  refine wpAnyH_ready (rs := [8]) (by kernel_rfl) (by simp) ?_
  refine AllReadyH.cons (o := ?o8_18) ?hi8_18 (fun K hK => ?hh8_18) AllReadyH.nil
  case hi8_18 => ((simp only [List.getElem?_toArray, List.getElem?_cons_succ, List.getElem?_cons_zero]); rfl)
  go_simp
  (go_at_call 58; refine (HCT.out _ hHeld).mono ?_; rintro e w5 ⟨A5, c5, rfl, ho5, hb5⟩; have HO5 := hide ho5; have HB5 := hide hb5; have HH5 := hide hHeld; clear ho5 hb5)
  (try dsimp only)
  refine hK.out _ _ (HH5.out.trans (HB5.out.mono HH5.out.size)) (fun hHeld2 => ?_)
  clear hK K hHeld
  have hHeld := hHeld2
  clear hHeld2
  try simp only [Act.put, List.setIfInBounds_toArray, List.set_cons_zero, List.set_cons_succ]
  refine wpAnyH_take (i := 13) (oi := ?o13_19) (v := ?v13_19) ?hi13_19 ?hs13_19 ?hf13_19 ?hr13_19 (fun _ _ _ h => h) ?hy13_19 (by assumption) ?hh13_19
  case hi13_19 => ((simp only [List.getElem?_toArray, List.getElem?_cons_succ, List.getElem?_cons_zero]); rfl)
  case hs13_19 => kernel_rfl
  case hf13_19 => kernel_rfl
  case hr13_19 => kernel_rfl
  case hy13_19 => exact Or.inl ⟨by rfl, by (intro wq hSw; (try dsimp only at hSw); go_simp; (try with_reducible rfl))⟩
  try simp only [Act.put, List.setIfInBounds_toArray, List.set_cons_zero, List.set_cons_succ]
  refine wpAnyH_ready (rs := [14]) (by kernel_rfl) (by simp) ?_
  refine AllReadyH.cons (o := ?o14_20) ?hi14_20 (fun K hK => ?hh14_20) AllReadyH.nil
  case hi14_20 => ((simp only [List.getElem?_toArray, List.getElem?_cons_succ, List.getElem?_cons_zero]); rfl)
  go_simp
  refine hK.out _ _ (hHeld.alloc hHeld.size _) (fun hHeld2 => ?_)
  clear hK K hHeld
  have hHeld := hHeld2
  clear hHeld2
  try simp only [Act.put, List.setIfInBounds_toArray, List.set_cons_zero, List.set_cons_succ]
  refine wpAnyH_take (i := 15) (oi := ?o15_21) (v := ?v15_21) ?hi15_21 ?hs15_21 ?hf15_21 ?hr15_21 (fun _ _ _ h => h) ?hy15_21 (by assumption) ?hh15_21
  case hi15_21 => ((simp only [List.getElem?_toArray, List.getElem?_cons_succ, List.getElem?_cons_zero]); rfl)
  case hs15_21 => kernel_rfl
  case hf15_21 => kernel_rfl
  case hr15_21 => kernel_rfl
  case hy15_21 => exact Or.inl ⟨by rfl, by (intro wq hSw; (try dsimp only at hSw); go_simp; (try with_reducible rfl))⟩
  try simp only [Act.put, List.setIfInBounds_toArray, List.set_cons_zero, List.set_cons_succ]
  refine wpAnyH_done (by kernel_rfl) ?_ _
  refine NoPanic.normal ?_
  rotate_left
  · have HL5 := hide (HO5.out.mono (B' := w.heap.size) HB.out.1.bel.size)
    have hb5 := HB.out.1.bel.trans ((HH5.out.trans (HB5.out.mono HH5.out.size)).mono HB.out.1.bel.size)
    have hal : Below w5.heap.size w5 (w5.alloc (.cells cs 2)) := (Below.refl _ _).alloc (Nat.le_refl _) _
    obtain ⟨g, rfl, _, hgl, _, _⟩ := own_get1 HO5.out (k := 0) (by rw [limB_length]; exact HZ1.out)
    have e := limB_length x.zs x.rs x.most
    have hN := CuI.new (x := x) (left := left) (hb5.trans (hal.mono hb5.size)) (by have h := HL5.out.below hal; rw [e] at h; exact h) (HO.out w5 w.heap.size hb5.size) (by omega) h0 h1
    rw [show (w5.alloc (.cells cs 2)).heap.size = w5.heap.size + 1 by simp] at hN
    have HN := hide hN
    clear hN hal hb5 hgl HL5
    rw [e]
    go_wp2_with fail
    go_ret
    exact ⟨_, g, _, _, _, rfl, HN.out, by simp⟩
  · have HL5 := hide (HO5.out.mono (B' := w.heap.size) (Nat.le_trans HB.out.1.bel.size HH5.out.size))
    have hb5 := HB.out.1.bel.trans ((HH5.out.trans (HB5.out.mono HH5.out.size)).mono HB.out.1.bel.size)
    obtain ⟨g, rfl, hgl, _, _, _⟩ := own_get1 HO5.out (k := 0) (by rw [limB_length]; exact HZ1.out)
    have e := limB_length x.zs x.rs x.most
    have hN := CuI.new (x := x) (left := left) hb5 (by have h := HL5.out; rw [e] at h; exact h) ((HO.out w3.drew w.heap.size HB.out.1.bel.size).below HB5.out) (by simp at hgl ⊢; omega) h0 h1
    have HN := hide hN
    clear hN hb5 hgl HL5
    rw [e]
    go_wp2_with fail
    go_ret
    exact ⟨_, g, _, _, _, rfl, HN.out, by simp⟩
end Go.Proofs.YtnefgafmnpblpaaGreat
