/- Contracts: a search of the reference that has not begun. -/
import Derived.Test.YtnefgafmnpblpaaGreatPnU
namespace Go.Proofs.YtnefgafmnpblpaaGreat
open Go.RowKit Pn

set_option maxRecDepth 100000 in
/-- An append of one number, as a step of a region that draws its order. -/
theorem step_appI {w : World} {ops : Array Oper} {o : Oper} {a : Act} {K : Act → World → Prop} {Q : Exit → Act → World → Prop} {E : Prop} (hgd : o.guard = none) (s x : Operand) (ho : o.op = .call { callee := .builtin .append, args := #[s, x], argTypes := #[24, 24] }) (B : Nat) {v : Value} {xs : List Int} (hs : a.eval s = v)
    (hown : OwnI w B v xs) {y : Int} (hx : a.eval x = .slice (some ⟨w.heap.size, 0, none⟩) 1 1) (hn : xs.length ≤ 1048576) (hB : B ≤ w.heap.size)
    (h : ∀ (A : Option Addr) (c : Nat) (w' : World), OwnI w' B (.slice A (xs.length + 1) c) (xs ++ [y]) → Below B (w.alloc (.cells #[.int .i64 y] 2)) w' → (w.alloc (.cells #[.int .i64 y] 2)).grownBy w' v.ownBlock → K (a.put o.dst (.slice A (xs.length + 1) c)) w') : if Region.wanted o (yielded ops a.tmps) = true then Oper.wp Tryz.prog o a (w.alloc (.cells #[.int .i64 y] 2)) K Q else E := by
  obtain ⟨i0, hi, hz0, hz1, hz2⟩ := info_parts info_i64
  have hb0 : Below w.heap.size w (w.alloc (.cells #[.int .i64 y] 2)) := (Below.refl _ _).alloc (Nat.le_refl _) _
  have hO := hown.below hb0
  refine step_append_lies _ hgd s x _ ho B 2 i0 _ 1 8 Tryz.underlying24 hi hz0 hz1 hz2 rfl (by omega) v xs.length (xs.flatMap encI) hs hO ⟨w.heap.size, 0, none⟩ 1 1 [.int .i64 y] hx rfl (World.news_of_block (cs := #[.int .i64 y]) (heap_alloc_new w _)) (by simp [Value.oneCell']) (by omega) (by unfold maxLen; omega) (by omega) (by simp; omega) _ rfl ?_
  intro g cap w' h1 h2 _ _
  refine h _ cap w' ?_ (Below.grown (Below.refl _ _) h2 (by simp; omega) fun k hk => (Own.lt hO k hk).1) h2
  unfold OwnI Own
  rw [List.length_append, List.flatMap_append]
  simpa using h1
theorem specl00Min_pn (a b : Int) (w : World) : Calls Tryz.prog 172 #[.int .i64 a, .int .i64 b] w fun e w' => e = .returned (.int .i64 (min a b)) ∧ w = w' := by
  by_cases h : a < b
  · have E := hide (show min a b = a by omega)
    go_enter Tryz.func172, Tryz.ntmps172
    go_wp2_with fail
    go_ret
    exact ⟨ret_int E.out.symm, rfl⟩
  · have E := hide (show min a b = b by omega)
    go_enter Tryz.func172, Tryz.ntmps172
    go_wp2_with fail
    go_ret
    exact ⟨ret_int E.out.symm, rfl⟩
/-- The cells of the reference's searching struct. -/
abbrev xCells (bm bp bg : Nat) (A : Option Addr) (n c : Nat) (sA : Option Addr) (sn sc : Nat) (tot sum : Int) (all clo : Bool) (bA : Option Addr) (bn bc : Nat) (le cnt nd bud : Int) (full : Bool) : Array Value :=
  #[.pointer (some ⟨bm, 0, none⟩), .pointer (some ⟨bp, 0, none⟩), .pointer (some ⟨bg, 0, none⟩), .slice A n c, .slice sA sn sc, .int .i64 tot, .int .i64 sum, .bool all, .bool clo, .slice bA bn bc, .int .i64 le, .int .i64 cnt, .int .i64 nd, .int .i64 bud, .bool full]
/-- The struct while its limits are being laid. -/
structure NewX (w0 w : World) (q bm bp bg : Nat) (bud : Int) (A : Option Addr) (c : Nat) (ys : List Int) : Prop where
  st : w.heap[q]? = some (.cells (xCells bm bp bg A ys.length c none 0 0 (-1) 0 false false none 0 0 (-1) 0 0 bud false) 121 (0, 0))
  row : OwnI w (q + 1) (.slice A ys.length c) ys
  bel : Below w0.heap.size w0 w
  hq : w0.heap.size ≤ q
theorem NewX.lt {w0 w : World} {q bm bp bg : Nat} {bud : Int} {A : Option Addr} {c : Nat} {ys : List Int} (h : NewX w0 w q bm bp bg bud A c ys) : q < w.heap.size := heap_lt h.st
theorem NewX.below {w0 w w' : World} {q bm bp bg : Nat} {bud : Int} {A : Option Addr} {c : Nat} {ys : List Int} (h : NewX w0 w q bm bp bg bud A c ys) (hb : Below w.heap.size w w') : NewX w0 w' q bm bp bg bud A c ys :=
  ⟨(hb.block q h.lt).trans h.st, h.row.below hb, h.bel.trans (hb.mono h.bel.size), h.hq⟩
theorem NewX.push {w0 w w' : World} {q bm bp bg : Nat} {bud : Int} {A A' : Option Addr} {c c' : Nat} {ys : List Int} {y : Int} (h : NewX w0 w q bm bp bg bud A c ys) (ho : OwnI w' (q + 1) (.slice A' (ys.length + 1) c') (ys ++ [y])) (hb : Below (q + 1) w w') :
    NewX w0 (w'.setCell ⟨q, 3, none⟩ (.slice A' (ys.length + 1) c')) q bm bp bg bud A' c' (ys ++ [y]) := by
  have hg2 := grown_set (grown_refl w' (some q)) 3 (.slice A' (ys.length + 1) c')
  have hl : (ys ++ [y]).length = ys.length + 1 := by simp
  have hst : w'.heap[q]? = _ := (hb.block q (by omega)).trans h.st
  refine ⟨?_, ?_, (h.bel.trans (hb.mono (by have := h.hq; omega))).setCell h.hq _, h.hq⟩
  · rw [hl]; exact heap_set' _ hst
  · rw [hl]; exact own_far' ho hg2
set_option maxRecDepth 100000 in
set_option maxHeartbeats 1000000 in
theorem specl10New (bm bp bg : Nat) (Az Aw Ab : Option Addr) (cz cw cb : Nat) (zs : List Int) (ws : List (List Int)) (bs : List Int) (nm : ByteArray) (A : Option Addr) (c : Nat) (rs : List RingR) (t0 t1 t2 t3 t4 tol most bud : Int) (w : World) (hm : MpAt w bm Az cz Aw cw Ab cb zs ws bs) (hr : ProfAt w bp nm A c rs) (hg : GoalAt w bg 0 [t0, t1, t2, t3, t4] tol most) (hs : nm.size ≤ maxLen) (HA : Hid (AskOK zs ws bs nm rs)) :
    Calls Tryz.prog 130 #[.pointer (some ⟨bm, 0, none⟩), .pointer (some ⟨bp, 0, none⟩), .pointer (some ⟨bg, 0, none⟩), .int .i64 bud] w fun e w' => ∃ (q : Nat) (A' : Option Addr) (c' : Nat), e = .returned (.pointer (some ⟨q, 0, none⟩)) ∧ NewX w w' q bm bp bg bud A' c' (limB zs rs most) := by
  have HM := hide hm
  have HP := hide hr
  have HG := hide hg
  have hz8 := HA.out.z.len8
  have HNM := hide HA.out.n
  have HRO := hide HA.out.r
  have HZO := hide HA.out.z
  have H0 := hide (show NewX w (w.alloc (.cells (xCells bm bp bg none 0 0 none 0 0 (-1) 0 false false none 0 0 (-1) 0 0 bud false) 121)) w.heap.size bm bp bg bud none 0 [] from ⟨heap_alloc_new w _, Own.nil, (Below.refl _ _).alloc (Nat.le_refl _) _, Nat.le_refl _⟩)
  obtain ⟨q, hq⟩ : ∃ q, q = w.heap.size := ⟨_, rfl⟩
  clear hm hr hg
  go_enter Tryz.func130, Tryz.ntmps130
  go_wp2_with fail
  rw [← hq] at H0 ⊢
  have HQ := hide hq
  clear hq
  generalize w.alloc (.cells (xCells bm bp bg none 0 0 none 0 0 (-1) 0 false false none 0 0 (-1) 0 0 bud false) 121) = w1 at *
  go_loopw [10] (fun v wr => ∃ (k : Nat) (A : Option Addr) (c : Nat) (ys : List Int), v = .int .i64 k ∧ k ≤ zs.length ∧ ys.length = k ∧ Hid (ys = (limB zs rs most).take k) ∧ Hid (NewX w wr q bm bp bg bud A c ys)) (fun v _ => zs.length - (intOf v).toNat)
  case atStart => exact ⟨0, none, 0, [], rfl, by omega, rfl, hide (by simp), H0⟩
  case round =>
    obtain ⟨k, A2, c2, ys, rfl, hk, hy, HY, HR⟩ := hrel
    have m0 := (HM.out.below HR.out.bel).c0
    have ml := (HM.out.below HR.out.bel).lt
    by_cases hlt : k < zs.length
    · have HN := hide (show ys ++ [min most (room zs rs k)] = (limB zs rs most).take (k + 1) from by rw [HY.out, take_ig (by rw [limB_length]; exact hlt), limB_get zs rs most hlt, Int.min_comm])
      have HC := hide (fun W (hb : Below w.heap.size w W) => specl09Most bp nm A c rs Az cz zs k W (HP.out.below hb) (HM.out.below hb).md.z HNM hs HRO HZO hlt)
      have q3 : wr.cell? ⟨q, 3, none⟩ = some (.slice A2 ys.length c2) := by simp [World.cell?, HR.out.st]
      have P6 : ∀ w', Below w.heap.size w w' → w'.cell? ⟨bg, 6, none⟩ = some (.int .i64 most) := fun w' hb => by simpa using (HG.out.below hb).c6
      have P0 : ∀ w', Below w.heap.size w w' → w'.cell? ⟨bm, 0, none⟩ = some (.slice Az zs.length cz) := fun w' hb => (HM.out.below hb).c0
      have HLY := hide hy
      have hql := HR.out.lt
      have HHQ := hide HR.out.hq
      obtain ⟨d, hd⟩ : ∃ d, d = room zs rs k := ⟨_, rfl⟩
      rw [← hd] at HC HN
      obtain ⟨mm, hmm⟩ : ∃ mm, mm = min most d := ⟨_, rfl⟩
      rw [← hmm] at HN
      have HMN := hide (fun W => show Calls Tryz.prog 172 #[.int .i64 most, .int .i64 d] W fun e w' => e = .returned (.int .i64 mm) ∧ W = w' from by rw [hmm]; exact specl00Min_pn most d W)
      clear hd hy HY hmm
      go_upto_region 5 with fail
      clear m0 ml
      refine wp_region_noPanic ?_
      refine wp_region_held_drew (S := (fun w' => Below w.heap.size w w')) (by kernel_rfl) (HR.out.bel.drew) (fun hHeld => ?_)
      refine wpAnyH_take (i := 0) (oi := ?o0_1) (v := ?v0_1) ?hi0_1 ?hs0_1 ?hf0_1 ?hr0_1 (fun _ _ _ h => h) ?hy0_1 (by assumption) ?hh0_1
      case hi0_1 => ((simp only [List.getElem?_toArray, List.getElem?_cons_zero]); rfl)
      case hs0_1 => kernel_rfl
      case hf0_1 => kernel_rfl
      case hr0_1 => kernel_rfl
      case hy0_1 => exact Or.inl ⟨by rfl, by (intro wq hSw; (try dsimp only at hSw); go_simp; (try with_reducible rfl))⟩
      try simp only [Act.put, List.setIfInBounds_toArray, List.set_cons_zero, List.set_cons_succ]
      refine wpAnyH_take (i := 1) (oi := ?o1_2) (v := ?v1_2) ?hi1_2 ?hs1_2 ?hf1_2 ?hr1_2 (fun _ _ _ h => h) ?hy1_2 (by assumption) ?hh1_2
      case hi1_2 => ((simp only [List.getElem?_toArray, List.getElem?_cons_succ, List.getElem?_cons_zero]); rfl)
      case hs1_2 => kernel_rfl
      case hf1_2 => kernel_rfl
      case hr1_2 => kernel_rfl
      case hy1_2 => exact Or.inl ⟨by rfl, by (intro wq hSw; (try dsimp only at hSw); go_simp; (try with_reducible rfl))⟩
      try simp only [Act.put, List.setIfInBounds_toArray, List.set_cons_zero, List.set_cons_succ]
      refine wpAnyH_take (i := 2) (oi := ?o2_3) (v := ?v2_3) ?hi2_3 ?hs2_3 ?hf2_3 ?hr2_3 (fun _ _ _ h => h) ?hy2_3 (by assumption) ?hh2_3
      case hi2_3 => ((simp only [List.getElem?_toArray, List.getElem?_cons_succ, List.getElem?_cons_zero]); rfl)
      case hs2_3 => kernel_rfl
      case hf2_3 => kernel_rfl
      case hr2_3 => kernel_rfl
      case hy2_3 => exact Or.inl ⟨by rfl, by (intro wq hSw; (try dsimp only at hSw); go_simp; (try with_reducible rfl))⟩
      try simp only [Act.put, List.setIfInBounds_toArray, List.set_cons_zero, List.set_cons_succ]
      refine wpAnyH_take (i := 3) (oi := ?o3_4) (v := ?v3_4) ?hi3_4 ?hs3_4 ?hf3_4 ?hr3_4 (fun _ _ _ h => h) ?hy3_4 (by assumption) ?hh3_4
      case hi3_4 => ((simp only [List.getElem?_toArray, List.getElem?_cons_succ, List.getElem?_cons_zero]); rfl)
      case hs3_4 => kernel_rfl
      case hf3_4 => kernel_rfl
      case hr3_4 => kernel_rfl
      case hy3_4 => exact Or.inl ⟨by rfl, by (intro wq hSw; (try dsimp only at hSw); go_simp; (try with_reducible rfl))⟩
      try simp only [Act.put, List.setIfInBounds_toArray, List.set_cons_zero, List.set_cons_succ]
      refine wpAnyH_take (i := 5) (oi := ?o5_5) (v := ?v5_5) ?hi5_5 ?hs5_5 ?hf5_5 ?hr5_5 (fun _ _ _ h => h) ?hy5_5 (by assumption) ?hh5_5
      case hi5_5 => ((simp only [List.getElem?_toArray, List.getElem?_cons_succ, List.getElem?_cons_zero]); rfl)
      case hs5_5 => kernel_rfl
      case hf5_5 => kernel_rfl
      case hr5_5 => kernel_rfl
      case hy5_5 => exact Or.inl ⟨by rfl, by (intro wq hSw; (try dsimp only at hSw); go_simp; (try with_reducible rfl))⟩
      try simp only [Act.put, List.setIfInBounds_toArray, List.set_cons_zero, List.set_cons_succ]
      refine wpAnyH_take (i := 6) (oi := ?o6_6) (v := ?v6_6) ?hi6_6 ?hs6_6 ?hf6_6 ?hr6_6 (fun _ _ _ h => h) ?hy6_6 (by assumption) ?hh6_6
      case hi6_6 => ((simp only [List.getElem?_toArray, List.getElem?_cons_succ, List.getElem?_cons_zero]); rfl)
      case hs6_6 => kernel_rfl
      case hf6_6 => kernel_rfl
      case hr6_6 => kernel_rfl
      case hy6_6 => exact Or.inl ⟨by rfl, by (intro wq hSw; (try dsimp only at hSw); go_simp; (try with_reducible rfl))⟩
      try simp only [Act.put, List.setIfInBounds_toArray, List.set_cons_zero, List.set_cons_succ]
      refine wpAnyH_take (i := 7) (oi := ?o7_7) (v := ?v7_7) ?hi7_7 ?hs7_7 ?hf7_7 ?hr7_7 (fun _ _ _ h => h) ?hy7_7 (by assumption) ?hh7_7
      case hi7_7 => ((simp only [List.getElem?_toArray, List.getElem?_cons_succ, List.getElem?_cons_zero]); rfl)
      case hs7_7 => kernel_rfl
      case hf7_7 => kernel_rfl
      case hr7_7 => kernel_rfl
      case hy7_7 => exact Or.inl ⟨by rfl, by (intro wq hSw; (try dsimp only at hSw); go_simp; (try with_reducible rfl))⟩
      try simp only [Act.put, List.setIfInBounds_toArray, List.set_cons_zero, List.set_cons_succ]
      refine wpAnyH_take (i := 8) (oi := ?o8_8) (v := ?v8_8) ?hi8_8 ?hs8_8 ?hf8_8 ?hr8_8 (fun _ _ _ h => h) ?hy8_8 (by assumption) ?hh8_8
      case hi8_8 => ((simp only [List.getElem?_toArray, List.getElem?_cons_succ, List.getElem?_cons_zero]); rfl)
      case hs8_8 => kernel_rfl
      case hf8_8 => kernel_rfl
      case hr8_8 => kernel_rfl
      case hy8_8 => exact Or.inl ⟨by rfl, by (intro wq hSw; (try dsimp only at hSw); go_simp; (try with_reducible rfl))⟩
      try simp only [Act.put, List.setIfInBounds_toArray, List.set_cons_zero, List.set_cons_succ]
      refine wpAnyH_take (i := 9) (oi := ?o9_9) (v := ?v9_9) ?hi9_9 ?hs9_9 ?hf9_9 ?hr9_9 (fun _ _ _ h => h) ?hy9_9 (by assumption) ?hh9_9
      case hi9_9 => ((simp only [List.getElem?_toArray, List.getElem?_cons_succ, List.getElem?_cons_zero]); rfl)
      case hs9_9 => kernel_rfl
      case hf9_9 => kernel_rfl
      case hr9_9 => kernel_rfl
      case hy9_9 => exact Or.inl ⟨by rfl, by (intro wq hSw; (try dsimp only at hSw); go_simp; (try with_reducible rfl))⟩
      try simp only [Act.put, List.setIfInBounds_toArray, List.set_cons_zero, List.set_cons_succ]
      refine wpAnyH_take (i := 10) (oi := ?o10_10) (v := ?v10_10) ?hi10_10 ?hs10_10 ?hf10_10 ?hr10_10 (fun _ _ _ h => h) ?hy10_10 (by assumption) ?hh10_10
      case hi10_10 => ((simp only [List.getElem?_toArray, List.getElem?_cons_succ, List.getElem?_cons_zero]); rfl)
      case hs10_10 => kernel_rfl
      case hf10_10 => kernel_rfl
      case hr10_10 => kernel_rfl
      case hy10_10 => exact Or.inl ⟨by rfl, by (intro wq hSw; (try dsimp only at hSw); go_simp; (try with_reducible rfl))⟩
      try simp only [Act.put, List.setIfInBounds_toArray, List.set_cons_zero, List.set_cons_succ]
      refine wpAnyH_take (i := 11) (oi := ?o11_11) (v := ?v11_11) ?hi11_11 ?hs11_11 ?hf11_11 ?hr11_11 (fun _ _ _ h => h) ?hy11_11 (by assumption) ?hh11_11
      case hi11_11 => ((simp only [List.getElem?_toArray, List.getElem?_cons_succ, List.getElem?_cons_zero]); rfl)
      case hs11_11 => kernel_rfl
      case hf11_11 => kernel_rfl
      case hr11_11 => kernel_rfl
      case hy11_11 => exact Or.inl ⟨by rfl, by (intro wq hSw; (try dsimp only at hSw); go_simp; (try with_reducible rfl))⟩
      try simp only [Act.put, List.setIfInBounds_toArray, List.set_cons_zero, List.set_cons_succ]
      refine wpAnyH_take (i := 12) (oi := ?o12_12) (v := ?v12_12) ?hi12_12 ?hs12_12 ?hf12_12 ?hr12_12 (fun _ _ _ h => h) ?hy12_12 (by assumption) ?hh12_12
      case hi12_12 => ((simp only [List.getElem?_toArray, List.getElem?_cons_succ, List.getElem?_cons_zero]); rfl)
      case hs12_12 => kernel_rfl
      case hf12_12 => kernel_rfl
      case hr12_12 => kernel_rfl
      case hy12_12 => exact Or.inl ⟨by rfl, by (intro wq hSw; (try dsimp only at hSw); go_simp; (try with_reducible rfl))⟩
      try simp only [Act.put, List.setIfInBounds_toArray, List.set_cons_zero, List.set_cons_succ]
      refine wpAnyH_take (i := 13) (oi := ?o13_13) (v := ?v13_13) ?hi13_13 ?hs13_13 ?hf13_13 ?hr13_13 (fun _ _ _ h => h) ?hy13_13 (by assumption) ?hh13_13
      case hi13_13 => ((simp only [List.getElem?_toArray, List.getElem?_cons_succ, List.getElem?_cons_zero]); rfl)
      case hs13_13 => kernel_rfl
      case hf13_13 => kernel_rfl
      case hr13_13 => kernel_rfl
      case hy13_13 => exact Or.inl ⟨by rfl, by (intro wq hSw; (try dsimp only at hSw); go_simp; (try with_reducible rfl))⟩
      try simp only [Act.put, List.setIfInBounds_toArray, List.set_cons_zero, List.set_cons_succ]
      refine wpAnyH_take (i := 14) (oi := ?o14_14) (v := ?v14_14) ?hi14_14 ?hs14_14 ?hf14_14 ?hr14_14 (fun _ _ _ h => h) ?hy14_14 (by assumption) ?hh14_14
      case hi14_14 => ((simp only [List.getElem?_toArray, List.getElem?_cons_succ, List.getElem?_cons_zero]); rfl)
      case hs14_14 => kernel_rfl
      case hf14_14 => kernel_rfl
      case hr14_14 => kernel_rfl
      case hy14_14 => exact Or.inl ⟨by rfl, by (intro wq hSw; (try dsimp only at hSw); go_simp; (try with_reducible rfl))⟩
      try simp only [Act.put, List.setIfInBounds_toArray, List.set_cons_zero, List.set_cons_succ]
      refine wpAnyH_ready (rs := [4, 15]) (by kernel_rfl) (by simp) ?_
      refine AllReadyH.cons (o := ?o4_15) ?hi4_15 (fun K hK => ?hh4_15) (AllReadyH.cons (o := ?o15_16) ?hi15_16 (fun K hK => ?hh15_16) AllReadyH.nil)
      case hi4_15 => ((simp only [List.getElem?_toArray, List.getElem?_cons_succ, List.getElem?_cons_zero]); rfl)
      case hi15_16 => ((simp only [List.getElem?_toArray, List.getElem?_cons_succ, List.getElem?_cons_zero]); rfl)
      go_simp
      refine hK.out _ _ (hHeld) (fun hHeld2 => ?_)
      clear hK K hHeld
      have hHeld := hHeld2
      clear hHeld2
      try simp only [Act.put, List.setIfInBounds_toArray, List.set_cons_zero, List.set_cons_succ]
      refine wpAnyH_ready (rs := [15]) (by kernel_rfl) (by simp) ?_
      refine AllReadyH.cons (o := ?o15_17) ?hi15_17 (fun K hK => ?hh15_17) AllReadyH.nil
      case hi15_17 => ((simp only [List.getElem?_toArray, List.getElem?_cons_succ, List.getElem?_cons_zero]); rfl)
      go_simp
      (go_at_call 173; refine (HC.out _ hHeld).mono ?_; rintro e w5 ⟨rfl, hb5⟩; have q3' := (hb5.cell (p := ⟨q, 3, none⟩) hql).trans q3; have HR5 := hide (HR.out.below ((Below.refl _ _).drew.trans hb5)); have hql5 := HR5.out.lt)
      (try dsimp only)
      refine hK.out _ _ (HR5.out.bel) (fun hHeld2 => ?_)
      clear hK K hHeld
      have hHeld := hHeld2
      clear hHeld2
      try simp only [Act.put, List.setIfInBounds_toArray, List.set_cons_zero, List.set_cons_succ]
      refine wpAnyH_ready (rs := [16]) (by kernel_rfl) (by simp) ?_
      refine AllReadyH.cons (o := ?o16_18) ?hi16_18 (fun K hK => ?hh16_18) AllReadyH.nil
      case hi16_18 => ((simp only [List.getElem?_toArray, List.getElem?_cons_succ, List.getElem?_cons_zero]); rfl)
      go_simp
      (go_at_call 172; refine (HMN.out _).mono ?_; rintro e w6 ⟨rfl, rfl⟩)
      (try dsimp only)
      refine hK.out _ _ (hHeld) (fun hHeld2 => ?_)
      clear hK K hHeld
      have hHeld := hHeld2
      clear hHeld2
      try simp only [Act.put, List.setIfInBounds_toArray, List.set_cons_zero, List.set_cons_succ]
      refine wpAnyH_ready (rs := [17]) (by kernel_rfl) (by simp) ?_
      refine AllReadyH.cons (o := ?o17_19) ?hi17_19 (fun K hK => ?hh17_19) AllReadyH.nil
      case hi17_19 => ((simp only [List.getElem?_toArray, List.getElem?_cons_succ, List.getElem?_cons_zero]); rfl)
      go_simp
      refine hK.out _ _ (hHeld.alloc hHeld.size _) (fun hHeld2 => ?_)
      clear hK K hHeld
      have hHeld := hHeld2
      clear hHeld2
      try simp only [Act.put, List.setIfInBounds_toArray, List.set_cons_zero, List.set_cons_succ]
      refine wpAnyH_ready (rs := [18]) (by kernel_rfl) (by simp) ?_
      refine AllReadyH.cons (o := ?o18_20) ?hi18_20 (fun K hK => ?hh18_20) AllReadyH.nil
      case hi18_20 => ((simp only [List.getElem?_toArray, List.getElem?_cons_succ, List.getElem?_cons_zero]); rfl)
      refine step_appI (by rfl) _ _ (by rfl) (q + 1) (by rfl) HR5.out.row (by rfl) (by have := HLY.out; omega) (by omega) ?_; intro A6 c6 w6 ho6 hb6 _; have HB6 := hide (show Below (q + 1) w5 w6 from ((Below.refl (q + 1) w5).alloc (by omega) _).trans hb6); have HN6 := hide (HR5.out.push ho6 HB6.out); have q3'' := (HB6.out.cell (p := ⟨q, 3, none⟩) (by simp)).trans q3'; have f3 := (HB6.out.frozen (p := ⟨q, 3, none⟩) (by simp)).trans (show w5.frozen? ⟨q, 3, none⟩ = false by simp [World.frozen?, HR5.out.st]); clear ho6 hb6
      refine hK.out _ _ (HR5.out.bel.trans (HB6.out.mono (by have := HHQ.out; omega))) (fun hHeld2 => ?_)
      clear hK K hHeld
      have hHeld := hHeld2
      clear hHeld2
      try simp only [Act.put, List.setIfInBounds_toArray, List.set_cons_zero, List.set_cons_succ]
      refine wpAnyH_take (i := 19) (oi := ?o19_21) (v := ?v19_21) ?hi19_21 ?hs19_21 ?hf19_21 ?hr19_21 (fun _ _ _ h => h) ?hy19_21 (by assumption) ?hh19_21
      case hi19_21 => ((simp only [List.getElem?_toArray, List.getElem?_cons_succ, List.getElem?_cons_zero]); rfl)
      case hs19_21 => kernel_rfl
      case hf19_21 => kernel_rfl
      case hr19_21 => kernel_rfl
      case hy19_21 => exact Or.inl ⟨by rfl, by (intro wq hSw; (try dsimp only at hSw); go_simp; (try with_reducible rfl))⟩
      try simp only [Act.put, List.setIfInBounds_toArray, List.set_cons_zero, List.set_cons_succ]
      refine wpAnyH_take (i := 20) (oi := ?o20_22) (v := ?v20_22) ?hi20_22 ?hs20_22 ?hf20_22 ?hr20_22 (fun _ _ _ h => h) ?hy20_22 (by assumption) ?hh20_22
      case hi20_22 => ((simp only [List.getElem?_toArray, List.getElem?_cons_succ, List.getElem?_cons_zero]); rfl)
      case hs20_22 => kernel_rfl
      case hf20_22 => kernel_rfl
      case hr20_22 => kernel_rfl
      case hy20_22 => exact Or.inl ⟨by rfl, by (intro wq hSw; (try dsimp only at hSw); go_simp; (try with_reducible rfl))⟩
      try simp only [Act.put, List.setIfInBounds_toArray, List.set_cons_zero, List.set_cons_succ]
      refine wpAnyH_ready (rs := [21]) (by kernel_rfl) (by simp) ?_
      refine AllReadyH.cons (o := ?o21_23) ?hi21_23 (fun K hK => ?hh21_23) AllReadyH.nil
      case hi21_23 => ((simp only [List.getElem?_toArray, List.getElem?_cons_succ, List.getElem?_cons_zero]); rfl)
      go_simp
      refine hK.out _ _ (hHeld.setCell HHQ.out _) (fun hHeld2 => ?_)
      clear hK K hHeld
      have hHeld := hHeld2
      clear hHeld2
      try simp only [Act.put, List.setIfInBounds_toArray, List.set_cons_zero, List.set_cons_succ]
      refine wpAnyH_done (by kernel_rfl) ?_ _
      refine NoPanic.normal ?_
      rotate_left
      go_simp
      (go_at_call 173; refine (HC.out _ hHeld).mono ?_; rintro e w5 ⟨rfl, hb5⟩; have q3' := (hb5.cell (p := ⟨q, 3, none⟩) hql).trans q3; have HR5 := hide (HR.out.below ((Below.refl _ _).drew.trans hb5)); have hql5 := HR5.out.lt)
      (try dsimp only)
      refine hK.out _ _ (HR5.out.bel) (fun hHeld2 => ?_)
      clear hK K hHeld
      have hHeld := hHeld2
      clear hHeld2
      try simp only [Act.put, List.setIfInBounds_toArray, List.set_cons_zero, List.set_cons_succ]
      refine wpAnyH_ready (rs := [4, 16]) (by kernel_rfl) (by simp) ?_
      refine AllReadyH.cons (o := ?o4_24) ?hi4_24 (fun K hK => ?hh4_24) (AllReadyH.cons (o := ?o16_25) ?hi16_25 (fun K hK => ?hh16_25) AllReadyH.nil)
      case hi4_24 => ((simp only [List.getElem?_toArray, List.getElem?_cons_succ, List.getElem?_cons_zero]); rfl)
      case hi16_25 => ((simp only [List.getElem?_toArray, List.getElem?_cons_succ, List.getElem?_cons_zero]); rfl)
      go_simp
      refine hK.out _ _ (hHeld) (fun hHeld2 => ?_)
      clear hK K hHeld
      have hHeld := hHeld2
      clear hHeld2
      try simp only [Act.put, List.setIfInBounds_toArray, List.set_cons_zero, List.set_cons_succ]
      refine wpAnyH_ready (rs := [16]) (by kernel_rfl) (by simp) ?_
      refine AllReadyH.cons (o := ?o16_26) ?hi16_26 (fun K hK => ?hh16_26) AllReadyH.nil
      case hi16_26 => ((simp only [List.getElem?_toArray, List.getElem?_cons_succ, List.getElem?_cons_zero]); rfl)
      go_simp
      (go_at_call 172; refine (HMN.out _).mono ?_; rintro e w6 ⟨rfl, rfl⟩)
      (try dsimp only)
      refine hK.out _ _ (hHeld) (fun hHeld2 => ?_)
      clear hK K hHeld
      have hHeld := hHeld2
      clear hHeld2
      try simp only [Act.put, List.setIfInBounds_toArray, List.set_cons_zero, List.set_cons_succ]
      refine wpAnyH_ready (rs := [17]) (by kernel_rfl) (by simp) ?_
      refine AllReadyH.cons (o := ?o17_27) ?hi17_27 (fun K hK => ?hh17_27) AllReadyH.nil
      case hi17_27 => ((simp only [List.getElem?_toArray, List.getElem?_cons_succ, List.getElem?_cons_zero]); rfl)
      go_simp
      refine hK.out _ _ (hHeld.alloc hHeld.size _) (fun hHeld2 => ?_)
      clear hK K hHeld
      have hHeld := hHeld2
      clear hHeld2
      try simp only [Act.put, List.setIfInBounds_toArray, List.set_cons_zero, List.set_cons_succ]
      refine wpAnyH_ready (rs := [18]) (by kernel_rfl) (by simp) ?_
      refine AllReadyH.cons (o := ?o18_28) ?hi18_28 (fun K hK => ?hh18_28) AllReadyH.nil
      case hi18_28 => ((simp only [List.getElem?_toArray, List.getElem?_cons_succ, List.getElem?_cons_zero]); rfl)
      refine step_appI (by rfl) _ _ (by rfl) (q + 1) (by rfl) HR5.out.row (by rfl) (by have := HLY.out; omega) (by omega) ?_; intro A6 c6 w6 ho6 hb6 _; have HB6 := hide (show Below (q + 1) w5 w6 from ((Below.refl (q + 1) w5).alloc (by omega) _).trans hb6); have HN6 := hide (HR5.out.push ho6 HB6.out); have q3'' := (HB6.out.cell (p := ⟨q, 3, none⟩) (by simp)).trans q3'; have f3 := (HB6.out.frozen (p := ⟨q, 3, none⟩) (by simp)).trans (show w5.frozen? ⟨q, 3, none⟩ = false by simp [World.frozen?, HR5.out.st]); clear ho6 hb6
      refine hK.out _ _ (HR5.out.bel.trans (HB6.out.mono (by have := HHQ.out; omega))) (fun hHeld2 => ?_)
      clear hK K hHeld
      have hHeld := hHeld2
      clear hHeld2
      try simp only [Act.put, List.setIfInBounds_toArray, List.set_cons_zero, List.set_cons_succ]
      refine wpAnyH_take (i := 19) (oi := ?o19_29) (v := ?v19_29) ?hi19_29 ?hs19_29 ?hf19_29 ?hr19_29 (fun _ _ _ h => h) ?hy19_29 (by assumption) ?hh19_29
      case hi19_29 => ((simp only [List.getElem?_toArray, List.getElem?_cons_succ, List.getElem?_cons_zero]); rfl)
      case hs19_29 => kernel_rfl
      case hf19_29 => kernel_rfl
      case hr19_29 => kernel_rfl
      case hy19_29 => exact Or.inl ⟨by rfl, by (intro wq hSw; (try dsimp only at hSw); go_simp; (try with_reducible rfl))⟩
      try simp only [Act.put, List.setIfInBounds_toArray, List.set_cons_zero, List.set_cons_succ]
      refine wpAnyH_take (i := 20) (oi := ?o20_30) (v := ?v20_30) ?hi20_30 ?hs20_30 ?hf20_30 ?hr20_30 (fun _ _ _ h => h) ?hy20_30 (by assumption) ?hh20_30
      case hi20_30 => ((simp only [List.getElem?_toArray, List.getElem?_cons_succ, List.getElem?_cons_zero]); rfl)
      case hs20_30 => kernel_rfl
      case hf20_30 => kernel_rfl
      case hr20_30 => kernel_rfl
      case hy20_30 => exact Or.inl ⟨by rfl, by (intro wq hSw; (try dsimp only at hSw); go_simp; (try with_reducible rfl))⟩
      try simp only [Act.put, List.setIfInBounds_toArray, List.set_cons_zero, List.set_cons_succ]
      refine wpAnyH_ready (rs := [21]) (by kernel_rfl) (by simp) ?_
      refine AllReadyH.cons (o := ?o21_31) ?hi21_31 (fun K hK => ?hh21_31) AllReadyH.nil
      case hi21_31 => ((simp only [List.getElem?_toArray, List.getElem?_cons_succ, List.getElem?_cons_zero]); rfl)
      go_simp
      refine hK.out _ _ (hHeld.setCell HHQ.out _) (fun hHeld2 => ?_)
      clear hK K hHeld
      have hHeld := hHeld2
      clear hHeld2
      try simp only [Act.put, List.setIfInBounds_toArray, List.set_cons_zero, List.set_cons_succ]
      refine wpAnyH_done (by kernel_rfl) ?_ _
      refine NoPanic.normal ?_
      rotate_left
      go_simp
      (go_at_call 172; refine (HMN.out _).mono ?_; rintro e w6 ⟨rfl, rfl⟩)
      (try dsimp only)
      refine hK.out _ _ (hHeld) (fun hHeld2 => ?_)
      clear hK K hHeld
      have hHeld := hHeld2
      clear hHeld2
      try simp only [Act.put, List.setIfInBounds_toArray, List.set_cons_zero, List.set_cons_succ]
      refine wpAnyH_ready (rs := [4, 17]) (by kernel_rfl) (by simp) ?_
      refine AllReadyH.cons (o := ?o4_32) ?hi4_32 (fun K hK => ?hh4_32) (AllReadyH.cons (o := ?o17_33) ?hi17_33 (fun K hK => ?hh17_33) AllReadyH.nil)
      case hi4_32 => ((simp only [List.getElem?_toArray, List.getElem?_cons_succ, List.getElem?_cons_zero]); rfl)
      case hi17_33 => ((simp only [List.getElem?_toArray, List.getElem?_cons_succ, List.getElem?_cons_zero]); rfl)
      go_simp
      refine hK.out _ _ (hHeld) (fun hHeld2 => ?_)
      clear hK K hHeld
      have hHeld := hHeld2
      clear hHeld2
      try simp only [Act.put, List.setIfInBounds_toArray, List.set_cons_zero, List.set_cons_succ]
      refine wpAnyH_ready (rs := [17]) (by kernel_rfl) (by simp) ?_
      refine AllReadyH.cons (o := ?o17_34) ?hi17_34 (fun K hK => ?hh17_34) AllReadyH.nil
      case hi17_34 => ((simp only [List.getElem?_toArray, List.getElem?_cons_succ, List.getElem?_cons_zero]); rfl)
      go_simp
      refine hK.out _ _ (hHeld.alloc hHeld.size _) (fun hHeld2 => ?_)
      clear hK K hHeld
      have hHeld := hHeld2
      clear hHeld2
      try simp only [Act.put, List.setIfInBounds_toArray, List.set_cons_zero, List.set_cons_succ]
      refine wpAnyH_ready (rs := [18]) (by kernel_rfl) (by simp) ?_
      refine AllReadyH.cons (o := ?o18_35) ?hi18_35 (fun K hK => ?hh18_35) AllReadyH.nil
      case hi18_35 => ((simp only [List.getElem?_toArray, List.getElem?_cons_succ, List.getElem?_cons_zero]); rfl)
      refine step_appI (by rfl) _ _ (by rfl) (q + 1) (by rfl) HR5.out.row (by rfl) (by have := HLY.out; omega) (by omega) ?_; intro A6 c6 w6 ho6 hb6 _; have HB6 := hide (show Below (q + 1) w5 w6 from ((Below.refl (q + 1) w5).alloc (by omega) _).trans hb6); have HN6 := hide (HR5.out.push ho6 HB6.out); have q3'' := (HB6.out.cell (p := ⟨q, 3, none⟩) (by simp)).trans q3'; have f3 := (HB6.out.frozen (p := ⟨q, 3, none⟩) (by simp)).trans (show w5.frozen? ⟨q, 3, none⟩ = false by simp [World.frozen?, HR5.out.st]); clear ho6 hb6
      refine hK.out _ _ (HR5.out.bel.trans (HB6.out.mono (by have := HHQ.out; omega))) (fun hHeld2 => ?_)
      clear hK K hHeld
      have hHeld := hHeld2
      clear hHeld2
      try simp only [Act.put, List.setIfInBounds_toArray, List.set_cons_zero, List.set_cons_succ]
      refine wpAnyH_take (i := 19) (oi := ?o19_36) (v := ?v19_36) ?hi19_36 ?hs19_36 ?hf19_36 ?hr19_36 (fun _ _ _ h => h) ?hy19_36 (by assumption) ?hh19_36
      case hi19_36 => ((simp only [List.getElem?_toArray, List.getElem?_cons_succ, List.getElem?_cons_zero]); rfl)
      case hs19_36 => kernel_rfl
      case hf19_36 => kernel_rfl
      case hr19_36 => kernel_rfl
      case hy19_36 => exact Or.inl ⟨by rfl, by (intro wq hSw; (try dsimp only at hSw); go_simp; (try with_reducible rfl))⟩
      try simp only [Act.put, List.setIfInBounds_toArray, List.set_cons_zero, List.set_cons_succ]
      refine wpAnyH_take (i := 20) (oi := ?o20_37) (v := ?v20_37) ?hi20_37 ?hs20_37 ?hf20_37 ?hr20_37 (fun _ _ _ h => h) ?hy20_37 (by assumption) ?hh20_37
      case hi20_37 => ((simp only [List.getElem?_toArray, List.getElem?_cons_succ, List.getElem?_cons_zero]); rfl)
      case hs20_37 => kernel_rfl
      case hf20_37 => kernel_rfl
      case hr20_37 => kernel_rfl
      case hy20_37 => exact Or.inl ⟨by rfl, by (intro wq hSw; (try dsimp only at hSw); go_simp; (try with_reducible rfl))⟩
      try simp only [Act.put, List.setIfInBounds_toArray, List.set_cons_zero, List.set_cons_succ]
      refine wpAnyH_ready (rs := [21]) (by kernel_rfl) (by simp) ?_
      refine AllReadyH.cons (o := ?o21_38) ?hi21_38 (fun K hK => ?hh21_38) AllReadyH.nil
      case hi21_38 => ((simp only [List.getElem?_toArray, List.getElem?_cons_succ, List.getElem?_cons_zero]); rfl)
      go_simp
      refine hK.out _ _ (hHeld.setCell HHQ.out _) (fun hHeld2 => ?_)
      clear hK K hHeld
      have hHeld := hHeld2
      clear hHeld2
      try simp only [Act.put, List.setIfInBounds_toArray, List.set_cons_zero, List.set_cons_succ]
      refine wpAnyH_done (by kernel_rfl) ?_ _
      refine NoPanic.normal ?_
      rotate_left
      go_simp
      refine hK.out _ _ (hHeld.alloc hHeld.size _) (fun hHeld2 => ?_)
      clear hK K hHeld
      have hHeld := hHeld2
      clear hHeld2
      try simp only [Act.put, List.setIfInBounds_toArray, List.set_cons_zero, List.set_cons_succ]
      refine wpAnyH_ready (rs := [4]) (by kernel_rfl) (by simp) ?_
      refine AllReadyH.cons (o := ?o4_39) ?hi4_39 (fun K hK => ?hh4_39) AllReadyH.nil
      case hi4_39 => ((simp only [List.getElem?_toArray, List.getElem?_cons_succ, List.getElem?_cons_zero]); rfl)
      go_simp
      refine hK.out _ _ (hHeld) (fun hHeld2 => ?_)
      clear hK K hHeld
      have hHeld := hHeld2
      clear hHeld2
      try simp only [Act.put, List.setIfInBounds_toArray, List.set_cons_zero, List.set_cons_succ]
      refine wpAnyH_ready (rs := [18]) (by kernel_rfl) (by simp) ?_
      refine AllReadyH.cons (o := ?o18_40) ?hi18_40 (fun K hK => ?hh18_40) AllReadyH.nil
      case hi18_40 => ((simp only [List.getElem?_toArray, List.getElem?_cons_succ, List.getElem?_cons_zero]); rfl)
      refine step_appI (by rfl) _ _ (by rfl) (q + 1) (by rfl) HR5.out.row (by rfl) (by have := HLY.out; omega) (by omega) ?_; intro A6 c6 w6 ho6 hb6 _; have HB6 := hide (show Below (q + 1) w5 w6 from ((Below.refl (q + 1) w5).alloc (by omega) _).trans hb6); have HN6 := hide (HR5.out.push ho6 HB6.out); have q3'' := (HB6.out.cell (p := ⟨q, 3, none⟩) (by simp)).trans q3'; have f3 := (HB6.out.frozen (p := ⟨q, 3, none⟩) (by simp)).trans (show w5.frozen? ⟨q, 3, none⟩ = false by simp [World.frozen?, HR5.out.st]); clear ho6 hb6
      refine hK.out _ _ (HR5.out.bel.trans (HB6.out.mono (by have := HHQ.out; omega))) (fun hHeld2 => ?_)
      clear hK K hHeld
      have hHeld := hHeld2
      clear hHeld2
      try simp only [Act.put, List.setIfInBounds_toArray, List.set_cons_zero, List.set_cons_succ]
      refine wpAnyH_take (i := 19) (oi := ?o19_41) (v := ?v19_41) ?hi19_41 ?hs19_41 ?hf19_41 ?hr19_41 (fun _ _ _ h => h) ?hy19_41 (by assumption) ?hh19_41
      case hi19_41 => ((simp only [List.getElem?_toArray, List.getElem?_cons_succ, List.getElem?_cons_zero]); rfl)
      case hs19_41 => kernel_rfl
      case hf19_41 => kernel_rfl
      case hr19_41 => kernel_rfl
      case hy19_41 => exact Or.inl ⟨by rfl, by (intro wq hSw; (try dsimp only at hSw); go_simp; (try with_reducible rfl))⟩
      try simp only [Act.put, List.setIfInBounds_toArray, List.set_cons_zero, List.set_cons_succ]
      refine wpAnyH_take (i := 20) (oi := ?o20_42) (v := ?v20_42) ?hi20_42 ?hs20_42 ?hf20_42 ?hr20_42 (fun _ _ _ h => h) ?hy20_42 (by assumption) ?hh20_42
      case hi20_42 => ((simp only [List.getElem?_toArray, List.getElem?_cons_succ, List.getElem?_cons_zero]); rfl)
      case hs20_42 => kernel_rfl
      case hf20_42 => kernel_rfl
      case hr20_42 => kernel_rfl
      case hy20_42 => exact Or.inl ⟨by rfl, by (intro wq hSw; (try dsimp only at hSw); go_simp; (try with_reducible rfl))⟩
      try simp only [Act.put, List.setIfInBounds_toArray, List.set_cons_zero, List.set_cons_succ]
      refine wpAnyH_ready (rs := [21]) (by kernel_rfl) (by simp) ?_
      refine AllReadyH.cons (o := ?o21_43) ?hi21_43 (fun K hK => ?hh21_43) AllReadyH.nil
      case hi21_43 => ((simp only [List.getElem?_toArray, List.getElem?_cons_succ, List.getElem?_cons_zero]); rfl)
      go_simp
      refine hK.out _ _ (hHeld.setCell HHQ.out _) (fun hHeld2 => ?_)
      clear hK K hHeld
      have hHeld := hHeld2
      clear hHeld2
      try simp only [Act.put, List.setIfInBounds_toArray, List.set_cons_zero, List.set_cons_succ]
      refine wpAnyH_done (by kernel_rfl) ?_ _
      refine NoPanic.normal ?_
      rotate_left
      all_goals
        go_wp2_with fail
        go_roundw
        case rel => exact ⟨k + 1, A6, c6, ys ++ [mm], by go_num, by omega, by simp [HLY.out], HN, HN6⟩
        case measure => simp [intOf]; omega
    · have he : ys = limB zs rs most := by rw [HY.out, List.take_of_length_le (by rw [limB_length]; omega)]
      subst he
      clear HY hy
      go_wp2_with fail
      go_ret
      exact ⟨q, A2, c2, rfl, HR.out⟩
end Go.Proofs.YtnefgafmnpblpaaGreat
