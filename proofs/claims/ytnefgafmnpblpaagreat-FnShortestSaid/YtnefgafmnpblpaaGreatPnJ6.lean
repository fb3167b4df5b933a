/- Contracts: the program's GreedyPlan. -/
import Derived.Test.YtnefgafmnpblpaaGreatPnJ4
import Derived.Test.YtnefgafmnpblpaaGreatPnJa
import Derived.Deep.DeepCutAuto
namespace Go.Proofs.YtnefgafmnpblpaaGreat
open Go.RowKit Pn

theorem Full.st {x : Cx} {l : List Int} (h : Full x l) (ha : AskOK x.zs x.ws x.bs x.nm x.rs) (hg : GoalOK x.t x.tol x.most) : StOK x.zs x.rs l := ⟨h.len, Pre.small h.pre hg.most.1, turn_ok ha.r ha.z.len1 (Pre.fit h.pre)⟩
theorem Full.zero {x : Cx} (hg : 0 ≤ x.most) : Full x (pad x.zs.length []) := by
  refine ⟨⟨by rw [pad_length (by simp), x.lim_length]; exact Nat.le_refl _, fun k _ => ?_⟩, pad_length (by simp)⟩
  rw [ig_pad]
  have := (Pn.lim_bd x.zs x.rs hg k).1
  have e : ig [] k = 0 := by simp [ig]
  rw [e]
  exact ⟨Int.le_refl _, this⟩
theorem Full.inc {x : Cx} {l : List Int} (h : Full x l) {z : Nat} (hz : z < x.zs.length) (hl : ig l z < ig x.lim z) : Full x (l.set z (ig l z + 1)) := by
  have hzl : z < l.length := by rw [h.len]; exact hz
  refine ⟨⟨by rw [List.length_set]; exact h.pre.len, fun k hk => ?_⟩, by rw [List.length_set]; exact h.len⟩
  rw [List.length_set] at hk
  have a := h.pre.at_ k hk
  rw [ig_set _ _ _ _ hzl]
  split
  · rename_i e; subst e; omega
  · exact a
theorem set_back {l : List Int} {z : Nat} (hz : z < l.length) (v : Int) : (l.set z v).set z (ig l z) = l := by
  rw [List.set_set, ← ig_eq hz, List.set_getElem_self]
theorem ig_set_self {l : List Int} {z : Nat} (hz : z < l.length) (v : Int) : ig (l.set z v) z = v := by rw [ig_set _ _ _ _ hz, if_pos rfl]
/-- The best single step so far: none, or one that is closer. -/
def Best (x : Cx) (ss : List Int) (bv lv : Int) : Prop :=
  (bv = -1 ∧ lv = x.dev ss) ∨ ∃ j : Nat, bv = j ∧ j < x.zs.length ∧ ig ss j < ig x.lim j ∧ x.snd (ss.set j (ig ss j + 1)) = true ∧ lv = x.dev (ss.set j (ig ss j + 1)) ∧ lv < x.dev ss
/-- What GreedyPlan answers. -/
def GrRes (x : Cx) (w : World) (e : Ending) (w' : World) : Prop := ∃ (A : Option Addr) (c : Nat) (xs : List CutR) (code : Int), e = .returned (.tuple #[.slice A xs.length c, .int .i64 code]) ∧ (code = 0 → ∃ l, x.plan l = true ∧ CutIn x l xs) ∧ (aimB x.zs x.ws x.bs x.nm x.rs x.t x.tol x.most ≠ 0 → code ≠ 0) ∧ xs.length ≤ 1048576 ∧ OwnC w' w.heap.size (.slice A xs.length c) xs ∧ Below w.heap.size w w'
theorem gr_none {x : Cx} {w w' : World} {code : Int} (h : code ≠ 0) (hb : Below w.heap.size w w') : GrRes x w (.returned (.tuple #[.slice none 0 0, .int .i64 code])) w' :=
  ⟨none, 0, [], code, rfl, fun e => absurd e h, fun _ => h, by simp, Own.nil, hb⟩
theorem snd_call {x : Cx} {w0 w : World} {b gl lc gs sc : Nat} {sum : Int} {first : Bool} {ss : List Int} {s : S} (HX : Hid (x.OK w0)) (HS : Hid (CuI x w0 b gl lc gs sc sum first w ss s)) (HST : Hid (StOK x.zs x.rs ss)) (W : World) (hb : Below w.heap.size w W) :
    Calls Tryz.prog 48 #[.agg #[.slice x.Az x.zs.length x.cz, .slice x.Aw x.ws.length x.cw, .slice x.Ab x.bs.length x.cb], .agg #[.string x.nm, .slice x.A x.rs.length x.c], .slice (some ⟨gs, 0, none⟩) x.zs.length sc] W fun e w' => e = .returned (.tuple #[.agg #[.int .i64 (ig (x.raw ss) 0), .int .i64 (ig (x.raw ss) 1), .int .i64 (ig (x.raw ss) 2), .int .i64 (ig (x.raw ss) 3), .int .i64 (ig (x.raw ss) 4)], .bool (x.snd ss)]) ∧ Below W.heap.size W w' := by
  have hW := HX.out.below ((HS.out.below hb).bel)
  exact implsoundAfter x.Az x.Aw x.Ab x.cz x.cw x.cb x.zs x.ws x.bs x.nm x.A x.c x.rs (some ⟨gs, 0, none⟩) sc ss W hW.md hW.rg (OwnI.sl (HS.out.below hb).row HST.out.len.symm) hW.nm (hide hW.ask) HST
set_option maxRecDepth 100000 in
set_option maxHeartbeats 4000000 in
theorem implGreedyPlan_x {x : Cx} {w : World} (HI : Hid (x.In w)) :
    Calls Tryz.prog 12 #[.agg #[.slice x.Az x.zs.length x.cz, .slice x.Aw x.ws.length x.cw, .slice x.Ab x.bs.length x.cb], .agg #[.string x.nm, .slice x.A x.rs.length x.c], .agg #[.int .i64 x.t0, .int .i64 x.t1, .int .i64 x.t2, .int .i64 x.t3, .int .i64 x.t4, .int .i64 x.tol, .int .i64 x.most]] w (GrRes x w) := by
  have HB := hide (Bx.new HI.out)
  go_enter Tryz.func12, Tryz.ntmps12
  go_wp2_with fail
  generalize (((w.alloc (.cells #[.slice x.Az x.zs.length x.cz, .slice x.Aw x.ws.length x.cw, .slice x.Ab x.bs.length x.cb] 27)).alloc (.cells #[.string x.nm, .slice x.A x.rs.length x.c] 30)).alloc (.cells #[.int .i64 x.t0, .int .i64 x.t1, .int .i64 x.t2, .int .i64 x.t3, .int .i64 x.t4, .int .i64 x.tol, .int .i64 x.most] 34)) = w3 at *
  have HI3 := hide (HB.out.in_ HI.out)
  refine (implaimed x.Az x.Aw x.Ab x.cz x.cw x.cb x.zs x.ws x.bs x.nm x.A x.c x.rs x.t0 x.t1 x.t2 x.t3 x.t4 x.tol x.most w3 HI3.out.md (hide HI3.out.sz) HI3.out.rg HI3.out.rn HI3.out.nm).mono ?_
  rintro e w4 ⟨rfl, hb4⟩
  have HB4 := hide (HB.out.below hb4)
  have HI4 := hide (HB4.out.in_ HI.out)
  clear hb4 HB HI3
  obtain ⟨code, hc⟩ : ∃ code, code = aimB x.zs x.ws x.bs x.nm x.rs [x.t0, x.t1, x.t2, x.t3, x.t4] x.tol x.most := ⟨_, rfl⟩
  have HC := hide (show aimB x.zs x.ws x.bs x.nm x.rs x.t x.tol x.most = code from hc.symm)
  rw [← hc]
  clear hc
  by_cases h0 : code = 0
  · subst h0
    obtain ⟨ha, hgo⟩ := aim_ok HC.out
    have HA := hide ha
    have HGO := hide hgo
    have HX := hide (show x.OK w4 from ⟨HI4.out.md, HI4.out.rg, ha, hgo, HI4.out.nm⟩)
    have HN := hide (newCutter_is 1 HX (by omega) (by omega))
    have HTI := hide (show InF [x.t0, x.t1, x.t2, x.t3, x.t4] from SoundOK.inF hgo.t)
    have hzs8 := ha.z.len8
    have htol := hgo.tol
    have BB := hide (fun W (hb : Below w4.heap.size w4 W) => show Below w.heap.size w W from HB4.out.b.bel.trans (hb.mono HB4.out.b.bel.size))
    obtain ⟨c0, c1, c2, p0, p1, g0, g1, g2, g3, g4, g5, g6⟩ := HB4.out.cells
    have m0 := HB4.out.b.m.lt
    have m1 := HB4.out.b.p.lt
    clear ha hgo
    go_wp2_with fail
    refine HN.out.mono ?_
    rintro e w5 ⟨b, gl, lc, gs, sc, rfl, hcu, _⟩
    have HS5 := hide hcu
    have HF0 := hide (Full.zero (x := x) HGO.out.most.1)
    have HST0 := hide (HF0.out.st HA.out HGO.out)
    obtain ⟨s0, hs0⟩ : ∃ s0 : S, s0 = ⟨1, false, 0, [], -1⟩ := ⟨_, rfl⟩
    rw [← hs0] at HS5
    obtain ⟨st0, hst0⟩ : ∃ st0 : List Int, st0 = pad x.zs.length [] := ⟨_, rfl⟩
    rw [← hst0] at HS5 HF0 HST0
    clear hcu HN c0 c1 c2 p0 p1 g0 g1 g2 g3 g4 g5 g6 m0 m1 hs0 hst0
    obtain ⟨r0, hr0⟩ : ∃ r, r = ig (x.raw (st0)) 0 := ⟨_, rfl⟩
    obtain ⟨r1, hr1⟩ : ∃ r, r = ig (x.raw (st0)) 1 := ⟨_, rfl⟩
    obtain ⟨r2, hr2⟩ : ∃ r, r = ig (x.raw (st0)) 2 := ⟨_, rfl⟩
    obtain ⟨r3, hr3⟩ : ∃ r, r = ig (x.raw (st0)) 3 := ⟨_, rfl⟩
    obtain ⟨r4, hr4⟩ : ∃ r, r = ig (x.raw (st0)) 4 := ⟨_, rfl⟩
    have HRW := hide (show [r0, r1, r2, r3, r4] = x.raw (st0) from by rw [hr0, hr1, hr2, hr3, hr4]; exact five_eta (x.raw_length _))
    obtain ⟨sb, hsb⟩ : ∃ sb, sb = x.snd (st0) := ⟨_, rfl⟩
    have HSB := hide hsb
    have HCT := hide (show ∀ W, Below w5.heap.size w5 W → Calls Tryz.prog 48 #[.agg #[.slice x.Az x.zs.length x.cz, .slice x.Aw x.ws.length x.cw, .slice x.Ab x.bs.length x.cb], .agg #[.string x.nm, .slice x.A x.rs.length x.c], .slice (some ⟨gs, 0, none⟩) x.zs.length sc] W fun e w' => e = .returned (.tuple #[.agg #[.int .i64 r0, .int .i64 r1, .int .i64 r2, .int .i64 r3, .int .i64 r4], .bool sb]) ∧ Below W.heap.size W w' from fun W hb => by rw [hr0, hr1, hr2, hr3, hr4, hsb]; exact snd_call HX HS5 HST0 W hb)
    clear hr0 hr1 hr2 hr3 hr4 hsb
    have HPW := hide (fun W (hb : Below w5.heap.size w5 W) => And.intro ((HB4.out.below HS5.out.bel).below hb).cells (HS5.out.below hb).all)
    have P0 : ∀ W, Below w5.heap.size w5 W → W.cell? ⟨w.heap.size, 0, none⟩ = some (.slice x.Az x.zs.length x.cz) := fun W hb => (HPW.out W hb).1.1
    have P1 : ∀ W, Below w5.heap.size w5 W → W.cell? ⟨w.heap.size, 1, none⟩ = some (.slice x.Aw x.ws.length x.cw) := fun W hb => (HPW.out W hb).1.2.1
    have P2 : ∀ W, Below w5.heap.size w5 W → W.cell? ⟨w.heap.size, 2, none⟩ = some (.slice x.Ab x.bs.length x.cb) := fun W hb => (HPW.out W hb).1.2.2.1
    have P3 : ∀ W, Below w5.heap.size w5 W → W.cell? ⟨w.heap.size + 1, 0, none⟩ = some (.string x.nm) := fun W hb => (HPW.out W hb).1.2.2.2.1
    have P4 : ∀ W, Below w5.heap.size w5 W → W.cell? ⟨w.heap.size + 1, 1, none⟩ = some (.slice x.A x.rs.length x.c) := fun W hb => (HPW.out W hb).1.2.2.2.2.1
    have P15 : ∀ W, Below w5.heap.size w5 W → W.cell? ⟨b, 15, none⟩ = some (.slice (some ⟨gs, 0, none⟩) x.zs.length sc) := fun W hb => by obtain ⟨k0, k1, k2, k3, k4, k5, k6, k7, k8, k9, k10, k11, k12, k13, k14, k15, k16, k17, k18, kf⟩ := (HPW.out W hb).2; exact k15
    have hbl := HS5.out.lt
    go_upto_region 5 with fail
    go_cut [10, 11] (fun s1 s2 wx => ∃ q, s1 = .pointer (some ⟨q, 0, none⟩) ∧ s2 = .bool sb ∧ Hid (wx.heap[q]? = some (.cells #[.int .i64 r0, .int .i64 r1, .int .i64 r2, .int .i64 r3, .int .i64 r4] 32 (0, 0))) ∧ Hid (Below w5.heap.size w5 wx))
    case first =>
      refine wp_region_noPanic ?_
      refine wp_region_held_drew (S := (fun w' => Below w5.heap.size w5 w')) (by kernel_rfl) ((Below.refl _ _).drew) (fun hHeld => ?_)
      refine wpAnyH_take (i := 0) (oi := ?o0_1) (v := ?v0_1) ?hi0_1 ?hs0_1 ?hf0_1 ?hr0_1 (fun _ _ _ h => h) ?hy0_1 (by assumption) ?hh0_1
      case hi0_1 => ((simp only [List.getElem?_toArray, List.getElem?_cons_zero]); rfl)
      case hs0_1 => kernel_rfl
      case hf0_1 => kernel_rfl
      case hr0_1 => kernel_rfl
      case hy0_1 => exact Or.inl ⟨by rfl, by (intro wq hSw; (try dsimp only at hSw); go_simp; (try with_reducible rfl))⟩
      try simp only [Act.put, List.setIfInBounds_toArray, List.set_cons_zero, List.set_cons_succ]
      refine wpAnyH_take (i := 1) (oi := ?o1_2) (v := ?v1_2) ?hi1_2 ?hs1_2 ?hf1_2 ?hr1_2 (fun _ _ _ h => h) ?hy1_2 (by assumption) ?hh1_2
      case hi1_2 => ((simp only [List.getElem?_toArray, List.getElem?_cons_succ, List.getElem?_cons_zero]); rfl)
      case hs1_2 => kernel_rfl
      case hf1_2 => kernel_rfl
      case hr1_2 => kernel_rfl
      case hy1_2 => exact Or.inl ⟨by rfl, by (intro wq hSw; (try dsimp only at hSw); go_simp; (try with_reducible rfl))⟩
      try simp only [Act.put, List.setIfInBounds_toArray, List.set_cons_zero, List.set_cons_succ]
      refine wpAnyH_take (i := 2) (oi := ?o2_3) (v := ?v2_3) ?hi2_3 ?hs2_3 ?hf2_3 ?hr2_3 (fun _ _ _ h => h) ?hy2_3 (by assumption) ?hh2_3
      case hi2_3 => ((simp only [List.getElem?_toArray, List.getElem?_cons_succ, List.getElem?_cons_zero]); rfl)
      case hs2_3 => kernel_rfl
      case hf2_3 => kernel_rfl
      case hr2_3 => kernel_rfl
      case hy2_3 => exact Or.inl ⟨by rfl, by (intro wq hSw; (try dsimp only at hSw); go_simp; (try with_reducible rfl))⟩
      try simp only [Act.put, List.setIfInBounds_toArray, List.set_cons_zero, List.set_cons_succ]
      refine wpAnyH_take (i := 3) (oi := ?o3_4) (v := ?v3_4) ?hi3_4 ?hs3_4 ?hf3_4 ?hr3_4 (fun _ _ _ h => h) ?hy3_4 (by assumption) ?hh3_4
      case hi3_4 => ((simp only [List.getElem?_toArray, List.getElem?_cons_succ, List.getElem?_cons_zero]); rfl)
      case hs3_4 => kernel_rfl
      case hf3_4 => kernel_rfl
      case hr3_4 => kernel_rfl
      case hy3_4 => exact Or.inl ⟨by rfl, by (intro wq hSw; (try dsimp only at hSw); go_simp; (try with_reducible rfl))⟩
      try simp only [Act.put, List.setIfInBounds_toArray, List.set_cons_zero, List.set_cons_succ]
      refine wpAnyH_take (i := 4) (oi := ?o4_5) (v := ?v4_5) ?hi4_5 ?hs4_5 ?hf4_5 ?hr4_5 (fun _ _ _ h => h) ?hy4_5 (by assumption) ?hh4_5
      case hi4_5 => ((simp only [List.getElem?_toArray, List.getElem?_cons_succ, List.getElem?_cons_zero]); rfl)
      case hs4_5 => kernel_rfl
      case hf4_5 => kernel_rfl
      case hr4_5 => kernel_rfl
      case hy4_5 => exact Or.inl ⟨by rfl, by (intro wq hSw; (try dsimp only at hSw); go_simp; (try with_reducible rfl))⟩
      try simp only [Act.put, List.setIfInBounds_toArray, List.set_cons_zero, List.set_cons_succ]
      refine wpAnyH_take (i := 5) (oi := ?o5_6) (v := ?v5_6) ?hi5_6 ?hs5_6 ?hf5_6 ?hr5_6 (fun _ _ _ h => h) ?hy5_6 (by assumption) ?hh5_6
      case hi5_6 => ((simp only [List.getElem?_toArray, List.getElem?_cons_succ, List.getElem?_cons_zero]); rfl)
      case hs5_6 => kernel_rfl
      case hf5_6 => kernel_rfl
      case hr5_6 => kernel_rfl
      case hy5_6 => exact Or.inl ⟨by rfl, by (intro wq hSw; (try dsimp only at hSw); go_simp; (try with_reducible rfl))⟩
      try simp only [Act.put, List.setIfInBounds_toArray, List.set_cons_zero, List.set_cons_succ]
      refine wpAnyH_ready (rs := [6, 10]) (by kernel_rfl) (by simp) ?_
      refine AllReadyH.cons (o := ?o6_7) ?hi6_7 (fun K hK => ?hh6_7) (AllReadyH.cons (o := ?o10_8) ?hi10_8 (fun K hK => ?hh10_8) AllReadyH.nil)
      case hi6_7 => ((simp only [List.getElem?_toArray, List.getElem?_cons_succ, List.getElem?_cons_zero]); rfl)
      case hi10_8 => ((simp only [List.getElem?_toArray, List.getElem?_cons_succ, List.getElem?_cons_zero]); rfl)
      go_simp
      (go_at_call 48; refine (HCT.out _ hHeld).mono ?_; rintro e wv ⟨rfl, hbv⟩; have HBV := hide (hHeld.trans (hbv.mono hHeld.size)); (try (have hqr := zero5 hbv; have y0 : wv.cell? ⟨w5.heap.size, 0, none⟩ = some (.int .i64 0) := (by simp [World.cell?, hqr]); have y1 : wv.cell? ⟨w5.heap.size, 1, none⟩ = some (.int .i64 0) := (by simp [World.cell?, hqr]); have y2 : wv.cell? ⟨w5.heap.size, 2, none⟩ = some (.int .i64 0) := (by simp [World.cell?, hqr]); have y3 : wv.cell? ⟨w5.heap.size, 3, none⟩ = some (.int .i64 0) := (by simp [World.cell?, hqr]); have y4 : wv.cell? ⟨w5.heap.size, 4, none⟩ = some (.int .i64 0) := (by simp [World.cell?, hqr]); have z : ∀ j, wv.frozen? ⟨w5.heap.size, j, none⟩ = false := (fun j => by simp [World.frozen?, hqr]); have z0 := z 0; have z1 := z 1; have z2 := z 2; have z3 := z 3; have z4 := z 4; have HQR := hide hqr; clear hqr)))
      (try dsimp only)
      refine hK.out _ _ (HBV.out) (fun hHeld2 => ?_)
      clear hK K hHeld
      have hHeld := hHeld2
      clear hHeld2
      try simp only [Act.put, List.setIfInBounds_toArray, List.set_cons_zero, List.set_cons_succ]
      refine wpAnyH_take (i := 7) (oi := ?o7_9) (v := ?v7_9) ?hi7_9 ?hs7_9 ?hf7_9 ?hr7_9 (fun _ _ _ h => h) ?hy7_9 (by assumption) ?hh7_9
      case hi7_9 => ((simp only [List.getElem?_toArray, List.getElem?_cons_succ, List.getElem?_cons_zero]); rfl)
      case hs7_9 => kernel_rfl
      case hf7_9 => kernel_rfl
      case hr7_9 => kernel_rfl
      case hy7_9 => exact Or.inl ⟨by rfl, by (intro wq hSw; (try dsimp only at hSw); go_simp; (try with_reducible rfl))⟩
      try simp only [Act.put, List.setIfInBounds_toArray, List.set_cons_zero, List.set_cons_succ]
      refine wpAnyH_take (i := 8) (oi := ?o8_10) (v := ?v8_10) ?hi8_10 ?hs8_10 ?hf8_10 ?hr8_10 (fun _ _ _ h => h) ?hy8_10 (by assumption) ?hh8_10
      case hi8_10 => ((simp only [List.getElem?_toArray, List.getElem?_cons_succ, List.getElem?_cons_zero]); rfl)
      case hs8_10 => kernel_rfl
      case hf8_10 => kernel_rfl
      case hr8_10 => kernel_rfl
      case hy8_10 => exact Or.inl ⟨by rfl, by (intro wq hSw; (try dsimp only at hSw); go_simp; (try with_reducible rfl))⟩
      try simp only [Act.put, List.setIfInBounds_toArray, List.set_cons_zero, List.set_cons_succ]
      refine wpAnyH_take (i := 9) (oi := ?o9_11) (v := ?v9_11) ?hi9_11 ?hs9_11 ?hf9_11 ?hr9_11 (fun _ _ _ h => h) ?hy9_11 (by assumption) ?hh9_11
      case hi9_11 => ((simp only [List.getElem?_toArray, List.getElem?_cons_succ, List.getElem?_cons_zero]); rfl)
      case hs9_11 => kernel_rfl
      case hf9_11 => kernel_rfl
      case hr9_11 => kernel_rfl
      case hy9_11 => exact Or.inl ⟨by rfl, by (intro wq hSw; (try dsimp only at hSw); go_simp; (try with_reducible rfl))⟩
      try simp only [Act.put, List.setIfInBounds_toArray, List.set_cons_zero, List.set_cons_succ]
      refine wpAnyH_ready (rs := [10]) (by kernel_rfl) (by simp) ?_
      refine AllReadyH.cons (o := ?o10_12) ?hi10_12 (fun K hK => ?hh10_12) AllReadyH.nil
      case hi10_12 => ((simp only [List.getElem?_toArray, List.getElem?_cons_succ, List.getElem?_cons_zero]); rfl)
      go_simp
      refine hK.out _ _ (hHeld.alloc hHeld.size _) (fun hHeld2 => ?_)
      clear hK K hHeld
      have hHeld := hHeld2
      clear hHeld2
      try simp only [Act.put, List.setIfInBounds_toArray, List.set_cons_zero, List.set_cons_succ]
      refine wpAnyH_ready (rs := [11]) (by kernel_rfl) (by simp) ?_
      refine AllReadyH.cons (o := ?o11_13) ?hi11_13 (fun K hK => ?hh11_13) AllReadyH.nil
      case hi11_13 => ((simp only [List.getElem?_toArray, List.getElem?_cons_succ, List.getElem?_cons_zero]); rfl)
      go_simp
      refine hK.out _ _ (by first | exact HBV.out.alloc HBV.out.size _ | ((repeat (refine Below.setCell ?_ (show w5.heap.size ≤ w5.heap.size from Nat.le_refl _) _)); exact HBV.out)) (fun hHeld2 => ?_)
      clear hK K hHeld
      have hHeld := hHeld2
      clear hHeld2
      try simp only [Act.put, List.setIfInBounds_toArray, List.set_cons_zero, List.set_cons_succ]
      refine wpAnyH_take (i := 12) (oi := ?o12_14) (v := ?v12_14) ?hi12_14 ?hs12_14 ?hf12_14 ?hr12_14 (fun _ _ _ h => h) ?hy12_14 (by assumption) ?hh12_14
      case hi12_14 => ((simp only [List.getElem?_toArray, List.getElem?_cons_succ, List.getElem?_cons_zero]); rfl)
      case hs12_14 => kernel_rfl
      case hf12_14 => kernel_rfl
      case hr12_14 => kernel_rfl
      case hy12_14 => exact Or.inl ⟨by rfl, by (intro wq hSw; (try dsimp only at hSw); go_simp; (try with_reducible rfl))⟩
      try simp only [Act.put, List.setIfInBounds_toArray, List.set_cons_zero, List.set_cons_succ]
      refine wpAnyH_done (by kernel_rfl) ?_ _
      refine NoPanic.normal ?_
      rotate_left
      go_simp
      refine hK.out _ _ (hHeld.alloc hHeld.size _) (fun hHeld2 => ?_)
      clear hK K hHeld
      have hHeld := hHeld2
      clear hHeld2
      try simp only [Act.put, List.setIfInBounds_toArray, List.set_cons_zero, List.set_cons_succ]
      refine wpAnyH_ready (rs := [6]) (by kernel_rfl) (by simp) ?_
      refine AllReadyH.cons (o := ?o6_15) ?hi6_15 (fun K hK => ?hh6_15) AllReadyH.nil
      case hi6_15 => ((simp only [List.getElem?_toArray, List.getElem?_cons_succ, List.getElem?_cons_zero]); rfl)
      go_simp
      (go_at_call 48; refine (HCT.out _ hHeld).mono ?_; rintro e wv ⟨rfl, hbv⟩; have HBV := hide (hHeld.trans (hbv.mono hHeld.size)); (try (have hqr := zero5 hbv; have y0 : wv.cell? ⟨w5.heap.size, 0, none⟩ = some (.int .i64 0) := (by simp [World.cell?, hqr]); have y1 : wv.cell? ⟨w5.heap.size, 1, none⟩ = some (.int .i64 0) := (by simp [World.cell?, hqr]); have y2 : wv.cell? ⟨w5.heap.size, 2, none⟩ = some (.int .i64 0) := (by simp [World.cell?, hqr]); have y3 : wv.cell? ⟨w5.heap.size, 3, none⟩ = some (.int .i64 0) := (by simp [World.cell?, hqr]); have y4 : wv.cell? ⟨w5.heap.size, 4, none⟩ = some (.int .i64 0) := (by simp [World.cell?, hqr]); have z : ∀ j, wv.frozen? ⟨w5.heap.size, j, none⟩ = false := (fun j => by simp [World.frozen?, hqr]); have z0 := z 0; have z1 := z 1; have z2 := z 2; have z3 := z 3; have z4 := z 4; have HQR := hide hqr; clear hqr)))
      (try dsimp only)
      refine hK.out _ _ (HBV.out) (fun hHeld2 => ?_)
      clear hK K hHeld
      have hHeld := hHeld2
      clear hHeld2
      try simp only [Act.put, List.setIfInBounds_toArray, List.set_cons_zero, List.set_cons_succ]
      refine wpAnyH_take (i := 7) (oi := ?o7_16) (v := ?v7_16) ?hi7_16 ?hs7_16 ?hf7_16 ?hr7_16 (fun _ _ _ h => h) ?hy7_16 (by assumption) ?hh7_16
      case hi7_16 => ((simp only [List.getElem?_toArray, List.getElem?_cons_succ, List.getElem?_cons_zero]); rfl)
      case hs7_16 => kernel_rfl
      case hf7_16 => kernel_rfl
      case hr7_16 => kernel_rfl
      case hy7_16 => exact Or.inl ⟨by rfl, by (intro wq hSw; (try dsimp only at hSw); go_simp; (try with_reducible rfl))⟩
      try simp only [Act.put, List.setIfInBounds_toArray, List.set_cons_zero, List.set_cons_succ]
      refine wpAnyH_take (i := 8) (oi := ?o8_17) (v := ?v8_17) ?hi8_17 ?hs8_17 ?hf8_17 ?hr8_17 (fun _ _ _ h => h) ?hy8_17 (by assumption) ?hh8_17
      case hi8_17 => ((simp only [List.getElem?_toArray, List.getElem?_cons_succ, List.getElem?_cons_zero]); rfl)
      case hs8_17 => kernel_rfl
      case hf8_17 => kernel_rfl
      case hr8_17 => kernel_rfl
      case hy8_17 => exact Or.inl ⟨by rfl, by (intro wq hSw; (try dsimp only at hSw); go_simp; (try with_reducible rfl))⟩
      try simp only [Act.put, List.setIfInBounds_toArray, List.set_cons_zero, List.set_cons_succ]
      refine wpAnyH_take (i := 9) (oi := ?o9_18) (v := ?v9_18) ?hi9_18 ?hs9_18 ?hf9_18 ?hr9_18 (fun _ _ _ h => h) ?hy9_18 (by assumption) ?hh9_18
      case hi9_18 => ((simp only [List.getElem?_toArray, List.getElem?_cons_succ, List.getElem?_cons_zero]); rfl)
      case hs9_18 => kernel_rfl
      case hf9_18 => kernel_rfl
      case hr9_18 => kernel_rfl
      case hy9_18 => exact Or.inl ⟨by rfl, by (intro wq hSw; (try dsimp only at hSw); go_simp; (try with_reducible rfl))⟩
      try simp only [Act.put, List.setIfInBounds_toArray, List.set_cons_zero, List.set_cons_succ]
      refine wpAnyH_ready (rs := [11]) (by kernel_rfl) (by simp) ?_
      refine AllReadyH.cons (o := ?o11_19) ?hi11_19 (fun K hK => ?hh11_19) AllReadyH.nil
      case hi11_19 => ((simp only [List.getElem?_toArray, List.getElem?_cons_succ, List.getElem?_cons_zero]); rfl)
      go_simp
      refine hK.out _ _ (by first | exact HBV.out.alloc HBV.out.size _ | ((repeat (refine Below.setCell ?_ (show w5.heap.size ≤ w5.heap.size from Nat.le_refl _) _)); exact HBV.out)) (fun hHeld2 => ?_)
      clear hK K hHeld
      have hHeld := hHeld2
      clear hHeld2
      try simp only [Act.put, List.setIfInBounds_toArray, List.set_cons_zero, List.set_cons_succ]
      refine wpAnyH_take (i := 12) (oi := ?o12_20) (v := ?v12_20) ?hi12_20 ?hs12_20 ?hf12_20 ?hr12_20 (fun _ _ _ h => h) ?hy12_20 (by assumption) ?hh12_20
      case hi12_20 => ((simp only [List.getElem?_toArray, List.getElem?_cons_succ, List.getElem?_cons_zero]); rfl)
      case hs12_20 => kernel_rfl
      case hf12_20 => kernel_rfl
      case hr12_20 => kernel_rfl
      case hy12_20 => exact Or.inl ⟨by rfl, by (intro wq hSw; (try dsimp only at hSw); go_simp; (try with_reducible rfl))⟩
      try simp only [Act.put, List.setIfInBounds_toArray, List.set_cons_zero, List.set_cons_succ]
      refine wpAnyH_done (by kernel_rfl) ?_ _
      refine NoPanic.normal ?_
      rotate_left
      · go_wp2_with fail
        go_meet
        exact ⟨_, rfl, rfl, hide (heap_alloc_new wv _), hide hHeld⟩
      · go_wp2_with fail
        go_meet
        exact ⟨_, rfl, rfl, hide (heap_set5 _ _ _ _ _ HQR.out), hide hHeld⟩
    case rest =>
      obtain ⟨w6, rfl⟩ : ∃ w6, w6 = wc := ⟨_, rfl⟩
      obtain ⟨q, rfl, rfl, HQ, HBC⟩ := hcut
      have HS6 := hide (HS5.out.below HBC.out)
      clear P0 P1 P2 P3 P4 P15 HPW HCT hbl
      clear HST0 HS5
      cases sb
      · go_wp2_with fail
        go_ret2
        exact gr_none (by omega) (BB.out _ HS6.out.bel)
      · have HFS := hide (And.intro HF0.out HSB.out.symm)
        have HSI := hide (show InF [r0, r1, r2, r3, r4] from by rw [HRW.out]; exact SoundOK.inF (of_dc HSB.out.symm))
        have HDV := hide (show grB (devs [x.t0, x.t1, x.t2, x.t3, x.t4] [r0, r1, r2, r3, r4]) = x.dev (st0) from by rw [HRW.out]; rfl)
        obtain ⟨c0, c1, c2, p0, p1, g0, g1, g2, g3, g4, g5, g6⟩ := (HB4.out.below HS6.out.bel).cells
        have hq := HQ.out
        have a0 : w6.cell? ⟨q, 0, none⟩ = some (.int .i64 r0) := by simp [World.cell?, hq]
        have a1 : w6.cell? ⟨q, 1, none⟩ = some (.int .i64 r1) := by simp [World.cell?, hq]
        have a2 : w6.cell? ⟨q, 2, none⟩ = some (.int .i64 r2) := by simp [World.cell?, hq]
        have a3 : w6.cell? ⟨q, 3, none⟩ = some (.int .i64 r3) := by simp [World.cell?, hq]
        have a4 : w6.cell? ⟨q, 4, none⟩ = some (.int .i64 r4) := by simp [World.cell?, hq]
        clear hq c0 c1 c2 p0 p1
        go_wp2_with fail
        refine (apart_is _ _ _ _ _ _ _ _ _ _ _ HTI HSI).mono ?_
        rintro e w7 ⟨A7, c7, rfl, ho7, hb7⟩
        have HO7 := hide (OwnI.sl ho7 rfl)
        have HSa := hide (HS6.out.below hb7)
        have hqa := (hb7.block _ (heap_lt HQ.out)).trans HQ.out
        clear ho7 hb7 g0 g1 g2 g3 g4 g5 g6 a0 a1 a2 a3 a4
        have HQa := hide hqa
        clear hqa
        go_wp2_with fail
        refine (greatest_is A7 c7 _ _ HO7.out (by rw [devs_length]; omega) (by rw [devs_length]; omega) (hide (devs_bd HTI.out HSI.out))).mono ?_
        rintro e w8 ⟨rfl, hb8⟩
        have HSb := hide (HSa.out.below hb8)
        have hqb := (hb8.block _ (heap_lt HQa.out)).trans HQa.out
        have HQb := hide hqb
        rw [HDV.out]
        clear hb8 hqb HSa HQa HO7
        clear HQ HQb HDV HSI HRW HSB HS6 HBC
        obtain ⟨d0, hd0⟩ : ∃ d0, d0 = x.dev st0 := ⟨_, rfl⟩
        rw [← hd0]
        have HD0 := hide hd0
        clear hd0
        go_wp2_with fail
        go_loopw [12, 13, 14, 15, 16, 17] (fun v _ _ _ _ _ wr => ∃ (ss : List Int) (d : Int), v = .int .i64 d ∧ Hid (d = x.dev ss) ∧ Hid (CuI x w4 b gl lc gs sc (-1) false wr ss s0) ∧ Hid (Full x ss ∧ x.snd ss = true)) (fun v _ _ _ _ _ _ => (intOf v).toNat)
        case atStart => exact ⟨st0, d0, rfl, HD0, HSb, HFS⟩
        case round =>
          clear HD0 HSb HFS HF0
          obtain ⟨ss, d, rfl, HD, HS, HF⟩ := hrel
          obtain ⟨w9, rfl⟩ : ∃ w9, w9 = wr := ⟨_, rfl⟩
          have hdn : 0 ≤ d := by rw [HD.out]; unfold Cx.dev grB; exact gr_nonneg _ _
          obtain ⟨c0, c1, c2, p0, p1, g0, g1, g2, g3, g4, g5, g6⟩ := (HB4.out.below HS.out.bel).cells
          clear c0 c1 c2 p0 p1 g0 g1 g2 g3 g4 g6
          obtain ⟨k0, k1, k2, k3, k4, k5, k6, k7, k8, k9, k10, k11, k12, k13, k14, k15, k16, k17, k18, kf⟩ := HS.out.all
          clear k0 k1 k2 k3 k4 k5 k6 k7 k8 k9 k10 k11 k12 k13 k14 k16 k17 k18 kf
          have hsl : ss.length = x.zs.length := HF.out.1.len
          cases hgt : decide (x.tol < d)
          · have hpl : x.plan ss = true := by
              rw [snd_plan HF.out.2, ← HD.out]
              simp at hgt ⊢
              omega
            have HIN := hide (show CutIn x ss (cutsB ss) from ⟨HA.out, HGO.out, HF.out.1, HF.out.1.cuts HGO.out.most.1 HA.out.z.len8⟩)
            have HPL := hide hpl
            have HRO := hide HS.out.row
            have HCT := hide (show Calls Tryz.prog 51 #[.slice (some ⟨gs, 0, none⟩) x.zs.length sc] w9 (CutRes (cutsB ss) w9) from by
              have hh := implcutsOf w4.heap.size (some ⟨gs, 0, none⟩) sc ss w9 (by rw [hsl]; exact HRO.out) (by omega)
              rw [hsl] at hh
              exact hh)
            clear hpl hsl
            go_wp2_with fail
            refine HCT.out.mono ?_
            rintro e w10 ⟨A10, c10, rfl, ho10, hb10⟩
            have HBE := hide (BB.out _ HS.out.bel)
            have HO10 := hide (ho10.mono (B' := w.heap.size) HBE.out.size)
            have HB10 := hide (HBE.out.trans (hb10.mono HBE.out.size))
            have HXL := hide (show (cutsB ss).length ≤ 1048576 from by have := HIN.out.of.ok.len; omega)
            clear ho10 hb10
            go_wp2_with fail
            go_ret2
            exact ⟨A10, c10, cutsB ss, 0, rfl, fun _ => ⟨ss, HPL.out, HIN.out⟩, fun h => absurd HC.out h, HXL.out, HO10.out, HB10.out⟩
          · go_wp2_with fail
            go_loopw [56, 13, 14, 15, 16, 17] (fun v sb sl _ _ _ wr => ∃ (z : Nat) (bv lv : Int), v = .int .i64 z ∧ sb = .int .i64 bv ∧ sl = .int .i64 lv ∧ z ≤ x.zs.length ∧ Hid (Best x ss bv lv) ∧ Hid (CuI x w4 b gl lc gs sc (-1) false wr ss s0)) (fun v _ _ _ _ _ _ => x.zs.length - (intOf v).toNat)
            case atStart => exact ⟨0, -1, d, rfl, rfl, rfl, by omega, hide (.inl ⟨rfl, HD.out⟩), HS⟩
            case round =>
              clear k15 g5 HS
              obtain ⟨z, bv, lv, rfl, rfl, rfl, hz, HBS, HS⟩ := hrel
              obtain ⟨w10, rfl⟩ : ∃ w10, w10 = wr := ⟨_, rfl⟩
              obtain ⟨k0, k1, k2, k3, k4, k5, k6, k7, k8, k9, k10, k11, k12, k13, k14, k15, k16, k17, k18, kf⟩ := HS.out.all
              clear k0 k1 k2 k3 k4 k5 k6 k7 k8 k9 k10 k11 k12 k13 k16 k17 k18 kf
              have hbl := HS.out.lt
              have hgl := (HS.out.lim.lt gl rfl).2
              have hgs := (HS.out.row.lt gs rfl).2
              by_cases hlt : z < x.zs.length
              · obtain ⟨e1, e2, e3⟩ := HS.out.gets hlt hsl
                have hzi : (z : Int) < x.zs.length := by omega
                have hz0 : (0 : Int) ≤ z := by omega
                obtain ⟨v, hv⟩ : ∃ v, v = ig ss z := ⟨_, rfl⟩
                obtain ⟨m, hm⟩ : ∃ m, m = ig x.lim z := ⟨_, rfl⟩
                rw [← hv] at e2
                rw [← hm] at e1
                have hvm : 0 ≤ v ∧ v ≤ m ∧ m ≤ 20 := by
                  have q1 := HF.out.1.pre.at_ z (by rw [hsl]; exact hlt)
                  have q2 := HX.out.lim_bd z
                  omega
                by_cases hvE : v = m
                · have hve : (v == m) = true := by simpa using hvE
                  clear hvE hv hm
                  go_wp2_with fail
                  refine wp_region_kept (by kernel_rfl) (by kernel_rfl) ?_
                  intro gc gf gz
                  repeat (go_big_quiet_step (fail))
                  refine wpQuiet_nil ?_
                  intro w11 hw'
                  obtain ⟨⟨_, hb11⟩, rfl⟩ := hw'
                  clear gc gf gz
                  try dsimp only
                  have fs11 := hb11.size
                  try simp at fs11 hb11
                  have HS11 := hide (HS.out.below hb11)
                  go_wp2_with fail
                  go_roundw
                  case rel => exact ⟨z + 1, bv, lv, by go_num, rfl, rfl, by omega, HBS, HS11⟩
                  case measure => simp [intOf]; omega
                · have hve : (v == m) = false := by simpa using hvE
                  have HINC := hide (HF.out.1.inc hlt (by rw [← hv, ← hm]; omega))
                  have HLTM := hide (show ig ss z < ig x.lim z from by rw [← hv, ← hm]; omega)
                  rw [← hv] at HINC
                  obtain ⟨v1, hv1⟩ : ∃ v1, v1 = v + 1 := ⟨_, rfl⟩
                  have kw1 : IntKind.i64.wrap (v + 1) = v1 := by rw [hv1]; exact IntWalk.i64_in _ (by omega)
                  have kw2 : IntKind.i64.wrap (v1 - 1) = v := by rw [hv1]; exact (IntWalk.i64_in _ (by omega)).trans (by omega)
                  rw [← hv1] at HINC
                  have HST := hide (HINC.out.st HA.out HGO.out)
                  have HV := hide hv
                  have HV1 := hide hv1
                  have hzl : z < ss.length := by omega
                  clear hvE hv hm hv1
                  go_wp2_with fail
                  refine wp_region_kept (by kernel_rfl) (by kernel_rfl) ?_
                  intro gc gf gz
                  repeat (go_big_quiet_step (fail))
                  refine wpQuiet_nil ?_
                  intro w11 hw'
                  obtain ⟨⟨_, hb11⟩, rfl⟩ := hw'
                  clear gc gf gz
                  try dsimp only
                  have fs11 := hb11.size
                  try simp at fs11 hb11
                  have HS11 := hide (HS.out.below hb11)
                  obtain ⟨j0, j1, j2, j3, j4, j5, j6, j7, j8, j9, j10, j11, j12, j13, j14, j15, j16, j17, j18, jf⟩ := HS11.out.all
                  clear j0 j1 j2 j3 j4 j5 j6 j7 j8 j9 j10 j11 j12 j13 j14 j16 j17 j18 jf
                  obtain ⟨d1, d2, d3⟩ := HS11.out.gets hlt hsl
                  rw [← HV.out] at d2
                  have HS12 := hide (HS11.out.step z v1)
                  clear d1 hb11 k14 k15 e1 e2 e3
                  go_upto_region 16 with fail
                  generalize w11.setCell ⟨gs, z, none⟩ (.int .i64 v1) = w12 at *
                  clear j15 d2 d3
                  obtain ⟨r0, hr0⟩ : ∃ r, r = ig (x.raw (ss.set z v1)) 0 := ⟨_, rfl⟩
                  obtain ⟨r1, hr1⟩ : ∃ r, r = ig (x.raw (ss.set z v1)) 1 := ⟨_, rfl⟩
                  obtain ⟨r2, hr2⟩ : ∃ r, r = ig (x.raw (ss.set z v1)) 2 := ⟨_, rfl⟩
                  obtain ⟨r3, hr3⟩ : ∃ r, r = ig (x.raw (ss.set z v1)) 3 := ⟨_, rfl⟩
                  obtain ⟨r4, hr4⟩ : ∃ r, r = ig (x.raw (ss.set z v1)) 4 := ⟨_, rfl⟩
                  have HRW := hide (show [r0, r1, r2, r3, r4] = x.raw (ss.set z v1) from by rw [hr0, hr1, hr2, hr3, hr4]; exact five_eta (x.raw_length _))
                  obtain ⟨sb, hsb⟩ : ∃ sb, sb = x.snd (ss.set z v1) := ⟨_, rfl⟩
                  have HSB := hide hsb
                  have HCT := hide (show ∀ W, Below w12.heap.size w12 W → Calls Tryz.prog 48 #[.agg #[.slice x.Az x.zs.length x.cz, .slice x.Aw x.ws.length x.cw, .slice x.Ab x.bs.length x.cb], .agg #[.string x.nm, .slice x.A x.rs.length x.c], .slice (some ⟨gs, 0, none⟩) x.zs.length sc] W fun e w' => e = .returned (.tuple #[.agg #[.int .i64 r0, .int .i64 r1, .int .i64 r2, .int .i64 r3, .int .i64 r4], .bool sb]) ∧ Below W.heap.size W w' from fun W hb => by rw [hr0, hr1, hr2, hr3, hr4, hsb]; exact snd_call HX HS12 HST W hb)
                  clear hr0 hr1 hr2 hr3 hr4 hsb
                  have HPW := hide (fun W (hb : Below w12.heap.size w12 W) => And.intro ((HB4.out.below HS12.out.bel).below hb).cells (HS12.out.below hb).all)
                  have P0 : ∀ W, Below w12.heap.size w12 W → W.cell? ⟨w.heap.size, 0, none⟩ = some (.slice x.Az x.zs.length x.cz) := fun W hb => (HPW.out W hb).1.1
                  have P1 : ∀ W, Below w12.heap.size w12 W → W.cell? ⟨w.heap.size, 1, none⟩ = some (.slice x.Aw x.ws.length x.cw) := fun W hb => (HPW.out W hb).1.2.1
                  have P2 : ∀ W, Below w12.heap.size w12 W → W.cell? ⟨w.heap.size, 2, none⟩ = some (.slice x.Ab x.bs.length x.cb) := fun W hb => (HPW.out W hb).1.2.2.1
                  have P3 : ∀ W, Below w12.heap.size w12 W → W.cell? ⟨w.heap.size + 1, 0, none⟩ = some (.string x.nm) := fun W hb => (HPW.out W hb).1.2.2.2.1
                  have P4 : ∀ W, Below w12.heap.size w12 W → W.cell? ⟨w.heap.size + 1, 1, none⟩ = some (.slice x.A x.rs.length x.c) := fun W hb => (HPW.out W hb).1.2.2.2.2.1
                  have P15 : ∀ W, Below w12.heap.size w12 W → W.cell? ⟨b, 15, none⟩ = some (.slice (some ⟨gs, 0, none⟩) x.zs.length sc) := fun W hb => by obtain ⟨k0, k1, k2, k3, k4, k5, k6, k7, k8, k9, k10, k11, k12, k13, k14, k15, k16, k17, k18, kf⟩ := (HPW.out W hb).2; exact k15
                  have hbl := HS12.out.lt
                  go_upto_region 16 with fail
                  go_cut [16, 17] (fun s1 s2 wx => ∃ q, s1 = .pointer (some ⟨q, 0, none⟩) ∧ s2 = .bool sb ∧ Hid (wx.heap[q]? = some (.cells #[.int .i64 r0, .int .i64 r1, .int .i64 r2, .int .i64 r3, .int .i64 r4] 32 (0, 0))) ∧ Hid (Below w12.heap.size w12 wx))
                  case first =>
                    refine wp_region_noPanic ?_
                    refine wp_region_held_drew (S := (fun w' => Below w12.heap.size w12 w')) (by kernel_rfl) ((Below.refl _ _).drew) (fun hHeld => ?_)
                    refine wpAnyH_take (i := 0) (oi := ?o0_21) (v := ?v0_21) ?hi0_21 ?hs0_21 ?hf0_21 ?hr0_21 (fun _ _ _ h => h) ?hy0_21 (by assumption) ?hh0_21
                    case hi0_21 => ((simp only [List.getElem?_toArray, List.getElem?_cons_zero]); rfl)
                    case hs0_21 => kernel_rfl
                    case hf0_21 => kernel_rfl
                    case hr0_21 => kernel_rfl
                    case hy0_21 => exact Or.inl ⟨by rfl, by (intro wq hSw; (try dsimp only at hSw); go_simp; (try with_reducible rfl))⟩
                    try simp only [Act.put, List.setIfInBounds_toArray, List.set_cons_zero, List.set_cons_succ]
                    refine wpAnyH_take (i := 1) (oi := ?o1_22) (v := ?v1_22) ?hi1_22 ?hs1_22 ?hf1_22 ?hr1_22 (fun _ _ _ h => h) ?hy1_22 (by assumption) ?hh1_22
                    case hi1_22 => ((simp only [List.getElem?_toArray, List.getElem?_cons_succ, List.getElem?_cons_zero]); rfl)
                    case hs1_22 => kernel_rfl
                    case hf1_22 => kernel_rfl
                    case hr1_22 => kernel_rfl
                    case hy1_22 => exact Or.inl ⟨by rfl, by (intro wq hSw; (try dsimp only at hSw); go_simp; (try with_reducible rfl))⟩
                    try simp only [Act.put, List.setIfInBounds_toArray, List.set_cons_zero, List.set_cons_succ]
                    refine wpAnyH_take (i := 2) (oi := ?o2_23) (v := ?v2_23) ?hi2_23 ?hs2_23 ?hf2_23 ?hr2_23 (fun _ _ _ h => h) ?hy2_23 (by assumption) ?hh2_23
                    case hi2_23 => ((simp only [List.getElem?_toArray, List.getElem?_cons_succ, List.getElem?_cons_zero]); rfl)
                    case hs2_23 => kernel_rfl
                    case hf2_23 => kernel_rfl
                    case hr2_23 => kernel_rfl
                    case hy2_23 => exact Or.inl ⟨by rfl, by (intro wq hSw; (try dsimp only at hSw); go_simp; (try with_reducible rfl))⟩
                    try simp only [Act.put, List.setIfInBounds_toArray, List.set_cons_zero, List.set_cons_succ]
                    refine wpAnyH_take (i := 3) (oi := ?o3_24) (v := ?v3_24) ?hi3_24 ?hs3_24 ?hf3_24 ?hr3_24 (fun _ _ _ h => h) ?hy3_24 (by assumption) ?hh3_24
                    case hi3_24 => ((simp only [List.getElem?_toArray, List.getElem?_cons_succ, List.getElem?_cons_zero]); rfl)
                    case hs3_24 => kernel_rfl
                    case hf3_24 => kernel_rfl
                    case hr3_24 => kernel_rfl
                    case hy3_24 => exact Or.inl ⟨by rfl, by (intro wq hSw; (try dsimp only at hSw); go_simp; (try with_reducible rfl))⟩
                    try simp only [Act.put, List.setIfInBounds_toArray, List.set_cons_zero, List.set_cons_succ]
                    refine wpAnyH_take (i := 4) (oi := ?o4_25) (v := ?v4_25) ?hi4_25 ?hs4_25 ?hf4_25 ?hr4_25 (fun _ _ _ h => h) ?hy4_25 (by assumption) ?hh4_25
                    case hi4_25 => ((simp only [List.getElem?_toArray, List.getElem?_cons_succ, List.getElem?_cons_zero]); rfl)
                    case hs4_25 => kernel_rfl
                    case hf4_25 => kernel_rfl
                    case hr4_25 => kernel_rfl
                    case hy4_25 => exact Or.inl ⟨by rfl, by (intro wq hSw; (try dsimp only at hSw); go_simp; (try with_reducible rfl))⟩
                    try simp only [Act.put, List.setIfInBounds_toArray, List.set_cons_zero, List.set_cons_succ]
                    refine wpAnyH_take (i := 5) (oi := ?o5_26) (v := ?v5_26) ?hi5_26 ?hs5_26 ?hf5_26 ?hr5_26 (fun _ _ _ h => h) ?hy5_26 (by assumption) ?hh5_26
                    case hi5_26 => ((simp only [List.getElem?_toArray, List.getElem?_cons_succ, List.getElem?_cons_zero]); rfl)
                    case hs5_26 => kernel_rfl
                    case hf5_26 => kernel_rfl
                    case hr5_26 => kernel_rfl
                    case hy5_26 => exact Or.inl ⟨by rfl, by (intro wq hSw; (try dsimp only at hSw); go_simp; (try with_reducible rfl))⟩
                    try simp only [Act.put, List.setIfInBounds_toArray, List.set_cons_zero, List.set_cons_succ]
                    refine wpAnyH_ready (rs := [6, 10]) (by kernel_rfl) (by simp) ?_
                    refine AllReadyH.cons (o := ?o6_27) ?hi6_27 (fun K hK => ?hh6_27) (AllReadyH.cons (o := ?o10_28) ?hi10_28 (fun K hK => ?hh10_28) AllReadyH.nil)
                    case hi6_27 => ((simp only [List.getElem?_toArray, List.getElem?_cons_succ, List.getElem?_cons_zero]); rfl)
                    case hi10_28 => ((simp only [List.getElem?_toArray, List.getElem?_cons_succ, List.getElem?_cons_zero]); rfl)
                    go_simp
                    (go_at_call 48; refine (HCT.out _ hHeld).mono ?_; rintro e wv ⟨rfl, hbv⟩; have HBV := hide (hHeld.trans (hbv.mono hHeld.size)); (try (have hqr := zero5 hbv; have y0 : wv.cell? ⟨w12.heap.size, 0, none⟩ = some (.int .i64 0) := (by simp [World.cell?, hqr]); have y1 : wv.cell? ⟨w12.heap.size, 1, none⟩ = some (.int .i64 0) := (by simp [World.cell?, hqr]); have y2 : wv.cell? ⟨w12.heap.size, 2, none⟩ = some (.int .i64 0) := (by simp [World.cell?, hqr]); have y3 : wv.cell? ⟨w12.heap.size, 3, none⟩ = some (.int .i64 0) := (by simp [World.cell?, hqr]); have y4 : wv.cell? ⟨w12.heap.size, 4, none⟩ = some (.int .i64 0) := (by simp [World.cell?, hqr]); have z : ∀ j, wv.frozen? ⟨w12.heap.size, j, none⟩ = false := (fun j => by simp [World.frozen?, hqr]); have z0 := z 0; have z1 := z 1; have z2 := z 2; have z3 := z 3; have z4 := z 4; have HQR := hide hqr; clear hqr)))
                    (try dsimp only)
                    refine hK.out _ _ (HBV.out) (fun hHeld2 => ?_)
                    clear hK K hHeld
                    have hHeld := hHeld2
                    clear hHeld2
                    try simp only [Act.put, List.setIfInBounds_toArray, List.set_cons_zero, List.set_cons_succ]
                    refine wpAnyH_take (i := 7) (oi := ?o7_29) (v := ?v7_29) ?hi7_29 ?hs7_29 ?hf7_29 ?hr7_29 (fun _ _ _ h => h) ?hy7_29 (by assumption) ?hh7_29
                    case hi7_29 => ((simp only [List.getElem?_toArray, List.getElem?_cons_succ, List.getElem?_cons_zero]); rfl)
                    case hs7_29 => kernel_rfl
                    case hf7_29 => kernel_rfl
                    case hr7_29 => kernel_rfl
                    case hy7_29 => exact Or.inl ⟨by rfl, by (intro wq hSw; (try dsimp only at hSw); go_simp; (try with_reducible rfl))⟩
                    try simp only [Act.put, List.setIfInBounds_toArray, List.set_cons_zero, List.set_cons_succ]
                    refine wpAnyH_take (i := 8) (oi := ?o8_30) (v := ?v8_30) ?hi8_30 ?hs8_30 ?hf8_30 ?hr8_30 (fun _ _ _ h => h) ?hy8_30 (by assumption) ?hh8_30
                    case hi8_30 => ((simp only [List.getElem?_toArray, List.getElem?_cons_succ, List.getElem?_cons_zero]); rfl)
                    case hs8_30 => kernel_rfl
                    case hf8_30 => kernel_rfl
                    case hr8_30 => kernel_rfl
                    case hy8_30 => exact Or.inl ⟨by rfl, by (intro wq hSw; (try dsimp only at hSw); go_simp; (try with_reducible rfl))⟩
                    try simp only [Act.put, List.setIfInBounds_toArray, List.set_cons_zero, List.set_cons_succ]
                    refine wpAnyH_take (i := 9) (oi := ?o9_31) (v := ?v9_31) ?hi9_31 ?hs9_31 ?hf9_31 ?hr9_31 (fun _ _ _ h => h) ?hy9_31 (by assumption) ?hh9_31
                    case hi9_31 => ((simp only [List.getElem?_toArray, List.getElem?_cons_succ, List.getElem?_cons_zero]); rfl)
                    case hs9_31 => kernel_rfl
                    case hf9_31 => kernel_rfl
                    case hr9_31 => kernel_rfl
                    case hy9_31 => exact Or.inl ⟨by rfl, by (intro wq hSw; (try dsimp only at hSw); go_simp; (try with_reducible rfl))⟩
                    try simp only [Act.put, List.setIfInBounds_toArray, List.set_cons_zero, List.set_cons_succ]
                    refine wpAnyH_ready (rs := [10]) (by kernel_rfl) (by simp) ?_
                    refine AllReadyH.cons (o := ?o10_32) ?hi10_32 (fun K hK => ?hh10_32) AllReadyH.nil
                    case hi10_32 => ((simp only [List.getElem?_toArray, List.getElem?_cons_succ, List.getElem?_cons_zero]); rfl)
                    go_simp
                    refine hK.out _ _ (hHeld.alloc hHeld.size _) (fun hHeld2 => ?_)
                    clear hK K hHeld
                    have hHeld := hHeld2
                    clear hHeld2
                    try simp only [Act.put, List.setIfInBounds_toArray, List.set_cons_zero, List.set_cons_succ]
                    refine wpAnyH_ready (rs := [11]) (by kernel_rfl) (by simp) ?_
                    refine AllReadyH.cons (o := ?o11_33) ?hi11_33 (fun K hK => ?hh11_33) AllReadyH.nil
                    case hi11_33 => ((simp only [List.getElem?_toArray, List.getElem?_cons_succ, List.getElem?_cons_zero]); rfl)
                    go_simp
                    refine hK.out _ _ (by first | exact HBV.out.alloc HBV.out.size _ | ((repeat (refine Below.setCell ?_ (show w12.heap.size ≤ w12.heap.size from Nat.le_refl _) _)); exact HBV.out)) (fun hHeld2 => ?_)
                    clear hK K hHeld
                    have hHeld := hHeld2
                    clear hHeld2
                    try simp only [Act.put, List.setIfInBounds_toArray, List.set_cons_zero, List.set_cons_succ]
                    refine wpAnyH_take (i := 12) (oi := ?o12_34) (v := ?v12_34) ?hi12_34 ?hs12_34 ?hf12_34 ?hr12_34 (fun _ _ _ h => h) ?hy12_34 (by assumption) ?hh12_34
                    case hi12_34 => ((simp only [List.getElem?_toArray, List.getElem?_cons_succ, List.getElem?_cons_zero]); rfl)
                    case hs12_34 => kernel_rfl
                    case hf12_34 => kernel_rfl
                    case hr12_34 => kernel_rfl
                    case hy12_34 => exact Or.inl ⟨by rfl, by (intro wq hSw; (try dsimp only at hSw); go_simp; (try with_reducible rfl))⟩
                    try simp only [Act.put, List.setIfInBounds_toArray, List.set_cons_zero, List.set_cons_succ]
                    refine wpAnyH_done (by kernel_rfl) ?_ _
                    refine NoPanic.normal ?_
                    rotate_left
                    go_simp
                    refine hK.out _ _ (hHeld.alloc hHeld.size _) (fun hHeld2 => ?_)
                    clear hK K hHeld
                    have hHeld := hHeld2
                    clear hHeld2
                    try simp only [Act.put, List.setIfInBounds_toArray, List.set_cons_zero, List.set_cons_succ]
                    refine wpAnyH_ready (rs := [6]) (by kernel_rfl) (by simp) ?_
                    refine AllReadyH.cons (o := ?o6_35) ?hi6_35 (fun K hK => ?hh6_35) AllReadyH.nil
                    case hi6_35 => ((simp only [List.getElem?_toArray, List.getElem?_cons_succ, List.getElem?_cons_zero]); rfl)
                    go_simp
                    (go_at_call 48; refine (HCT.out _ hHeld).mono ?_; rintro e wv ⟨rfl, hbv⟩; have HBV := hide (hHeld.trans (hbv.mono hHeld.size)); (try (have hqr := zero5 hbv; have y0 : wv.cell? ⟨w12.heap.size, 0, none⟩ = some (.int .i64 0) := (by simp [World.cell?, hqr]); have y1 : wv.cell? ⟨w12.heap.size, 1, none⟩ = some (.int .i64 0) := (by simp [World.cell?, hqr]); have y2 : wv.cell? ⟨w12.heap.size, 2, none⟩ = some (.int .i64 0) := (by simp [World.cell?, hqr]); have y3 : wv.cell? ⟨w12.heap.size, 3, none⟩ = some (.int .i64 0) := (by simp [World.cell?, hqr]); have y4 : wv.cell? ⟨w12.heap.size, 4, none⟩ = some (.int .i64 0) := (by simp [World.cell?, hqr]); have z : ∀ j, wv.frozen? ⟨w12.heap.size, j, none⟩ = false := (fun j => by simp [World.frozen?, hqr]); have z0 := z 0; have z1 := z 1; have z2 := z 2; have z3 := z 3; have z4 := z 4; have HQR := hide hqr; clear hqr)))
                    (try dsimp only)
                    refine hK.out _ _ (HBV.out) (fun hHeld2 => ?_)
                    clear hK K hHeld
                    have hHeld := hHeld2
                    clear hHeld2
                    try simp only [Act.put, List.setIfInBounds_toArray, List.set_cons_zero, List.set_cons_succ]
                    refine wpAnyH_take (i := 7) (oi := ?o7_36) (v := ?v7_36) ?hi7_36 ?hs7_36 ?hf7_36 ?hr7_36 (fun _ _ _ h => h) ?hy7_36 (by assumption) ?hh7_36
                    case hi7_36 => ((simp only [List.getElem?_toArray, List.getElem?_cons_succ, List.getElem?_cons_zero]); rfl)
                    case hs7_36 => kernel_rfl
                    case hf7_36 => kernel_rfl
                    case hr7_36 => kernel_rfl
                    case hy7_36 => exact Or.inl ⟨by rfl, by (intro wq hSw; (try dsimp only at hSw); go_simp; (try with_reducible rfl))⟩
                    try simp only [Act.put, List.setIfInBounds_toArray, List.set_cons_zero, List.set_cons_succ]
                    refine wpAnyH_take (i := 8) (oi := ?o8_37) (v := ?v8_37) ?hi8_37 ?hs8_37 ?hf8_37 ?hr8_37 (fun _ _ _ h => h) ?hy8_37 (by assumption) ?hh8_37
                    case hi8_37 => ((simp only [List.getElem?_toArray, List.getElem?_cons_succ, List.getElem?_cons_zero]); rfl)
                    case hs8_37 => kernel_rfl
                    case hf8_37 => kernel_rfl
                    case hr8_37 => kernel_rfl
                    case hy8_37 => exact Or.inl ⟨by rfl, by (intro wq hSw; (try dsimp only at hSw); go_simp; (try with_reducible rfl))⟩
                    try simp only [Act.put, List.setIfInBounds_toArray, List.set_cons_zero, List.set_cons_succ]
                    refine wpAnyH_take (i := 9) (oi := ?o9_38) (v := ?v9_38) ?hi9_38 ?hs9_38 ?hf9_38 ?hr9_38 (fun _ _ _ h => h) ?hy9_38 (by assumption) ?hh9_38
                    case hi9_38 => ((simp only [List.getElem?_toArray, List.getElem?_cons_succ, List.getElem?_cons_zero]); rfl)
                    case hs9_38 => kernel_rfl
                    case hf9_38 => kernel_rfl
                    case hr9_38 => kernel_rfl
                    case hy9_38 => exact Or.inl ⟨by rfl, by (intro wq hSw; (try dsimp only at hSw); go_simp; (try with_reducible rfl))⟩
                    try simp only [Act.put, List.setIfInBounds_toArray, List.set_cons_zero, List.set_cons_succ]
                    refine wpAnyH_ready (rs := [11]) (by kernel_rfl) (by simp) ?_
                    refine AllReadyH.cons (o := ?o11_39) ?hi11_39 (fun K hK => ?hh11_39) AllReadyH.nil
                    case hi11_39 => ((simp only [List.getElem?_toArray, List.getElem?_cons_succ, List.getElem?_cons_zero]); rfl)
                    go_simp
                    refine hK.out _ _ (by first | exact HBV.out.alloc HBV.out.size _ | ((repeat (refine Below.setCell ?_ (show w12.heap.size ≤ w12.heap.size from Nat.le_refl _) _)); exact HBV.out)) (fun hHeld2 => ?_)
                    clear hK K hHeld
                    have hHeld := hHeld2
                    clear hHeld2
                    try simp only [Act.put, List.setIfInBounds_toArray, List.set_cons_zero, List.set_cons_succ]
                    refine wpAnyH_take (i := 12) (oi := ?o12_40) (v := ?v12_40) ?hi12_40 ?hs12_40 ?hf12_40 ?hr12_40 (fun _ _ _ h => h) ?hy12_40 (by assumption) ?hh12_40
                    case hi12_40 => ((simp only [List.getElem?_toArray, List.getElem?_cons_succ, List.getElem?_cons_zero]); rfl)
                    case hs12_40 => kernel_rfl
                    case hf12_40 => kernel_rfl
                    case hr12_40 => kernel_rfl
                    case hy12_40 => exact Or.inl ⟨by rfl, by (intro wq hSw; (try dsimp only at hSw); go_simp; (try with_reducible rfl))⟩
                    try simp only [Act.put, List.setIfInBounds_toArray, List.set_cons_zero, List.set_cons_succ]
                    refine wpAnyH_done (by kernel_rfl) ?_ _
                    refine NoPanic.normal ?_
                    rotate_left
                    · go_wp2_with fail
                      go_meet
                      exact ⟨_, rfl, rfl, hide (heap_alloc_new wv _), hide hHeld⟩
                    · go_wp2_with fail
                      go_meet
                      exact ⟨_, rfl, rfl, hide (heap_set5 _ _ _ _ _ HQR.out), hide hHeld⟩
                  case rest =>
                    obtain ⟨w13, rfl⟩ : ∃ w13, w13 = wc := ⟨_, rfl⟩
                    obtain ⟨q, rfl, rfl, HQ, HBC⟩ := hcut
                    have HS13 := hide (HS12.out.below HBC.out)
                    clear P0 P1 P2 P3 P4 P15 HPW HCT hbl
                    clear HST HS12
                    have HE := hide (show (ss.set z v1).set z v = ss from by rw [HV.out]; exact set_back hzl v1)
                    cases sb
                    · clear HRW HQ
                      obtain ⟨j0, j1, j2, j3, j4, j5, j6, j7, j8, j9, j10, j11, j12, j13, j14, j15, j16, j17, j18, jf⟩ := HS13.out.all
                      clear j0 j1 j2 j3 j4 j5 j6 j7 j8 j9 j10 j11 j12 j13 j14 j16 j17 j18 jf
                      obtain ⟨d1, d2, d3⟩ := HS13.out.gets hlt (by rw [List.length_set]; exact hsl)
                      rw [ig_set_self hzl] at d2
                      have HSf := hide (show CuI x w4 b gl lc gs sc (-1) false (w13.setCell ⟨gs, z, none⟩ (.int .i64 v)) ss s0 from by have h := HS13.out.step z v; rw [HE.out] at h; exact h)
                      clear d1
                      go_wp2_with fail
                      go_roundw
                      case rel => exact ⟨z + 1, bv, lv, by go_num, rfl, rfl, by omega, HBS, HSf⟩
                      case measure => simp [intOf]; omega
                    · have HSND := hide HSB.out.symm
                      have HSI := hide (show InF [r0, r1, r2, r3, r4] from by rw [HRW.out]; exact SoundOK.inF (of_dc HSB.out.symm))
                      have HDV := hide (show grB (devs [x.t0, x.t1, x.t2, x.t3, x.t4] [r0, r1, r2, r3, r4]) = x.dev (ss.set z v1) from by rw [HRW.out]; rfl)
                      obtain ⟨c0, c1, c2, p0, p1, g0, g1, g2, g3, g4, g5, g6⟩ := (HB4.out.below HS13.out.bel).cells
                      have hq := HQ.out
                      have a0 : w13.cell? ⟨q, 0, none⟩ = some (.int .i64 r0) := by simp [World.cell?, hq]
                      have a1 : w13.cell? ⟨q, 1, none⟩ = some (.int .i64 r1) := by simp [World.cell?, hq]
                      have a2 : w13.cell? ⟨q, 2, none⟩ = some (.int .i64 r2) := by simp [World.cell?, hq]
                      have a3 : w13.cell? ⟨q, 3, none⟩ = some (.int .i64 r3) := by simp [World.cell?, hq]
                      have a4 : w13.cell? ⟨q, 4, none⟩ = some (.int .i64 r4) := by simp [World.cell?, hq]
                      clear hq c0 c1 c2 p0 p1
                      go_wp2_with fail
                      refine (apart_is _ _ _ _ _ _ _ _ _ _ _ HTI HSI).mono ?_
                      rintro e w14 ⟨A7, c7, rfl, ho7, hb7⟩
                      have HO7 := hide (OwnI.sl ho7 rfl)
                      have HSa := hide (HS13.out.below hb7)
                      have hqa := (hb7.block _ (heap_lt HQ.out)).trans HQ.out
                      clear ho7 hb7 g0 g1 g2 g3 g4 g5 g6 a0 a1 a2 a3 a4
                      have HQa := hide hqa
                      clear hqa
                      go_wp2_with fail
                      refine (greatest_is A7 c7 _ _ HO7.out (by rw [devs_length]; omega) (by rw [devs_length]; omega) (hide (devs_bd HTI.out HSI.out))).mono ?_
                      rintro e w15 ⟨rfl, hb8⟩
                      have HSb := hide (HSa.out.below hb8)
                      have hqb := (hb8.block _ (heap_lt HQa.out)).trans HQa.out
                      have HQb := hide hqb
                      rw [HDV.out]
                      clear hb8 hqb HSa HQa HO7
                      obtain ⟨dv, hdv⟩ : ∃ dv, dv = x.dev (ss.set z v1) := ⟨_, rfl⟩
                      rw [← hdv] at HDV ⊢
                      have HDD := hide hdv
                      clear hdv HQ
                      cases hlv : decide (dv < lv)
                      · clear HRW HQb HDV HSI
                        obtain ⟨j0, j1, j2, j3, j4, j5, j6, j7, j8, j9, j10, j11, j12, j13, j14, j15, j16, j17, j18, jf⟩ := HSb.out.all
                        clear j0 j1 j2 j3 j4 j5 j6 j7 j8 j9 j10 j11 j12 j13 j14 j16 j17 j18 jf
                        obtain ⟨d1, d2, d3⟩ := HSb.out.gets hlt (by rw [List.length_set]; exact hsl)
                        rw [ig_set_self hzl] at d2
                        have HSf := hide (show CuI x w4 b gl lc gs sc (-1) false (w15.setCell ⟨gs, z, none⟩ (.int .i64 v)) ss s0 from by have h := HSb.out.step z v; rw [HE.out] at h; exact h)
                        clear d1
                        go_wp2_with fail
                        go_roundw
                        case rel => exact ⟨z + 1, bv, lv, by go_num, rfl, rfl, by omega, HBS, HSf⟩
                        case measure => simp [intOf]; omega
                      · have HBN := hide (show Best x ss (z : Int) dv from by
                          refine .inr ⟨z, rfl, hlt, HLTM.out, ?_, ?_, ?_⟩
                          · rw [← HV.out, ← HV1.out]; exact HSND.out
                          · rw [← HV.out, ← HV1.out]; exact HDD.out
                          · have hl : dv < lv := by simpa using hlv
                            rcases HBS.out with ⟨_, h⟩ | ⟨_, _, _, _, _, _, h⟩ <;> omega)
                        have HQ := HQb
                        have HS15 := HSb
                        clear HQb HSb
                        obtain ⟨c0, c1, c2, p0, p1, g0, g1, g2, g3, g4, g5, g6⟩ := (HB4.out.below HS15.out.bel).cells
                        have hq := HQ.out
                        have a0 : w15.cell? ⟨q, 0, none⟩ = some (.int .i64 r0) := by simp [World.cell?, hq]
                        have a1 : w15.cell? ⟨q, 1, none⟩ = some (.int .i64 r1) := by simp [World.cell?, hq]
                        have a2 : w15.cell? ⟨q, 2, none⟩ = some (.int .i64 r2) := by simp [World.cell?, hq]
                        have a3 : w15.cell? ⟨q, 3, none⟩ = some (.int .i64 r3) := by simp [World.cell?, hq]
                        have a4 : w15.cell? ⟨q, 4, none⟩ = some (.int .i64 r4) := by simp [World.cell?, hq]
                        clear hq c0 c1 c2 p0 p1
                        go_wp2_with fail
                        refine (apart_is _ _ _ _ _ _ _ _ _ _ _ HTI HSI).mono ?_
                        rintro e w16 ⟨A7, c7, rfl, ho7, hb7⟩
                        have HO7 := hide (OwnI.sl ho7 rfl)
                        have HSa := hide (HS15.out.below hb7)
                        have hqa := (hb7.block _ (heap_lt HQ.out)).trans HQ.out
                        clear ho7 hb7 g0 g1 g2 g3 g4 g5 g6 a0 a1 a2 a3 a4
                        have HQa := hide hqa
                        clear hqa
                        go_wp2_with fail
                        refine (greatest_is A7 c7 _ _ HO7.out (by rw [devs_length]; omega) (by rw [devs_length]; omega) (hide (devs_bd HTI.out HSI.out))).mono ?_
                        rintro e w17 ⟨rfl, hb8⟩
                        have HSb := hide (HSa.out.below hb8)
                        have hqb := (hb8.block _ (heap_lt HQa.out)).trans HQa.out
                        have HQb := hide hqb
                        rw [HDV.out]
                        clear hb8 hqb HSa HQa HO7
                        clear HRW HQb HDV HSI HQ
                        obtain ⟨j0, j1, j2, j3, j4, j5, j6, j7, j8, j9, j10, j11, j12, j13, j14, j15, j16, j17, j18, jf⟩ := HSb.out.all
                        clear j0 j1 j2 j3 j4 j5 j6 j7 j8 j9 j10 j11 j12 j13 j14 j16 j17 j18 jf
                        obtain ⟨d1, d2, d3⟩ := HSb.out.gets hlt (by rw [List.length_set]; exact hsl)
                        rw [ig_set_self hzl] at d2
                        have HSf := hide (show CuI x w4 b gl lc gs sc (-1) false (w17.setCell ⟨gs, z, none⟩ (.int .i64 v)) ss s0 from by have h := HSb.out.step z v; rw [HE.out] at h; exact h)
                        clear d1
                        go_wp2_with fail
                        go_roundw
                        case rel => exact ⟨z + 1, (z : Int), dv, by go_num, rfl, rfl, by omega, HBN, HSf⟩
                        case measure => simp [intOf]; omega
              · obtain rfl : z = x.zs.length := by omega
                clear k14
                rcases HBS.out with ⟨hb1, hl1⟩ | ⟨j, hb1, hj, hjl, hsn, hlv, hld⟩
                · subst hb1
                  clear HBS
                  go_wp2_with fail
                  go_ret2
                  exact gr_none (by omega) (BB.out _ HS.out.bel)
                · subst hb1
                  obtain ⟨e1, e2, e3⟩ := HS.out.gets hj hsl
                  have HFN := hide (And.intro (HF.out.1.inc hj hjl) hsn)
                  have HSN := hide (HS.out.step j (ig ss j + 1))
                  have HLV := hide hlv
                  have hdl : lv < d := by rw [HD.out]; exact hld
                  have hln : 0 ≤ lv := by rw [hlv]; unfold Cx.dev grB; exact gr_nonneg _ _
                  have hvb : 0 ≤ ig ss j ∧ ig ss j ≤ 20 := HF.out.1.bd HGO.out.most.1 j
                  clear HBS hsn hlv hld hjl e1
                  generalize ig ss j = v at *
                  have kw1 : IntKind.i64.wrap (v + 1) = v + 1 := IntWalk.i64_in _ (by omega)
                  have hji : (j : Int) < x.zs.length := by omega
                  have hj0 : (0 : Int) ≤ j := by omega
                  go_wp2_with fail
                  go_roundw
                  case rel => exact ⟨ss.set j (v + 1), lv, rfl, HLV, HSN, HFN⟩
                  case measure => simp [intOf]; omega
  · have h1 : (code == 0) = false := by simpa using h0
    have hne := hide h0
    have HBL := hide HB4.out.b.bel
    clear h0
    go_wp2_with fail
    go_ret2
    exact gr_none hne.out HBL.out
end Go.Proofs.YtnefgafmnpblpaaGreat
