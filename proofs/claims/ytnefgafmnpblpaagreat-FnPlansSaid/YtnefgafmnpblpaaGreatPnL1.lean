/- The walk of laws.FnPlans out of contracts. -/
import Derived.Test.YtnefgafmnpblpaaGreatPnE9
import Derived.Test.YtnefgafmnpblpaaGreatPnF6
import Derived.Test.YtnefgafmnpblpaaGreatPnJa
namespace Go.Proofs.YtnefgafmnpblpaaGreat
open Go.RowKit Pn

theorem b10Long_is (A : Option Addr) (n c : Nat) (w : World) : Calls Tryz.prog 8 #[.slice A n c] w fun e w' => e = .returned (.bool (decide ((1048576 : Int) < n))) ∧ w = w' := by
  by_cases h : (1048576 : Int) < n
  all_goals
    go_enter Tryz.func8, Tryz.ntmps8
    go_wp2
    go_ret
    exact ⟨by simp [*], rfl⟩
theorem b10Abs_is (x : Int) (w : World) (h0 : -9000000000 ≤ x) (h1 : x ≤ 9000000000) : Calls Tryz.prog 22 #[.int .i64 x] w fun e w' => e = .returned (.int .i64 (absI x)) ∧ w = w' := by
  by_cases h : x < 0
  · have E := hide (show absI x = -x from by unfold absI; rw [if_neg (by omega)])
    go_enter Tryz.func22, Tryz.ntmps22
    go_wp2
    go_ret
    exact ⟨ret_int E.out.symm, rfl⟩
  · have E := hide (show absI x = x from by unfold absI; rw [if_pos (by omega)])
    go_enter Tryz.func22, Tryz.ntmps22
    go_wp2
    go_ret
    exact ⟨ret_int E.out.symm, rfl⟩
theorem firstP_bare (x : Cx) (bud : Int) : firstP x.bare bud = firstP x bud := rfl
theorem cntP_bare (x : Cx) (bud : Int) : cntP x.bare bud = cntP x bud := rfl
theorem ser_vals {x : Cx} {bud : Int} (h : x.ser bud ≠ 0) : x.ser bud = 1 ∨ x.ser bud = 2 := by
  unfold Cx.ser serB at h ⊢
  by_cases ha : aimB x.zs x.ws x.bs x.nm x.rs x.t x.tol x.most = 0
  · rw [if_pos ha] at h ⊢
    split at h
    · exact absurd rfl h
    · rename_i hb; rw [if_neg hb]; exact .inr rfl
  · rw [if_neg ha] at h ⊢
    unfold aimB at h ⊢
    split at h
    · rename_i hg
      rw [if_pos hg]
      rcases ask_vals (zs := x.zs) (ws := x.ws) (bs := x.bs) (nm := x.nm) (rs := x.rs) with e | e | e
      · exact absurd e h
      · exact .inl e
      · exact .inr e
    · rename_i hg; rw [if_neg hg]; exact .inl rfl
/-- What the law asks, at valid arguments. -/
def PlansSay (x : Cx) (xs : List CutR) (code mn tw k why : Int) : Prop :=
  0 ≤ k ∧ (k = 0 ↔ why = 0) ∧ (tw = 0 → (code = 0 ↔ 0 < mn)) ∧ ((code ≠ 0 ∧ code ≠ 1 ∧ code ≠ 2 ∧ xs = []) ∨ (code = 0 ∧ k = 0 ∧ ∃ l, x.plan l = true ∧ CutIn x l xs))
theorem plans_say {x : Cx} {bud : Int} {xs : List CutR} {code mn tw : Int} (h0 : x.ser bud = 0) (h1 : firstP x bud = (xs, code)) (h2 : cntP x bud = (mn, tw)) : PlansSay x xs code mn tw (blkF x.t x.tol (x.raw []) (x.raw x.lim) 5 0).1 (blkF x.t x.tol (x.raw []) (x.raw x.lim) 5 0).2 := by
  obtain ⟨ha, hg⟩ := aim_ok (ser_aim h0)
  have hb := blkF_some x.t x.tol (x.raw []) (x.raw x.lim) 5 0
  have hc := count_says (x := x) (bud := bud) h0
  have hf := firstP_says (x := x) (bud := bud) h0
  rw [h1, h2] at hc
  rw [h1] at hf
  refine ⟨hb.1, hb.2, hc, ?_⟩
  rcases hf with ⟨e, e2⟩ | ⟨e, l, hl, hp, e2⟩
  · refine .inl ?_
    simp only at e e2
    rcases e2 with e2 | ⟨e2, _⟩ <;> exact ⟨by omega, by omega, by omega, e⟩
  · refine .inr ⟨e, by rw [blkP_plan ha hg.most.1 hl.pre hp], l, hp, ?_⟩
    simp only at e2
    subst e2
    exact ⟨ha, hg, hl, hl.cuts hg.most.1 ha.z.len8⟩
set_option maxRecDepth 100000 in
set_option maxHeartbeats 4000000 in
theorem lawFnPlans (A : Option Addr) (n c : Nat) (w : World) (h : ByAt w w.heap.size A n) (hn : n ≤ 9223372036854775807) :
    Calls Tryz.prog 4 #[.slice A n c] w fun e w' => e = .returned (.bool true) ∧ Below w.heap.size w w' := by
  have HX := hide h
  clear h
  go_enter Tryz.func4, Tryz.ntmps4
  go_wp2_with fail
  refine (b10Long_is A n c w).mono ?_
  rintro e w0 ⟨rfl, rfl⟩
  cases hq : decide ((1048576 : Int) < n)
  · clear hq
    go_wp2_with fail
    refine (specDrawFirstPlan_is A n c w HX.out hn).mono ?_
    rintro e w1 ⟨x, bud, rfl, hI, hcap, hb1⟩
    have HI := hide hI
    have HCAP := hide hcap
    have B1 := hide hb1
    have HB := hide (Bx.new hI)
    clear hI hcap hb1 HX
    go_upto_region 4 with fail
    generalize (((w1.alloc (.cells #[.slice x.Az x.zs.length x.cz, .slice x.Aw x.ws.length x.cw, .slice x.Ab x.bs.length x.cb] 27)).alloc (.cells #[.string x.nm, .slice x.A x.rs.length x.c] 30)).alloc (.cells #[.int .i64 x.t0, .int .i64 x.t1, .int .i64 x.t2, .int .i64 x.t3, .int .i64 x.t4, .int .i64 x.tol, .int .i64 x.most] 34)) = w2 at *
    have BB := hide (fun W (hb : Bx x w1 W) => show Below w.heap.size w W from B1.out.trans (hb.b.bel.mono B1.out.size))
    clear B1
    obtain ⟨c0, c1, c2, p0, p1, g0, g1, g2, g3, g4, g5, g6⟩ := HB.out.cells
    have m0 := HB.out.b.m.lt
    have m1 := HB.out.b.p.lt
    have HI2 := hide (HB.out.in_ HI.out)
    go_wp2_with fail
    refine (implFirstPlan_x bud HI2).mono ?_
    rintro e w3 ⟨A3, c3, xs, code, rfl, h1, hxl, ho3, hb3⟩
    rw [firstP_bare] at h1
    have H1 := hide h1
    have F3 := hide (Own.at_ (enc := encCut) (fun _ => rfl) ho3)
    have HB3 := hide (HB.out.below hb3)
    have HI3 := hide (HB3.out.in_ HI.out)
    clear h1 ho3 hb3 c0 c1 c2 p0 p1 g0 g1 g2 g3 g4 g5 g6 m0 m1 HB HI2
    obtain ⟨c0, c1, c2, p0, p1, g0, g1, g2, g3, g4, g5, g6⟩ := HB3.out.cells
    have m0 := HB3.out.b.m.lt
    have m1 := HB3.out.b.p.lt
    obtain ⟨mn, tw, hct⟩ : ∃ mn tw, cntP x bud = (mn, tw) := ⟨_, _, rfl⟩
    have HCT := hide (show Calls Tryz.prog 17 #[.agg #[.slice x.Az x.zs.length x.cz, .slice x.Aw x.ws.length x.cw, .slice x.Ab x.bs.length x.cb], .agg #[.string x.nm, .slice x.A x.rs.length x.c], .agg #[.int .i64 x.t0, .int .i64 x.t1, .int .i64 x.t2, .int .i64 x.t3, .int .i64 x.t4, .int .i64 x.tol, .int .i64 x.most], .int .i64 bud] w3 fun e w' => e = .returned (.tuple #[.int .i64 mn, .int .i64 tw]) ∧ Below w3.heap.size w3 w' from by
      have hh := implCountPlans_x bud HI3
      rw [cntP_bare, hct] at hh
      exact hh)
    have H2 := hide hct
    clear hct
    go_wp2_with fail
    refine HCT.out.mono ?_
    rintro e w4 ⟨rfl, hb4⟩
    have F4 := hide (F3.out.below hb4)
    have HB4 := hide (HB3.out.below hb4)
    have HI4 := hide (HB4.out.in_ HI.out)
    clear hb4 c0 c1 c2 p0 p1 g0 g1 g2 g3 g4 g5 g6 m0 m1 HB3 HI3 F3 HCT
    by_cases h0 : x.ser bud = 0
    · obtain ⟨k, hk⟩ : ∃ k, k = (blkF x.t x.tol (x.raw []) (x.raw x.lim) 5 0).1 := ⟨_, rfl⟩
      obtain ⟨why, hwhy⟩ : ∃ why, why = (blkF x.t x.tol (x.raw []) (x.raw x.lim) 5 0).2 := ⟨_, rfl⟩
      have hps := plans_say h0 H1.out H2.out
      have HBK := hide (show Calls Tryz.prog 18 #[.agg #[.slice x.Az x.zs.length x.cz, .slice x.Aw x.ws.length x.cw, .slice x.Ab x.bs.length x.cb], .agg #[.string x.nm, .slice x.A x.rs.length x.c], .agg #[.int .i64 x.t0, .int .i64 x.t1, .int .i64 x.t2, .int .i64 x.t3, .int .i64 x.t4, .int .i64 x.tol, .int .i64 x.most]] w4 fun e w' => e = .returned (.tuple #[.int .i64 k, .int .i64 why, .int .i64 0]) ∧ Below w4.heap.size w4 w' from by
        have hh := implBlockedBy_x HI4 HCAP.out
        unfold blkP at hh
        rw [if_pos (ser_aim h0), ← hk, ← hwhy] at hh
        exact hh)
      rw [← hk, ← hwhy] at hps
      obtain ⟨hk0, hkw, htw, hcase⟩ := hps
      have HTW := hide htw
      have HKW := hide hkw
      have HCS := hide hcase
      have hc1 : (code == 1) = false := by rcases hcase with q | q <;> simp <;> omega
      have hc2 : (code == 2) = false := by rcases hcase with q | q <;> simp <;> omega
      clear hk hwhy H1 H2 htw hkw hcase h0
      obtain ⟨c0, c1, c2, p0, p1, g0, g1, g2, g3, g4, g5, g6⟩ := HB4.out.cells
      have m0 := HB4.out.b.m.lt
      have m1 := HB4.out.b.p.lt
      go_wp2_with fail
      refine HBK.out.mono ?_
      rintro e w5 ⟨rfl, hb5⟩
      have F5 := hide (F4.out.below hb5)
      have HB5 := hide (HB4.out.below hb5)
      have HI5 := hide (HB5.out.in_ HI.out)
      clear hb5 c0 c1 c2 p0 p1 g0 g1 g2 g3 g4 g5 g6 m0 m1 HB4 HI4 F4 HBK hc1 hc2
      go_upto_region 9 with fail
      go_cut [93] (fun s wx => s = .bool false ∧ Hid (w5 = wx))
      case first =>
        rcases HCS.out with ⟨hcd, -, -, -⟩ | ⟨hcd, hkz, -⟩
        · have hcz : (code == 0) = false := by simpa using hcd
          by_cases hkz : k = 0
          · have hwz := HKW.out.1 hkz
            by_cases ht : tw = 0
            · have hmn : decide (0 < mn) = false := by
                have := HTW.out ht
                simp
                omega
              subst hkz hwz ht
              clear hcd
              go_wp2_with fail
              go_meet
              exact ⟨rfl, hide rfl⟩
            · have htz : (tw == 0) = false := by simpa using ht
              subst hkz hwz
              clear hcd ht
              go_wp2_with fail
              go_meet
              exact ⟨rfl, hide rfl⟩
          · have hwz : ¬ why = 0 := fun q => hkz (HKW.out.2 q)
            have hk1 : (k == 0) = false := by simpa using hkz
            have hw1 : (why == 0) = false := by simpa using hwz
            have hkp : 0 < k := by omega
            by_cases ht : tw = 0
            · have hmn : decide (0 < mn) = false := by
                have := HTW.out ht
                simp
                omega
              subst ht
              clear hcd hwz hkz
              go_wp2_with fail
              go_meet
              exact ⟨rfl, hide rfl⟩
            · have htz : (tw == 0) = false := by simpa using ht
              clear hcd ht hwz hkz
              go_wp2_with fail
              go_meet
              exact ⟨rfl, hide rfl⟩
        · have hwz := HKW.out.1 hkz
          by_cases ht : tw = 0
          · have hmn : 0 < mn := (HTW.out ht).1 hcd
            subst hkz hwz ht hcd
            go_wp2_with fail
            go_meet
            exact ⟨rfl, hide rfl⟩
          · have htz : (tw == 0) = false := by simpa using ht
            subst hkz hwz hcd
            clear ht
            go_wp2_with fail
            go_meet
            exact ⟨rfl, hide rfl⟩
      case rest =>
        obtain ⟨w6, rfl⟩ : ∃ w6, w6 = wc := ⟨_, rfl⟩
        obtain ⟨rfl, he⟩ := hcut
        have he := he.out
        subst he
        rcases HCS.out with ⟨hcd, -, -, hxs⟩ | ⟨hcd, -, l, hpl, hin⟩
        · have hcz : (code == 0) = false := by simpa using hcd
          subst hxs
          clear hcd
          go_wp2_with fail
          go_ret
          exact ⟨rfl, BB.out _ HB5.out⟩
        · subst hcd
          have HIN := hide hin
          have HPL := hide hpl
          have HSN := hide (plan_snd hpl).1
          have hgr := (plan_snd hpl).2
          have hxl8 := hin.of.ok.len
          clear hpl hin HCS HKW HTW hk0
          obtain ⟨c0, c1, c2, p0, p1, g0, g1, g2, g3, g4, g5, g6⟩ := HB5.out.cells
          have m0 := HB5.out.b.m.lt
          have m1 := HB5.out.b.p.lt
          go_wp2_with fail
          refine (specApplyCuts_ok A3 c3 w5 HI5.out.rg HI5.out.md.z F5.out HI5.out.nm HIN).mono ?_
          rintro e w6 ⟨A6, c6, rfl, ho6, hb6⟩
          have hal : Below w6.heap.size w6 (w6.alloc (.cells #[.string x.nm, .slice A6 (turn x.zs l x.rs).length c6] 30)) := (Below.refl _ _).alloc (Nat.le_refl _) _
          have F6 := hide ((F5.out.below hb6).below hal)
          have HB6 := hide (HB5.out.below (hb6.trans (hal.mono hb6.size)))
          have HS6 := hide ((Own.at_ (enc := encRing) (fun _ => rfl) ho6).below hal)
          have HQ6 := hide (heap_alloc_new w6 (.cells #[.string x.nm, .slice A6 (turn x.zs l x.rs).length c6] 30))
          clear ho6 hb6 hal c0 c1 c2 p0 p1 g0 g1 g2 g3 g4 g5 g6 m0 m1 HB5 HI5 F5
          go_upto_region 14 with fail
          obtain ⟨q6, hq6⟩ : ∃ q6, q6 = w6.heap.size := ⟨_, rfl⟩
          rw [← hq6] at HQ6 ⊢
          clear hq6
          generalize w6.alloc (.cells #[.string x.nm, .slice A6 (turn x.zs l x.rs).length c6] 30) = w7 at *
          have HI7 := hide (HB6.out.in_ HI.out)
          obtain ⟨c0, c1, c2, p0, p1, g0, g1, g2, g3, g4, g5, g6⟩ := HB6.out.cells
          have m0 := HB6.out.b.m.lt
          have m1 := HB6.out.b.p.lt
          go_wp2_with fail
          refine (implDeviationsAfter_ok A3 c3 w7 HI7 F6.out HIN HSN).mono ?_
          rintro e w8 ⟨A8, c8, rfl, ho8, hb8⟩
          have F8 := hide (F6.out.below hb8)
          have HB8 := hide (HB6.out.below hb8)
          have HI8 := hide (HB8.out.in_ HI.out)
          have HS8 := hide (HS6.out.below hb8)
          have HD8 := hide (OwnI.sl ho8 (devs_length _ _).symm)
          have hq := (hb8.block _ (heap_lt HQ6.out)).trans HQ6.out
          have HQ8 := hide hq
          have hql := heap_lt hq
          have a0 : w8.cell? ⟨q6, 0, none⟩ = some (.string x.nm) := by simp [World.cell?, hq]
          have a1 : w8.cell? ⟨q6, 1, none⟩ = some (.slice A6 (turn x.zs l x.rs).length c6) := by simp [World.cell?, hq]
          have hr32 := HIN.out.ask.r.len32
          have HPB := hide HIN.out.prof
          clear hq ho8 hb8 c0 c1 c2 p0 p1 g0 g1 g2 g3 g4 g5 g6 m0 m1 HB6 HI7 F6 HS6 HQ6
          go_wp2_with fail
          refine (specValidProfile_is x.nm A6 c6 (turn x.zs l x.rs) w8 HS8.out (by rw [turn_length]; omega) HI8.out.nm).mono ?_
          rintro e w9 ⟨rfl, hb9⟩
          rw [HPB.out]
          have F9 := hide (F8.out.below hb9)
          have HB9 := hide (HB8.out.below hb9)
          have HI9 := hide (HB9.out.in_ HI.out)
          have HD9 := hide (HD8.out.below hb9)
          clear hb9 a0 a1 hql HB8 HI8 F8 HS8 HQ8 HD8
          obtain ⟨c0, c1, c2, p0, p1, g0, g1, g2, g3, g4, g5, g6⟩ := HB9.out.cells
          have m0 := HB9.out.b.m.lt
          have m1 := HB9.out.b.p.lt
          go_wp2_with fail
          refine (implIsPlan_ok A3 c3 w9 HI9 F9.out HIN HSN).mono ?_
          rintro e w10 ⟨rfl, hb10⟩
          rw [HPL.out]
          have HB10 := hide (HB9.out.below hb10)
          have HD10 := hide (HD9.out.below hb10)
          clear hb10 c0 c1 c2 p0 p1 g0 g1 g2 g3 g4 g5 g6 m0 m1 HB9 HI9 F9 HD9
          have HDB := hide (fun k (hk : k < 5) => show absI (ig (devs x.t (x.raw l)) k) ≤ x.tol from by
            have q := gr_ge (devs x.t (x.raw l)) 5 k hk
            have q2 := hgr
            unfold Cx.dev grB at q2
            rw [devs_length] at q2
            omega)
          have htol := HIN.out.goal.tol
          go_wp2_with fail
          go_loopw [18] (fun v wr => ∃ k : Nat, v = .int .i64 k ∧ k ≤ 5 ∧ Hid (Below w10.heap.size w10 wr)) (fun v _ => 5 - (intOf v).toNat)
          case atStart => exact ⟨0, rfl, by omega, hide (Below.refl _ _)⟩
          case round =>
            obtain ⟨k, rfl, hk, HBW⟩ := hrel
            obtain ⟨w11, rfl⟩ : ∃ w11, w11 = wr := ⟨_, rfl⟩
            by_cases hlt : k < 5
            · obtain ⟨b0, o0, rfl, hbl0, hc0⟩ := (HD10.out.below HBW.out).getA (by rw [devs_length]; omega)
              have q0 := hc0 k (by rw [devs_length]; omega)
              have hdb := HDB.out k hlt
              clear hc0
              generalize ig (devs x.t (x.raw l)) k = d at *
              have hd2 : -20000 ≤ d ∧ d ≤ 20000 := by unfold absI at hdb; split at hdb <;> omega
              have hkl : (k : Int) < 5 := by omega
              have P5 : ∀ W, Below w11.heap.size w11 W → W.cell? ⟨w1.heap.size + 1 + 1, 5, none⟩ = some (.int .i64 x.tol) := fun W hb => ((HB10.out.below HBW.out).below hb).cells.2.2.2.2.2.2.2.2.2.2.1
              have Y0 : ∀ W, Below w11.heap.size w11 W → W.cell? ⟨b0, o0 + k, none⟩ = some (.int .i64 d) := fun W hb => (hb.cell (p := ⟨b0, o0 + k, none⟩) hbl0).trans q0
              clear q0
              go_wp2_with fail
              refine wp_region_noPanic ?_
              refine wp_region_held_drew (S := (fun w' => Below w11.heap.size w11 w')) (by kernel_rfl) ((Below.refl _ _).drew) (fun hHeld => ?_)
              refine wpAnyH_take (i := 0) (oi := ?o0_1) (v := ?v0_1) ?hi0_1 ?hs0_1 ?hf0_1 ?hr0_1 (fun _ _ _ h => h) ?hy0_1 (by assumption) ?hh0_1
              case hi0_1 => ((simp only [List.getElem?_toArray, List.getElem?_cons_zero]); rfl)
              case hs0_1 => kernel_rfl
              case hf0_1 => kernel_rfl
              case hr0_1 => kernel_rfl
              case hy0_1 => exact Or.inl ⟨by rfl, by (intro wq hSw; (try dsimp only at hSw); go_simp; (try with_reducible rfl))⟩
              try simp only [Act.put, List.setIfInBounds_toArray, List.set_cons_zero, List.set_cons_succ]
              refine wpAnyH_take (i := 1) (oi := ?o1_2) (v := ?v1_2) ?hi1_2 ?hs1_2 ?hf1_2 ?hr1_2 (fun _ _ _ h => h) ?hy1_2 (by assumption) ?hh1_2
              case hi1_2 => ((simp only [List.getElem?_toArray, List.getElem?_cons_succ, List.getElem?_cons_zero]); rfl)
              case hs1_2 => kernel_rfl
              case hf1_2 => kernel_rfl
              case hr1_2 => kernel_rfl
              case hy1_2 => exact Or.inl ⟨by rfl, by (intro wq hSw; (try dsimp only at hSw); go_simp; (try with_reducible rfl))⟩
              try simp only [Act.put, List.setIfInBounds_toArray, List.set_cons_zero, List.set_cons_succ]
              refine wpAnyH_take (i := 2) (oi := ?o2_3) (v := ?v2_3) ?hi2_3 ?hs2_3 ?hf2_3 ?hr2_3 (fun _ _ _ h => h) ?hy2_3 (by assumption) ?hh2_3
              case hi2_3 => ((simp only [List.getElem?_toArray, List.getElem?_cons_succ, List.getElem?_cons_zero]); rfl)
              case hs2_3 => kernel_rfl
              case hf2_3 => kernel_rfl
              case hr2_3 => kernel_rfl
              case hy2_3 => exact Or.inl ⟨by rfl, by (intro wq hSw; (try dsimp only at hSw); go_simp; (try with_reducible rfl))⟩
              try simp only [Act.put, List.setIfInBounds_toArray, List.set_cons_zero, List.set_cons_succ]
              refine wpAnyH_take (i := 3) (oi := ?o3_4) (v := ?v3_4) ?hi3_4 ?hs3_4 ?hf3_4 ?hr3_4 (fun _ _ _ h => h) ?hy3_4 (by assumption) ?hh3_4
              case hi3_4 => ((simp only [List.getElem?_toArray, List.getElem?_cons_succ, List.getElem?_cons_zero]); rfl)
              case hs3_4 => kernel_rfl
              case hf3_4 => kernel_rfl
              case hr3_4 => kernel_rfl
              case hy3_4 => exact Or.inl ⟨by rfl, by (intro wq hSw; (try dsimp only at hSw); go_simp; (try with_reducible rfl))⟩
              try simp only [Act.put, List.setIfInBounds_toArray, List.set_cons_zero, List.set_cons_succ]
              refine wpAnyH_take (i := 5) (oi := ?o5_5) (v := ?v5_5) ?hi5_5 ?hs5_5 ?hf5_5 ?hr5_5 (fun _ _ _ h => h) ?hy5_5 (by assumption) ?hh5_5
              case hi5_5 => ((simp only [List.getElem?_toArray, List.getElem?_cons_succ, List.getElem?_cons_zero]); rfl)
              case hs5_5 => kernel_rfl
              case hf5_5 => kernel_rfl
              case hr5_5 => kernel_rfl
              case hy5_5 => exact Or.inl ⟨by rfl, by (intro wq hSw; (try dsimp only at hSw); go_simp; (try with_reducible rfl))⟩
              try simp only [Act.put, List.setIfInBounds_toArray, List.set_cons_zero, List.set_cons_succ]
              refine wpAnyH_take (i := 6) (oi := ?o6_6) (v := ?v6_6) ?hi6_6 ?hs6_6 ?hf6_6 ?hr6_6 (fun _ _ _ h => h) ?hy6_6 (by assumption) ?hh6_6
              case hi6_6 => ((simp only [List.getElem?_toArray, List.getElem?_cons_succ, List.getElem?_cons_zero]); rfl)
              case hs6_6 => kernel_rfl
              case hf6_6 => kernel_rfl
              case hr6_6 => kernel_rfl
              case hy6_6 => exact Or.inl ⟨by rfl, by (intro wq hSw; (try dsimp only at hSw); go_simp; (try with_reducible rfl))⟩
              try simp only [Act.put, List.setIfInBounds_toArray, List.set_cons_zero, List.set_cons_succ]
              refine wpAnyH_ready (rs := [4]) (by kernel_rfl) (by simp) ?_
              refine AllReadyH.cons (o := ?o4_7) ?hi4_7 (fun K hK => ?hh4_7) AllReadyH.nil
              case hi4_7 => ((simp only [List.getElem?_toArray, List.getElem?_cons_succ, List.getElem?_cons_zero]); rfl)
              go_simp
              (go_at_call 22; refine (b10Abs_is d _ (by omega) (by omega)).mono ?_; rintro e w12 ⟨rfl, rfl⟩)
              (try dsimp only)
              refine hK.out _ _ (hHeld) (fun hHeld2 => ?_)
              clear hK K hHeld
              have hHeld := hHeld2
              clear hHeld2
              try simp only [Act.put, List.setIfInBounds_toArray, List.set_cons_zero, List.set_cons_succ]
              refine wpAnyH_take (i := 7) (oi := ?o7_8) (v := ?v7_8) ?hi7_8 ?hs7_8 ?hf7_8 ?hr7_8 (fun _ _ _ h => h) ?hy7_8 (by assumption) ?hh7_8
              case hi7_8 => ((simp only [List.getElem?_toArray, List.getElem?_cons_succ, List.getElem?_cons_zero]); rfl)
              case hs7_8 => kernel_rfl
              case hf7_8 => kernel_rfl
              case hr7_8 => kernel_rfl
              case hy7_8 => exact Or.inl ⟨by rfl, by (intro wq hSw; (try dsimp only at hSw); go_simp; (try with_reducible rfl))⟩
              try simp only [Act.put, List.setIfInBounds_toArray, List.set_cons_zero, List.set_cons_succ]
              refine wpAnyH_done (by kernel_rfl) ?_ _
              refine NoPanic.normal ?_
              have HBE := hide (HBW.out.trans (hHeld.mono HBW.out.size))
              go_wp2_with fail
              go_roundw
              case rel => exact ⟨k + 1, by go_num, by omega, HBE⟩
              case measure => simp [intOf]; omega
            · obtain rfl : k = 5 := by omega
              go_wp2_with fail
              go_ret
              exact ⟨rfl, BB.out _ (HB10.out.below HBW.out)⟩
    · have hv := ser_vals h0
      have e1 : firstP x bud = ([], x.ser bud) := by unfold firstP; rw [if_neg h0]
      have e2 : cntP x bud = (0, x.ser bud) := by unfold cntP; rw [if_neg h0]
      have q1 := H1.out
      have q2 := H2.out
      rw [e1] at q1
      rw [e2] at q2
      injection q1 with q1 q3
      injection q2 with q2 q4
      generalize x.ser bud = sr at *
      subst q1 q2 q3 q4
      clear H1 H2 e1 e2
      rcases hv with rfl | rfl
      · go_wp2_with fail
        go_ret
        exact ⟨rfl, BB.out _ HB4.out⟩
      · go_wp2_with fail
        go_ret
        exact ⟨rfl, BB.out _ HB4.out⟩
  · go_wp2_with fail
    go_ret
    exact ⟨rfl, Below.refl _ _⟩
end Go.Proofs.YtnefgafmnpblpaaGreat
