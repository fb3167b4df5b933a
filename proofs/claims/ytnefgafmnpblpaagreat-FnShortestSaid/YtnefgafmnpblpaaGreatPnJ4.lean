/- Contracts: the program's ShortestPlan. -/
import Derived.Test.YtnefgafmnpblpaaGreatPnFa
import Derived.Test.YtnefgafmnpblpaaGreatPnI9
namespace Go.Proofs.YtnefgafmnpblpaaGreat
open Go.RowKit Pn

set_option maxRecDepth 100000 in
theorem sumOf_is (A : Option Addr) (c : Nat) (l : List Int) (w : World) (h : SlAt encI 1 w A l) (hn : l.length ≤ 8) (HB : Hid (∀ k, 0 ≤ ig l k ∧ ig l k ≤ 20)) :
    Calls Tryz.prog 43 #[.slice A l.length c] w fun e w' => e = .returned (.int .i64 (sumA l)) ∧ w = w' := by
  have HX := hide h
  have HE := hide (show sumA l = sumTo l l.length from rfl)
  clear h
  go_enter Tryz.func43, Tryz.ntmps43
  go_wp2_with fail
  go_loopw [8, 3, 5] (fun v s _ wr => ∃ k : Nat, v = .int .i64 k ∧ s = .int .i64 (sumTo l k) ∧ k ≤ l.length ∧ w = wr) (fun v _ _ _ => l.length - (intOf v).toNat)
  case atStart => exact ⟨0, rfl, rfl, by omega, rfl⟩
  case round =>
    obtain ⟨k, rfl, rfl, hk, rfl⟩ := hrel
    by_cases hlt : k < l.length
    · obtain ⟨b, o, rfl, hb, hc⟩ := HX.out.getA (by omega)
      have q0 := hc k hlt
      have hs := sumTo_bd (c := 20) k fun j _ => HB.out j
      have h1 := HB.out k
      have E := hide (show sumTo l k + ig l k = sumTo l (k + 1) from rfl)
      clear hc
      generalize sumTo l k = s at *
      generalize ig l k = x at *
      have kw : IntKind.i64.wrap (s + x) = s + x := IntWalk.i64_in _ (by omega)
      have hkl : (k : Int) < l.length := by omega
      go_wp2_with fail
      go_roundw
      case rel => exact ⟨k + 1, by go_num, by rw [← E.out], by omega, trivial⟩
      case measure => simp [intOf]; omega
    · obtain rfl : k = l.length := by omega
      go_wp2_with fail
      go_ret
      exact ⟨ret_int HE.out.symm, rfl⟩
theorem CuI.toSum {x : Cx} {w0 w : World} {b gl lc gs sc : Nat} {sum : Int} {first : Bool} {ss : List Int} {s : S} (h : CuI x w0 b gl lc gs sc sum first w ss s) (sum' : Int) : CuI x w0 b gl lc gs sc sum' first (w.setCell ⟨b, 16, none⟩ (.int .i64 sum')) ss s := by
  obtain ⟨fA, fc, h1, h2⟩ := h.st
  have hg := grown_set (grown_refl w (some b)) 16 (.int .i64 sum')
  have hne := h.ne
  exact ⟨⟨fA, fc, heap_set' _ h1, own_far' h2 hg⟩, own_ne h.lim (by omega) _ _, own_ne h.row (by omega) _ _, h.ne, h.inv, h.bel.setCell h.hb _, h.hb⟩
/-- The sum that a search wants, as it lies. -/
def sumAt (b : Nat) (w : World) : Nat := match w.cell? ⟨b, 16, none⟩ with
  | some (.int _ k) => k.toNat
  | _ => 0
theorem sumAt_is {b : Nat} {w : World} {k : Int} (h : w.cell? ⟨b, 16, none⟩ = some (.int .i64 k)) : sumAt b w = k.toNat := by unfold sumAt; rw [h]
theorem CuI.sumIs {x : Cx} {w0 w : World} {b gl lc gs sc : Nat} {sum : Int} {first : Bool} {ss : List Int} {s : S} (h : CuI x w0 b gl lc gs sc sum first w ss s) : sumAt b w = sum.toNat := by
  obtain ⟨k0, k1, k2, k3, k4, k5, k6, k7, k8, k9, k10, k11, k12, k13, k14, k15, k16, _⟩ := h.all
  exact sumAt_is k16
/-- What ShortestPlan answers: cuts and a code of the call's own. -/
def ShRes (x : Cx) (bud : Int) (w : World) (e : Ending) (w' : World) : Prop := ∃ (A : Option Addr) (c : Nat) (xs : List CutR) (code : Int), e = .returned (.tuple #[.slice A xs.length c, .int .i64 code]) ∧ ((x.ser bud ≠ 0 ∧ xs = [] ∧ code = x.ser bud) ∨ (x.ser bud = 0 ∧ ShortOK x xs code)) ∧ xs.length ≤ 1048576 ∧ OwnC w' w.heap.size (.slice A xs.length c) xs ∧ Below w.heap.size w w'
theorem two_eta {s : S} {xs : List CutR} {code : Int} (h : plnd s = (xs, code)) {x : Cx} (h2 : ShortOK x (plnd s).1 (plnd s).2) : ShortOK x xs code := by rw [h] at h2; exact h2
set_option maxRecDepth 100000 in
set_option maxHeartbeats 1000000 in
theorem implShortestPlan_x {x : Cx} {w : World} (bud : Int) (HI : Hid (x.In w)) :
    Calls Tryz.prog 10 #[.agg #[.slice x.Az x.zs.length x.cz, .slice x.Aw x.ws.length x.cw, .slice x.Ab x.bs.length x.cb], .agg #[.string x.nm, .slice x.A x.rs.length x.c], .agg #[.int .i64 x.t0, .int .i64 x.t1, .int .i64 x.t2, .int .i64 x.t3, .int .i64 x.t4, .int .i64 x.tol, .int .i64 x.most], .int .i64 bud] w (ShRes x bud w) := by
  have HB := hide (Bx.new HI.out)
  go_enter Tryz.func10, Tryz.ntmps10
  go_wp2_with fail
  generalize (((w.alloc (.cells #[.slice x.Az x.zs.length x.cz, .slice x.Aw x.ws.length x.cw, .slice x.Ab x.bs.length x.cb] 27)).alloc (.cells #[.string x.nm, .slice x.A x.rs.length x.c] 30)).alloc (.cells #[.int .i64 x.t0, .int .i64 x.t1, .int .i64 x.t2, .int .i64 x.t3, .int .i64 x.t4, .int .i64 x.tol, .int .i64 x.most] 34)) = w3 at *
  have HI3 := hide (HB.out.in_ HI.out)
  refine (implsearchable x.Az x.Aw x.Ab x.cz x.cw x.cb x.zs x.ws x.bs x.nm x.A x.c x.rs x.t0 x.t1 x.t2 x.t3 x.t4 x.tol x.most bud w3 HI3.out.md (hide HI3.out.sz) HI3.out.rg HI3.out.rn HI3.out.nm).mono ?_
  rintro e w4 ⟨rfl, hb4⟩
  have HB4 := hide (HB.out.below hb4)
  have HI4 := hide (HB4.out.in_ HI.out)
  clear hb4 HB HI3
  obtain ⟨code, hc⟩ : ∃ code, code = serB x.zs x.ws x.bs x.nm x.rs [x.t0, x.t1, x.t2, x.t3, x.t4] x.tol x.most bud := ⟨_, rfl⟩
  have HC := hide (show x.ser bud = code from hc.symm)
  rw [← hc]
  clear hc
  by_cases h0 : code = 0
  · subst h0
    obtain ⟨hok, hb0, hb1⟩ := HI4.out.ok HC.out
    have HX := hide hok
    have HN := hide (newCutter_is bud HX (by omega) (by omega))
    obtain ⟨c0, c1, c2, p0, p1, g0, g1, g2, g3, g4, g5, g6⟩ := HB4.out.cells
    clear hok
    go_wp2_with fail
    refine HN.out.mono ?_
    rintro e w5 ⟨b, gl, lc, gs, sc, rfl, hcu, _⟩
    have HCU := hide hcu.toFirst
    obtain ⟨k0, k1, k2, k3, k4, k5, k6, k7, k8, k9, k10, k11, k12, k13, k14, k15, k16, k17, k18, kf⟩ := hcu.all
    have f17 := kf 17
    clear k0 k1 k2 k3 k4 k5 k6 k7 k8 k9 k10 k11 k12 k13 k14 k15 k16 k18 kf
    clear hcu HN c0 c1 c2 p0 p1 g0 g1 g2 g3 g4 g5 g6
    go_upto_region 6 with fail
    generalize w5.setCell ⟨b, 17, none⟩ (.bool true) = w5' at *
    clear k17 f17
    have HCU2 := hide (HCU.out.toSum 0)
    obtain ⟨k0, k1, k2, k3, k4, k5, k6, k7, k8, k9, k10, k11, k12, k13, k14, k15, k16, k17, k18, kf⟩ := HCU.out.all
    have f16 := kf 16
    clear k0 k1 k2 k3 k4 k5 k6 k7 k8 k9 k10 k11 k12 k13 k14 k15 k17 k18 kf HCU
    go_upto_region 7 with fail
    generalize w5'.setCell ⟨b, 16, none⟩ (.int .i64 0) = w6 at *
    clear k16 f16
    have HBW := hide HB4.out.b.bel
    have hzs8 := HX.out.ask.z.len8
    have HLM := hide HX.out.lim_bd
    have HLL := hide x.lim_length
    have hT := sumTo_bd (xs := x.lim) (c := 20) x.lim.length fun j _ => HX.out.lim_bd j
    obtain ⟨T, hTT⟩ : ∃ T, T = sumA x.lim := ⟨_, rfl⟩
    have hT2 : 0 ≤ T ∧ T ≤ 160 := by
      rw [hTT]; unfold sumA
      have := x.lim_length
      omega
    have HTT := hide hTT
    clear hT hTT
    go_loopw [] (fun wr => ∃ (k : Nat) (s : S), (k : Int) ≤ T + 1 ∧ Hid (CuI x w4 b gl lc gs sc (k : Int) true wr (pad x.zs.length []) s) ∧ Hid (ShInv x (k : Int) s)) (fun wr => (T + 1).toNat - sumAt b wr)
    case atStart => exact ⟨0, _, by omega, HCU2, hide (ShInv.start x HX.out.goal.most.1 bud)⟩
    case round =>
      obtain ⟨k, s, hk, HS, HV⟩ := hrel
      obtain ⟨w7, rfl⟩ : ∃ w7, w7 = wr := ⟨_, rfl⟩
      obtain ⟨k0, k1, k2, k3, k4, k5, k6, k7, k8, k9, k10, k11, k12, k13, k14, k15, k16, k17, k18, kf⟩ := HS.out.all
      clear k0 k1 k2 k3 k4 k5 k6 k7 k8 k9 k10 k11 k12 k13 k15 k17 k18 kf
      have hbl := HS.out.lt
      have HSL := hide (show SlAt encI 1 w7 (some ⟨gl, 0, none⟩) x.lim from OwnI.sl HS.out.lim x.lim_length.symm)
      have HCT := hide (fun W (hb : Below w7.heap.size w7 W) => by
        have h := sumOf_is (some ⟨gl, 0, none⟩) lc x.lim W (HSL.out.below hb) (by rw [HLL.out]; exact hzs8) HLM
        rw [HLL.out, ← HTT.out] at h
        exact h)
      cases hle : decide ((k : Int) ≤ T)
      · have HEN := hide (show s.spent = false → s.count = 0 → sumA x.lim < (k : Int) from fun _ _ => by rw [← HTT.out]; simpa using hle)
        go_wp2_with fail
        refine wp_region_kept (by kernel_rfl) (by kernel_rfl) ?_
        intro gc gf gz
        repeat (go_big_quiet_step ((go_at_call 43; exact Calls.kept_same (HCT.out _ (Kept.h _)))))
        refine wpQuiet_nil ?_
        intro w8 hw'
        obtain ⟨⟨_, hb8⟩, rfl⟩ := hw'
        clear gc gf gz
        try dsimp only
        have fs8 := hb8.size
        try simp at fs8 hb8
        have HS8 := hide (HS.out.below hb8)
        clear hb8
        go_wp2_with fail
        refine (planned_is HS8 hzs8).mono ?_
        rintro e w9 ⟨A9, c9, xs, code, rfl, hp, hl, ho, hb9⟩
        have HOK := hide (two_eta hp (HV.out.ends (HEN.out)))
        have HBE := hide (HBW.out.trans ((HS8.out.bel.trans (hb9.mono HS8.out.bel.size)).mono HBW.out.size))
        have HO := hide (ho.mono (B' := w.heap.size) (Nat.le_trans HBW.out.size HS8.out.bel.size))
        clear ho hb9 hp
        go_wp2_with fail
        go_ret2
        exact ⟨A9, c9, xs, code, rfl, .inr ⟨HC.out, HOK.out⟩, hl, HO.out, HBE.out⟩
      · cases hd : (s.spent || (true && decide (0 < s.count)))
        · have HD := hide hd
          have hsp : s.spent = false := by cases h : s.spent <;> simp_all
          have hcz : s.count = 0 := by
            have := HV.out.fnd.1
            rw [hsp] at hd
            simp at hd
            omega
          have HVN := hide (HV.out.next (by omega) HX.out.ask HX.out.goal.most.1 hsp hcz)
          clear hd hsp hcz
          go_wp2_with fail
          refine wp_region_kept (by kernel_rfl) (by kernel_rfl) ?_
          intro gc gf gz
          repeat (go_big_quiet_step ((first | (go_at_call 43; exact Calls.kept_same (HCT.out _ (Kept.h _))) | (go_at_call 44; exact Calls.kept_same (done_is false (hide (HS.out.below (Kept.h _))) HD)))))
          refine wpQuiet_nil ?_
          intro w8 hw'
          obtain ⟨⟨_, hb8⟩, rfl⟩ := hw'
          clear gc gf gz
          try dsimp only
          have fs8 := hb8.size
          try simp at fs8 hb8
          have HS8 := hide (HS.out.below hb8)
          clear hb8
          go_wp2_with fail
          refine (search_all HX HS8.out).mono ?_
          rintro e w9 ⟨rfl, hcu⟩
          obtain ⟨s', hs'⟩ : ∃ s', s' = srch (x.q (k : Int) true) (x.zs.length + 1) [] s := ⟨_, rfl⟩
          rw [← hs'] at hcu HVN
          clear hs'
          have HCU9 := hide hcu
          have HCU10 := hide (hcu.toSum ((k : Int) + 1))
          obtain ⟨k0, k1, k2, k3, k4, k5, k6, k7, k8, k9, k10, k11, k12, k13, k14, k15, k16, k17, k18, kf⟩ := hcu.all
          have f16 := kf 16
          have hb9 := hcu.lt
          have HM1 := hide HS.out.sumIs
          have HM2 := hide HCU10.out.sumIs
          have hkT : (k : Int) ≤ T := by simpa using hle
          clear hcu k0 k1 k2 k3 k4 k5 k6 k7 k8 k9 k10 k11 k12 k13 k14 k15 k17 k18 kf
          go_wp2_with fail
          go_roundw
          case rel => exact ⟨k + 1, s', by omega, HCU10, HVN⟩
          case measure => have h1 := HM1.out; have h2 := HM2.out; omega
        · have HD := hide hd
          have HEN := hide (show s.spent = false → s.count = 0 → sumA x.lim < (k : Int) from fun h1 h2 => by rw [h1, h2] at hd; simp at hd)
          clear hd
          go_wp2_with fail
          refine wp_region_kept (by kernel_rfl) (by kernel_rfl) ?_
          intro gc gf gz
          repeat (go_big_quiet_step ((first | (go_at_call 43; exact Calls.kept_same (HCT.out _ (Kept.h _))) | (go_at_call 44; exact Calls.kept_same (done_is true (hide (HS.out.below (Kept.h _))) HD)))))
          refine wpQuiet_nil ?_
          intro w8 hw'
          obtain ⟨⟨_, hb8⟩, rfl⟩ := hw'
          clear gc gf gz
          try dsimp only
          have fs8 := hb8.size
          try simp at fs8 hb8
          have HS8 := hide (HS.out.below hb8)
          clear hb8
          go_wp2_with fail
          refine (planned_is HS8 hzs8).mono ?_
          rintro e w9 ⟨A9, c9, xs, code, rfl, hp, hl, ho, hb9⟩
          have HOK := hide (two_eta hp (HV.out.ends (HEN.out)))
          have HBE := hide (HBW.out.trans ((HS8.out.bel.trans (hb9.mono HS8.out.bel.size)).mono HBW.out.size))
          have HO := hide (ho.mono (B' := w.heap.size) (Nat.le_trans HBW.out.size HS8.out.bel.size))
          clear ho hb9 hp
          go_wp2_with fail
          go_ret2
          exact ⟨A9, c9, xs, code, rfl, .inr ⟨HC.out, HOK.out⟩, hl, HO.out, HBE.out⟩
  · have h1 : (code == 0) = false := by simpa using h0
    have hne := hide h0
    have HBL := hide HB4.out.b.bel
    clear h0
    go_wp2_with fail
    go_ret2
    exact ⟨none, 0, [], code, rfl, .inl ⟨by rw [HC.out]; exact hne.out, rfl, HC.out.symm⟩, by simp, Own.nil, HBL.out⟩
end Go.Proofs.YtnefgafmnpblpaaGreat
