/- Contracts: the reference's CountPlans, FirstPlan and ClosestPlan. -/
import Derived.Test.YtnefgafmnpblpaaGreatPnI9
namespace Go.Proofs.YtnefgafmnpblpaaGreat
open Go.RowKit Pn

set_option maxRecDepth 100000 in
set_option maxHeartbeats 1000000 in
theorem specl10Cuts (B : Nat) (A : Option Addr) (c : Nat) (l : List Int) (w : World) (h : OwnI w B (.slice A l.length c) l) (hn : l.length ≤ 100000) :
    Calls Tryz.prog 78 #[.slice A l.length c] w (CutRes (cutsB l) w) := by
  have HX := hide h
  have HE := hide (show cutsB l = cutsTo l l.length by unfold cutsB; rfl)
  have hlc := cutsTo_len l
  have HLC := hide hlc
  have H00 := hide (own_made (enc := encCut) (sz := 2) (T := 101) w rfl (Nat.le_refl _))
  have HA0 := hide ((Below.refl w.heap.size w).alloc (Nat.le_refl _) (.cells #[] 101))
  clear h hlc
  go_enter Tryz.func78, Tryz.ntmps78
  go_wp2_with fail
  generalize w.alloc (.cells #[] 101) = w0 at *
  go_loopw [4, 3] (fun v o wr => ∃ (k : Nat) (A2 : Option Addr) (c2 : Nat), v = .int .i64 k ∧ o = .slice A2 (cutsTo l k).length c2 ∧ k ≤ l.length ∧ Hid (OwnC wr w.heap.size (.slice A2 (cutsTo l k).length c2) (cutsTo l k)) ∧ Hid (Below w.heap.size w wr)) (fun v _ _ => l.length - (intOf v).toNat)
  case atStart => exact ⟨0, _, _, rfl, rfl, by omega, H00, HA0⟩
  case round =>
    obtain ⟨k, A2, c2, rfl, rfl, hk, HO, HB⟩ := hrel
    have hz := HB.out.size
    by_cases hlt : k < l.length
    · obtain ⟨g, hA, hg1, hg2, g1, g2⟩ := own_get1 (HX.out.below HB.out) hlt
      subst hA
      have hki : (k : Int) < l.length := by omega
      have hk0 : (0 : Int) ≤ k := by omega
      have hcl := HLC.out k
      clear g2
      by_cases hp : 0 < ig l k
      · have e : cutsTo l (k + 1) = cutsTo l k ++ [⟨k, ig l k⟩] := by rw [cutsTo, if_pos hp]
        have e2 : (cutsTo l (k + 1)).length = (cutsTo l k).length + 1 := by rw [e]; simp
        have HE1 := hide e
        have HE2 := hide e2
        clear e e2
        obtain ⟨v, hv⟩ : ∃ v, v = ig l k := ⟨_, rfl⟩
        rw [← hv] at hp g1 HE1
        clear hv
        obtain ⟨ys, hys⟩ : ∃ ys, ys = cutsTo l k := ⟨_, rfl⟩
        rw [← hys] at HO HE1 HE2 hcl ⊢
        clear hys
        go_wp2_with (at_builtin; refine wpList_appCut rfl _ _ rfl w.heap.size rfl HO.out rfl (by omega) ?_ ?_; (focus (exact hz)); intro A5 c5 w5 ho5 hb5 _hg5; have HO5 := hide ho5; have HB5 := hide (HB.out.trans hb5); clear ho5 hb5)
        go_roundw
        case rel => exact ⟨k + 1, A5, c5, by go_num, by rw [HE2.out], by omega, hide (by rw [HE2.out, HE1.out]; exact HO5.out), HB5⟩
        case measure => simp [intOf]; omega
      · have HE1 := hide (show cutsTo l (k + 1) = cutsTo l k by rw [cutsTo, if_neg hp])
        generalize ig l k = v at *
        go_wp2_with fail
        go_roundw
        case rel => exact ⟨k + 1, A2, c2, by go_num, by rw [HE1.out], by omega, by rw [HE1.out]; exact HO, HB⟩
        case measure => simp [intOf]; omega
    · obtain rfl : k = l.length := by omega
      rw [← HE.out] at HO ⊢
      go_wp2_with fail
      go_ret
      exact ⟨A2, c2, rfl, HO.out, HB.out⟩
theorem Xs.new {x : Cx} {w0 w : World} {q bm bp bg : Nat} {bud : Int} {A : Option Addr} {c : Nat} (h : NewX w0 w q bm bp bg bud A c x.lim) (h0 : 0 ≤ bud) (h1 : bud ≤ 20000) :
    Xs x w0 q w.heap.size bm bp bg A c false false bud w [] 0 none 0 ⟨bud, false, 0, [], -1⟩ := by
  have hl := x.lim_length
  have hlt := h.lt
  obtain ⟨hst, hrow, hbel, hq⟩ := h
  rw [hl] at hst hrow
  refine ⟨⟨none, 0, [], ?_, Own.nil, fun _ => rfl, fun g e => by simp [Value.ownBlock] at e⟩, hrow, fun g e => (hrow.lt g e).2, Own.nil, ⟨h0, by simp, by simp; omega, .inl rfl, by simp⟩, hbel, hq, hlt, Nat.le_refl _, ⟨by simp, h1⟩⟩
  rw [hst]
  simp [xCells, xCellsB]
theorem Xs.toAll {x : Cx} {w0 : World} {q N bm bp bg : Nat} {lA : Option Addr} {lc : Nat} {clo : Bool} {bud : Int} {w : World} {l : List Int} {sm : Int} {sA : Option Addr} {sc : Nat} {s : S} (h : Xs x w0 q N bm bp bg lA lc false clo bud w l sm sA sc s) : Xs x w0 q N bm bp bg lA lc true clo bud (w.setCell ⟨q, 7, none⟩ (.bool true)) l sm sA sc s := by
  obtain ⟨bA, bc, bs, h1, h2, h3, h4⟩ := h.st
  have hg := grown_set (grown_refl w (some q)) 7 (.bool true)
  exact ⟨⟨bA, bc, bs, heap_set' _ h1, own_farN h2 h.hN hg, (fun e => nomatch e), h4⟩, own_far' h.lim hg, h.limN, own_farN h.row h.hN hg, h.inv, h.bel.setCell h.hq _, h.hq, h.hN, by simpa using h.hNw, h.bd⟩
theorem Xs.toClo {x : Cx} {w0 : World} {q N bm bp bg : Nat} {lA : Option Addr} {lc : Nat} {all : Bool} {bud : Int} {w : World} {l : List Int} {sm : Int} {sA : Option Addr} {sc : Nat} {s : S} (h : Xs x w0 q N bm bp bg lA lc all false bud w l sm sA sc s) : Xs x w0 q N bm bp bg lA lc all true bud (w.setCell ⟨q, 8, none⟩ (.bool true)) l sm sA sc s := by
  obtain ⟨bA, bc, bs, h1, h2, h3, h4⟩ := h.st
  have hg := grown_set (grown_refl w (some q)) 8 (.bool true)
  exact ⟨⟨bA, bc, bs, heap_set' _ h1, own_farN h2 h.hN hg, h3, h4⟩, own_far' h.lim hg, h.limN, own_farN h.row h.hN hg, h.inv, h.bel.setCell h.hq _, h.hq, h.hN, by simpa using h.hNw, h.bd⟩
/-- A search that begins, or a code. -/
def BegRes (x : Cx) (bm bp bg : Nat) (bud : Int) (w : World) (e : Ending) (w' : World) : Prop :=
  ∃ (p : Value) (code : Int), e = .returned (.tuple #[p, .int .i64 code]) ∧ x.ser bud = code ∧ Below w.heap.size w w' ∧ (code = 0 → ∃ (w0 : World) (q : Nat) (A : Option Addr) (c : Nat), p = .pointer (some ⟨q, 0, none⟩) ∧ RefOK x w0 bm bp bg ∧ Xs x w0 q w'.heap.size bm bp bg A c false false bud w' [] 0 none 0 ⟨bud, false, 0, [], -1⟩ ∧ Below w.heap.size w w0)
set_option maxRecDepth 100000 in
set_option maxHeartbeats 1000000 in
theorem specl10Begin {x : Cx} {w : World} {bm bp bg : Nat} (bud : Int) (HI : Hid (x.In w)) (hm : MpAt w bm x.Az x.cz x.Aw x.cw x.Ab x.cb x.zs x.ws x.bs) (hp : ProfAt w bp x.nm x.A x.c x.rs) (hg : GoalAt w bg 0 [x.t0, x.t1, x.t2, x.t3, x.t4] x.tol x.most) :
    Calls Tryz.prog 69 #[.pointer (some ⟨bm, 0, none⟩), .pointer (some ⟨bp, 0, none⟩), .pointer (some ⟨bg, 0, none⟩), .int .i64 bud] w (BegRes x bm bp bg bud w) := by
  have HM := hide hm
  have HP := hide hp
  have HG := hide hg
  have HASK := hide (specl10Ask bm bp bg x.Az x.Aw x.Ab x.cz x.cw x.cb x.zs x.ws x.bs x.nm x.A x.c x.rs x.t0 x.t1 x.t2 x.t3 x.t4 x.tol x.most w hm (hide HI.out.sz) hp HI.out.rn HI.out.nm hg)
  clear hm hp hg
  go_enter Tryz.func69, Tryz.ntmps69
  go_wp2_with fail
  refine HASK.out.mono ?_
  rintro e w1 ⟨rfl, hb1⟩
  have HB1 := hide hb1
  clear hb1 HASK
  obtain ⟨a, ha⟩ : ∃ a, a = aimB x.zs x.ws x.bs x.nm x.rs [x.t0, x.t1, x.t2, x.t3, x.t4] x.tol x.most := ⟨_, rfl⟩
  rw [← ha]
  have E1 := hide (show x.ser bud = if a = 0 then (if inB bud 1 20000 then 0 else 2) else a from by rw [ha]; rfl)
  clear ha
  by_cases h0 : a = 0
  · subst h0
    cases h1 : inB bud 1 20000
    · have E := hide (show x.ser bud = 2 from by rw [E1.out, h1]; rfl)
      go_wp2_with (go_at_call 109; refine (specl00In_is _ _ _ _ (by assumption) _).mono ?_; rintro e2 w2 ⟨rfl, rfl⟩)
      go_ret2
      exact ⟨_, 2, rfl, E.out, HB1.out.alloc HB1.out.size _, fun e => by simp at e⟩
    · have E := hide (show x.ser bud = 0 from by rw [E1.out, h1]; rfl)
      have HI1 := hide (HI.out.below HB1.out)
      obtain ⟨hok, hb0, hb2⟩ := HI1.out.ok E.out
      have HRF := hide (show RefOK x w1 bm bp bg from ⟨hok, HM.out.below HB1.out, HP.out.below HB1.out, HG.out.below HB1.out⟩)
      have HBD := hide (And.intro hb0 hb2)
      have HNW := hide (specl10New bm bp bg x.Az x.Aw x.Ab x.cz x.cw x.cb x.zs x.ws x.bs x.nm x.A x.c x.rs x.t0 x.t1 x.t2 x.t3 x.t4 x.tol x.most bud w1 HRF.out.m HRF.out.p HRF.out.g hok.nm (hide hok.ask))
      clear hok hb0 hb2
      go_wp2_with (go_at_call 109; refine (specl00In_is _ _ _ _ (by assumption) _).mono ?_; rintro e2 w2 ⟨rfl, rfl⟩)
      refine HNW.out.mono ?_
      rintro e w3 ⟨q, A, c, rfl, hn⟩
      have HXS := hide (Xs.new (x := x) hn (by have := HBD.out; omega) HBD.out.2)
      have HB3 := hide (HB1.out.trans (hn.bel.mono HB1.out.size))
      clear hn HNW
      go_wp2_with fail
      go_ret2
      exact ⟨_, 0, rfl, E.out, HB3.out, fun _ => ⟨w1, q, A, c, rfl, HRF.out, HXS.out, HB1.out⟩⟩
  · have E := hide (show x.ser bud = a from by rw [E1.out, if_neg h0])
    have h00 : (a == 0) = false := by simpa using h0
    have H0 := hide h0
    clear h0 E1
    go_wp2_with fail
    go_ret2
    exact ⟨_, a, rfl, E.out, HB1.out.alloc HB1.out.size _, fun e => absurd e H0.out⟩
/-- A search for the first plan is not spent once it has found one. -/
theorem srch_excl {q : Q} (hq : q.first = true) (hlk : ∀ l s, (q.look l s).spent = s.spent) : ∀ (f : Nat) (l : List Int) (s : S), ended q s = false → ((srch q f l s).spent = true → ¬ 0 < (srch q f l s).count) := by
  have hend : ∀ {s : S}, ended q s = false → s.spent = false ∧ ¬ 0 < s.count := fun {s} h => by
    unfold ended at h
    rw [hq] at h
    cases hs : s.spent
    · rw [hs] at h; simp at h; exact ⟨rfl, by omega⟩
    · rw [hs] at h; simp at h
  intro f
  induction f with
  | zero => intro l s he h; rw [srch] at h; rw [(hend he).1] at h; cases h
  | succ f ih =>
    intro l s he
    by_cases hl : l.length = q.lim.length
    · rw [srch_full hl, hlk, (hend he).1]; intro h; cases h
    · rw [srch_goes hl]
      have key : ∀ (m k : Nat) (s : S), (s.spent = true → ¬ 0 < s.count) → ((goK q (srch q f) l m k s).spent = true → ¬ 0 < (goK q (srch q f) l m k s).count) := by
        intro m
        induction m with
        | zero => intro k s h; exact h
        | succ m ihm =>
          intro k s h
          cases ht : tried q (l ++ [(k : Int)])
          · rw [goK_not ht]; exact ihm (k + 1) s h
          · cases he : ended q s
            · by_cases h0 : s.left = 0
              · rw [goK_spent ht he h0]; intro _; exact (hend he).2
              · cases hlow : q.low (l ++ [(k : Int)])
                · rw [goK_go ht he h0 hlow]
                  exact ihm (k + 1) _ (ih _ _ he)
                · rw [goK_low ht he h0 hlow]; exact h
            · rw [goK_ended he]; exact h
      exact key _ 0 s (by rw [(hend he).1]; intro h; cases h)
theorem fin_excl (x : Cx) (bud : Int) : (x.fin false false bud).spent = true → ¬ 0 < (x.fin false false bud).count :=
  srch_excl (q := x.qx false false) rfl (fun _ _ => lookX_spent.1) _ _ _ rfl
set_option maxRecDepth 100000 in
set_option maxHeartbeats 1000000 in
theorem specCountPlans_x {x : Cx} {w : World} (bud : Int) (HI : Hid (x.In w)) :
    Calls Tryz.prog 25 #[.agg #[.slice x.Az x.zs.length x.cz, .slice x.Aw x.ws.length x.cw, .slice x.Ab x.bs.length x.cb], .agg #[.string x.nm, .slice x.A x.rs.length x.c], .agg #[.int .i64 x.t0, .int .i64 x.t1, .int .i64 x.t2, .int .i64 x.t3, .int .i64 x.t4, .int .i64 x.tol, .int .i64 x.most], .int .i64 bud] w fun e w' => e = .returned (two (cntP x.bare bud)) ∧ Below w.heap.size w w' := by
  have HB := hide (Bx.new HI.out)
  go_enter Tryz.func25, Tryz.ntmps25
  go_wp2_with fail
  generalize (((w.alloc (.cells #[.slice x.Az x.zs.length x.cz, .slice x.Aw x.ws.length x.cw, .slice x.Ab x.bs.length x.cb] 27)).alloc (.cells #[.string x.nm, .slice x.A x.rs.length x.c] 30)).alloc (.cells #[.int .i64 x.t0, .int .i64 x.t1, .int .i64 x.t2, .int .i64 x.t3, .int .i64 x.t4, .int .i64 x.tol, .int .i64 x.most] 34)) = w3 at *
  refine (specl10Begin bud (hide (HB.out.in_ HI.out)) HB.out.b.m HB.out.b.p HB.out.g).mono ?_
  rintro e w4 ⟨p, code, rfl, hc, hb4, hnew⟩
  have HC := hide hc
  have HB4 := hide (HB.out.b.bel.trans (hb4.mono HB.out.b.bel.size))
  have HNW := hide hnew
  clear hc hb4 hnew
  by_cases h0 : code = 0
  · subst h0
    obtain ⟨w0, q, A, c, rfl, hrf, hxs, hbw⟩ := HNW.out rfl
    have HRF := hide hrf
    have HXA := hide hxs.toAll
    obtain ⟨k0, k1, k2, k3, k4, k5, k6, k7, k8, k10, k11, k12, k13, k14, kf⟩ := hxs.cells
    have f7 := kf 7
    clear k0 k1 k2 k3 k4 k5 k6 k8 k10 k11 k12 k13 k14 kf
    have HBW := hide (HB.out.b.bel.trans (hbw.mono HB.out.b.bel.size))
    clear hrf hxs hbw HNW
    go_upto_region 5 with fail
    generalize w4.setCell ⟨q, 7, none⟩ (.bool true) = w5 at *
    clear k7 f7
    have HRUN := hide (runX_any HRF (x.zs.length + 1) w5 [] none 0 _ HXA.out (Pre.nil _) (by simp) rfl (fun h => nomatch h) (.inr (by have := HRF.out.ok.ask.z.len1; simp; omega)))
    go_wp2_with fail
    refine HRUN.out.mono ?_
    rintro e w6 ⟨sA, sc, rfl, hx6, _⟩
    obtain ⟨s, hs⟩ : ∃ s, s = srch (x.qx true false) (x.zs.length + 1) [] ⟨bud, false, 0, [], -1⟩ := ⟨_, rfl⟩
    rw [← hs] at hx6 ⊢
    have HS := hide (show x.fin true false bud = s from hs.symm)
    have HBE := hide (HBW.out.trans (hx6.bel.mono HBW.out.size))
    obtain ⟨k0, k1, k2, k3, k4, k5, k6, k7, k8, k10, k11, k12, k13, k14, kf⟩ := hx6.cells
    clear k0 k1 k2 k3 k4 k5 k6 k7 k8 k10 k12 k13 kf hs hx6 HRUN
    cases hsp : s.spent
    · rw [hsp] at k14
      have E := hide (show cntP x.bare bud = (s.count, 0) from by unfold cntP; rw [ser_bare, fin_bare, HC.out, HS.out, hsp]; rfl)
      go_wp2_with fail
      go_ret2
      exact ⟨ret_twoP E.out, HBE.out⟩
    · rw [hsp] at k14
      have E := hide (show cntP x.bare bud = (0, 5) from by unfold cntP; rw [ser_bare, fin_bare, HC.out, HS.out, hsp]; rfl)
      go_wp2_with fail
      go_ret2
      exact ⟨ret_twoP E.out, HBE.out⟩
  · have E := hide (show cntP x.bare bud = (0, code) from by unfold cntP; rw [ser_bare, HC.out, if_neg h0])
    have h1 : (code == 0) = false := by simpa using h0
    clear h0 HNW
    go_wp2_with fail
    go_ret2
    exact ⟨ret_twoP E.out, HB4.out⟩
set_option maxRecDepth 100000 in
set_option maxHeartbeats 1000000 in
theorem specFirstPlan_x {x : Cx} {w : World} (bud : Int) (HI : Hid (x.In w)) :
    Calls Tryz.prog 37 #[.agg #[.slice x.Az x.zs.length x.cz, .slice x.Aw x.ws.length x.cw, .slice x.Ab x.bs.length x.cb], .agg #[.string x.nm, .slice x.A x.rs.length x.c], .agg #[.int .i64 x.t0, .int .i64 x.t1, .int .i64 x.t2, .int .i64 x.t3, .int .i64 x.t4, .int .i64 x.tol, .int .i64 x.most], .int .i64 bud] w (PlRes (firstP x.bare bud) w) := by
  have HB := hide (Bx.new HI.out)
  go_enter Tryz.func37, Tryz.ntmps37
  go_wp2_with fail
  generalize (((w.alloc (.cells #[.slice x.Az x.zs.length x.cz, .slice x.Aw x.ws.length x.cw, .slice x.Ab x.bs.length x.cb] 27)).alloc (.cells #[.string x.nm, .slice x.A x.rs.length x.c] 30)).alloc (.cells #[.int .i64 x.t0, .int .i64 x.t1, .int .i64 x.t2, .int .i64 x.t3, .int .i64 x.t4, .int .i64 x.tol, .int .i64 x.most] 34)) = w3 at *
  refine (specl10Begin bud (hide (HB.out.in_ HI.out)) HB.out.b.m HB.out.b.p HB.out.g).mono ?_
  rintro e w4 ⟨p, code, rfl, hc, hb4, hnew⟩
  have HC := hide hc
  have HB4 := hide (HB.out.b.bel.trans (hb4.mono HB.out.b.bel.size))
  have HNW := hide hnew
  clear hc hb4 hnew
  by_cases h0 : code = 0
  · subst h0
    obtain ⟨w0, q, A, c, rfl, hrf, hxs, hbw⟩ := HNW.out rfl
    have HRF := hide hrf
    have HXA := hide hxs
    have HBW := hide (HB.out.b.bel.trans (hbw.mono HB.out.b.bel.size))
    clear hrf hxs hbw HNW
    have HRUN := hide (runX_any HRF (x.zs.length + 1) w4 [] none 0 _ HXA.out (Pre.nil _) (by simp) rfl (fun _ => rfl) (.inr (by have := HRF.out.ok.ask.z.len1; simp; omega)))
    go_wp2_with fail
    refine HRUN.out.mono ?_
    rintro e w6 ⟨sA, sc, rfl, hx6, _⟩
    obtain ⟨s, hs⟩ : ∃ s, s = srch (x.qx false false) (x.zs.length + 1) [] ⟨bud, false, 0, [], -1⟩ := ⟨_, rfl⟩
    rw [← hs] at hx6 ⊢
    have HS := hide (show x.fin false false bud = s from hs.symm)
    have HEX := hide (show s.spent = true → ¬ 0 < s.count from by rw [hs]; exact fin_excl x bud)
    have HBE := hide (HBW.out.trans (hx6.bel.mono HBW.out.size))
    obtain ⟨k0, k1, k2, k3, k4, k5, k6, k7, k8, k10, k11, k12, k13, k14, kf⟩ := hx6.cells
    obtain ⟨bA, bc, k9, ho9⟩ := hx6.best rfl
    have HO9 := hide ho9
    have hinv := hx6.inv
    have hfl : s.found.length ≤ 8 := by
      rcases hinv.fnd with e | e
      · rw [e]; simp
      · rw [e.2, x.lim_length]; exact HRF.out.ok.ask.z.len8
    have hc0 := hinv.c0
    clear k0 k1 k2 k3 k4 k5 k6 k7 k8 k10 k11 k12 k13 kf hs hx6 HRUN ho9 hinv
    by_cases hcp : 0 < s.count
    · have hsp : s.spent = false := by
        cases h : s.spent
        · rfl
        · exact absurd hcp (HEX.out h)
      have E := hide (show firstP x.bare bud = (cutsB s.found, 0) from by unfold firstP plnd; rw [ser_bare, fin_bare, HC.out, HS.out, hsp, if_neg (show ¬ s.count = 0 by omega)]; rfl)
      have hdb : ((!false && !false) && decide (0 < s.count)) = true := by simp [hcp]
      rw [hdb]
      have HCT := hide (specl10Cuts _ bA bc s.found w6 HO9.out (by omega))
      have HL := hide (show (cutsB s.found).length ≤ 1048576 from by have := cutsTo_len s.found s.found.length; unfold cutsB; omega)
      clear hsp hcp hdb k14 hfl
      go_wp2_with fail
      refine HCT.out.mono ?_
      rintro e w7 ⟨A7, c7, rfl, ho7, hb7⟩
      have HO7 := hide (ho7.mono (B' := w.heap.size) HBE.out.size)
      have HB7 := hide (HBE.out.trans (hb7.mono HBE.out.size))
      clear ho7 hb7
      go_wp2_with fail
      go_ret2
      exact ⟨A7, c7, _, 0, rfl, E.out, HL.out, HO7.out, HB7.out⟩
    · have hdb : ((!false && !false) && decide (0 < s.count)) = false := by simp [hcp]
      rw [hdb]
      have hz : s.count = 0 := by omega
      have HZ := hide hz
      clear hcp hdb hz hc0 k9
      cases hsp : s.spent
      · rw [hsp] at k14
        have E := hide (show firstP x.bare bud = ([], 3) from by unfold firstP plnd; rw [ser_bare, fin_bare, HC.out, HS.out, hsp, HZ.out]; rfl)
        go_wp2_with fail
        go_ret2
        exact plRes_nil E.out HBE.out
      · rw [hsp] at k14
        have E := hide (show firstP x.bare bud = ([], 5) from by unfold firstP plnd; rw [ser_bare, fin_bare, HC.out, HS.out, hsp]; rfl)
        go_wp2_with fail
        go_ret2
        exact plRes_nil E.out HBE.out
  · have E := hide (show firstP x.bare bud = ([], code) from by unfold firstP; rw [ser_bare, HC.out, if_neg h0])
    have h1 : (code == 0) = false := by simpa using h0
    clear h0 HNW
    go_wp2_with fail
    go_ret2
    exact plRes_nil E.out HB4.out
set_option maxRecDepth 100000 in
set_option maxHeartbeats 1000000 in
theorem specClosestPlan_x {x : Cx} {w : World} (bud : Int) (HI : Hid (x.In w)) :
    Calls Tryz.prog 31 #[.agg #[.slice x.Az x.zs.length x.cz, .slice x.Aw x.ws.length x.cw, .slice x.Ab x.bs.length x.cb], .agg #[.string x.nm, .slice x.A x.rs.length x.c], .agg #[.int .i64 x.t0, .int .i64 x.t1, .int .i64 x.t2, .int .i64 x.t3, .int .i64 x.t4, .int .i64 x.tol, .int .i64 x.most], .int .i64 bud] w (ClRes (closeP x.bare bud) w) := by
  have HB := hide (Bx.new HI.out)
  go_enter Tryz.func31, Tryz.ntmps31
  go_wp2_with fail
  generalize (((w.alloc (.cells #[.slice x.Az x.zs.length x.cz, .slice x.Aw x.ws.length x.cw, .slice x.Ab x.bs.length x.cb] 27)).alloc (.cells #[.string x.nm, .slice x.A x.rs.length x.c] 30)).alloc (.cells #[.int .i64 x.t0, .int .i64 x.t1, .int .i64 x.t2, .int .i64 x.t3, .int .i64 x.t4, .int .i64 x.tol, .int .i64 x.most] 34)) = w3 at *
  refine (specl10Begin bud (hide (HB.out.in_ HI.out)) HB.out.b.m HB.out.b.p HB.out.g).mono ?_
  rintro e w4 ⟨p, code, rfl, hc, hb4, hnew⟩
  have HC := hide hc
  have HB4 := hide (HB.out.b.bel.trans (hb4.mono HB.out.b.bel.size))
  have HNW := hide hnew
  clear hc hb4 hnew
  by_cases h0 : code = 0
  · subst h0
    obtain ⟨w0, q, A, c, rfl, hrf, hxs, hbw⟩ := HNW.out rfl
    have HRF := hide hrf
    have HXA := hide hxs.toClo
    obtain ⟨k0, k1, k2, k3, k4, k5, k6, k7, k8, k10, k11, k12, k13, k14, kf⟩ := hxs.cells
    have f8 := kf 8
    clear k0 k1 k2 k3 k4 k5 k6 k7 k10 k11 k12 k13 k14 kf
    have HBW := hide (HB.out.b.bel.trans (hbw.mono HB.out.b.bel.size))
    clear hrf hxs hbw HNW
    go_upto_region 5 with fail
    generalize w4.setCell ⟨q, 8, none⟩ (.bool true) = w5 at *
    clear k8 f8
    have HRUN := hide (runX_any HRF (x.zs.length + 1) w5 [] none 0 _ HXA.out (Pre.nil _) (by simp) rfl (fun h => nomatch h) (.inr (by have := HRF.out.ok.ask.z.len1; simp; omega)))
    go_wp2_with fail
    refine HRUN.out.mono ?_
    rintro e w6 ⟨sA, sc, rfl, hx6, _⟩
    obtain ⟨s, hs⟩ : ∃ s, s = srch (x.qx false true) (x.zs.length + 1) [] ⟨bud, false, 0, [], -1⟩ := ⟨_, rfl⟩
    rw [← hs] at hx6 ⊢
    have HS := hide (show x.fin false true bud = s from hs.symm)
    have HX6 := hide hx6
    have HBE := hide (HBW.out.trans (hx6.bel.mono HBW.out.size))
    obtain ⟨k0, k1, k2, k3, k4, k5, k6, k7, k8, k10, k11, k12, k13, k14, kf⟩ := hx6.cells
    clear k0 k1 k2 k3 k4 k5 k6 k7 k8 k11 k12 k13 kf hs hx6 HRUN
    cases hsp : s.spent
    · rw [hsp] at k14
      by_cases hle : s.least < 0
      · have E := hide (show closeP x.bare bud = ([], 0, 3) from by unfold closeP; rw [ser_bare, fin_bare, HC.out, HS.out, hsp, if_pos hle]; rfl)
        go_wp2_with fail
        go_ret3
        exact clRes_nil E.out HBE.out
      · have E := hide (show closeP x.bare bud = (cutsB s.found, s.least, 0) from by unfold closeP; rw [ser_bare, fin_bare, HC.out, HS.out, hsp, if_neg hle]; rfl)
        obtain ⟨bA, bc, k9, ho9⟩ := HX6.out.best rfl
        have HO9 := hide ho9
        have hfl : s.found.length ≤ 8 := by
          rcases HX6.out.inv.fnd with e | e
          · rw [e]; simp
          · rw [e.2, x.lim_length]; exact HRF.out.ok.ask.z.len8
        have HFL := hide hfl
        have HL := hide (show (cutsB s.found).length ≤ 1048576 from by have := cutsTo_len s.found s.found.length; unfold cutsB; omega)
        have P10 : ∀ w', Below w6.heap.size w6 w' → w'.cell? ⟨q, 10, none⟩ = some (.int .i64 s.least) := fun w' hb => (hb.cell (p := ⟨q, 10, none⟩) HX6.out.lt).trans k10
        have P9 : ∀ w', Below w6.heap.size w6 w' → w'.cell? ⟨q, 9, none⟩ = some (.slice bA s.found.length bc) := fun w' hb => (hb.cell (p := ⟨q, 9, none⟩) HX6.out.lt).trans k9
        have HCT := hide (fun W (hb : Below w6.heap.size w6 W) => specl10Cuts _ bA bc s.found W (HO9.out.below hb) (by have := HFL.out; omega))
        clear hsp ho9 hfl
        go_wp2_with fail
        refine wp_region_noPanic ?_
        refine wp_region_held_drew (S := (fun w' => Below w6.heap.size w6 w')) (by kernel_rfl) ((Below.refl _ _).drew) (fun hHeld => ?_)
        refine wpAnyH_take (i := 0) (oi := ?o0_1) (v := ?v0_1) ?hi0_1 ?hs0_1 ?hf0_1 ?hr0_1 (fun _ _ _ h => h) ?hy0_1 (by assumption) ?hh0_1
        case hi0_1 => ((simp only [List.getElem?_toArray, List.getElem?_cons_zero]); rfl)
        case hs0_1 => kernel_rfl
        case hf0_1 => kernel_rfl
        case hr0_1 => kernel_rfl
        case hy0_1 => exact Or.inl ⟨by rfl, by (intro wq hSw; (try dsimp only at hSw); go_simp; (try with_reducible rfl))⟩
        try simp only [Act.put, List.setIfInBounds_toArray, List.set_cons_zero, List.set_cons_succ]
        refine wpAnyH_take (i := 1) (oi := ?o1_2) (v := ?v1_2) ?hi1_2 ?hs1_2 ?hf1_2 ?hr1_2 (fun _ _ _ h => h) ?hy1_2 (by assumption) ?hh1_2
        case hi1_2 => ((simp only [List.getElem?_toArray, List.getElem?_cons_succ, List.getElem?_cons_zero]); rfl)
        case hs1_2 => kernel_rfl
        case hf1_2 => kernel_rfl
        case hr1_2 => kernel_rfl
        case hy1_2 => exact Or.inl ⟨by rfl, by (intro wq hSw; (try dsimp only at hSw); go_simp; (try with_reducible rfl))⟩
        try simp only [Act.put, List.setIfInBounds_toArray, List.set_cons_zero, List.set_cons_succ]
        refine wpAnyH_take (i := 2) (oi := ?o2_3) (v := ?v2_3) ?hi2_3 ?hs2_3 ?hf2_3 ?hr2_3 (fun _ _ _ h => h) ?hy2_3 (by assumption) ?hh2_3
        case hi2_3 => ((simp only [List.getElem?_toArray, List.getElem?_cons_succ, List.getElem?_cons_zero]); rfl)
        case hs2_3 => kernel_rfl
        case hf2_3 => kernel_rfl
        case hr2_3 => kernel_rfl
        case hy2_3 => exact Or.inl ⟨by rfl, by (intro wq hSw; (try dsimp only at hSw); go_simp; (try with_reducible rfl))⟩
        try simp only [Act.put, List.setIfInBounds_toArray, List.set_cons_zero, List.set_cons_succ]
        refine wpAnyH_take (i := 3) (oi := ?o3_4) (v := ?v3_4) ?hi3_4 ?hs3_4 ?hf3_4 ?hr3_4 (fun _ _ _ h => h) ?hy3_4 (by assumption) ?hh3_4
        case hi3_4 => ((simp only [List.getElem?_toArray, List.getElem?_cons_succ, List.getElem?_cons_zero]); rfl)
        case hs3_4 => kernel_rfl
        case hf3_4 => kernel_rfl
        case hr3_4 => kernel_rfl
        case hy3_4 => exact Or.inl ⟨by rfl, by (intro wq hSw; (try dsimp only at hSw); go_simp; (try with_reducible rfl))⟩
        try simp only [Act.put, List.setIfInBounds_toArray, List.set_cons_zero, List.set_cons_succ]
        refine wpAnyH_take (i := 5) (oi := ?o5_5) (v := ?v5_5) ?hi5_5 ?hs5_5 ?hf5_5 ?hr5_5 (fun _ _ _ h => h) ?hy5_5 (by assumption) ?hh5_5
        case hi5_5 => ((simp only [List.getElem?_toArray, List.getElem?_cons_succ, List.getElem?_cons_zero]); rfl)
        case hs5_5 => kernel_rfl
        case hf5_5 => kernel_rfl
        case hr5_5 => kernel_rfl
        case hy5_5 => exact Or.inl ⟨by rfl, by (intro wq hSw; (try dsimp only at hSw); go_simp; (try with_reducible rfl))⟩
        try simp only [Act.put, List.setIfInBounds_toArray, List.set_cons_zero, List.set_cons_succ]
        refine wpAnyH_take (i := 6) (oi := ?o6_6) (v := ?v6_6) ?hi6_6 ?hs6_6 ?hf6_6 ?hr6_6 (fun _ _ _ h => h) ?hy6_6 (by assumption) ?hh6_6
        case hi6_6 => ((simp only [List.getElem?_toArray, List.getElem?_cons_succ, List.getElem?_cons_zero]); rfl)
        case hs6_6 => kernel_rfl
        case hf6_6 => kernel_rfl
        case hr6_6 => kernel_rfl
        case hy6_6 => exact Or.inl ⟨by rfl, by (intro wq hSw; (try dsimp only at hSw); go_simp; (try with_reducible rfl))⟩
        try simp only [Act.put, List.setIfInBounds_toArray, List.set_cons_zero, List.set_cons_succ]
        refine wpAnyH_take (i := 7) (oi := ?o7_7) (v := ?v7_7) ?hi7_7 ?hs7_7 ?hf7_7 ?hr7_7 (fun _ _ _ h => h) ?hy7_7 (by assumption) ?hh7_7
        case hi7_7 => ((simp only [List.getElem?_toArray, List.getElem?_cons_succ, List.getElem?_cons_zero]); rfl)
        case hs7_7 => kernel_rfl
        case hf7_7 => kernel_rfl
        case hr7_7 => kernel_rfl
        case hy7_7 => exact Or.inl ⟨by rfl, by (intro wq hSw; (try dsimp only at hSw); go_simp; (try with_reducible rfl))⟩
        try simp only [Act.put, List.setIfInBounds_toArray, List.set_cons_zero, List.set_cons_succ]
        refine wpAnyH_take (i := 8) (oi := ?o8_8) (v := ?v8_8) ?hi8_8 ?hs8_8 ?hf8_8 ?hr8_8 (fun _ _ _ h => h) ?hy8_8 (by assumption) ?hh8_8
        case hi8_8 => ((simp only [List.getElem?_toArray, List.getElem?_cons_succ, List.getElem?_cons_zero]); rfl)
        case hs8_8 => kernel_rfl
        case hf8_8 => kernel_rfl
        case hr8_8 => kernel_rfl
        case hy8_8 => exact Or.inl ⟨by rfl, by (intro wq hSw; (try dsimp only at hSw); go_simp; (try with_reducible rfl))⟩
        try simp only [Act.put, List.setIfInBounds_toArray, List.set_cons_zero, List.set_cons_succ]
        refine wpAnyH_ready (rs := [4]) (by kernel_rfl) (by simp) ?_
        refine AllReadyH.cons (o := ?o4_9) ?hi4_9 (fun K hK => ?hh4_9) AllReadyH.nil
        case hi4_9 => ((simp only [List.getElem?_toArray, List.getElem?_cons_succ, List.getElem?_cons_zero]); rfl)
        go_simp
        (go_at_call 78; refine (HCT.out _ hHeld).mono ?_; rintro e w7 ⟨A7, c7, rfl, ho7, hb7⟩; have HH := hide hHeld; have HO7 := hide (ho7.mono (B' := w.heap.size) (Nat.le_trans HBE.out.size HH.out.size)); have HB7 := hide (HH.out.trans (hb7.mono HH.out.size)); clear ho7 hb7)
        (try dsimp only)
        refine hK.out _ _ (HB7.out) (fun hHeld2 => ?_)
        clear hK K hHeld
        have hHeld := hHeld2
        clear hHeld2
        try simp only [Act.put, List.setIfInBounds_toArray, List.set_cons_zero, List.set_cons_succ]
        refine wpAnyH_take (i := 9) (oi := ?o9_10) (v := ?v9_10) ?hi9_10 ?hs9_10 ?hf9_10 ?hr9_10 (fun _ _ _ h => h) ?hy9_10 (by assumption) ?hh9_10
        case hi9_10 => ((simp only [List.getElem?_toArray, List.getElem?_cons_succ, List.getElem?_cons_zero]); rfl)
        case hs9_10 => kernel_rfl
        case hf9_10 => kernel_rfl
        case hr9_10 => kernel_rfl
        case hy9_10 => exact Or.inl ⟨by rfl, by (intro wq hSw; (try dsimp only at hSw); go_simp; (try with_reducible rfl))⟩
        try simp only [Act.put, List.setIfInBounds_toArray, List.set_cons_zero, List.set_cons_succ]
        refine wpAnyH_take (i := 10) (oi := ?o10_11) (v := ?v10_11) ?hi10_11 ?hs10_11 ?hf10_11 ?hr10_11 (fun _ _ _ h => h) ?hy10_11 (by assumption) ?hh10_11
        case hi10_11 => ((simp only [List.getElem?_toArray, List.getElem?_cons_succ, List.getElem?_cons_zero]); rfl)
        case hs10_11 => kernel_rfl
        case hf10_11 => kernel_rfl
        case hr10_11 => kernel_rfl
        case hy10_11 => exact Or.inl ⟨by rfl, by (intro wq hSw; (try dsimp only at hSw); go_simp; (try with_reducible rfl))⟩
        try simp only [Act.put, List.setIfInBounds_toArray, List.set_cons_zero, List.set_cons_succ]
        refine wpAnyH_take (i := 11) (oi := ?o11_12) (v := ?v11_12) ?hi11_12 ?hs11_12 ?hf11_12 ?hr11_12 (fun _ _ _ h => h) ?hy11_12 (by assumption) ?hh11_12
        case hi11_12 => ((simp only [List.getElem?_toArray, List.getElem?_cons_succ, List.getElem?_cons_zero]); rfl)
        case hs11_12 => kernel_rfl
        case hf11_12 => kernel_rfl
        case hr11_12 => kernel_rfl
        case hy11_12 => exact Or.inl ⟨by rfl, by (intro wq hSw; (try dsimp only at hSw); go_simp; (try with_reducible rfl))⟩
        try simp only [Act.put, List.setIfInBounds_toArray, List.set_cons_zero, List.set_cons_succ]
        refine wpAnyH_done (by kernel_rfl) ?_ _
        refine NoPanic.normal ?_
        go_wp2_with fail
        go_ret3
        exact ⟨A7, c7, _, s.least, 0, rfl, E.out, HL.out, HO7.out, HBE.out.trans (hHeld.mono HBE.out.size)⟩
    · rw [hsp] at k14
      have E := hide (show closeP x.bare bud = ([], 0, 5) from by unfold closeP; rw [ser_bare, fin_bare, HC.out, HS.out, hsp]; rfl)
      go_wp2_with fail
      go_ret3
      exact clRes_nil E.out HBE.out
  · have E := hide (show closeP x.bare bud = ([], 0, code) from by unfold closeP; rw [ser_bare, HC.out, if_neg h0])
    have h1 : (code == 0) = false := by simpa using h0
    clear h0 HNW
    go_wp2_with fail
    go_ret3
    exact clRes_nil E.out HB4.out
end Go.Proofs.YtnefgafmnpblpaaGreat
