/- Contracts: the program's CountPlans, FirstPlan and ClosestPlan. -/
import Derived.Test.YtnefgafmnpblpaaGreatPnI8
namespace Go.Proofs.YtnefgafmnpblpaaGreat
open Go.RowKit Pn

/-- The boxes of the arguments in a world. -/
structure Bx (x : Cx) (w W : World) : Prop where
  b : Boxes2 w W w.heap.size x.Az x.cz x.Aw x.cw x.Ab x.cb x.zs x.ws x.bs x.nm x.A x.c x.rs
  g : GoalAt W (w.heap.size + 2) 0 [x.t0, x.t1, x.t2, x.t3, x.t4] x.tol x.most
theorem Bx.below {x : Cx} {w W W' : World} (h : Bx x w W) (hb : Below W.heap.size W W') : Bx x w W' := ⟨h.b.below hb, h.g.below hb⟩
theorem Bx.new {x : Cx} {w : World} (h : x.In w) : Bx x w (((w.alloc (.cells #[.slice x.Az x.zs.length x.cz, .slice x.Aw x.ws.length x.cw, .slice x.Ab x.bs.length x.cb] 27)).alloc (.cells #[.string x.nm, .slice x.A x.rs.length x.c] 30)).alloc (.cells #[.int .i64 x.t0, .int .i64 x.t1, .int .i64 x.t2, .int .i64 x.t3, .int .i64 x.t4, .int .i64 x.tol, .int .i64 x.most] 34)) := by
  have hB := boxes3 (cz := x.cz) (cw := x.cw) (cb := x.cb) (nm := x.nm) (c := x.c) (t0 := x.t0) (t1 := x.t1) (t2 := x.t2) (t3 := x.t3) (t4 := x.t4) (tol := x.tol) (most := x.most) h.md h.rg
  exact ⟨hB.1, hB.2⟩
theorem Bx.in_ {x : Cx} {w W : World} (h : Bx x w W) (hi : x.In w) : x.In W := hi.below h.b.bel
theorem Bx.cells {x : Cx} {w W : World} (h : Bx x w W) : W.cell? ⟨w.heap.size, 0, none⟩ = some (.slice x.Az x.zs.length x.cz) ∧ W.cell? ⟨w.heap.size, 1, none⟩ = some (.slice x.Aw x.ws.length x.cw) ∧ W.cell? ⟨w.heap.size, 2, none⟩ = some (.slice x.Ab x.bs.length x.cb) ∧ W.cell? ⟨w.heap.size + 1, 0, none⟩ = some (.string x.nm) ∧ W.cell? ⟨w.heap.size + 1, 1, none⟩ = some (.slice x.A x.rs.length x.c) ∧ W.cell? ⟨w.heap.size + 1 + 1, 0, none⟩ = some (.int .i64 x.t0) ∧ W.cell? ⟨w.heap.size + 1 + 1, 1, none⟩ = some (.int .i64 x.t1) ∧ W.cell? ⟨w.heap.size + 1 + 1, 2, none⟩ = some (.int .i64 x.t2) ∧ W.cell? ⟨w.heap.size + 1 + 1, 3, none⟩ = some (.int .i64 x.t3) ∧ W.cell? ⟨w.heap.size + 1 + 1, 4, none⟩ = some (.int .i64 x.t4) ∧ W.cell? ⟨w.heap.size + 1 + 1, 5, none⟩ = some (.int .i64 x.tol) ∧ W.cell? ⟨w.heap.size + 1 + 1, 6, none⟩ = some (.int .i64 x.most) := by
  refine ⟨h.b.m.c0, h.b.m.c1, h.b.m.c2, h.b.p.c0, h.b.p.c1, ?_, ?_, ?_, ?_, ?_, ?_, ?_⟩
  · simpa using h.g.ct 0 (by omega)
  · simpa using h.g.ct 1 (by omega)
  · simpa using h.g.ct 2 (by omega)
  · simpa using h.g.ct 3 (by omega)
  · simpa using h.g.ct 4 (by omega)
  · simpa using h.g.c5
  · simpa using h.g.c6
theorem CuI.toFirst {x : Cx} {w0 w : World} {b gl lc gs sc : Nat} {sum : Int} {ss : List Int} {s : S} (h : CuI x w0 b gl lc gs sc sum false w ss s) : CuI x w0 b gl lc gs sc sum true (w.setCell ⟨b, 17, none⟩ (.bool true)) ss s := by
  obtain ⟨fA, fc, h1, h2⟩ := h.st
  have hg := grown_set (grown_refl w (some b)) 17 (.bool true)
  have hne := h.ne
  exact ⟨⟨fA, fc, heap_set' _ h1, own_far' h2 hg⟩, own_ne h.lim (by omega) _ _, own_ne h.row (by omega) _ _, h.ne, h.inv, h.bel.setCell h.hb _, h.hb⟩
theorem ret_twoP {a b : Int} {p : Int × Int} (h : p = (a, b)) : Ending.returned (.tuple #[.int .i64 a, .int .i64 b]) = .returned (two p) := by subst h; rfl
set_option maxRecDepth 100000 in
set_option maxHeartbeats 1000000 in
theorem implCountPlans_x {x : Cx} {w : World} (bud : Int) (HI : Hid (x.In w)) :
    Calls Tryz.prog 17 #[.agg #[.slice x.Az x.zs.length x.cz, .slice x.Aw x.ws.length x.cw, .slice x.Ab x.bs.length x.cb], .agg #[.string x.nm, .slice x.A x.rs.length x.c], .agg #[.int .i64 x.t0, .int .i64 x.t1, .int .i64 x.t2, .int .i64 x.t3, .int .i64 x.t4, .int .i64 x.tol, .int .i64 x.most], .int .i64 bud] w fun e w' => e = .returned (two (cntP x.bare bud)) ∧ Below w.heap.size w w' := by
  have HB := hide (Bx.new HI.out)
  go_enter Tryz.func17, Tryz.ntmps17
  go_wp2_with fail
  generalize (((w.alloc (.cells #[.slice x.Az x.zs.length x.cz, .slice x.Aw x.ws.length x.cw, .slice x.Ab x.bs.length x.cb] 27)).alloc (.cells #[.string x.nm, .slice x.A x.rs.length x.c] 30)).alloc (.cells #[.int .i64 x.t0, .int .i64 x.t1, .int .i64 x.t2, .int .i64 x.t3, .int .i64 x.t4, .int .i64 x.tol, .int .i64 x.most] 34)) = w3 at *
  have HI3 := hide (HB.out.in_ HI.out)
  refine (implsearchable x.Az x.Aw x.Ab x.cz x.cw x.cb x.zs x.ws x.bs x.nm x.A x.c x.rs x.t0 x.t1 x.t2 x.t3 x.t4 x.tol x.most bud w3 HI3.out.md (hide HI3.out.sz) HI3.out.rg HI3.out.rn HI3.out.nm).mono ?_
  rintro e w4 ⟨rfl, hb4⟩
  have HB4 := hide (HB.out.below hb4)
  have HI4 := hide (HB4.out.in_ HI.out)
  clear hb4 HB HI3
  obtain ⟨code, hc⟩ : ∃ code, code = serB x.zs x.ws x.bs x.nm x.rs [x.t0, x.t1, x.t2, x.t3, x.t4] x.tol x.most bud := ⟨_, rfl⟩
  have HC := hide (show x.ser bud = code from hc.symm)
  rw [← hc]
  clear hc
  by_cases h0 : code = 0
  · subst h0
    obtain ⟨hok, hb0, hb1⟩ := HI4.out.ok HC.out
    have HX := hide hok
    have HN := hide (newCutter_is bud HX (by omega) (by omega))
    obtain ⟨c0, c1, c2, p0, p1, g0, g1, g2, g3, g4, g5, g6⟩ := HB4.out.cells
    clear hok
    go_wp2_with fail
    refine HN.out.mono ?_
    rintro e w5 ⟨b, gl, lc, gs, sc, rfl, hcu, _⟩
    have HCU := hide hcu
    clear hcu HN c0 c1 c2 p0 p1 g0 g1 g2 g3 g4 g5 g6
    go_wp2_with fail
    refine (search_all HX HCU.out).mono ?_
    rintro e w6 ⟨rfl, hcu⟩
    rw [q_qx] at hcu
    obtain ⟨s, hs⟩ : ∃ s, s = srch (x.qx (!false) false) (x.zs.length + 1) [] ⟨bud, false, 0, [], -1⟩ := ⟨_, rfl⟩
    rw [← hs] at hcu
    have HS := hide (show x.fin true false bud = s from hs.symm)
    have HCU2 := hide hcu
    obtain ⟨k0, k1, k2, k3, k4, k5, k6, k7, k8, k9, k10, k11, k12, k13, k14, k15, k16, k17, k18, kf⟩ := hcu.all
    clear hcu hs HCU k0 k2 k3 k4 k5 k6 k7 k8 k9 k10 k11 k12 k13 k14 k15 k16 k17 kf
    have HBE := hide (HB4.out.b.bel.trans (HCU2.out.bel.mono HB4.out.b.bel.size))
    cases hsp : s.spent
    · rw [hsp] at k1
      have E := hide (show cntP x.bare bud = (s.count, 0) from by unfold cntP; rw [ser_bare, fin_bare, HC.out, HS.out, hsp]; rfl)
      go_wp2_with fail
      go_ret2
      exact ⟨ret_twoP E.out, HBE.out⟩
    · rw [hsp] at k1
      have E := hide (show cntP x.bare bud = (0, 5) from by unfold cntP; rw [ser_bare, fin_bare, HC.out, HS.out, hsp]; rfl)
      go_wp2_with fail
      go_ret2
      exact ⟨ret_twoP E.out, HBE.out⟩
  · have E := hide (show cntP x.bare bud = (0, code) from by unfold cntP; rw [ser_bare, HC.out, if_neg h0])
    have h1 : (code == 0) = false := by simpa using h0
    clear h0
    go_wp2_with fail
    go_ret2
    exact ⟨ret_twoP E.out, HB4.out.b.bel⟩
set_option maxRecDepth 100000 in
set_option maxHeartbeats 1000000 in
theorem implFirstPlan_x {x : Cx} {w : World} (bud : Int) (HI : Hid (x.In w)) :
    Calls Tryz.prog 11 #[.agg #[.slice x.Az x.zs.length x.cz, .slice x.Aw x.ws.length x.cw, .slice x.Ab x.bs.length x.cb], .agg #[.string x.nm, .slice x.A x.rs.length x.c], .agg #[.int .i64 x.t0, .int .i64 x.t1, .int .i64 x.t2, .int .i64 x.t3, .int .i64 x.t4, .int .i64 x.tol, .int .i64 x.most], .int .i64 bud] w (PlRes (firstP x.bare bud) w) := by
  have HB := hide (Bx.new HI.out)
  go_enter Tryz.func11, Tryz.ntmps11
  go_wp2_with fail
  generalize (((w.alloc (.cells #[.slice x.Az x.zs.length x.cz, .slice x.Aw x.ws.length x.cw, .slice x.Ab x.bs.length x.cb] 27)).alloc (.cells #[.string x.nm, .slice x.A x.rs.length x.c] 30)).alloc (.cells #[.int .i64 x.t0, .int .i64 x.t1, .int .i64 x.t2, .int .i64 x.t3, .int .i64 x.t4, .int .i64 x.tol, .int .i64 x.most] 34)) = w3 at *
  have HI3 := hide (HB.out.in_ HI.out)
  refine (implsearchable x.Az x.Aw x.Ab x.cz x.cw x.cb x.zs x.ws x.bs x.nm x.A x.c x.rs x.t0 x.t1 x.t2 x.t3 x.t4 x.tol x.most bud w3 HI3.out.md (hide HI3.out.sz) HI3.out.rg HI3.out.rn HI3.out.nm).mono ?_
  rintro e w4 ⟨rfl, hb4⟩
  have HB4 := hide (HB.out.below hb4)
  have HI4 := hide (HB4.out.in_ HI.out)
  clear hb4 HB HI3
  obtain ⟨code, hc⟩ : ∃ code, code = serB x.zs x.ws x.bs x.nm x.rs [x.t0, x.t1, x.t2, x.t3, x.t4] x.tol x.most bud := ⟨_, rfl⟩
  have HC := hide (show x.ser bud = code from hc.symm)
  rw [← hc]
  clear hc
  by_cases h0 : code = 0
  · subst h0
    obtain ⟨hok, hb0, hb1⟩ := HI4.out.ok HC.out
    have HX := hide hok
    have HN := hide (newCutter_is bud HX (by omega) (by omega))
    obtain ⟨c0, c1, c2, p0, p1, g0, g1, g2, g3, g4, g5, g6⟩ := HB4.out.cells
    clear hok
    go_wp2_with fail
    refine HN.out.mono ?_
    rintro e w5 ⟨b, gl, lc, gs, sc, rfl, hcu, _⟩
    have HCU := hide hcu.toFirst
    obtain ⟨k0, k1, k2, k3, k4, k5, k6, k7, k8, k9, k10, k11, k12, k13, k14, k15, k16, k17, k18, kf⟩ := hcu.all
    have f17 := kf 17
    clear k0 k1 k2 k3 k4 k5 k6 k7 k8 k9 k10 k11 k12 k13 k14 k15 k16 k18 kf
    clear hcu HN c0 c1 c2 p0 p1 g0 g1 g2 g3 g4 g5 g6
    go_upto_region 6 with fail
    generalize w5.setCell ⟨b, 17, none⟩ (.bool true) = w5' at *
    clear k17 f17
    go_wp2_with fail
    refine (search_all HX HCU.out).mono ?_
    rintro e w6 ⟨rfl, hcu⟩
    rw [q_qx] at hcu
    obtain ⟨s, hs⟩ : ∃ s, s = srch (x.qx (!true) false) (x.zs.length + 1) [] ⟨bud, false, 0, [], -1⟩ := ⟨_, rfl⟩
    rw [← hs] at hcu
    have HS := hide (show x.fin false false bud = s from hs.symm)
    have HCU2 := hide hcu
    clear hcu hs HCU
    have HBE := hide (HB4.out.b.bel.trans (HCU2.out.bel.mono HB4.out.b.bel.size))
    go_wp2_with fail
    refine (planned_is HCU2 HX.out.ask.z.len8).mono ?_
    rintro e w7 ⟨A7, c7, xs, code, rfl, hp, hl, ho, hb7⟩
    have E := hide (show firstP x.bare bud = (xs, code) from by unfold firstP; rw [ser_bare, fin_bare, HC.out, HS.out, hp]; rfl)
    have HO := hide (ho.mono (B' := w.heap.size) HBE.out.size)
    have HB7 := hide (HBE.out.trans (hb7.mono HBE.out.size))
    clear ho hb7 hp
    go_wp2_with fail
    go_ret2
    exact ⟨A7, c7, xs, code, rfl, E.out, hl, HO.out, HB7.out⟩
  · have E := hide (show firstP x.bare bud = ([], code) from by unfold firstP; rw [ser_bare, HC.out, if_neg h0])
    have h1 : (code == 0) = false := by simpa using h0
    clear h0
    go_wp2_with fail
    go_ret2
    exact plRes_nil E.out HB4.out.b.bel
/-- Cuts, a deviation and a code of the call's own. -/
def ClRes (p : List CutR × Int × Int) (w : World) (e : Ending) (w' : World) : Prop := ∃ (A : Option Addr) (c : Nat) (xs : List CutR) (d code : Int), e = .returned (.tuple #[.slice A xs.length c, .int .i64 d, .int .i64 code]) ∧ p = (xs, d, code) ∧ xs.length ≤ 1048576 ∧ OwnC w' w.heap.size (.slice A xs.length c) xs ∧ Below w.heap.size w w'
theorem clRes_nil {p : List CutR × Int × Int} {w w' : World} {code : Int} (h : p = ([], 0, code)) (hb : Below w.heap.size w w') : ClRes p w (.returned (.tuple #[.slice none 0 0, .int .i64 0, .int .i64 code])) w' :=
  ⟨none, 0, [], 0, code, rfl, h, by simp, Own.nil, hb⟩
theorem CuC.new {x : Cx} {w0 w : World} {b gl lc gs sc : Nat} {ss : List Int} {left : Int} (h : CuI x w0 b gl lc gs sc (-1) false w ss ⟨left, false, 0, [], -1⟩) (hn : w.cell? ⟨b, 19, none⟩ = some (.slice none 0 0)) :
    CuC x w0 w.heap.size b gl lc gs sc (w.alloc (.cells #[.pointer (some ⟨b, 0, none⟩), .int .i64 0] 97)) ss ⟨left, false, 0, [], -1⟩ := by
  have hal : Below w.heap.size w (w.alloc (.cells #[.pointer (some ⟨b, 0, none⟩), .int .i64 0] 97)) := (Below.refl _ _).alloc (Nat.le_refl _) _
  have hlt := h.lt
  obtain ⟨fA, fc, h1, h2⟩ := h.st
  have e : w.cell? ⟨b, 19, none⟩ = some (.slice fA 0 fc) := by simp [World.cell?, h1]
  rw [hn] at e
  injection e with e
  injection e with e1 e2 e3
  subst e1 e3
  exact ⟨⟨none, 0, (hal.block b hlt).trans h1, Own.nil, fun _ => rfl⟩, ⟨0, heap_alloc_new w _, fun e => by simp at e⟩, ⟨fun _ => rfl, fun _ => by simp⟩, h.lim.below hal, h.row.below hal, h.ne, h.inv, h.bel.trans (hal.mono h.bel.size), h.hb, hlt⟩
theorem clo_any {x : Cx} {w0 : World} {bc b gl lc gs sc : Nat} (HX : Hid (x.OK w0)) : ∀ f, CloOK x w0 bc b gl lc gs sc f := by
  intro f
  induction f with
  | zero =>
    intro w l s _ hp hf
    have := hp.len
    rw [x.lim_length] at this
    omega
  | succ f ih =>
    intro w l s hs hp hf
    have hlen := hp.len
    rw [x.lim_length] at hlen
    by_cases hl : l.length = x.zs.length
    · rw [pad_full hl] at hs ⊢
      exact clo_full f HX (hide hs) (hide hp) hl
    · exact clo_goes f HX (hide ih) (hide hs) (hide hp) (by omega) (hide (by omega))
set_option maxRecDepth 100000 in
set_option maxHeartbeats 1000000 in
theorem implClosestPlan_x {x : Cx} {w : World} (bud : Int) (HI : Hid (x.In w)) :
    Calls Tryz.prog 13 #[.agg #[.slice x.Az x.zs.length x.cz, .slice x.Aw x.ws.length x.cw, .slice x.Ab x.bs.length x.cb], .agg #[.string x.nm, .slice x.A x.rs.length x.c], .agg #[.int .i64 x.t0, .int .i64 x.t1, .int .i64 x.t2, .int .i64 x.t3, .int .i64 x.t4, .int .i64 x.tol, .int .i64 x.most], .int .i64 bud] w (ClRes (closeP x.bare bud) w) := by
  have HB := hide (Bx.new HI.out)
  have q22 : ∀ (w : World) (a : Option Addr) (n c n' c' : Nat), (binOp .eql 24 (.slice a n c) (.slice none n' c')).run Tryz.prog w = .ok (.bool a.isNone) w := fun w a n c n' c' => Lib.run_eql_slice_nil w _ _ a n c n' c' Tryz.underlying24
  go_enter Tryz.func13, Tryz.ntmps13
  go_wp2_with fail
  generalize (((w.alloc (.cells #[.slice x.Az x.zs.length x.cz, .slice x.Aw x.ws.length x.cw, .slice x.Ab x.bs.length x.cb] 27)).alloc (.cells #[.string x.nm, .slice x.A x.rs.length x.c] 30)).alloc (.cells #[.int .i64 x.t0, .int .i64 x.t1, .int .i64 x.t2, .int .i64 x.t3, .int .i64 x.t4, .int .i64 x.tol, .int .i64 x.most] 34)) = w3 at *
  have HI3 := hide (HB.out.in_ HI.out)
  refine (implsearchable x.Az x.Aw x.Ab x.cz x.cw x.cb x.zs x.ws x.bs x.nm x.A x.c x.rs x.t0 x.t1 x.t2 x.t3 x.t4 x.tol x.most bud w3 HI3.out.md (hide HI3.out.sz) HI3.out.rg HI3.out.rn HI3.out.nm).mono ?_
  rintro e w4 ⟨rfl, hb4⟩
  have HB4 := hide (HB.out.below hb4)
  have HI4 := hide (HB4.out.in_ HI.out)
  clear hb4 HB HI3
  obtain ⟨code, hc⟩ : ∃ code, code = serB x.zs x.ws x.bs x.nm x.rs [x.t0, x.t1, x.t2, x.t3, x.t4] x.tol x.most bud := ⟨_, rfl⟩
  have HC := hide (show x.ser bud = code from hc.symm)
  rw [← hc]
  clear hc
  by_cases h0 : code = 0
  · subst h0
    obtain ⟨hok, hb0, hb1⟩ := HI4.out.ok HC.out
    have HX := hide hok
    have HN := hide (newCutter_is bud HX (by omega) (by omega))
    obtain ⟨c0, c1, c2, p0, p1, g0, g1, g2, g3, g4, g5, g6⟩ := HB4.out.cells
    clear hok
    go_wp2_with fail
    refine HN.out.mono ?_
    rintro e w5 ⟨b, gl, lc, gs, sc, rfl, hcu, hc19⟩
    have HCC := hide (CuC.new hcu hc19)
    clear hcu hc19 HN c0 c1 c2 p0 p1 g0 g1 g2 g3 g4 g5 g6
    go_upto_region 5 with fail
    obtain ⟨bc, hbc⟩ : ∃ bc, bc = w5.heap.size := ⟨_, rfl⟩
    rw [← hbc] at HCC ⊢
    clear hbc
    generalize w5.alloc (.cells #[.pointer (some ⟨b, 0, none⟩), .int .i64 0] 97) = w5' at *
    go_wp2_with fail
    refine (clo_any HX (x.zs.length + 1) w5' [] _ HCC.out (Pre.nil _) (by simp)).mono ?_
    rintro e w6 ⟨rfl, hcu⟩
    obtain ⟨s, hs⟩ : ∃ s, s = srch (x.qx false true) (x.zs.length + 1) [] ⟨bud, false, 0, [], -1⟩ := ⟨_, rfl⟩
    rw [← hs] at hcu
    have HS := hide (show x.fin false true bud = s from hs.symm)
    have HCU2 := hide hcu
    clear hcu hs HCC
    have HBE := hide (HB4.out.b.bel.trans (HCU2.out.bel.mono HB4.out.b.bel.size))
    obtain ⟨k0, k1, k2, k3, k4, k5, k6, k7, k8, k9, k10, k11, k12, k13, k14, k15, k16, k17, k18, kf⟩ := HCU2.out.cu.all
    obtain ⟨y0, ⟨v, y1, hv⟩, _, fA, fc, y19, hfa, hfs⟩ := HCU2.out.cells
    have HV := hide hv
    clear hv k0 k2 k3 k4 k5 k6 k7 k8 k9 k10 k11 k12 k13 k14 k15 k16 k17 k18 kf
    cases hsp : s.spent
    · rw [hsp] at k1
      by_cases hfn : s.found = []
      · have hle : s.least < 0 := HCU2.out.lf.2 hfn
        have E := hide (show closeP x.bare bud = ([], 0, 3) from by unfold closeP; rw [ser_bare, fin_bare, HC.out, HS.out, hsp, if_pos hle]; rfl)
        have hA := hfa hfn
        subst hA
        clear hfa hfs hfn hsp hle
        go_wp2_with fail
        go_ret3
        exact clRes_nil E.out HBE.out
      · obtain ⟨a, hA⟩ := hfs hfn
        subst hA
        have hle : ¬ s.least < 0 := fun h => hfn (HCU2.out.lf.1 h)
        have E := hide (show closeP x.bare bud = (cutsB s.found, s.least, 0) from by unfold closeP; rw [ser_bare, fin_bare, HC.out, HS.out, hsp, if_neg hle]; rfl)
        have hvl := HV.out (by omega)
        subst hvl
        have hfl : s.found.length ≤ 8 := by
          rcases HCU2.out.inv.fnd with e | e
          · rw [e]; simp
          · rw [e.2, x.lim_length]; exact HX.out.ask.z.len8
        have HFL := hide hfl
        have HL := hide (show (cutsB s.found).length ≤ 1048576 from by have := cutsTo_len s.found s.found.length; unfold cutsB; omega)
        have P0 : ∀ w', Below w6.heap.size w6 w' → w'.cell? ⟨bc, 0, none⟩ = some (.pointer (some ⟨b, 0, none⟩)) := fun w' hb => (HCU2.out.below hb).cells.1
        have P1 : ∀ w', Below w6.heap.size w6 w' → w'.cell? ⟨bc, 1, none⟩ = some (.int .i64 s.least) := fun w' hb => (hb.cell (p := ⟨bc, 1, none⟩) HCU2.out.lt).trans y1
        have P19 : ∀ w', Below w6.heap.size w6 w' → w'.cell? ⟨b, 19, none⟩ = some (.slice (some a) s.found.length fc) := fun w' hb => (hb.cell (p := ⟨b, 19, none⟩) HCU2.out.cu.lt).trans y19
        obtain ⟨fA2, fc2, z19, ho19⟩ := HCU2.out.cu.fnd
        rw [z19] at y19
        injection y19 with y19
        injection y19 with e1 e2 e3
        subst e1 e3
        have HO19 := hide ho19
        have HCT := hide (fun W (hb : Below w6.heap.size w6 W) => implcutsOf (b + 1) (some a) fc2 s.found W (HO19.out.below hb) (by have := HFL.out; omega))
        clear hfa hfs hfn hsp hle hfl ho19
        go_wp2_with fail
        refine wp_region_noPanic ?_
        refine wp_region_held_drew (S := (fun w' => Below w6.heap.size w6 w')) (by kernel_rfl) ((Below.refl _ _).drew) (fun hHeld => ?_)
        refine wpAnyH_take (i := 0) (oi := ?o0_1) (v := ?v0_1) ?hi0_1 ?hs0_1 ?hf0_1 ?hr0_1 (fun _ _ _ h => h) ?hy0_1 (by assumption) ?hh0_1
        case hi0_1 => ((simp only [List.getElem?_toArray, List.getElem?_cons_zero]); rfl)
        case hs0_1 => kernel_rfl
        case hf0_1 => kernel_rfl
        case hr0_1 => kernel_rfl
        case hy0_1 => exact Or.inl ⟨by rfl, by (intro wq hSw; (try dsimp only at hSw); go_simp; (try with_reducible rfl))⟩
        try simp only [Act.put, List.setIfInBounds_toArray, List.set_cons_zero, List.set_cons_succ]
        refine wpAnyH_take (i := 1) (oi := ?o1_2) (v := ?v1_2) ?hi1_2 ?hs1_2 ?hf1_2 ?hr1_2 (fun _ _ _ h => h) ?hy1_2 (by assumption) ?hh1_2
        case hi1_2 => ((simp only [List.getElem?_toArray, List.getElem?_cons_succ, List.getElem?_cons_zero]); rfl)
        case hs1_2 => kernel_rfl
        case hf1_2 => kernel_rfl
        case hr1_2 => kernel_rfl
        case hy1_2 => exact Or.inl ⟨by rfl, by (intro wq hSw; (try dsimp only at hSw); go_simp; (try with_reducible rfl))⟩
        try simp only [Act.put, List.setIfInBounds_toArray, List.set_cons_zero, List.set_cons_succ]
        refine wpAnyH_take (i := 2) (oi := ?o2_3) (v := ?v2_3) ?hi2_3 ?hs2_3 ?hf2_3 ?hr2_3 (fun _ _ _ h => h) ?hy2_3 (by assumption) ?hh2_3
        case hi2_3 => ((simp only [List.getElem?_toArray, List.getElem?_cons_succ, List.getElem?_cons_zero]); rfl)
        case hs2_3 => kernel_rfl
        case hf2_3 => kernel_rfl
        case hr2_3 => kernel_rfl
        case hy2_3 => exact Or.inl ⟨by rfl, by (intro wq hSw; (try dsimp only at hSw); go_simp; (try with_reducible rfl))⟩
        try simp only [Act.put, List.setIfInBounds_toArray, List.set_cons_zero, List.set_cons_succ]
        refine wpAnyH_take (i := 3) (oi := ?o3_4) (v := ?v3_4) ?hi3_4 ?hs3_4 ?hf3_4 ?hr3_4 (fun _ _ _ h => h) ?hy3_4 (by assumption) ?hh3_4
        case hi3_4 => ((simp only [List.getElem?_toArray, List.getElem?_cons_succ, List.getElem?_cons_zero]); rfl)
        case hs3_4 => kernel_rfl
        case hf3_4 => kernel_rfl
        case hr3_4 => kernel_rfl
        case hy3_4 => exact Or.inl ⟨by rfl, by (intro wq hSw; (try dsimp only at hSw); go_simp; (try with_reducible rfl))⟩
        try simp only [Act.put, List.setIfInBounds_toArray, List.set_cons_zero, List.set_cons_succ]
        refine wpAnyH_take (i := 4) (oi := ?o4_5) (v := ?v4_5) ?hi4_5 ?hs4_5 ?hf4_5 ?hr4_5 (fun _ _ _ h => h) ?hy4_5 (by assumption) ?hh4_5
        case hi4_5 => ((simp only [List.getElem?_toArray, List.getElem?_cons_succ, List.getElem?_cons_zero]); rfl)
        case hs4_5 => kernel_rfl
        case hf4_5 => kernel_rfl
        case hr4_5 => kernel_rfl
        case hy4_5 => exact Or.inl ⟨by rfl, by (intro wq hSw; (try dsimp only at hSw); go_simp; (try with_reducible rfl))⟩
        try simp only [Act.put, List.setIfInBounds_toArray, List.set_cons_zero, List.set_cons_succ]
        refine wpAnyH_take (i := 5) (oi := ?o5_6) (v := ?v5_6) ?hi5_6 ?hs5_6 ?hf5_6 ?hr5_6 (fun _ _ _ h => h) ?hy5_6 (by assumption) ?hh5_6
        case hi5_6 => ((simp only [List.getElem?_toArray, List.getElem?_cons_succ, List.getElem?_cons_zero]); rfl)
        case hs5_6 => kernel_rfl
        case hf5_6 => kernel_rfl
        case hr5_6 => kernel_rfl
        case hy5_6 => exact Or.inl ⟨by rfl, by (intro wq hSw; (try dsimp only at hSw); go_simp; (try with_reducible rfl))⟩
        try simp only [Act.put, List.setIfInBounds_toArray, List.set_cons_zero, List.set_cons_succ]
        refine wpAnyH_take (i := 6) (oi := ?o6_7) (v := ?v6_7) ?hi6_7 ?hs6_7 ?hf6_7 ?hr6_7 (fun _ _ _ h => h) ?hy6_7 (by assumption) ?hh6_7
        case hi6_7 => ((simp only [List.getElem?_toArray, List.getElem?_cons_succ, List.getElem?_cons_zero]); rfl)
        case hs6_7 => kernel_rfl
        case hf6_7 => kernel_rfl
        case hr6_7 => kernel_rfl
        case hy6_7 => exact Or.inl ⟨by rfl, by (intro wq hSw; (try dsimp only at hSw); go_simp; (try with_reducible rfl))⟩
        try simp only [Act.put, List.setIfInBounds_toArray, List.set_cons_zero, List.set_cons_succ]
        refine wpAnyH_take (i := 8) (oi := ?o8_8) (v := ?v8_8) ?hi8_8 ?hs8_8 ?hf8_8 ?hr8_8 (fun _ _ _ h => h) ?hy8_8 (by assumption) ?hh8_8
        case hi8_8 => ((simp only [List.getElem?_toArray, List.getElem?_cons_succ, List.getElem?_cons_zero]); rfl)
        case hs8_8 => kernel_rfl
        case hf8_8 => kernel_rfl
        case hr8_8 => kernel_rfl
        case hy8_8 => exact Or.inl ⟨by rfl, by (intro wq hSw; (try dsimp only at hSw); go_simp; (try with_reducible rfl))⟩
        try simp only [Act.put, List.setIfInBounds_toArray, List.set_cons_zero, List.set_cons_succ]
        refine wpAnyH_take (i := 9) (oi := ?o9_9) (v := ?v9_9) ?hi9_9 ?hs9_9 ?hf9_9 ?hr9_9 (fun _ _ _ h => h) ?hy9_9 (by assumption) ?hh9_9
        case hi9_9 => ((simp only [List.getElem?_toArray, List.getElem?_cons_succ, List.getElem?_cons_zero]); rfl)
        case hs9_9 => kernel_rfl
        case hf9_9 => kernel_rfl
        case hr9_9 => kernel_rfl
        case hy9_9 => exact Or.inl ⟨by rfl, by (intro wq hSw; (try dsimp only at hSw); go_simp; (try with_reducible rfl))⟩
        try simp only [Act.put, List.setIfInBounds_toArray, List.set_cons_zero, List.set_cons_succ]
        refine wpAnyH_take (i := 10) (oi := ?o10_10) (v := ?v10_10) ?hi10_10 ?hs10_10 ?hf10_10 ?hr10_10 (fun _ _ _ h => h) ?hy10_10 (by assumption) ?hh10_10
        case hi10_10 => ((simp only [List.getElem?_toArray, List.getElem?_cons_succ, List.getElem?_cons_zero]); rfl)
        case hs10_10 => kernel_rfl
        case hf10_10 => kernel_rfl
        case hr10_10 => kernel_rfl
        case hy10_10 => exact Or.inl ⟨by rfl, by (intro wq hSw; (try dsimp only at hSw); go_simp; (try with_reducible rfl))⟩
        try simp only [Act.put, List.setIfInBounds_toArray, List.set_cons_zero, List.set_cons_succ]
        refine wpAnyH_take (i := 11) (oi := ?o11_11) (v := ?v11_11) ?hi11_11 ?hs11_11 ?hf11_11 ?hr11_11 (fun _ _ _ h => h) ?hy11_11 (by assumption) ?hh11_11
        case hi11_11 => ((simp only [List.getElem?_toArray, List.getElem?_cons_succ, List.getElem?_cons_zero]); rfl)
        case hs11_11 => kernel_rfl
        case hf11_11 => kernel_rfl
        case hr11_11 => kernel_rfl
        case hy11_11 => exact Or.inl ⟨by rfl, by (intro wq hSw; (try dsimp only at hSw); go_simp; (try with_reducible rfl))⟩
        try simp only [Act.put, List.setIfInBounds_toArray, List.set_cons_zero, List.set_cons_succ]
        refine wpAnyH_ready (rs := [7]) (by kernel_rfl) (by simp) ?_
        refine AllReadyH.cons (o := ?o7_12) ?hi7_12 (fun K hK => ?hh7_12) AllReadyH.nil
        case hi7_12 => ((simp only [List.getElem?_toArray, List.getElem?_cons_succ, List.getElem?_cons_zero]); rfl)
        go_simp
        (go_at_call 51; refine (HCT.out _ hHeld).mono ?_; rintro e w7 ⟨A7, c7, rfl, ho7, hb7⟩; have HH := hide hHeld; have HO7 := hide (ho7.mono (B' := w.heap.size) (Nat.le_trans HBE.out.size HH.out.size)); have HB7 := hide (HH.out.trans (hb7.mono HH.out.size)); clear ho7 hb7)
        (try dsimp only)
        refine hK.out _ _ (HB7.out) (fun hHeld2 => ?_)
        clear hK K hHeld
        have hHeld := hHeld2
        clear hHeld2
        try simp only [Act.put, List.setIfInBounds_toArray, List.set_cons_zero, List.set_cons_succ]
        refine wpAnyH_take (i := 12) (oi := ?o12_13) (v := ?v12_13) ?hi12_13 ?hs12_13 ?hf12_13 ?hr12_13 (fun _ _ _ h => h) ?hy12_13 (by assumption) ?hh12_13
        case hi12_13 => ((simp only [List.getElem?_toArray, List.getElem?_cons_succ, List.getElem?_cons_zero]); rfl)
        case hs12_13 => kernel_rfl
        case hf12_13 => kernel_rfl
        case hr12_13 => kernel_rfl
        case hy12_13 => exact Or.inl ⟨by rfl, by (intro wq hSw; (try dsimp only at hSw); go_simp; (try with_reducible rfl))⟩
        try simp only [Act.put, List.setIfInBounds_toArray, List.set_cons_zero, List.set_cons_succ]
        refine wpAnyH_take (i := 13) (oi := ?o13_14) (v := ?v13_14) ?hi13_14 ?hs13_14 ?hf13_14 ?hr13_14 (fun _ _ _ h => h) ?hy13_14 (by assumption) ?hh13_14
        case hi13_14 => ((simp only [List.getElem?_toArray, List.getElem?_cons_succ, List.getElem?_cons_zero]); rfl)
        case hs13_14 => kernel_rfl
        case hf13_14 => kernel_rfl
        case hr13_14 => kernel_rfl
        case hy13_14 => exact Or.inl ⟨by rfl, by (intro wq hSw; (try dsimp only at hSw); go_simp; (try with_reducible rfl))⟩
        try simp only [Act.put, List.setIfInBounds_toArray, List.set_cons_zero, List.set_cons_succ]
        refine wpAnyH_take (i := 14) (oi := ?o14_15) (v := ?v14_15) ?hi14_15 ?hs14_15 ?hf14_15 ?hr14_15 (fun _ _ _ h => h) ?hy14_15 (by assumption) ?hh14_15
        case hi14_15 => ((simp only [List.getElem?_toArray, List.getElem?_cons_succ, List.getElem?_cons_zero]); rfl)
        case hs14_15 => kernel_rfl
        case hf14_15 => kernel_rfl
        case hr14_15 => kernel_rfl
        case hy14_15 => exact Or.inl ⟨by rfl, by (intro wq hSw; (try dsimp only at hSw); go_simp; (try with_reducible rfl))⟩
        try simp only [Act.put, List.setIfInBounds_toArray, List.set_cons_zero, List.set_cons_succ]
        refine wpAnyH_done (by kernel_rfl) ?_ _
        refine NoPanic.normal ?_
        go_wp2_with fail
        go_ret3
        exact ⟨A7, c7, _, s.least, 0, rfl, E.out, HL.out, HO7.out, HBE.out.trans (hHeld.mono HBE.out.size)⟩
    · rw [hsp] at k1
      have E := hide (show closeP x.bare bud = ([], 0, 5) from by unfold closeP; rw [ser_bare, fin_bare, HC.out, HS.out, hsp]; rfl)
      go_wp2_with fail
      go_ret3
      exact clRes_nil E.out HBE.out
  · have E := hide (show closeP x.bare bud = ([], 0, code) from by unfold closeP; rw [ser_bare, HC.out, if_neg h0])
    have h1 : (code == 0) = false := by simpa using h0
    clear h0
    go_wp2_with fail
    go_ret3
    exact clRes_nil E.out HB4.out.b.bel
end Go.Proofs.YtnefgafmnpblpaaGreat
