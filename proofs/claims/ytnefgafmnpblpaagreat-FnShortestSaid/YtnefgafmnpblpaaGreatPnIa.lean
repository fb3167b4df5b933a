/- Contracts: the program's sound after steps, and whether steps are too low or a plan. The program's search for plans: the state of its struct, what each store does to it, and its small methods. Contracts: the program's search for plans: its small methods. -/
import Derived.Test.YtnefgafmnpblpaaGreatPnSa
namespace Go.Proofs.YtnefgafmnpblpaaGreat
open Go.RowKit Pn

theorem ownR_cap {w : World} {B c : Nat} {A : Option Addr} {rs : List RingR} (h : OwnR w B (.slice A rs.length c) rs) (h0 : 0 < rs.length) : rs.length ≤ c := by
  rcases h.2 with ⟨e, q⟩ | ⟨g, cap, cur, e, _, _, hc, _⟩
  · omega
  · injection e with _ _ e; omega
theorem five_eta {l : List Int} (h : l.length = 5) : [ig l 0, ig l 1, ig l 2, ig l 3, ig l 4] = l := by
  match l, h with
  | [a, b, c, d, e], _ => rfl
/-- What is known of steps of a search. -/
structure StOK (zs : List Int) (rs : List RingR) (st : List Int) : Prop where
  len : st.length = zs.length
  small : SmallI st
  ok : RingsOK (turn zs st rs)
theorem zones_turn {zs st : List Int} {rs : List RingR} (h : ZonesOK zs rs.length) : ZonesOK zs ((turn zs st rs).length) := by rw [turn_length]; exact h
set_option maxRecDepth 100000 in
set_option maxHeartbeats 1000000 in
theorem implsoundAfter (Az Aw Ab : Option Addr) (cz cw cb : Nat) (zs : List Int) (ws : List (List Int)) (bs : List Int) (nm : ByteArray) (A : Option Addr) (c : Nat) (rs : List RingR) (As : Option Addr) (cs : Nat) (st : List Int) (w : World) (hm : MdAt w Az Aw Ab zs ws bs) (hr : SlAt encRing 3 w A rs) (hst : SlAt encI 1 w As st) (hs : nm.size ≤ maxLen) (HA : Hid (AskOK zs ws bs nm rs)) (HST : Hid (StOK zs rs st)) :
    Calls Tryz.prog 48 #[.agg #[.slice Az zs.length cz, .slice Aw ws.length cw, .slice Ab bs.length cb], .agg #[.string nm, .slice A rs.length c], .slice As zs.length cs] w fun e w' => e = .returned (.tuple #[.agg #[.int .i64 (ig (rawT zs ws bs rs st) 0), .int .i64 (ig (rawT zs ws bs rs st) 1), .int .i64 (ig (rawT zs ws bs rs st) 2), .int .i64 (ig (rawT zs ws bs rs st) 3), .int .i64 (ig (rawT zs ws bs rs st) 4)], .bool (dc (SoundOK (rawT zs ws bs rs st)))]) ∧ Below w.heap.size w w' := by
  obtain ⟨w0, hw0⟩ : ∃ w0, w0 = ((w.alloc (.cells #[.slice Az zs.length cz, .slice Aw ws.length cw, .slice Ab bs.length cb] 27)).alloc (.cells #[.string nm, .slice A rs.length c] 30)).alloc (.cells #[.int .i64 0, .int .i64 0, .int .i64 0, .int .i64 0, .int .i64 0] 32) := ⟨_, rfl⟩
  have hX : Boxes2 w w0 w.heap.size Az cz Aw cw Ab cb zs ws bs nm A c rs := by rw [hw0]; exact (boxes2 hm hr).below ((Below.refl _ _).alloc (Nat.le_refl _) _)
  have hRR : w0.heap[w.heap.size + 1 + 1]? = some (.cells #[.int .i64 0, .int .i64 0, .int .i64 0, .int .i64 0, .int .i64 0] 32 (0, 0)) := by rw [hw0]; simpa using heap_alloc_new ((w.alloc (.cells #[.slice Az zs.length cz, .slice Aw ws.length cw, .slice Ab bs.length cb] 27)).alloc (.cells #[.string nm, .slice A rs.length c] 30)) (.cells #[.int .i64 0, .int .i64 0, .int .i64 0, .int .i64 0, .int .i64 0] 32)
  have hz0 : w0.heap.size = w.heap.size + 1 + 1 + 1 := by rw [hw0]; simp
  have HX := hide hX
  have HRR := hide hRR
  have HZ0 := hide hz0
  have HS0 := hide (hst.below hX.bel)
  have HBW0 := hide hX.bel
  have c0 := hX.m.c0
  have p0 := hX.p.c0
  have p1 := hX.p.c1
  have pl := hX.p.lt
  have hcon := implturned nm A c rs Az As cz cs zs st w0 hX.p.sl hX.m.md.z HS0.out HA.out.r.len32 HA.out.r.len1 (hide HA.out.z) (by have := HST.out.len; omega) (by have := HST.out.len; have := HA.out.z.len8; omega) (hide HST.out.small) (hide HA.out.r.inner)
  rw [HST.out.len] at hcon
  have HCT := hide hcon
  have hl1 : 0 < (turn zs st rs).length := by rw [turn_length]; exact HA.out.r.len1
  have hl32 : (turn zs st rs).length ≤ 32 := by rw [turn_length]; exact HA.out.r.len32
  have HPB := hide (profB_ok HA.out.n HST.out.ok)
  have HWL := hide HST.out.ok.walls
  have HZT := hide (zones_turn (st := st) HA.out.z)
  clear hm hr hst hX hRR hz0 hcon
  go_enter Tryz.func48, Tryz.ntmps48
  go_wp2_with fail
  rw [← hw0]
  clear hw0
  refine HCT.out.mono ?_
  rintro e w1 ⟨A1, c1, rfl, ho1, hb1⟩
  have HP2 := hide (ProfAt.new (nm := nm) (c := c1) (Own.at_ (enc := encRing) (fun _ => rfl) ho1))
  have HCAP := hide (ownR_cap ho1 hl1)
  have hb1' : Below w0.heap.size w0 (w1.alloc (.cells #[.string nm, .slice A1 (turn zs st rs).length c1] 30)) := hb1.alloc hb1.size _
  have HB1 := hide hb1'
  have hq2 : w0.heap.size ≤ w1.heap.size := hb1.size
  obtain ⟨q, hq⟩ : ∃ q, q = w1.heap.size := ⟨_, rfl⟩
  clear ho1 hb1 hb1' HCT c0 p0 p1 pl
  go_wp2_with fail
  rw [← hq] at HP2 hq2 ⊢
  clear hq
  generalize w1.alloc (.cells #[.string nm, .slice A1 (turn zs st rs).length c1] 30) = w2 at *
  refine (implValidProfile nm A1 c1 (turn zs st rs) w2 HP2.out.sl (by omega) hs).mono ?_
  rintro e w3 ⟨rfl, hb3⟩
  rw [HPB.out]
  have HX3 := hide ((HX.out.below HB1.out).below hb3)
  have HP3 := hide (HP2.out.below hb3)
  have HB3 := hide (HB1.out.trans (hb3.mono HB1.out.size))
  have c0 := HX3.out.m.c0
  have c1' := HX3.out.m.c1
  have c2 := HX3.out.m.c2
  have ml := HX3.out.m.lt
  have p0 := HP3.out.c0
  have p1 := HP3.out.c1
  have pl := HP3.out.lt
  clear hb3 HP2 HB1 HX
  go_wp2_with fail
  refine (implrawPartials Az Aw Ab cz cw cb zs ws bs nm A1 c1 (turn zs st rs) w3 HX3.out.m.md HP3.out.sl hl32 hl1 HCAP.out (hide HA.out.m) HZT HWL).mono ?_
  rintro e w4 ⟨A4, c4, rfl, ho4, hb4⟩
  have HO4 := hide (show SlAt encI 1 w4 A4 [ig (rawT zs ws bs rs st) 0, ig (rawT zs ws bs rs st) 1, ig (rawT zs ws bs rs st) 2, ig (rawT zs ws bs rs st) 3, ig (rawT zs ws bs rs st) 4] from by
    rw [five_eta (show (rawT zs ws bs rs st).length = 5 from rawP_length _ _ _ _)]
    exact OwnI.sl ho4 (rawP_length _ _ _ _).symm)
  have HB4 := hide (HB3.out.trans (hb4.mono HB3.out.size))
  have HE5 := hide (show SoundOK [ig (rawT zs ws bs rs st) 0, ig (rawT zs ws bs rs st) 1, ig (rawT zs ws bs rs st) 2, ig (rawT zs ws bs rs st) 3, ig (rawT zs ws bs rs st) 4] = SoundOK (rawT zs ws bs rs st) from by rw [five_eta (show (rawT zs ws bs rs st).length = 5 from rawP_length _ _ _ _)])
  clear ho4 hb4 HB3 c0 c1' c2 ml p0 p1 pl
  obtain ⟨r0, hr0⟩ : ∃ r, r = ig (rawT zs ws bs rs st) 0 := ⟨_, rfl⟩
  obtain ⟨r1, hr1⟩ : ∃ r, r = ig (rawT zs ws bs rs st) 1 := ⟨_, rfl⟩
  obtain ⟨r2, hr2⟩ : ∃ r, r = ig (rawT zs ws bs rs st) 2 := ⟨_, rfl⟩
  obtain ⟨r3, hr3⟩ : ∃ r, r = ig (rawT zs ws bs rs st) 3 := ⟨_, rfl⟩
  obtain ⟨r4, hr4⟩ : ∃ r, r = ig (rawT zs ws bs rs st) 4 := ⟨_, rfl⟩
  rw [← hr0, ← hr1, ← hr2, ← hr3, ← hr4] at HO4 HE5
  have HRE := hide (And.intro hr0 (And.intro hr1 (And.intro hr2 (And.intro hr3 hr4))))
  clear hr0 hr1 hr2 hr3 hr4
  go_wp2_with fail
  refine (implsoundOf_is A4 c4 r0 r1 r2 r3 r4 w4 HO4.out).mono ?_
  rintro e w5 ⟨rfl, hb5⟩
  have hb6 : Below w0.heap.size w0 (w5.alloc (.cells #[.int .i64 r0, .int .i64 r1, .int .i64 r2, .int .i64 r3, .int .i64 r4] 32)) := (HB4.out.trans (hb5.mono HB4.out.size)).alloc (Nat.le_trans HB4.out.size hb5.size) _
  have hq6 := heap_alloc_new w5 (.cells #[.int .i64 r0, .int .i64 r1, .int .i64 r2, .int .i64 r3, .int .i64 r4] 32)
  have HB6 := hide hb6
  have HQ6 := hide hq6
  have HZ5 := hide (Nat.le_trans HB4.out.size hb5.size)
  clear hb5 hb6 hq6 HB4 HO4
  go_wp2_with fail
  obtain ⟨q5, hq5⟩ : ∃ q5, q5 = w5.heap.size := ⟨_, rfl⟩
  rw [← hq5] at HQ6 HZ5 ⊢
  clear hq5
  generalize w5.alloc (.cells #[.int .i64 r0, .int .i64 r1, .int .i64 r2, .int .i64 r3, .int .i64 r4] 32) = w6 at *
  have hql := heap_lt HQ6.out
  have HCL := hide (show ∀ w', Below w6.heap.size w6 w' → w'.cell? ⟨q5, 0, none⟩ = some (.int .i64 r0) ∧ w'.cell? ⟨q5, 1, none⟩ = some (.int .i64 r1) ∧ w'.cell? ⟨q5, 2, none⟩ = some (.int .i64 r2) ∧ w'.cell? ⟨q5, 3, none⟩ = some (.int .i64 r3) ∧ w'.cell? ⟨q5, 4, none⟩ = some (.int .i64 r4) from fun w' hb => by
    have hq := HQ6.out
    refine ⟨?_, ?_, ?_, ?_, ?_⟩
    · exact (hb.cell (p := ⟨q5, 0, none⟩) hql).trans (by simp [World.cell?, hq])
    · exact (hb.cell (p := ⟨q5, 1, none⟩) hql).trans (by simp [World.cell?, hq])
    · exact (hb.cell (p := ⟨q5, 2, none⟩) hql).trans (by simp [World.cell?, hq])
    · exact (hb.cell (p := ⟨q5, 3, none⟩) hql).trans (by simp [World.cell?, hq])
    · exact (hb.cell (p := ⟨q5, 4, none⟩) hql).trans (by simp [World.cell?, hq]))
  have hne : q5 ≠ w.heap.size + 1 + 1 := by have := HZ0.out; have := HZ5.out; omega
  have hne2 : ¬ w.heap.size + 1 + 1 = q5 := fun h => hne h.symm
  have HB0 := HBW0
  refine wp_region_noPanic ?_
  refine wp_region_held_drew (S := (fun w' => w'.cell? ⟨q5, 0, none⟩ = some (.int .i64 r0) ∧ w'.cell? ⟨q5, 1, none⟩ = some (.int .i64 r1) ∧ w'.cell? ⟨q5, 2, none⟩ = some (.int .i64 r2) ∧ w'.cell? ⟨q5, 3, none⟩ = some (.int .i64 r3) ∧ w'.cell? ⟨q5, 4, none⟩ = some (.int .i64 r4) ∧ Below w.heap.size w w')) (by kernel_rfl) (⟨(HCL.out _ (Below.refl _ _).drew).1, (HCL.out _ (Below.refl _ _).drew).2.1, (HCL.out _ (Below.refl _ _).drew).2.2.1, (HCL.out _ (Below.refl _ _).drew).2.2.2.1, (HCL.out _ (Below.refl _ _).drew).2.2.2.2, (HB0.out.trans (HB6.out.mono HB0.out.size)).drew⟩) (fun hHeld => ?_)
  refine wpAnyH_take (i := 0) (oi := ?o0_1) (v := ?v0_1) ?hi0_1 ?hs0_1 ?hf0_1 ?hr0_1 (fun _ _ _ h => h) ?hy0_1 (by assumption) ?hh0_1
  case hi0_1 => ((simp only [List.getElem?_toArray, List.getElem?_cons_zero]); rfl)
  case hs0_1 => kernel_rfl
  case hf0_1 => kernel_rfl
  case hr0_1 => kernel_rfl
  case hy0_1 => exact Or.inl ⟨by rfl, by (intro wq hSw; (try dsimp only at hSw); go_simp; (try with_reducible rfl))⟩
  try simp only [Act.put, List.setIfInBounds_toArray, List.set_cons_zero, List.set_cons_succ]
  refine wpAnyH_take (i := 1) (oi := ?o1_2) (v := ?v1_2) ?hi1_2 ?hs1_2 ?hf1_2 ?hr1_2 (fun _ _ _ h => h) ?hy1_2 (by assumption) ?hh1_2
  case hi1_2 => ((simp only [List.getElem?_toArray, List.getElem?_cons_succ, List.getElem?_cons_zero]); rfl)
  case hs1_2 => kernel_rfl
  case hf1_2 => kernel_rfl
  case hr1_2 => kernel_rfl
  case hy1_2 => exact Or.inl ⟨by rfl, by (intro wq hSw; (try dsimp only at hSw); go_simp; (try with_reducible rfl))⟩
  try simp only [Act.put, List.setIfInBounds_toArray, List.set_cons_zero, List.set_cons_succ]
  refine wpAnyH_ready (rs := [2]) (by kernel_rfl) (by simp) ?_
  refine AllReadyH.cons (o := ?o2_3) ?hi2_3 (fun K hK => ?hh2_3) AllReadyH.nil
  case hi2_3 => ((simp only [List.getElem?_toArray, List.getElem?_cons_succ, List.getElem?_cons_zero]); rfl)
  go_simp
  (go_at_call 104; refine (ValidSound_is _ _ _ _ _ _).mono ?_; rintro e w7 ⟨rfl, hb7⟩; have HB7 := hide (show Below w6.heap.size w6 w7 from (Below.refl _ _).drew.trans hb7); have HC7 := hide (HCL.out w7 HB7.out); have hrb := (HB6.out.trans (HB7.out.mono HB6.out.size)).block (w.heap.size + 1 + 1) (by have := HZ0.out; omega); have hrr := hrb.trans HRR.out; have y0 : w7.cell? ⟨w.heap.size + 1 + 1, 0, none⟩ = some (.int .i64 0) := (by simp [World.cell?, hrr]); have y1 : w7.cell? ⟨w.heap.size + 1 + 1, 1, none⟩ = some (.int .i64 0) := (by simp [World.cell?, hrr]); have y2 : w7.cell? ⟨w.heap.size + 1 + 1, 2, none⟩ = some (.int .i64 0) := (by simp [World.cell?, hrr]); have y3 : w7.cell? ⟨w.heap.size + 1 + 1, 3, none⟩ = some (.int .i64 0) := (by simp [World.cell?, hrr]); have y4 : w7.cell? ⟨w.heap.size + 1 + 1, 4, none⟩ = some (.int .i64 0) := (by simp [World.cell?, hrr]); have z : ∀ j, w7.frozen? ⟨w.heap.size + 1 + 1, j, none⟩ = false := (fun j => by simp [World.frozen?, hrr]); have z0 := z 0; have z1 := z 1; have z2 := z 2; have z3 := z 3; have z4 := z 4; clear hrb hrr hb7 z)
  (try dsimp only)
  refine hK.out _ _ (⟨HC7.out.1, HC7.out.2.1, HC7.out.2.2.1, HC7.out.2.2.2.1, HC7.out.2.2.2.2, HB0.out.trans ((HB6.out.trans (HB7.out.mono HB6.out.size)).mono HB0.out.size)⟩) (fun hHeld2 => ?_)
  clear hK K hHeld
  have hHeld := hHeld2
  clear hHeld2
  try simp only [Act.put, List.setIfInBounds_toArray, List.set_cons_zero, List.set_cons_succ]
  refine wpAnyH_ready (rs := [3]) (by kernel_rfl) (by simp) ?_
  refine AllReadyH.cons (o := ?o3_4) ?hi3_4 (fun K hK => ?hh3_4) AllReadyH.nil
  case hi3_4 => ((simp only [List.getElem?_toArray, List.getElem?_cons_succ, List.getElem?_cons_zero]); rfl)
  go_simp
  refine hK.out _ _ (by refine ⟨?_, ?_, ?_, ?_, ?_, ?_⟩ <;> first | (go_simp; done) | (repeat (refine Below.setCell ?_ (show w.heap.size ≤ w.heap.size + 1 + 1 by omega) _)); exact HB0.out.trans ((HB6.out.trans (HB7.out.mono HB6.out.size)).mono HB0.out.size)) (fun hHeld2 => ?_)
  clear hK K hHeld
  have hHeld := hHeld2
  clear hHeld2
  try simp only [Act.put, List.setIfInBounds_toArray, List.set_cons_zero, List.set_cons_succ]
  refine wpAnyH_take (i := 4) (oi := ?o4_5) (v := ?v4_5) ?hi4_5 ?hs4_5 ?hf4_5 ?hr4_5 (fun _ _ _ h => h) ?hy4_5 (by assumption) ?hh4_5
  case hi4_5 => ((simp only [List.getElem?_toArray, List.getElem?_cons_succ, List.getElem?_cons_zero]); rfl)
  case hs4_5 => kernel_rfl
  case hf4_5 => kernel_rfl
  case hr4_5 => kernel_rfl
  case hy4_5 => exact Or.inl ⟨by rfl, by (intro wq hSw; (try dsimp only at hSw); go_simp; (try with_reducible rfl))⟩
  try simp only [Act.put, List.setIfInBounds_toArray, List.set_cons_zero, List.set_cons_succ]
  refine wpAnyH_done (by kernel_rfl) ?_ _
  refine NoPanic.normal ?_
  go_wp2_with fail
  refine bodyPost_ret (v := .tuple #[.agg #[.int .i64 r0, .int .i64 r1, .int .i64 r2, .int .i64 r3, .int .i64 r4], .bool (dc (SoundOK [r0, r1, r2, r3, r4]))]) (by simp [results, Tryz.results48, go_sem, y0, y1, y2, y3, y4]) rfl ⟨?_, hHeld.2.2.2.2.2⟩
  obtain ⟨e0, e1, e2, e3, e4⟩ := HRE.out
  rw [HE5.out, e0, e1, e2, e3, e4]
end Go.Proofs.YtnefgafmnpblpaaGreat
namespace Go.Proofs.YtnefgafmnpblpaaGreat
open Go.RowKit Pn

/-- What a search is about: a model, a profile, a goal, and where they lie. -/
structure Cx where
  Az : Option Addr
  cz : Nat
  zs : List Int
  Aw : Option Addr
  cw : Nat
  ws : List (List Int)
  Ab : Option Addr
  cb : Nat
  bs : List Int
  nm : ByteArray
  A : Option Addr
  c : Nat
  rs : List RingR
  t0 : Int
  t1 : Int
  t2 : Int
  t3 : Int
  t4 : Int
  tol : Int
  most : Int
abbrev Cx.t (x : Cx) : List Int := [x.t0, x.t1, x.t2, x.t3, x.t4]
noncomputable def Cx.lim (x : Cx) : List Int := limB x.zs x.rs x.most
theorem Cx.lim_length (x : Cx) : x.lim.length = x.zs.length := limB_length _ _ _
/-- The partials after steps. -/
noncomputable def Cx.raw (x : Cx) (l : List Int) : List Int := rawT x.zs x.ws x.bs x.rs l
theorem Cx.raw_length (x : Cx) (l : List Int) : (x.raw l).length = 5 := rawP_length _ _ _ _
noncomputable def Cx.low (x : Cx) (l : List Int) : Bool := lowB x.t x.tol (x.raw l)
noncomputable def Cx.snd (x : Cx) (l : List Int) : Bool := dc (SoundOK (x.raw l))
noncomputable def Cx.dev (x : Cx) (l : List Int) : Int := grB (devs x.t (x.raw l))
noncomputable def Cx.plan (x : Cx) (l : List Int) : Bool := x.snd l && decide (x.dev l ≤ x.tol)
/-- Valid arguments of a search, in memory. -/
structure Cx.OK (x : Cx) (w0 : World) : Prop where
  md : MdAt w0 x.Az x.Aw x.Ab x.zs x.ws x.bs
  rg : SlAt encRing 3 w0 x.A x.rs
  ask : AskOK x.zs x.ws x.bs x.nm x.rs
  goal : GoalOK x.t x.tol x.most
  nm : x.nm.size ≤ maxLen
theorem Cx.OK.below {x : Cx} {w0 w : World} (h : x.OK w0) (hb : Below w0.heap.size w0 w) : x.OK w := ⟨h.md.below hb, h.rg.below hb, h.ask, h.goal, h.nm⟩
theorem Cx.OK.lim_bd {x : Cx} {w0 : World} (h : x.OK w0) : ∀ k, 0 ≤ ig x.lim k ∧ ig x.lim k ≤ 20 := Pn.lim_bd x.zs x.rs h.goal.most.1
/-- Steps so far, and no steps in the zones behind. -/
def pad (n : Nat) (l : List Int) : List Int := l ++ List.replicate (n - l.length) 0
theorem pad_length {n : Nat} {l : List Int} (h : l.length ≤ n) : (pad n l).length = n := by unfold pad; simp; omega
theorem ig_pad (n : Nat) (l : List Int) (k : Nat) : ig (pad n l) k = ig l k := by
  unfold pad ig
  rw [List.getD_eq_getElem?_getD, List.getD_eq_getElem?_getD]
  by_cases h : k < l.length
  · rw [List.getElem?_append_left h]
  · rw [List.getElem?_append_right (by omega), List.getElem?_replicate, List.getElem?_eq_none (by omega)]
    split <;> rfl
theorem raw_pad (x : Cx) (n : Nat) (l : List Int) : x.raw (pad n l) = x.raw l := by
  unfold Cx.raw rawT
  rw [turn_congr fun k => ig_pad n l k]
theorem pad_full {n : Nat} {l : List Int} (h : l.length = n) : pad n l = l := by unfold pad; rw [h, Nat.sub_self]; simp
theorem pad_set {n : Nat} {l : List Int} (v k : Int) : (pad n (l ++ [v])).set l.length k = pad n (l ++ [k]) := by
  unfold pad
  rw [List.append_assoc, List.append_assoc, List.set_append_right _ _ (Nat.le_refl _), Nat.sub_self]
  simp
theorem pad_zero {n : Nat} {l : List Int} (h : l.length < n) : pad n (l ++ [0]) = pad n l := by
  unfold pad
  rw [List.append_assoc, show n - l.length = (n - (l ++ [(0 : Int)]).length) + 1 by simp; omega, List.replicate_succ]
  rfl
/-- The cells of the searching struct. -/
abbrev Cx.cells (x : Cx) (left : Int) (spent : Bool) (gl lc gs sc : Nat) (sum : Int) (first : Bool) (cnt : Int) (fA : Option Addr) (fn fc : Nat) : Array Value :=
  #[.int .i64 left, .bool spent, .slice x.Az x.zs.length x.cz, .slice x.Aw x.ws.length x.cw, .slice x.Ab x.bs.length x.cb, .string x.nm, .slice x.A x.rs.length x.c, .int .i64 x.t0, .int .i64 x.t1, .int .i64 x.t2, .int .i64 x.t3, .int .i64 x.t4, .int .i64 x.tol, .int .i64 x.most,
    .slice (some ⟨gl, 0, none⟩) x.zs.length lc, .slice (some ⟨gs, 0, none⟩) x.zs.length sc, .int .i64 sum, .bool first, .int .i64 cnt, .slice fA fn fc]
/-- The searching struct in block b, its limits in block gl, its steps in block gs. -/
structure CuI (x : Cx) (w0 : World) (b gl lc gs sc : Nat) (sum : Int) (first : Bool) (w : World) (ss : List Int) (s : S) : Prop where
  st : ∃ fA fc, w.heap[b]? = some (.cells (x.cells s.left s.spent gl lc gs sc sum first s.count fA s.found.length fc) 85 (0, 0)) ∧ OwnI w (b + 1) (.slice fA s.found.length fc) s.found
  lim : OwnI w w0.heap.size (.slice (some ⟨gl, 0, none⟩) x.zs.length lc) x.lim
  row : OwnI w w0.heap.size (.slice (some ⟨gs, 0, none⟩) x.zs.length sc) ss
  ne : gl ≠ gs ∧ gl < b ∧ gs < b
  inv : Inv x.lim s
  bel : Below w0.heap.size w0 w
  hb : w0.heap.size ≤ b
section
variable {x : Cx} {w0 w w' : World} {b gl lc gs sc : Nat} {sum : Int} {first : Bool} {ss : List Int} {s : S}
theorem CuI.lt (h : CuI x w0 b gl lc gs sc sum first w ss s) : b < w.heap.size := by
  obtain ⟨fA, fc, h1, _⟩ := h.st
  exact heap_lt h1
theorem CuI.below (h : CuI x w0 b gl lc gs sc sum first w ss s) (hb : Below w.heap.size w w') : CuI x w0 b gl lc gs sc sum first w' ss s := by
  have hl := h.lt
  obtain ⟨fA, fc, h1, h2⟩ := h.st
  exact ⟨⟨fA, fc, (hb.block b hl).trans h1, h2.below hb⟩, h.lim.below hb, h.row.below hb, h.ne, h.inv, h.bel.trans (hb.mono h.bel.size), h.hb⟩
theorem own_ne {T : TypeId} {α : Type} {enc : α → List Value} {sz : Nat} {w : World} {B g n c q : Nat} {xs : List α} (h : Own enc sz T w B (.slice (some ⟨g, 0, none⟩) n c) xs) (hne : g ≠ q) (j : Nat) (v : Value) : Own enc sz T (w.setCell ⟨q, j, none⟩ v) B (.slice (some ⟨g, 0, none⟩) n c) xs :=
  h.kept (grown_set (grown_refl w (some q)) j v) (.inr fun e => by simp [Value.ownBlock] at e; exact hne e)
/-- A step is set. -/
theorem CuI.step (h : CuI x w0 b gl lc gs sc sum first w ss s) (k : Nat) (v : Int) : CuI x w0 b gl lc gs sc sum first (w.setCell ⟨gs, k, none⟩ (.int .i64 v)) (ss.set k v) s := by
  obtain ⟨fA, fc, h1, h2⟩ := h.st
  have hne := h.ne
  refine ⟨⟨fA, fc, (heap_other (by omega)).trans h1, ?_⟩, own_ne h.lim h.ne.1 _ _, own_set1 (f := fun x : Int => .int .i64 x) (fun _ => rfl) h.row v, h.ne, h.inv, h.bel.setCell (h.row.lt gs (by simp [Value.ownBlock])).1 _, h.hb⟩
  refine h2.kept (grown_set (grown_refl w (some gs)) k _) ?_
  cases e : (Value.slice fA s.found.length fc).ownBlock with
  | none => exact .inl rfl
  | some g => exact .inr fun q => by injection q with q; have := (h2.lt g e).1; omega
theorem CuI.cell (h : CuI x w0 b gl lc gs sc sum first w ss s) {j : Nat} {v : Value} {s' : S} (hst : ∀ fA fc, (x.cells s.left s.spent gl lc gs sc sum first s.count fA s.found.length fc).setIfInBounds j v = x.cells s'.left s'.spent gl lc gs sc sum first s'.count fA s'.found.length fc) (hf : s'.found = s.found) (hi : Inv x.lim s') :
    CuI x w0 b gl lc gs sc sum first (w.setCell ⟨b, j, none⟩ v) ss s' := by
  obtain ⟨fA, fc, h1, h2⟩ := h.st
  have hg := grown_set (grown_refl w (some b)) j v
  have hne := h.ne
  refine ⟨⟨fA, fc, (heap_set' v h1).trans (by rw [hst]), by rw [hf]; exact own_far' h2 hg⟩, own_ne h.lim (by omega) _ _, own_ne h.row (by omega) _ _, h.ne, hi, h.bel.setCell h.hb _, h.hb⟩
theorem CuI.node (h : CuI x w0 b gl lc gs sc sum first w ss s) (h0 : s.left ≠ 0) : CuI x w0 b gl lc gs sc sum first (w.setCell ⟨b, 0, none⟩ (.int .i64 (s.left - 1))) ss { s with left := s.left - 1 } :=
  h.cell (s' := { s with left := s.left - 1 }) (fun _ _ => rfl) rfl (h.inv.node h0).1
theorem CuI.over (h : CuI x w0 b gl lc gs sc sum first w ss s) : CuI x w0 b gl lc gs sc sum first (w.setCell ⟨b, 1, none⟩ (.bool true)) ss { s with spent := true } :=
  h.cell (s' := { s with spent := true }) (fun _ _ => rfl) rfl ⟨h.inv.l0, h.inv.c0, h.inv.sum, h.inv.fnd, h.inv.le⟩
theorem CuI.more (h : CuI x w0 b gl lc gs sc sum first w ss s) (hc : s.count + s.left + 1 ≤ 20000) : CuI x w0 b gl lc gs sc sum first (w.setCell ⟨b, 18, none⟩ (.int .i64 (s.count + 1))) ss { s with count := s.count + 1 } :=
  h.cell (s' := { s with count := s.count + 1 }) (fun _ _ => rfl) rfl ⟨h.inv.l0, by have := h.inv.c0; simp only; omega, by simp only; omega, h.inv.fnd, h.inv.le⟩
/-- A find is kept. -/
theorem CuI.find {A : Option Addr} {c : Nat} {l : List Int} (h : CuI x w0 b gl lc gs sc sum first w ss s) (ho : OwnI w' w.heap.size (.slice A l.length c) l) (hb : Below w.heap.size w w') (hp : Pre x.lim l) (hl : l.length = x.lim.length) :
    CuI x w0 b gl lc gs sc sum first (w'.setCell ⟨b, 19, none⟩ (.slice A l.length c)) ss { s with found := l } := by
  have hlt := h.lt
  obtain ⟨fA, fc, h1, h2⟩ := (h.below hb).st
  have hg := grown_set (grown_refl w' (some b)) 19 (.slice A l.length c)
  have hne := h.ne
  refine ⟨⟨A, c, (heap_set' _ h1), own_far' (ho.mono (by omega)) hg⟩, own_ne (h.below hb).lim (by omega) _ _, own_ne (h.below hb).row (by omega) _ _, h.ne, ⟨h.inv.l0, h.inv.c0, h.inv.sum, .inr ⟨hp, hl⟩, h.inv.le⟩, (h.below hb).bel.setCell h.hb _, h.hb⟩
end
end Go.Proofs.YtnefgafmnpblpaaGreat
namespace Go.Proofs.YtnefgafmnpblpaaGreat
open Go.RowKit Pn

section
variable {x : Cx} {w0 w : World} {b gl lc gs sc : Nat} {sum : Int} {first : Bool} {ss : List Int} {s : S}
theorem CuI.all (h : CuI x w0 b gl lc gs sc sum first w ss s) : w.cell? ⟨b, 0, none⟩ = some (.int .i64 s.left) ∧ w.cell? ⟨b, 1, none⟩ = some (.bool s.spent) ∧ w.cell? ⟨b, 2, none⟩ = some (.slice x.Az x.zs.length x.cz) ∧ w.cell? ⟨b, 3, none⟩ = some (.slice x.Aw x.ws.length x.cw) ∧ w.cell? ⟨b, 4, none⟩ = some (.slice x.Ab x.bs.length x.cb) ∧ w.cell? ⟨b, 5, none⟩ = some (.string x.nm) ∧ w.cell? ⟨b, 6, none⟩ = some (.slice x.A x.rs.length x.c) ∧ w.cell? ⟨b, 7, none⟩ = some (.int .i64 x.t0) ∧ w.cell? ⟨b, 8, none⟩ = some (.int .i64 x.t1) ∧ w.cell? ⟨b, 9, none⟩ = some (.int .i64 x.t2) ∧ w.cell? ⟨b, 10, none⟩ = some (.int .i64 x.t3) ∧ w.cell? ⟨b, 11, none⟩ = some (.int .i64 x.t4) ∧ w.cell? ⟨b, 12, none⟩ = some (.int .i64 x.tol) ∧ w.cell? ⟨b, 13, none⟩ = some (.int .i64 x.most) ∧ w.cell? ⟨b, 14, none⟩ = some (.slice (some ⟨gl, 0, none⟩) x.zs.length lc) ∧ w.cell? ⟨b, 15, none⟩ = some (.slice (some ⟨gs, 0, none⟩) x.zs.length sc) ∧ w.cell? ⟨b, 16, none⟩ = some (.int .i64 sum) ∧ w.cell? ⟨b, 17, none⟩ = some (.bool first) ∧ w.cell? ⟨b, 18, none⟩ = some (.int .i64 s.count) ∧ ∀ j, w.frozen? ⟨b, j, none⟩ = false := by
  obtain ⟨fA, fc, h1, _⟩ := h.st
  exact ⟨by simp [World.cell?, h1], by simp [World.cell?, h1], by simp [World.cell?, h1], by simp [World.cell?, h1], by simp [World.cell?, h1], by simp [World.cell?, h1], by simp [World.cell?, h1], by simp [World.cell?, h1], by simp [World.cell?, h1], by simp [World.cell?, h1], by simp [World.cell?, h1], by simp [World.cell?, h1], by simp [World.cell?, h1], by simp [World.cell?, h1], by simp [World.cell?, h1], by simp [World.cell?, h1], by simp [World.cell?, h1], by simp [World.cell?, h1], by simp [World.cell?, h1], fun j => by simp [World.frozen?, h1]⟩
theorem CuI.fnd (h : CuI x w0 b gl lc gs sc sum first w ss s) : ∃ fA fc, w.cell? ⟨b, 19, none⟩ = some (.slice fA s.found.length fc) ∧ OwnI w (b + 1) (.slice fA s.found.length fc) s.found := by
  obtain ⟨fA, fc, h1, h2⟩ := h.st
  exact ⟨fA, fc, by simp [World.cell?, h1], h2⟩
end
/-- Whether steps of some sum are tried. -/
def triB (sum : Int) (n z : Nat) (m : Int) : Bool := decide (sum < 0) || (decide (m ≤ sum) && (decide (z + 1 < n) || decide (m = sum)))
theorem tried_eq {q : Q} {l : List Int} {k : Nat} {n : Nat} (hn : q.lim.length = n) : tried q (l ++ [(k : Int)]) = triB q.sum n l.length (sumA l + k) := by
  unfold tried triB
  rw [sumA_snoc, hn, List.length_append, List.length_singleton]
set_option maxRecDepth 100000 in
theorem isTried_is {x : Cx} {w0 w : World} {b gl lc gs sc : Nat} {sum : Int} {first : Bool} {ss : List Int} {s : S} (z : Nat) (m : Int) (v : Bool) (HS : Hid (CuI x w0 b gl lc gs sc sum first w ss s)) (hn : 1 ≤ x.zs.length) (hn8 : x.zs.length ≤ 8) (hv : Hid (triB sum x.zs.length z m = v)) :
    Calls Tryz.prog 97 #[.pointer (some ⟨b, 0, none⟩), .int .i64 z, .int .i64 m] w fun e w' => e = .returned (.bool v) ∧ w = w' := by
  obtain ⟨k0, k1, k2, k3, k4, k5, k6, k7, k8, k9, k10, k11, k12, k13, k14, k15, k16, k17, k18, kf⟩ := HS.out.all
  clear k0 k1 k2 k3 k4 k5 k6 k7 k8 k9 k10 k11 k12 k13 k14 k17 k18 kf
  by_cases h1 : sum < 0
  · have E := hide (show v = true from by rw [← hv.out]; unfold triB; simp [h1])
    go_enter Tryz.func97, Tryz.ntmps97
    go_wp2_with fail
    go_ret
    exact ⟨ret_bool E.out.symm, rfl⟩
  · by_cases h2 : m ≤ sum
    · by_cases h3 : z + 1 < x.zs.length
      · have E := hide (show v = true from by rw [← hv.out]; unfold triB; simp [h2, h3])
        have h3i : (z : Int) < (x.zs.length : Int) - 1 := by omega
        go_enter Tryz.func97, Tryz.ntmps97
        go_wp2_with fail
        go_ret
        exact ⟨ret_bool E.out.symm, rfl⟩
      · have h3i : ¬ (z : Int) < (x.zs.length : Int) - 1 := by omega
        have E := hide (show v = decide (m = sum) from by rw [← hv.out]; unfold triB; simp [h1, h2, h3])
        by_cases h4 : m = sum
        · have E2 := hide (show v = true from by rw [E.out]; simp [h4])
          have h5 : (m == sum) = true := by simpa using h4
          clear h4
          go_enter Tryz.func97, Tryz.ntmps97
          go_wp2_with fail
          go_ret
          exact ⟨ret_bool E2.out.symm, rfl⟩
        · have E2 := hide (show v = false from by rw [E.out]; simp [h4])
          have h5 : (m == sum) = false := by simpa using h4
          clear h4
          go_enter Tryz.func97, Tryz.ntmps97
          go_wp2_with fail
          go_ret
          exact ⟨ret_bool E2.out.symm, rfl⟩
    · have E := hide (show v = false from by rw [← hv.out]; unfold triB; simp [h1, h2])
      go_enter Tryz.func97, Tryz.ntmps97
      go_wp2_with fail
      go_ret
      exact ⟨ret_bool E.out.symm, rfl⟩
set_option maxRecDepth 100000 in
theorem done_is {x : Cx} {w0 w : World} {b gl lc gs sc : Nat} {sum : Int} {first : Bool} {ss : List Int} {s : S} (v : Bool) (HS : Hid (CuI x w0 b gl lc gs sc sum first w ss s)) (hv : Hid ((s.spent || (first && decide (0 < s.count))) = v)) :
    Calls Tryz.prog 44 #[.pointer (some ⟨b, 0, none⟩)] w fun e w' => e = .returned (.bool v) ∧ w = w' := by
  obtain ⟨k0, k1, k2, k3, k4, k5, k6, k7, k8, k9, k10, k11, k12, k13, k14, k15, k16, k17, k18, kf⟩ := HS.out.all
  clear k0 k2 k3 k4 k5 k6 k7 k8 k9 k10 k11 k12 k13 k14 k15 k16 kf
  obtain ⟨left, spent, count, found, least⟩ := s
  simp only at k1 k18 hv
  clear HS
  cases spent
  · cases first
    · have E := hide (show v = false from by rw [← hv.out]; rfl)
      go_enter Tryz.func44, Tryz.ntmps44
      go_wp2_with fail
      go_ret
      exact ⟨ret_bool E.out.symm, rfl⟩
    · have E := hide (show v = decide (0 < count) from by rw [← hv.out]; simp)
      go_enter Tryz.func44, Tryz.ntmps44
      go_wp2_with fail
      go_ret
      exact ⟨ret_bool E.out.symm, rfl⟩
  · have E := hide (show v = true from by rw [← hv.out]; rfl)
    go_enter Tryz.func44, Tryz.ntmps44
    go_wp2_with fail
    go_ret
    exact ⟨ret_bool E.out.symm, rfl⟩
theorem node_none (b : Nat) (s : Bool) (w : World) (c0 : w.cell? ⟨b, 0, none⟩ = some (.int .i64 0)) (c1 : w.cell? ⟨b, 1, none⟩ = some (.bool s)) (f1 : w.frozen? ⟨b, 1, none⟩ = false) :
    Calls Tryz.prog 98 #[.pointer (some ⟨b, 0, none⟩)] w fun e w' => e = .returned (.bool false) ∧ w.setCell ⟨b, 1, none⟩ (.bool true) = w' := by
  go_enter Tryz.func98, Tryz.ntmps98
  go_wp2_with fail
  go_ret
  exact ⟨rfl, rfl⟩
theorem node_some (b : Nat) (n : Int) (w : World) (h0 : n ≠ 0) (h1 : 0 ≤ n) (h2 : n ≤ 1000000000) (c0 : w.cell? ⟨b, 0, none⟩ = some (.int .i64 n)) (f0 : w.frozen? ⟨b, 0, none⟩ = false) :
    Calls Tryz.prog 98 #[.pointer (some ⟨b, 0, none⟩)] w fun e w' => e = .returned (.bool true) ∧ w.setCell ⟨b, 0, none⟩ (.int .i64 (n - 1)) = w' := by
  have e : (n == 0) = false := by simpa using h0
  clear h0
  go_enter Tryz.func98, Tryz.ntmps98
  go_wp2_with fail
  go_ret
  exact ⟨rfl, rfl⟩
end Go.Proofs.YtnefgafmnpblpaaGreat
