/- Contracts: the program's sound after steps, and whether steps are too low or a plan. -/
import Derived.Test.YtnefgafmnpblpaaGreatPnZ
namespace Go.Proofs.YtnefgafmnpblpaaGreat
open Go.RowKit Pn

theorem ownR_cap {w : World} {B c : Nat} {A : Option Addr} {rs : List RingR} (h : OwnR w B (.slice A rs.length c) rs) (h0 : 0 < rs.length) : rs.length ≤ c := by
  rcases h.2 with ⟨e, q⟩ | ⟨g, cap, cur, e, _, _, hc, _⟩
  · omega
  · injection e with _ _ e; omega
theorem five_eta {l : List Int} (h : l.length = 5) : [ig l 0, ig l 1, ig l 2, ig l 3, ig l 4] = l := by
  match l, h with
  | [a, b, c, d, e], _ => rfl
/-- What is known of steps of a search. -/
structure StOK (zs : List Int) (rs : List RingR) (st : List Int) : Prop where
  len : st.length = zs.length
  small : SmallI st
  ok : RingsOK (turn zs st rs)
theorem zones_turn {zs st : List Int} {rs : List RingR} (h : ZonesOK zs rs.length) : ZonesOK zs ((turn zs st rs).length) := by rw [turn_length]; exact h
set_option maxRecDepth 100000 in
set_option maxHeartbeats 1000000 in
theorem implsoundAfter (Az Aw Ab : Option Addr) (cz cw cb : Nat) (zs : List Int) (ws : List (List Int)) (bs : List Int) (nm : ByteArray) (A : Option Addr) (c : Nat) (rs : List RingR) (As : Option Addr) (cs : Nat) (st : List Int) (w : World) (hm : MdAt w Az Aw Ab zs ws bs) (hr : SlAt encRing 3 w A rs) (hst : SlAt encI 1 w As st) (hs : nm.size ≤ maxLen) (HA : Hid (AskOK zs ws bs nm rs)) (HST : Hid (StOK zs rs st)) :
    Calls Tryz.prog 48 #[.agg #[.slice Az zs.length cz, .slice Aw ws.length cw, .slice Ab bs.length cb], .agg #[.string nm, .slice A rs.length c], .slice As zs.length cs] w fun e w' => e = .returned (.tuple #[.agg #[.int .i64 (ig (rawT zs ws bs rs st) 0), .int .i64 (ig (rawT zs ws bs rs st) 1), .int .i64 (ig (rawT zs ws bs rs st) 2), .int .i64 (ig (rawT zs ws bs rs st) 3), .int .i64 (ig (rawT zs ws bs rs st) 4)], .bool (dc (SoundOK (rawT zs ws bs rs st)))]) ∧ Below w.heap.size w w' := by
  obtain ⟨w0, hw0⟩ : ∃ w0, w0 = ((w.alloc (.cells #[.slice Az zs.length cz, .slice Aw ws.length cw, .slice Ab bs.length cb] 27)).alloc (.cells #[.string nm, .slice A rs.length c] 30)).alloc (.cells #[.int .i64 0, .int .i64 0, .int .i64 0, .int .i64 0, .int .i64 0] 32) := ⟨_, rfl⟩
  have hX : Boxes2 w w0 w.heap.size Az cz Aw cw Ab cb zs ws bs nm A c rs := by rw [hw0]; exact (boxes2 hm hr).below ((Below.refl _ _).alloc (Nat.le_refl _) _)
  have hRR : w0.heap[w.heap.size + 1 + 1]? = some (.cells #[.int .i64 0, .int .i64 0, .int .i64 0, .int .i64 0, .int .i64 0] 32 (0, 0)) := by rw [hw0]; simpa using heap_alloc_new ((w.alloc (.cells #[.slice Az zs.length cz, .slice Aw ws.length cw, .slice Ab bs.length cb] 27)).alloc (.cells #[.string nm, .slice A rs.length c] 30)) (.cells #[.int .i64 0, .int .i64 0, .int .i64 0, .int .i64 0, .int .i64 0] 32)
  have hz0 : w0.heap.size = w.heap.size + 1 + 1 + 1 := by rw [hw0]; simp
  have HX := hide hX
  have HRR := hide hRR
  have HZ0 := hide hz0
  have HS0 := hide (hst.below hX.bel)
  have HBW0 := hide hX.bel
  have c0 := hX.m.c0
  have p0 := hX.p.c0
  have p1 := hX.p.c1
  have pl := hX.p.lt
  have hcon := implturned nm A c rs Az As cz cs zs st w0 hX.p.sl hX.m.md.z HS0.out HA.out.r.len32 HA.out.r.len1 (hide HA.out.z) (by have := HST.out.len; omega) (by have := HST.out.len; have := HA.out.z.len8; omega) (hide HST.out.small) (hide HA.out.r.inner)
  rw [HST.out.len] at hcon
  have HCT := hide hcon
  have hl1 : 0 < (turn zs st rs).length := by rw [turn_length]; exact HA.out.r.len1
  have hl32 : (turn zs st rs).length ≤ 32 := by rw [turn_length]; exact HA.out.r.len32
  have HPB := hide (profB_ok HA.out.n HST.out.ok)
  have HWL := hide HST.out.ok.walls
  have HZT := hide (zones_turn (st := st) HA.out.z)
  clear hm hr hst hX hRR hz0 hcon
  go_enter Tryz.func48, Tryz.ntmps48
  go_wp2_with fail
  rw [← hw0]
  clear hw0
  refine HCT.out.mono ?_
  rintro e w1 ⟨A1, c1, rfl, ho1, hb1⟩
  have HP2 := hide (ProfAt.new (nm := nm) (c := c1) (Own.at_ (enc := encRing) (fun _ => rfl) ho1))
  have HCAP := hide (ownR_cap ho1 hl1)
  have hb1' : Below w0.heap.size w0 (w1.alloc (.cells #[.string nm, .slice A1 (turn zs st rs).length c1] 30)) := hb1.alloc hb1.size _
  have HB1 := hide hb1'
  have hq2 : w0.heap.size ≤ w1.heap.size := hb1.size
  obtain ⟨q, hq⟩ : ∃ q, q = w1.heap.size := ⟨_, rfl⟩
  clear ho1 hb1 hb1' HCT c0 p0 p1 pl
  go_wp2_with fail
  rw [← hq] at HP2 hq2 ⊢
  clear hq
  generalize w1.alloc (.cells #[.string nm, .slice A1 (turn zs st rs).length c1] 30) = w2 at *
  refine (implValidProfile nm A1 c1 (turn zs st rs) w2 HP2.out.sl (by omega) hs).mono ?_
  rintro e w3 ⟨rfl, hb3⟩
  rw [HPB.out]
  have HX3 := hide ((HX.out.below HB1.out).below hb3)
  have HP3 := hide (HP2.out.below hb3)
  have HB3 := hide (HB1.out.trans (hb3.mono HB1.out.size))
  have c0 := HX3.out.m.c0
  have c1' := HX3.out.m.c1
  have c2 := HX3.out.m.c2
  have ml := HX3.out.m.lt
  have p0 := HP3.out.c0
  have p1 := HP3.out.c1
  have pl := HP3.out.lt
  clear hb3 HP2 HB1 HX
  go_wp2_with fail
  refine (implrawPartials Az Aw Ab cz cw cb zs ws bs nm A1 c1 (turn zs st rs) w3 HX3.out.m.md HP3.out.sl hl32 hl1 HCAP.out (hide HA.out.m) HZT HWL).mono ?_
  rintro e w4 ⟨A4, c4, rfl, ho4, hb4⟩
  have HO4 := hide (show SlAt encI 1 w4 A4 [ig (rawT zs ws bs rs st) 0, ig (rawT zs ws bs rs st) 1, ig (rawT zs ws bs rs st) 2, ig (rawT zs ws bs rs st) 3, ig (rawT zs ws bs rs st) 4] from by
    rw [five_eta (show (rawT zs ws bs rs st).length = 5 from rawP_length _ _ _ _)]
    exact OwnI.sl ho4 (rawP_length _ _ _ _).symm)
  have HB4 := hide (HB3.out.trans (hb4.mono HB3.out.size))
  have HE5 := hide (show SoundOK [ig (rawT zs ws bs rs st) 0, ig (rawT zs ws bs rs st) 1, ig (rawT zs ws bs rs st) 2, ig (rawT zs ws bs rs st) 3, ig (rawT zs ws bs rs st) 4] = SoundOK (rawT zs ws bs rs st) from by rw [five_eta (show (rawT zs ws bs rs st).length = 5 from rawP_length _ _ _ _)])
  clear ho4 hb4 HB3 c0 c1' c2 ml p0 p1 pl
  obtain ⟨r0, hr0⟩ : ∃ r, r = ig (rawT zs ws bs rs st) 0 := ⟨_, rfl⟩
  obtain ⟨r1, hr1⟩ : ∃ r, r = ig (rawT zs ws bs rs st) 1 := ⟨_, rfl⟩
  obtain ⟨r2, hr2⟩ : ∃ r, r = ig (rawT zs ws bs rs st) 2 := ⟨_, rfl⟩
  obtain ⟨r3, hr3⟩ : ∃ r, r = ig (rawT zs ws bs rs st) 3 := ⟨_, rfl⟩
  obtain ⟨r4, hr4⟩ : ∃ r, r = ig (rawT zs ws bs rs st) 4 := ⟨_, rfl⟩
  rw [← hr0, ← hr1, ← hr2, ← hr3, ← hr4] at HO4 HE5
  have HRE := hide (And.intro hr0 (And.intro hr1 (And.intro hr2 (And.intro hr3 hr4))))
  clear hr0 hr1 hr2 hr3 hr4
  go_wp2_with fail
  refine (implsoundOf_is A4 c4 r0 r1 r2 r3 r4 w4 HO4.out).mono ?_
  rintro e w5 ⟨rfl, hb5⟩
  have hb6 : Below w0.heap.size w0 (w5.alloc (.cells #[.int .i64 r0, .int .i64 r1, .int .i64 r2, .int .i64 r3, .int .i64 r4] 32)) := (HB4.out.trans (hb5.mono HB4.out.size)).alloc (Nat.le_trans HB4.out.size hb5.size) _
  have hq6 := heap_alloc_new w5 (.cells #[.int .i64 r0, .int .i64 r1, .int .i64 r2, .int .i64 r3, .int .i64 r4] 32)
  have HB6 := hide hb6
  have HQ6 := hide hq6
  have HZ5 := hide (Nat.le_trans HB4.out.size hb5.size)
  clear hb5 hb6 hq6 HB4 HO4
  go_wp2_with fail
  obtain ⟨q5, hq5⟩ : ∃ q5, q5 = w5.heap.size := ⟨_, rfl⟩
  rw [← hq5] at HQ6 HZ5 ⊢
  clear hq5
  generalize w5.alloc (.cells #[.int .i64 r0, .int .i64 r1, .int .i64 r2, .int .i64 r3, .int .i64 r4] 32) = w6 at *
  have hql := heap_lt HQ6.out
  have HCL := hide (show ∀ w', Below w6.heap.size w6 w' → w'.cell? ⟨q5, 0, none⟩ = some (.int .i64 r0) ∧ w'.cell? ⟨q5, 1, none⟩ = some (.int .i64 r1) ∧ w'.cell? ⟨q5, 2, none⟩ = some (.int .i64 r2) ∧ w'.cell? ⟨q5, 3, none⟩ = some (.int .i64 r3) ∧ w'.cell? ⟨q5, 4, none⟩ = some (.int .i64 r4) from fun w' hb => by
    have hq := HQ6.out
    refine ⟨?_, ?_, ?_, ?_, ?_⟩
    · exact (hb.cell (p := ⟨q5, 0, none⟩) hql).trans (by simp [World.cell?, hq])
    · exact (hb.cell (p := ⟨q5, 1, none⟩) hql).trans (by simp [World.cell?, hq])
    · exact (hb.cell (p := ⟨q5, 2, none⟩) hql).trans (by simp [World.cell?, hq])
    · exact (hb.cell (p := ⟨q5, 3, none⟩) hql).trans (by simp [World.cell?, hq])
    · exact (hb.cell (p := ⟨q5, 4, none⟩) hql).trans (by simp [World.cell?, hq]))
  have hne : q5 ≠ w.heap.size + 1 + 1 := by have := HZ0.out; have := HZ5.out; omega
  have hne2 : ¬ w.heap.size + 1 + 1 = q5 := fun h => hne h.symm
  have HB0 := HBW0
  refine wp_region_noPanic ?_
  refine wp_region_held_drew (S := (fun w' => w'.cell? ⟨q5, 0, none⟩ = some (.int .i64 r0) ∧ w'.cell? ⟨q5, 1, none⟩ = some (.int .i64 r1) ∧ w'.cell? ⟨q5, 2, none⟩ = some (.int .i64 r2) ∧ w'.cell? ⟨q5, 3, none⟩ = some (.int .i64 r3) ∧ w'.cell? ⟨q5, 4, none⟩ = some (.int .i64 r4) ∧ Below w.heap.size w w')) (by kernel_rfl) (⟨(HCL.out _ (Below.refl _ _).drew).1, (HCL.out _ (Below.refl _ _).drew).2.1, (HCL.out _ (Below.refl _ _).drew).2.2.1, (HCL.out _ (Below.refl _ _).drew).2.2.2.1, (HCL.out _ (Below.refl _ _).drew).2.2.2.2, (HB0.out.trans (HB6.out.mono HB0.out.size)).drew⟩) (fun hHeld => ?_)
  refine wpAnyH_take (i := 0) (oi := ?o0_1) (v := ?v0_1) ?hi0_1 ?hs0_1 ?hf0_1 ?hr0_1 (fun _ _ _ h => h) ?hy0_1 (by assumption) ?hh0_1
  case hi0_1 => ((simp only [List.getElem?_toArray, List.getElem?_cons_zero]); rfl)
  case hs0_1 => kernel_rfl
  case hf0_1 => kernel_rfl
  case hr0_1 => kernel_rfl
  case hy0_1 => exact Or.inl ⟨by rfl, by (intro wq hSw; (try dsimp only at hSw); go_simp; (try with_reducible rfl))⟩
  try simp only [Act.put, List.setIfInBounds_toArray, List.set_cons_zero, List.set_cons_succ]
  refine wpAnyH_take (i := 1) (oi := ?o1_2) (v := ?v1_2) ?hi1_2 ?hs1_2 ?hf1_2 ?hr1_2 (fun _ _ _ h => h) ?hy1_2 (by assumption) ?hh1_2
  case hi1_2 => ((simp only [List.getElem?_toArray, List.getElem?_cons_succ, List.getElem?_cons_zero]); rfl)
  case hs1_2 => kernel_rfl
  case hf1_2 => kernel_rfl
  case hr1_2 => kernel_rfl
  case hy1_2 => exact Or.inl ⟨by rfl, by (intro wq hSw; (try dsimp only at hSw); go_simp; (try with_reducible rfl))⟩
  try simp only [Act.put, List.setIfInBounds_toArray, List.set_cons_zero, List.set_cons_succ]
  refine wpAnyH_ready (rs := [2]) (by kernel_rfl) (by simp) ?_
  refine AllReadyH.cons (o := ?o2_3) ?hi2_3 (fun K hK => ?hh2_3) AllReadyH.nil
  case hi2_3 => ((simp only [List.getElem?_toArray, List.getElem?_cons_succ, List.getElem?_cons_zero]); rfl)
  go_simp
  (go_at_call 104; refine (ValidSound_is _ _ _ _ _ _).mono ?_; rintro e w7 ⟨rfl, hb7⟩; have HB7 := hide (show Below w6.heap.size w6 w7 from (Below.refl _ _).drew.trans hb7); have HC7 := hide (HCL.out w7 HB7.out); have hrb := (HB6.out.trans (HB7.out.mono HB6.out.size)).block (w.heap.size + 1 + 1) (by have := HZ0.out; omega); have hrr := hrb.trans HRR.out; have y0 : w7.cell? ⟨w.heap.size + 1 + 1, 0, none⟩ = some (.int .i64 0) := (by simp [World.cell?, hrr]); have y1 : w7.cell? ⟨w.heap.size + 1 + 1, 1, none⟩ = some (.int .i64 0) := (by simp [World.cell?, hrr]); have y2 : w7.cell? ⟨w.heap.size + 1 + 1, 2, none⟩ = some (.int .i64 0) := (by simp [World.cell?, hrr]); have y3 : w7.cell? ⟨w.heap.size + 1 + 1, 3, none⟩ = some (.int .i64 0) := (by simp [World.cell?, hrr]); have y4 : w7.cell? ⟨w.heap.size + 1 + 1, 4, none⟩ = some (.int .i64 0) := (by simp [World.cell?, hrr]); have z : ∀ j, w7.frozen? ⟨w.heap.size + 1 + 1, j, none⟩ = false := (fun j => by simp [World.frozen?, hrr]); have z0 := z 0; have z1 := z 1; have z2 := z 2; have z3 := z 3; have z4 := z 4; clear hrb hrr hb7 z)
  (try dsimp only)
  refine hK.out _ _ (⟨HC7.out.1, HC7.out.2.1, HC7.out.2.2.1, HC7.out.2.2.2.1, HC7.out.2.2.2.2, HB0.out.trans ((HB6.out.trans (HB7.out.mono HB6.out.size)).mono HB0.out.size)⟩) (fun hHeld2 => ?_)
  clear hK K hHeld
  have hHeld := hHeld2
  clear hHeld2
  try simp only [Act.put, List.setIfInBounds_toArray, List.set_cons_zero, List.set_cons_succ]
  refine wpAnyH_ready (rs := [3]) (by kernel_rfl) (by simp) ?_
  refine AllReadyH.cons (o := ?o3_4) ?hi3_4 (fun K hK => ?hh3_4) AllReadyH.nil
  case hi3_4 => ((simp only [List.getElem?_toArray, List.getElem?_cons_succ, List.getElem?_cons_zero]); rfl)
  go_simp
  refine hK.out _ _ (by refine ⟨?_, ?_, ?_, ?_, ?_, ?_⟩ <;> first | (go_simp; done) | (repeat (refine Below.setCell ?_ (show w.heap.size ≤ w.heap.size + 1 + 1 by omega) _)); exact HB0.out.trans ((HB6.out.trans (HB7.out.mono HB6.out.size)).mono HB0.out.size)) (fun hHeld2 => ?_)
  clear hK K hHeld
  have hHeld := hHeld2
  clear hHeld2
  try simp only [Act.put, List.setIfInBounds_toArray, List.set_cons_zero, List.set_cons_succ]
  refine wpAnyH_take (i := 4) (oi := ?o4_5) (v := ?v4_5) ?hi4_5 ?hs4_5 ?hf4_5 ?hr4_5 (fun _ _ _ h => h) ?hy4_5 (by assumption) ?hh4_5
  case hi4_5 => ((simp only [List.getElem?_toArray, List.getElem?_cons_succ, List.getElem?_cons_zero]); rfl)
  case hs4_5 => kernel_rfl
  case hf4_5 => kernel_rfl
  case hr4_5 => kernel_rfl
  case hy4_5 => exact Or.inl ⟨by rfl, by (intro wq hSw; (try dsimp only at hSw); go_simp; (try with_reducible rfl))⟩
  try simp only [Act.put, List.setIfInBounds_toArray, List.set_cons_zero, List.set_cons_succ]
  refine wpAnyH_done (by kernel_rfl) ?_ _
  refine NoPanic.normal ?_
  go_wp2_with fail
  refine bodyPost_ret (v := .tuple #[.agg #[.int .i64 r0, .int .i64 r1, .int .i64 r2, .int .i64 r3, .int .i64 r4], .bool (dc (SoundOK [r0, r1, r2, r3, r4]))]) (by simp [results, Tryz.results48, go_sem, y0, y1, y2, y3, y4]) rfl ⟨?_, hHeld.2.2.2.2.2⟩
  obtain ⟨e0, e1, e2, e3, e4⟩ := HRE.out
  rw [HE5.out, e0, e1, e2, e3, e4]
end Go.Proofs.YtnefgafmnpblpaaGreat
