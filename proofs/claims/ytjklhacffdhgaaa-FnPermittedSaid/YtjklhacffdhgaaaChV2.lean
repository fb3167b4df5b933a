/- A visit of a charge that does not fit. -/
import Derived.Test.YtjklhacffdhgaaaChV0
namespace Go.Proofs.Ytjklhacffdhgaaa
open Go.RowKit

set_option maxRecDepth 100000 in
set_option maxHeartbeats 8000000 in
theorem visit_no (w0 : World) (b : Nat) (A : Option Addr) (c dq : Nat) (xs : List IngotR) (d0 d1 d2 d3 d4 : Int) (first : Bool) (budget : Int) (HX : Hid (SlAt encIngot 5 w0 A xs)) (HV : Hid (∀ x ∈ xs, vIngotX x = true)) (hn : xs.length ≤ 16) (HD : Hid (vDem d0 d1 d2 d3 d4 = true)) (hdq : dq < w0.heap.size) (HQ : Hid (w0.cell? ⟨dq, 0, none⟩ = some (.int .i64 d0) ∧ w0.cell? ⟨dq, 1, none⟩ = some (.int .i64 d1) ∧ w0.cell? ⟨dq, 2, none⟩ = some (.int .i64 d2) ∧ w0.cell? ⟨dq, 3, none⟩ = some (.int .i64 d3) ∧ w0.cell? ⟨dq, 4, none⟩ = some (.int .i64 d4))) (f : Nat) (ih : VisitOK w0 b A c dq xs d0 d1 d2 d3 d4 first budget f) (ch : List Int) (k0 : Nat) (left count : Int) (best : List Int) (least : Int) (w : World) (cv : Option Addr) (cc : Nat) (bv : Option Addr) (bc : Nat) (hf : xs.length < f + 1 + k0)
    (HS : Hid (ChX w0 b A xs.length c dq first budget w cv cc ch (sumB fM xs ch) (sumB fT xs ch) (sumB fO xs ch) bv bc ⟨left, false, count, best, least⟩)) (HG : Hid (GoodCh xs.length ch)) (hck : ch.length ≤ k0) (hk0 : k0 ≤ xs.length) (hmd : sumB fM xs ch ≤ d1) (HE : Hid (Ch.ended first ⟨left, false, count, best, least⟩ = false)) (hl0 : ¬ left = 0) (hfit : fitC d0 d1 d2 d3 d4 xs ch = false) :
    Calls Try.prog 148 #[.pointer (some ⟨b, 0, none⟩), .int .i64 k0] w fun e w' => ∃ (s' : Ch.S) (cv' : Option Addr) (cc' : Nat) (bv' : Option Addr) (bc' : Nat), e = .returned (.bool (!Ch.ended first s')) ∧ Ch.srch first (fitC d0 d1 d2 d3 d4 xs) (xs.map fM) d1 (f + 1) ch (sumB fM xs ch) k0 ⟨left, false, count, best, least⟩ = s' ∧ ChX w0 b A xs.length c dq first budget w' cv' cc' ch (sumB fM xs ch) (sumB fT xs ch) (sumB fO xs ch) bv' bc' s' ∧ Fr b w w' (.slice cv ch.length cc) (.slice cv' ch.length cc') := by
  have _u1 := HX
  have _u2 := hdq
  have _u3 := HQ
  have _u4 := ih
  have _u5 := hf
  have _u6 := hmd
  have _u7 := HV
  have _u8 := hn
  have _u9 := HG
  clear _u1 _u2 _u3 _u4 _u5 _u6 _u7 _u8 _u9
  obtain ⟨⟨a0, a1⟩, a2, ⟨a3, a4⟩, a5, a6, a7⟩ := vDem_true HD.out
  have hbd := sums_bd (ch := ch) HV.out HG.out (by omega)
  have hfc : fitC d0 d1 d2 d3 d4 xs ch = fitB d0 d1 d2 d3 d4 (sumB fM xs ch) (sumB fT xs ch) (sumB fO xs ch) := rfl
  have HFC := hide hfc
  clear hfc
  generalize hm : sumB fM xs ch = m at *
  generalize ht : sumB fT xs ch = t at *
  generalize ho : sumB fO xs ch = o at *
  have HM := hide (And.intro hm (And.intro ht ho))
  obtain ⟨⟨m0, m1⟩, ⟨t0, t1⟩, o0, o1⟩ := hbd
  clear hm ht ho
  have hbl := HS.out.lt
  have h1 := HS.out.st
  obtain ⟨l0, l1, l2⟩ := HS.out.inv
  obtain ⟨u0, u1⟩ := HS.out.bud
  simp only at l0 l1 l2 u0
  have hnd : Ch.nodes budget ⟨left, false, count, best, least⟩ = budget - left := by simp [Ch.nodes]
  simp only [hnd] at h1
  have g10 : w.cell? ⟨b, 10, none⟩ = some (.int .i64 (budget - left)) := by simp [World.cell?, h1]
  have g11 : w.cell? ⟨b, 11, none⟩ = some (.int .i64 budget) := by simp [World.cell?, h1]
  have f10 : w.frozen? ⟨b, 10, none⟩ = false := by simp [World.frozen?, h1]
  have hw1 : wrap64 (budget - left + 1) = budget - left + 1 := by simp only [wrap64]; omega
  clear h1 hw1
  have Khfit := hide hfit
  clear hfit
  have HS1 := hide (HS.out.node (nd := budget - left + 1) hl0 (by rw [hnd]))
  have HL := hide hl0
  have hgt : decide (budget < budget - (left - 1)) = false := by simp; omega
  have HF1 := hide ((Fr.refl (b := b) (w := w) (v := .slice cv ch.length cc)).set 10 (.int .i64 (budget - left + 1)))
  clear HS hnd hl0
  go_enter Try.func148, Try.ntmps148
  go_wp2_with fail
  generalize w.setCell ⟨b, 10, none⟩ (.int .i64 (budget - left + 1)) = w1 at *
  have hst := HS1.out.st
  have hb1 := HS1.out.lt
  have g10' : w1.cell? ⟨b, 10, none⟩ = some (.int .i64 (budget - (left - 1))) := by simp [World.cell?, hst, Ch.nodes]
  have g11' : w1.cell? ⟨b, 11, none⟩ = some (.int .i64 budget) := by simp [World.cell?, hst]
  clear hst g10 g11 f10
  refine wp_region_kept (by kernel_rfl) (by kernel_rfl) ?_
  intro gc gf gz
  repeat (go_big_quiet_step (fail))
  refine wpQuiet_nil ?_
  intro w2 hw'
  obtain ⟨⟨_, hb2⟩, rfl⟩ := hw'
  clear gc gf gz
  try dsimp only
  have fs2 := hb2.size
  try simp at fs2 hb2
  have HS2 := hide (HS1.out.below hb2)
  have HF2 := hide (HF1.out.below hb2)
  clear HS1 HF1 hb2 fs2 hb1 g10' g11'
  have hst := HS2.out.st
  have hb2 := HS2.out.lt
  have g1 : w2.cell? ⟨b, 1, none⟩ = some (.pointer (some ⟨dq, 0, none⟩)) := by simp [World.cell?, hst]
  have g3 : w2.cell? ⟨b, 3, none⟩ = some (.int .i64 m) := by simp [World.cell?, hst]
  have g4 : w2.cell? ⟨b, 4, none⟩ = some (.int .i64 t) := by simp [World.cell?, hst]
  have g5 : w2.cell? ⟨b, 5, none⟩ = some (.int .i64 o) := by simp [World.cell?, hst]
  clear hst
  have hz2 := HS2.out.bel.size
  have hcl := fun (j : Nat) (v : Value) (hv : w0.cell? ⟨dq, j, none⟩ = some v) (u : Kept w2) => (u.h.cell (p := ⟨dq, j, none⟩) (show dq < w2.heap.size by omega)).trans ((HS2.out.bel.cell (p := ⟨dq, j, none⟩) hdq).trans hv)
  have hfit := fun u : Kept w2 => specl13Fits dq 0 d0 d1 d2 d3 d4 m t o u.w' HD.out m0 m1 (hcl 0 _ HQ.out.1 u) (hcl 1 _ HQ.out.2.1 u) (hcl 2 _ HQ.out.2.2.1 u) (hcl 3 _ HQ.out.2.2.2.1 u) (hcl 4 _ HQ.out.2.2.2.2 u)
  rw [← HFC.out] at hfit
  have HFIT := hide hfit
  clear hfit hcl
  go_wp2_with fail
  clear hgt
  refine wp_region_kept (by kernel_rfl) (by kernel_rfl) ?_
  intro gc gf gz
  repeat (go_big_quiet_step ((go_at_call 183; exact Calls.kept (HFIT.out _))))
  refine wpQuiet_nil ?_
  intro w3 hw'
  obtain ⟨⟨_, hb3⟩, rfl⟩ := hw'
  clear gc gf gz
  try dsimp only
  have fs3 := hb3.size
  try simp at fs3 hb3
  have HS3 := hide (HS2.out.below hb3)
  have HF3 := hide (HF2.out.below hb3)
  clear HS2 HF2 HFIT hb3 fs3 hb2 g1 g3 g4 g5 hz2
  have hgo := Ch.srch_goes (fit := fitC d0 d1 d2 d3 d4 xs) (ms := xs.map fM) (most := d1) (f := f) (ch := ch) (mass := m) (k0 := k0) HE.out (by simpa using HL.out)
  rw [List.length_map] at hgo
  simp only at hgo
  have HGO := hide hgo
  have HE1 := hide (show Ch.ended first ⟨left - 1, false, count, best, least⟩ = false from HE.out)
  have hl1 := HL.out
  clear hgo HE HL
  have hlk : Ch.look (fitC d0 d1 d2 d3 d4 xs ch) ch m ⟨left - 1, false, count, best, least⟩ = ⟨left - 1, false, count, best, least⟩ := by unfold Ch.look; rw [Khfit.out]; rfl
  rw [hlk] at HGO
  have HS5 := HS3
  have HF5 := HF3
  have HE5 := HE1
  have hfit := Khfit.out
  rw [hfit]
  clear HS3 HF3 HE1 hlk
  go_wp2_with fail
  clear hfit
  go_loopw [5] (fun v wr => ∃ (k : Nat) (s' : Ch.S) (cv' : Option Addr) (cc' : Nat) (bv' : Option Addr) (bc' : Nat), v = .int .i64 k ∧ k0 ≤ k ∧ k ≤ xs.length ∧ Hid (ChX w0 b A xs.length c dq first budget wr cv' cc' ch m t o bv' bc' s') ∧ Hid (Ch.ended first s' = false) ∧ Hid (Fr b w wr (.slice cv ch.length cc) (.slice cv' ch.length cc')) ∧ Hid (Ch.rounds (Ch.step first (fitC d0 d1 d2 d3 d4 xs) (xs.map fM) d1 f ch m) (xs.length - k) k s' = Ch.srch first (fitC d0 d1 d2 d3 d4 xs) (xs.map fM) d1 (f + 1) ch m k0 ⟨left, false, count, best, least⟩)) (fun v _ => xs.length - (intOf v).toNat)
  case atStart => exact ⟨k0, ⟨left - 1, false, count, best, least⟩, cv, cc, bv, bc, rfl, Nat.le_refl _, hk0, HS5, HE5, HF5, hide HGO.out.symm⟩
  case round =>
    clear HS5 HE5 HF5 HGO
    obtain ⟨k, s', cv', cc', bv', bc', rfl, hk, hkn, HS, HE, HF, HR⟩ := hrel
    have hbr := HS.out.lt
    have hst := HS.out.st
    have g0 : wr.cell? ⟨b, 0, none⟩ = some (.slice A xs.length c) := by simp [World.cell?, hst]
    clear hst
    by_cases hlt : k < xs.length
    · obtain ⟨bq, oq, rfl, hbq, hc⟩ := (HX.out.below HS.out.bel) k hlt
      have hc0 := hc 0 _ rfl
      have hc1 := hc 1 _ rfl
      have hc2 := hc 2 _ rfl
      have hc3 := hc 3 _ rfl
      have hc4 := hc 4 _ rfl
      simp only [Nat.add_zero] at hc0
      have hvk := vIngot_true (HV.out xs[k] (List.getElem_mem hlt))
      have hms : (xs.map fM).getD k 0 = xs[k].mass := by rw [List.getD_eq_getElem?_getD, List.getElem?_map, List.getElem?_eq_getElem hlt]; rfl
      have hpk : pickI xs (k : Int) = xs[k] := pickI_get hlt rfl
      have hr := Ch.rounds_more (stp := Ch.step first (fitC d0 d1 d2 d3 d4 xs) (xs.map fM) d1 f ch m) (s := s') hlt
      have hgd : GoodCh xs.length (ch ++ [(k : Int)]) := fun i hi => by
        rcases List.mem_append.1 hi with hi | hi
        · exact HG.out i hi
        · simp at hi; omega
      have sm : sumB fM xs (ch ++ [(k : Int)]) = m + xs[k].mass := by
        have q := sumB_snoc fM xs ch (k : Int)
        rw [hpk, HM.out.1] at q
        exact q
      have st : sumB fT xs (ch ++ [(k : Int)]) = t + xs[k].mass * xs[k].ti := by
        have q := sumB_snoc fT xs ch (k : Int)
        rw [hpk, HM.out.2.1] at q
        exact q
      have so : sumB fO xs (ch ++ [(k : Int)]) = o + xs[k].mass * xs[k].ot := by
        have q := sumB_snoc fO xs ch (k : Int)
        rw [hpk, HM.out.2.2] at q
        exact q
      have SUMS := hide (And.intro sm (And.intro st so))
      have HGD := hide hgd
      have HRM := hide hr
      clear hc hpk hr sm st so hgd
      generalize xs[k] = x at *
      obtain ⟨x0, x1, x2, x3, x4⟩ := x
      simp only at hc0 hc1 hc2 hc3 hc4 hvk hms SUMS
      obtain ⟨⟨v1, v2⟩, -, ⟨v3, v4⟩, v5, v6⟩ := hvk
      obtain ⟨p10, p11⟩ := prod_bd (M := 20000000) (N := 1000000) (show 0 ≤ x1 by omega) v2 v3 v4
      obtain ⟨p20, p21⟩ := prod_bd (M := 20000000) (N := 1000000) (show 0 ≤ x1 by omega) v2 v5 v6
      go_wp2_with fail
      clear hc0 hc1 hc2 hc3 hc4 g0
      have HS6 := hide (HS.out.below (w' := wr.alloc (.cells #[.string x0, .int .i64 x1, .int .i64 x2, .int .i64 x3, .int .i64 x4] 126)) (by repeat (first | with_reducible exact Below.refl _ _ | with_reducible assumption | (with_reducible refine Below.drew ?_) | (with_reducible refine below_drewN ?_ _) | ((with_reducible refine Below.alloc ?_ ?_ _); rotate_left; (focus (first | omega | (simp; omega) | simp))) | ((with_reducible refine Below.setCell ?_ ?_ _); rotate_left; (focus (first | omega | (simp; omega) | simp))) | (refine Below.trans ?_ (Below.mono (by assumption) (by first | omega | (simp; omega) | simp))))))
      have HF6 := hide (HF.out.below (w2 := wr.alloc (.cells #[.string x0, .int .i64 x1, .int .i64 x2, .int .i64 x3, .int .i64 x4] 126)) (by repeat (first | with_reducible exact Below.refl _ _ | with_reducible assumption | (with_reducible refine Below.drew ?_) | (with_reducible refine below_drewN ?_ _) | ((with_reducible refine Below.alloc ?_ ?_ _); rotate_left; (focus (first | omega | (simp; omega) | simp))) | ((with_reducible refine Below.setCell ?_ ?_ _); rotate_left; (focus (first | omega | (simp; omega) | simp))) | (refine Below.trans ?_ (Below.mono (by assumption) (by first | omega | (simp; omega) | simp))))))
      have HY6 := hide (heap_alloc_new wr (.cells #[.string x0, .int .i64 x1, .int .i64 x2, .int .i64 x3, .int .i64 x4] 126))
      have hoc := HS.out.oc.lt
      have HOC := hide hoc
      clear HS HF hoc
      have hsz6 : (wr.alloc (.cells #[.string x0, .int .i64 x1, .int .i64 x2, .int .i64 x3, .int .i64 x4] 126)).heap.size = wr.heap.size + 1 := by simp
      generalize wr.alloc (.cells #[.string x0, .int .i64 x1, .int .i64 x2, .int .i64 x3, .int .i64 x4] 126) = w6 at *
      generalize wr.heap.size = qb at *
      have hbl6 : b < w6.heap.size := by omega
      have hql6 : qb < w6.heap.size := by omega
      have hst := HS6.out.st
      have hy := HY6.out
      have g1 : w6.cell? ⟨b, 1, none⟩ = some (.pointer (some ⟨dq, 0, none⟩)) := by simp [World.cell?, hst]
      have g3 : w6.cell? ⟨b, 3, none⟩ = some (.int .i64 m) := by simp [World.cell?, hst]
      have y1 : w6.cell? ⟨qb, 1, none⟩ = some (.int .i64 x1) := by simp [World.cell?, hy]
      have gd : w6.cell? ⟨dq, 1, none⟩ = some (.int .i64 d1) := (HS6.out.bel.cell (p := ⟨dq, 1, none⟩) hdq).trans HQ.out.2.1
      have hdl : dq < w6.heap.size := by have := HS6.out.bel.size; omega
      have k1 : IntKind.i64.wrap (m + x1) = m + x1 := IntWalk.i64_in _ (by omega)
      clear hst hy hsz6
      by_cases hmo : m + x1 ≤ d1
      · have hgt : decide (d1 < m + x1) = false := by simp; omega
        have hst := Ch.step_yes (first := first) (fit := fitC d0 d1 d2 d3 d4 xs) (ms := xs.map fM) (most := d1) (f := f) (ch := ch) (mass := m) (k := k) (s := s') (by rw [hms]; exact hmo)
        rw [hms] at hst
        have HST := hide hst
        clear hst hms
        refine wp_region_kept (by kernel_rfl) (by kernel_rfl) ?_
        intro gc gf gz
        repeat (go_big_quiet_step (fail))
        refine wpQuiet_nil ?_
        intro w7 hw'
        obtain ⟨⟨_, hb7⟩, rfl⟩ := hw'
        clear gc gf gz
        try dsimp only
        have fs7 := hb7.size
        try simp at fs7 hb7
        have HS7 := hide (HS6.out.below hb7)
        have HF7 := hide (HF6.out.below hb7)
        have HY7 := hide ((hb7.block qb hql6).trans HY6.out)
        have hql7 : qb < w7.heap.size := by omega
        have hst := HS7.out.st
        have g2 : w7.cell? ⟨b, 2, none⟩ = some (.slice cv' ch.length cc') := by simp [World.cell?, hst]
        have f2 : w7.frozen? ⟨b, 2, none⟩ = false := by simp [World.frozen?, hst]
        have hbl7 : b < w7.heap.size := HS7.out.lt
        clear HS6 HF6 HY6 hst g1 g3 y1 gd hdl k1 hb7 fs7 hbl6 hql6
        go_wp2_with (at_builtin; go_loud (refine wpList_appI_at rfl _ _ rfl (b + 1) rfl HS7.out.oc rfl (by omega) ?_ ?_; (focus omega); intro A8 c8 w8 ho8 hb8 hg8 hat8; have HP8 := hide (HS7.out.push ho8 hb8 hg8 hat8); have HF8 := hide ((HF7.out.push hg8 hat8).set 2 (.slice A8 (ch.length + 1) c8)); have g2' : w8.cell? ⟨b, 2, none⟩ = some (.slice cv' ch.length cc') := (hb8.cell (p := ⟨b, 2, none⟩) (Nat.lt_succ_self b)).trans g2; have f2' : w8.frozen? ⟨b, 2, none⟩ = false := (hb8.frozen (p := ⟨b, 2, none⟩) (Nat.lt_succ_self b)).trans f2; have HY8 := hide ((heap_other (j := 2) (x := .slice A8 (ch.length + 1) c8) (show qb ≠ b by omega)).trans ((hg8.block qb hql7 (fun q => by have := HOC.out qb q.symm; omega)).trans HY7.out)); have HNQ := hide (not_there hat8 (fun g e => (HOC.out g e).2) hql7); clear ho8 hb8 hg8 hat8))
        clear g2 f2 g2' f2' HS7 HF7 HY7
        generalize hw9 : w8.setCell ⟨b, 2, none⟩ (.slice A8 (ch.length + 1) c8) = w9 at *
        clear hw9
        have HPw9 := HP8
        have HYw9 := HY8
        have HFw9 := HF8
        clear HP8 HY8 HF8
        go_upto_region 17 with fail
        go_cut [] (fun wx => Hid (ChX w0 b (some ⟨bq, oq, none⟩) xs.length c dq first budget wx A8 c8 (ch ++ [(k : Int)]) (m + x1) t o bv' bc' s') ∧ Hid (wx.heap[qb]? = some (.cells #[.string x0, .int .i64 x1, .int .i64 x2, .int .i64 x3, .int .i64 x4] 126 (0, 0))) ∧ Hid (Fr b w wx (.slice cv ch.length cc) (.slice A8 (ch.length + 1) c8)))
        case first =>
          have hst := HPw9.out.st
          have hy := HYw9.out
          have g3 : w9.cell? ⟨b, 3, none⟩ = some (.int .i64 m) := by simp [World.cell?, hst]
          have f3 : w9.frozen? ⟨b, 3, none⟩ = false := by simp [World.frozen?, hst]
          have y1 : w9.cell? ⟨qb, 1, none⟩ = some (.int .i64 x1) := by simp [World.cell?, hy]
          have k0 : IntKind.i64.wrap (m + x1) = m + x1 := by first | exact IntWalk.i64_in _ (by omega) | (rw [show m + x1 = m + x1 by omega]; exact IntWalk.i64_in _ (by omega))
          clear hst hy
          go_region
          all_goals
            go_wp2_with fail
            go_meet
            exact ⟨hide (by first | exact (HPw9.out.below (Below.refl _ _).drew).setM _ | exact (HPw9.out.setM _).below (Below.refl _ _).drew | exact HPw9.out.setM _), hide ((heap_other (by omega)).trans HYw9.out), hide (by first | exact (HFw9.out.below (Below.refl _ _).drew).set _ _ | exact HFw9.out.set _ _)⟩
        case rest =>
          obtain ⟨w10, rfl⟩ : ∃ w10, w10 = wc := ⟨_, rfl⟩
          obtain ⟨HPw10, HYw10, HFw10⟩ := hcut
          clear HPw9 HYw9 HFw9
          go_upto_region 18 with fail
          go_cut [] (fun wx => Hid (ChX w0 b (some ⟨bq, oq, none⟩) xs.length c dq first budget wx A8 c8 (ch ++ [(k : Int)]) (m + x1) (t + x1 * x3) o bv' bc' s') ∧ Hid (wx.heap[qb]? = some (.cells #[.string x0, .int .i64 x1, .int .i64 x2, .int .i64 x3, .int .i64 x4] 126 (0, 0))) ∧ Hid (Fr b w wx (.slice cv ch.length cc) (.slice A8 (ch.length + 1) c8)))
          case first =>
            have hst := HPw10.out.st
            have hy := HYw10.out
            have g4 : w10.cell? ⟨b, 4, none⟩ = some (.int .i64 t) := by simp [World.cell?, hst]
            have f4 : w10.frozen? ⟨b, 4, none⟩ = false := by simp [World.frozen?, hst]
            have y1 : w10.cell? ⟨qb, 1, none⟩ = some (.int .i64 x1) := by simp [World.cell?, hy]
            have y3 : w10.cell? ⟨qb, 3, none⟩ = some (.int .i64 x3) := by simp [World.cell?, hy]
            have k0 : IntKind.i64.wrap (x1 * x3) = x1 * x3 := by first | exact IntWalk.i64_in _ (by omega) | (rw [show x1 * x3 = x1 * x3 by omega]; exact IntWalk.i64_in _ (by omega))
            have k1 : IntKind.i64.wrap (t + x1 * x3) = t + x1 * x3 := by first | exact IntWalk.i64_in _ (by omega) | (rw [show t + x1 * x3 = t + x1 * x3 by omega]; exact IntWalk.i64_in _ (by omega))
            clear hst hy
            go_region
            all_goals
              go_wp2_with fail
              go_meet
              exact ⟨hide (by first | exact (HPw10.out.below (Below.refl _ _).drew).setT _ | exact (HPw10.out.setT _).below (Below.refl _ _).drew | exact HPw10.out.setT _), hide ((heap_other (by omega)).trans HYw10.out), hide (by first | exact (HFw10.out.below (Below.refl _ _).drew).set _ _ | exact HFw10.out.set _ _)⟩
          case rest =>
            obtain ⟨w11, rfl⟩ : ∃ w11, w11 = wc := ⟨_, rfl⟩
            obtain ⟨HPw11, HYw11, HFw11⟩ := hcut
            clear HPw10 HYw10 HFw10
            go_upto_region 19 with fail
            go_cut [] (fun wx => Hid (ChX w0 b (some ⟨bq, oq, none⟩) xs.length c dq first budget wx A8 c8 (ch ++ [(k : Int)]) (m + x1) (t + x1 * x3) (o + x1 * x4) bv' bc' s') ∧ Hid (wx.heap[qb]? = some (.cells #[.string x0, .int .i64 x1, .int .i64 x2, .int .i64 x3, .int .i64 x4] 126 (0, 0))) ∧ Hid (Fr b w wx (.slice cv ch.length cc) (.slice A8 (ch.length + 1) c8)))
            case first =>
              have hst := HPw11.out.st
              have hy := HYw11.out
              have g5 : w11.cell? ⟨b, 5, none⟩ = some (.int .i64 o) := by simp [World.cell?, hst]
              have f5 : w11.frozen? ⟨b, 5, none⟩ = false := by simp [World.frozen?, hst]
              have y1 : w11.cell? ⟨qb, 1, none⟩ = some (.int .i64 x1) := by simp [World.cell?, hy]
              have y4 : w11.cell? ⟨qb, 4, none⟩ = some (.int .i64 x4) := by simp [World.cell?, hy]
              have k0 : IntKind.i64.wrap (x1 * x4) = x1 * x4 := by first | exact IntWalk.i64_in _ (by omega) | (rw [show x1 * x4 = x1 * x4 by omega]; exact IntWalk.i64_in _ (by omega))
              have k1 : IntKind.i64.wrap (o + x1 * x4) = o + x1 * x4 := by first | exact IntWalk.i64_in _ (by omega) | (rw [show o + x1 * x4 = o + x1 * x4 by omega]; exact IntWalk.i64_in _ (by omega))
              clear hst hy
              go_region
              all_goals
                go_wp2_with fail
                go_meet
                exact ⟨hide (by first | exact (HPw11.out.below (Below.refl _ _).drew).setO _ | exact (HPw11.out.setO _).below (Below.refl _ _).drew | exact HPw11.out.setO _), hide ((heap_other (by omega)).trans HYw11.out), hide (by first | exact (HFw11.out.below (Below.refl _ _).drew).set _ _ | exact HFw11.out.set _ _)⟩
            case rest =>
              obtain ⟨w12, rfl⟩ : ∃ w12, w12 = wc := ⟨_, rfl⟩
              obtain ⟨HPw12, HYw12, HFw12⟩ := hcut
              clear HPw11 HYw11 HFw11
              have hlen : (ch ++ [(k : Int)]).length = ch.length + 1 := by simp
              have hq := ih (ch ++ [(k : Int)]) (k + 1) s' w12 A8 c8 bv' bc' (by omega) (hide (by rw [SUMS.out.1, SUMS.out.2.1, SUMS.out.2.2]; exact HPw12.out)) HGD (by omega) (by omega) (by rw [SUMS.out.1]; exact hmo) HE
              rw [hlen, SUMS.out.1, SUMS.out.2.1, SUMS.out.2.2] at hq
              have HQQ := hide hq
              have hqz : qb < w12.heap.size := heap_lt HYw12.out
              clear hq
              go_wp2_with fail
              refine HQQ.out.mono ?_
              rintro e w13 ⟨s13, cv13, cc13, bv13, bc13, rfl, hs13, hS13, hF13⟩
              have HPw13 := hide hS13
              have HYw13 := hide ((hF13.keep qb hqz (by omega) HNQ.out).trans HYw12.out)
              have HFw13 := hide (HFw12.out.trans hF13)
              have HS13 := hide hs13
              clear hs13 hS13 hF13 HQQ HPw12 HYw12 HFw12
              go_upto_region 21 with fail
              go_cut [] (fun wx => Hid (ChX w0 b (some ⟨bq, oq, none⟩) xs.length c dq first budget wx cv13 cc13 (ch ++ [(k : Int)]) (m + x1) (t + x1 * x3) o bv13 bc13 s13) ∧ Hid (wx.heap[qb]? = some (.cells #[.string x0, .int .i64 x1, .int .i64 x2, .int .i64 x3, .int .i64 x4] 126 (0, 0))) ∧ Hid (Fr b w wx (.slice cv ch.length cc) (.slice cv13 (ch.length + 1) cc13)))
              case first =>
                have hst := HPw13.out.st
                have hy := HYw13.out
                have g5 : w13.cell? ⟨b, 5, none⟩ = some (.int .i64 (o + x1 * x4)) := by simp [World.cell?, hst]
                have f5 : w13.frozen? ⟨b, 5, none⟩ = false := by simp [World.frozen?, hst]
                have y1 : w13.cell? ⟨qb, 1, none⟩ = some (.int .i64 x1) := by simp [World.cell?, hy]
                have y4 : w13.cell? ⟨qb, 4, none⟩ = some (.int .i64 x4) := by simp [World.cell?, hy]
                have k0 : IntKind.i64.wrap (x1 * x4) = x1 * x4 := by first | exact IntWalk.i64_in _ (by omega) | (rw [show x1 * x4 = x1 * x4 by omega]; exact IntWalk.i64_in _ (by omega))
                have k1 : IntKind.i64.wrap (o + x1 * x4 - x1 * x4) = o := by first | exact IntWalk.i64_in _ (by omega) | (rw [show o + x1 * x4 - x1 * x4 = o by omega]; exact IntWalk.i64_in _ (by omega))
                clear hst hy
                go_region
                all_goals
                  go_wp2_with fail
                  go_meet
                  exact ⟨hide (by first | exact (HPw13.out.below (Below.refl _ _).drew).setO _ | exact (HPw13.out.setO _).below (Below.refl _ _).drew | exact HPw13.out.setO _), hide ((heap_other (by omega)).trans HYw13.out), hide (by first | exact (HFw13.out.below (Below.refl _ _).drew).set _ _ | exact HFw13.out.set _ _)⟩
              case rest =>
                obtain ⟨w14, rfl⟩ : ∃ w14, w14 = wc := ⟨_, rfl⟩
                obtain ⟨HPw14, HYw14, HFw14⟩ := hcut
                clear HPw13 HYw13 HFw13
                go_upto_region 22 with fail
                go_cut [] (fun wx => Hid (ChX w0 b (some ⟨bq, oq, none⟩) xs.length c dq first budget wx cv13 cc13 (ch ++ [(k : Int)]) (m + x1) t o bv13 bc13 s13) ∧ Hid (wx.heap[qb]? = some (.cells #[.string x0, .int .i64 x1, .int .i64 x2, .int .i64 x3, .int .i64 x4] 126 (0, 0))) ∧ Hid (Fr b w wx (.slice cv ch.length cc) (.slice cv13 (ch.length + 1) cc13)))
                case first =>
                  have hst := HPw14.out.st
                  have hy := HYw14.out
                  have g4 : w14.cell? ⟨b, 4, none⟩ = some (.int .i64 (t + x1 * x3)) := by simp [World.cell?, hst]
                  have f4 : w14.frozen? ⟨b, 4, none⟩ = false := by simp [World.frozen?, hst]
                  have y1 : w14.cell? ⟨qb, 1, none⟩ = some (.int .i64 x1) := by simp [World.cell?, hy]
                  have y3 : w14.cell? ⟨qb, 3, none⟩ = some (.int .i64 x3) := by simp [World.cell?, hy]
                  have k0 : IntKind.i64.wrap (x1 * x3) = x1 * x3 := by first | exact IntWalk.i64_in _ (by omega) | (rw [show x1 * x3 = x1 * x3 by omega]; exact IntWalk.i64_in _ (by omega))
                  have k1 : IntKind.i64.wrap (t + x1 * x3 - x1 * x3) = t := by first | exact IntWalk.i64_in _ (by omega) | (rw [show t + x1 * x3 - x1 * x3 = t by omega]; exact IntWalk.i64_in _ (by omega))
                  clear hst hy
                  go_region
                  all_goals
                    go_wp2_with fail
                    go_meet
                    exact ⟨hide (by first | exact (HPw14.out.below (Below.refl _ _).drew).setT _ | exact (HPw14.out.setT _).below (Below.refl _ _).drew | exact HPw14.out.setT _), hide ((heap_other (by omega)).trans HYw14.out), hide (by first | exact (HFw14.out.below (Below.refl _ _).drew).set _ _ | exact HFw14.out.set _ _)⟩
                case rest =>
                  obtain ⟨w15, rfl⟩ : ∃ w15, w15 = wc := ⟨_, rfl⟩
                  obtain ⟨HPw15, HYw15, HFw15⟩ := hcut
                  clear HPw14 HYw14 HFw14
                  go_upto_region 23 with fail
                  go_cut [] (fun wx => Hid (ChX w0 b (some ⟨bq, oq, none⟩) xs.length c dq first budget wx cv13 cc13 (ch ++ [(k : Int)]) m t o bv13 bc13 s13) ∧ Hid (wx.heap[qb]? = some (.cells #[.string x0, .int .i64 x1, .int .i64 x2, .int .i64 x3, .int .i64 x4] 126 (0, 0))) ∧ Hid (Fr b w wx (.slice cv ch.length cc) (.slice cv13 (ch.length + 1) cc13)))
                  case first =>
                    have hst := HPw15.out.st
                    have hy := HYw15.out
                    have g3 : w15.cell? ⟨b, 3, none⟩ = some (.int .i64 (m + x1)) := by simp [World.cell?, hst]
                    have f3 : w15.frozen? ⟨b, 3, none⟩ = false := by simp [World.frozen?, hst]
                    have y1 : w15.cell? ⟨qb, 1, none⟩ = some (.int .i64 x1) := by simp [World.cell?, hy]
                    have k0 : IntKind.i64.wrap (m + x1 - x1) = m := by first | exact IntWalk.i64_in _ (by omega) | (rw [show m + x1 - x1 = m by omega]; exact IntWalk.i64_in _ (by omega))
                    clear hst hy
                    go_region
                    all_goals
                      go_wp2_with fail
                      go_meet
                      exact ⟨hide (by first | exact (HPw15.out.below (Below.refl _ _).drew).setM _ | exact (HPw15.out.setM _).below (Below.refl _ _).drew | exact HPw15.out.setM _), hide ((heap_other (by omega)).trans HYw15.out), hide (by first | exact (HFw15.out.below (Below.refl _ _).drew).set _ _ | exact HFw15.out.set _ _)⟩
                  case rest =>
                    obtain ⟨w16, rfl⟩ : ∃ w16, w16 = wc := ⟨_, rfl⟩
                    obtain ⟨HPw16, HYw16, HFw16⟩ := hcut
                    clear HPw15 HYw15 HFw15
                    go_upto_region 24 with fail
                    go_cut [] (fun wx => Hid (ChX w0 b (some ⟨bq, oq, none⟩) xs.length c dq first budget wx cv13 cc13 ch m t o bv13 bc13 s13) ∧ Hid (Fr b w wx (.slice cv ch.length cc) (.slice cv13 ch.length cc13)))
                    case first =>
                      obtain ⟨g13, hcv, hcap⟩ := own_cap HPw16.out.oc rfl (by simp)
                      have hst := HPw16.out.st
                      rw [hlen] at hst hcap
                      have g2 : w16.cell? ⟨b, 2, none⟩ = some (.slice cv13 (ch.length + 1) cc13) := by simp [World.cell?, hst]
                      have f2 : w16.frozen? ⟨b, 2, none⟩ = false := by simp [World.frozen?, hst]
                      have k0' : IntKind.i64.wrap ((ch.length : Int) + 1 - 1) = ch.length := by rw [show (ch.length : Int) + 1 - 1 = ch.length by omega]; exact IntWalk.i64_in _ (by omega)
                      have hch : ch.length ≤ 16 := by omega
                      have hcap2 : ch.length ≤ cc13 := by omega
                      subst hcv
                      clear hst
                      go_region
                      all_goals
                        go_wp2_with fail
                        go_meet
                        exact ⟨hide (by first | exact (HPw16.out.below (Below.refl _ _).drew).pop rfl | exact HPw16.out.pop rfl), hide (by first | exact ((HFw16.out.below (Below.refl _ _).drew).set _ _).short | exact (HFw16.out.set _ _).short)⟩
                    case rest =>
                      obtain ⟨w17, rfl⟩ : ∃ w17, w17 = wc := ⟨_, rfl⟩
                      obtain ⟨HPw17, HFw17⟩ := hcut
                      clear HPw16 HYw16 HFw16
                      have HRX := hide (show Ch.rounds (Ch.step first (fitC d0 d1 d2 d3 d4 xs) (xs.map fM) d1 f ch m) (xs.length - (k + 1)) (k + 1) s13 = Ch.srch first (fitC d0 d1 d2 d3 d4 xs) (xs.map fM) d1 (f + 1) ch m k0 ⟨left, false, count, best, least⟩ from by rw [← HR.out, HRM.out, HST.out, HS13.out])
                      cases hen : Ch.ended first s13
                      · have HEN := hide hen
                        go_wp2_with fail
                        go_roundw
                        case rel => exact ⟨k + 1, s13, cv13, cc13, bv13, bc13, by go_num, by omega, by omega, HPw17, HEN, HFw17, HRX⟩
                        case measure => simp [intOf]; omega
                      · have hrn := Ch.rounds_ended (fit := fitC d0 d1 d2 d3 d4 xs) (ms := xs.map fM) (most := d1) (f := f) (ch := ch) (mass := m) (xs.length - (k + 1)) (k + 1) hen
                        have HRN := hide (HRX.out.symm.trans hrn)
                        have HEN := hide hen
                        clear hrn
                        go_wp2_with fail
                        ((try simp only [Exit.inBlock, Exit.then]); refine bodyPost_ret (results_tmp rfl _ _ _) rfl ?_)
                        exact ⟨s13, cv13, cc13, bv13, bc13, by rw [HEN.out]; rfl, HRN.out, HPw17.out, HFw17.out⟩
      · have hgt : decide (d1 < m + x1) = true := by simp; omega
        have hst := Ch.step_no (first := first) (fit := fitC d0 d1 d2 d3 d4 xs) (ms := xs.map fM) (most := d1) (f := f) (ch := ch) (mass := m) (k := k) (s := s') (by rw [hms]; exact hmo)
        have HST := hide hst
        clear hst hms
        refine wp_region_kept (by kernel_rfl) (by kernel_rfl) ?_
        intro gc gf gz
        repeat (go_big_quiet_step (fail))
        refine wpQuiet_nil ?_
        intro w7 hw'
        obtain ⟨⟨_, hb7⟩, rfl⟩ := hw'
        clear gc gf gz
        try dsimp only
        have fs7 := hb7.size
        try simp at fs7 hb7
        have HS7 := hide (HS6.out.below hb7)
        have HF7 := hide (HF6.out.below hb7)
        clear HS6 HF6 HY6 g1 g3 y1 gd hdl k1 hb7 fs7
        go_wp2_with fail
        go_roundw
        case rel => exact ⟨k + 1, s', cv', cc', bv', bc', by go_num, by omega, by omega, HS7, HE, HF7, hide (by rw [← HR.out, HRM.out, HST.out])⟩
        case measure => simp [intOf]; omega
    · obtain rfl : k = xs.length := by omega
      have hr := Ch.rounds_none (stp := Ch.step first (fitC d0 d1 d2 d3 d4 xs) (xs.map fM) d1 f ch m) (s := s') (Nat.le_refl xs.length)
      have HE2 := hide (HR.out.symm.trans hr)
      clear hr
      go_wp2_with fail
      go_ret
      exact ⟨s', cv', cc', bv', bc', by rw [HE.out]; rfl, HE2.out, HS.out, HF.out⟩
end Go.Proofs.Ytjklhacffdhgaaa
