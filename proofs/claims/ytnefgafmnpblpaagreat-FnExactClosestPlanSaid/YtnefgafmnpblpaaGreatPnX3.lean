/- The reference's search for plans: the look at all steps. -/
import Derived.Test.YtnefgafmnpblpaaGreatPnX2
namespace Go.Proofs.YtnefgafmnpblpaaGreat
open Go.RowKit Pn

/-- What a look at all steps does. -/
noncomputable def Cx.lookX (x : Cx) (clo : Bool) (l : List Int) (s : S) : S := if clo then lookC x.snd x.dev l s else lookP x.plan l s
section
variable {x : Cx} {l : List Int} {s : S}
theorem lookX_snd0 {clo : Bool} (h : dc (SoundOK (x.raw l)) = false) : x.lookX clo l s = s ∧ x.plan l = false := by
  have hs : x.snd l = false := h
  have hp : x.plan l = false := by rw [Cx.plan, hs]; rfl
  refine ⟨?_, hp⟩
  unfold Cx.lookX
  split
  · rw [lookC, if_neg (by rw [hs]; simp)]
  · rw [lookP, if_neg (by rw [hp]; simp)]
theorem lookX_yes (h : dc (SoundOK (x.raw l)) = true) (hb : s.least < 0 ∨ x.dev l < s.least) : x.lookX true l s = { s with least := x.dev l, found := l } := by
  have hs : x.snd l = true := h
  show lookC x.snd x.dev l s = _
  rw [lookC, if_pos (by rw [hs]), if_pos hb]
theorem lookX_no (h0 : ¬ s.least < 0) (h1 : ¬ x.dev l < s.least) : x.lookX true l s = s := by
  show lookC x.snd x.dev l s = _
  rw [lookC]
  split
  · rw [if_neg (by omega)]
  · rfl
theorem plan_yes (h : dc (SoundOK (x.raw l)) = true) (hd : x.dev l ≤ x.tol) : x.plan l = true := by
  have hs : x.snd l = true := h
  rw [Cx.plan, hs]; simpa using hd
theorem plan_no (hd : ¬ x.dev l ≤ x.tol) : x.plan l = false := by
  rw [Cx.plan]; simp; intro _; omega
theorem lookX_plan (h : x.plan l = true) : x.lookX false l s = { s with count := s.count + 1, found := if s.count == 0 then l else s.found } := by
  show lookP x.plan l s = _
  rw [lookP, if_pos h]
theorem lookX_noplan (h : x.plan l = false) : x.lookX false l s = s := by
  show lookP x.plan l s = _
  rw [lookP, if_neg (by rw [h]; simp)]
theorem dev_bd (x : Cx) {w0 : World} (h : x.OK w0) (l : List Int) (hs : dc (SoundOK (x.raw l)) = true) : 0 ≤ x.dev l ∧ x.dev l ≤ 4000000000000000000 := by
  have hb := devs_bd (SoundOK.inF h.goal.t) (SoundOK.inF (of_dc hs))
  have key : ∀ k, k ≤ (devs x.t (x.raw l)).length → 0 ≤ gr (devs x.t (x.raw l)) k ∧ gr (devs x.t (x.raw l)) k ≤ 4000000000000000000 := by
    intro k
    induction k with
    | zero => intro _; unfold gr; omega
    | succ k ih =>
      intro hk
      have a := ih (by omega)
      have b := hb k (by omega)
      rw [gr_max]
      unfold mx
      split <;> split <;> omega
  have e : x.dev l = gr (devs x.t (x.raw l)) (devs x.t (x.raw l)).length := by unfold Cx.dev grB; rfl
  rw [e]
  exact key _ (Nat.le_refl _)
end
set_option maxRecDepth 100000 in
set_option maxHeartbeats 2000000 in
theorem doneX_is {x : Cx} {w0 w : World} {q N bm bp bg : Nat} {lA : Option Addr} {lc : Nat} {all clo : Bool} {bud : Int} {l : List Int} {sm : Int} {sA : Option Addr} {sc : Nat} {s : S} (A : Option Addr) (c : Nat) (HR : Hid (RefOK x w0 bm bp bg)) (HS : Hid (Xs x w0 q N bm bp bg lA lc all clo bud w l sm sA sc s)) (HP : Hid (Pre x.lim l)) (HLL : Hid (l.length = x.lim.length)) (HRW : Hid (SlAt encI 1 w A (x.raw l))) (HC : Hid (s.count + s.left + 1 ≤ 20000)) (HZ : Hid (all = false → clo = false → s.count = 0)) :
    Calls Tryz.prog 131 #[.pointer (some ⟨q, 0, none⟩), .slice A 5 c] w fun e w' => e = .returned (.bool (!clo && !all && x.plan l)) ∧ Xs x w0 q N bm bp bg lA lc all clo bud w' l sm sA sc (x.lookX clo l s) := by
  have hl8 : l.length ≤ 8 := by have := HLL.out; rw [x.lim_length] at this; have := HR.out.ok.ask.z.len8; omega
  have HL8 := hide hl8
  have HRR := hide (fun W (hb : Below w.heap.size w W) => HR.out.below ((HS.out.below hb).bel))
  have HTI := hide (show InF [x.t0, x.t1, x.t2, x.t3, x.t4] from SoundOK.inF HR.out.ok.goal.t)
  have HDEV := hide (specl10Dev bg x.t0 x.t1 x.t2 x.t3 x.t4 x.tol x.most A c (x.raw l) w (HRR.out w (Below.refl _ _)).g HRW.out (x.raw_length l) HTI)
  obtain ⟨k0, k1, k2, _⟩ := HS.out.cells
  clear k0 k1 hl8
  go_enter Tryz.func131, Tryz.ntmps131
  go_wp2_with fail
  refine HDEV.out.mono ?_
  rintro e w1 ⟨A1, c1, ys, rfl, hys, ho1, hb1⟩
  have HB1 := hide hb1
  have HS1 := hide (HS.out.below hb1)
  have HO1 := hide ho1
  clear hb1 ho1 k2 HDEV
  cases hv : dc (SoundOK (x.raw l))
  · have HE := hide (lookX_snd0 (s := s) (clo := clo) hv)
    clear hys hv
    go_wp2_with fail
    go_ret
    refine ⟨?_, by rw [HE.out.1]; exact HS1.out⟩
    rw [HE.out.2]; simp
  · rw [hv] at hys
    obtain rfl := hys rfl
    have HV := hide hv
    have HSI := hide (show InF (x.raw l) from SoundOK.inF (of_dc hv))
    have HDB := hide (dev_bd x HR.out.ok l hv)
    have HGR := hide (specl10Greatest A1 c1 (devs [x.t0, x.t1, x.t2, x.t3, x.t4] (x.raw l)) w1 (OwnI.sl HO1.out rfl) (by rw [devs_length]; omega) (hide (devs_bd HTI.out HSI.out)))
    obtain ⟨d, hd⟩ : ∃ d, d = x.dev l := ⟨_, rfl⟩
    have HD := hide hd
    have hd2 : grB (devs [x.t0, x.t1, x.t2, x.t3, x.t4] (x.raw l)) = d := by rw [hd]; rfl
    rw [hd2] at HGR
    rw [← hd] at HDB
    clear hys hv hd hd2
    go_wp2_with fail
    refine HGR.out.mono ?_
    rintro e w2 ⟨rfl, hb2⟩
    have HB2 := hide (HB1.out.trans (hb2.mono HB1.out.size))
    have HS2 := hide (HS1.out.below hb2)
    clear hb2 HS1 HO1 HGR
    obtain ⟨k0, k1, k2, k3, k4, k5, k6, k7, k8, k10, k11, k12, k13, k14, kf⟩ := HS2.out.cells
    clear k0 k1 k3 k5 k6 k12 k13 k14
    have f10 := kf 10
    have f11 := kf 11
    have hql := HS2.out.lt
    clear kf
    have hdb0 := HDB.out.1
    cases clo
    · have g5 := (HRR.out w2 HB2.out).g.c5
      simp only [Nat.zero_add] at g5
      by_cases hgt : d ≤ x.tol
      · have HPL := hide (plan_yes HV.out (by rw [← HD.out]; exact hgt))
        have hcb := HC.out
        have hc0 := HS2.out.inv.c0
        have hl0 := HS2.out.inv.l0
        have kw : IntKind.i64.wrap (s.count + 1) = s.count + 1 := IntWalk.i64_in _ (by omega)
        have hgt2 : ¬ x.tol < d := by omega
        have HS3 := hide (HS2.out.more HC.out)
        obtain ⟨W3, hW3⟩ : ∃ W3, W3 = w2.setCell ⟨q, 11, none⟩ (.int .i64 (s.count + 1)) := ⟨_, rfl⟩
        rw [← hW3] at HS3
        obtain ⟨j0, j1, j2, j3, j4, j5, j6, j7, j8, j10, j11, j12, j13, j14, jf⟩ := HS3.out.cells
        clear j0 j1 j2 j3 j5 j6 j8 j10 j11 j12 j13 j14 k10 k7 hgt
        have HLK := hide (lookX_plan (s := s) HPL.out)
        cases all
        · have hcz := HZ.out rfl rfl
          have HCZ := hide hcz
          clear hcz
          have HOW := hide (specl00Own N sA sc l W3 HS3.out.row (by have := HL8.out; omega))
          go_upto_region 13 with fail
          rw [← hW3]
          clear k2 k4 k11 f11 hW3
          go_wp2_with fail
          refine HOW.out.mono ?_
          rintro e w4 ⟨A4, c4, rfl, ho4, hb4⟩
          have HF := hide (HS3.out.find ho4 hb4 HP.out HLL.out)
          have z4 := (HS3.out.below hb4).cells.2.2.2.2.2.2.2.2.2.2.2.2.2.2 9
          obtain ⟨bA, bc, z5, _⟩ := (HS3.out.below hb4).best rfl
          clear ho4 hb4 HOW j4 j7 jf
          go_wp2_with fail
          go_ret
          refine ⟨by rw [HPL.out]; rfl, ?_⟩
          rw [HLK.out, HCZ.out]
          have h := HF.out
          rw [HCZ.out] at h
          exact h
        · go_upto_region 13 with fail
          rw [← hW3]
          clear k2 k4 k11 f11 hW3
          go_wp2_with fail
          go_ret
          refine ⟨rfl, ?_⟩
          rw [HLK.out]
          exact HS3.out.fnd_all (by split; exact .inr ⟨HP.out, HLL.out⟩; exact HS3.out.inv.fnd)
      · have HPL := hide (plan_no (x := x) (l := l) (by rw [← HD.out]; exact hgt))
        have hgt2 : x.tol < d := by omega
        clear hgt
        go_wp2_with fail
        go_ret
        refine ⟨by rw [HPL.out]; simp, ?_⟩
        rw [lookX_noplan HPL.out]
        exact HS2.out
    · by_cases hl0 : s.least < 0
      · have HLK := hide (lookX_yes (s := s) HV.out (.inl hl0))
        rw [← HD.out] at HLK
        have HS3 := hide (HS2.out.leastTo d HDB.out.1 HDB.out.2)
        obtain ⟨W3, hW3⟩ : ∃ W3, W3 = w2.setCell ⟨q, 10, none⟩ (.int .i64 d) := ⟨_, rfl⟩
        rw [← hW3] at HS3
        have HOW := hide (specl00Own N sA sc l W3 HS3.out.row (by have := HL8.out; omega))
        go_upto_region 8 with fail
        rw [← hW3]
        clear k2 k4 k7 k8 k10 k11 f10 f11 hW3 hl0
        obtain ⟨j0, j1, j2, j3, j4, j5, j6, j7, j8, j10, j11, j12, j13, j14, jf⟩ := HS3.out.cells
        clear j0 j1 j2 j3 j5 j6 j7 j8 j10 j11 j12 j13 j14
        go_wp2_with fail
        refine HOW.out.mono ?_
        rintro e w4 ⟨A4, c4, rfl, ho4, hb4⟩
        have HF := hide (HS3.out.find ho4 hb4 HP.out HLL.out)
        have z4 := (HS3.out.below hb4).cells.2.2.2.2.2.2.2.2.2.2.2.2.2.2 9
        have z5 : ∃ v, w4.cell? ⟨q, 9, none⟩ = some v := by
          obtain ⟨bA, bc, bs, h1, _⟩ := (HS3.out.below hb4).st
          exact ⟨_, by simp [World.cell?, h1]; rfl⟩
        obtain ⟨v5, z5⟩ := z5
        clear ho4 hb4 HOW j4 jf
        go_wp2_with fail
        go_ret
        refine ⟨rfl, ?_⟩
        rw [HLK.out]
        exact HF.out
      · by_cases hl1 : d < s.least
        · have HLK := hide (lookX_yes (s := s) HV.out (.inr (by rw [← HD.out]; exact hl1)))
          rw [← HD.out] at HLK
          have HS3 := hide (HS2.out.leastTo d HDB.out.1 HDB.out.2)
          obtain ⟨W3, hW3⟩ : ∃ W3, W3 = w2.setCell ⟨q, 10, none⟩ (.int .i64 d) := ⟨_, rfl⟩
          rw [← hW3] at HS3
          have HOW := hide (specl00Own N sA sc l W3 HS3.out.row (by have := HL8.out; omega))
          go_upto_region 8 with fail
          rw [← hW3]
          clear k2 k4 k7 k8 k10 k11 f10 f11 hW3 hl0 hl1
          obtain ⟨j0, j1, j2, j3, j4, j5, j6, j7, j8, j10, j11, j12, j13, j14, jf⟩ := HS3.out.cells
          clear j0 j1 j2 j3 j5 j6 j7 j8 j10 j11 j12 j13 j14
          go_wp2_with fail
          refine HOW.out.mono ?_
          rintro e w4 ⟨A4, c4, rfl, ho4, hb4⟩
          have HF := hide (HS3.out.find ho4 hb4 HP.out HLL.out)
          have z4 := (HS3.out.below hb4).cells.2.2.2.2.2.2.2.2.2.2.2.2.2.2 9
          have z5 : ∃ v, w4.cell? ⟨q, 9, none⟩ = some v := by
            obtain ⟨bA, bc, bs, h1, _⟩ := (HS3.out.below hb4).st
            exact ⟨_, by simp [World.cell?, h1]; rfl⟩
          obtain ⟨v5, z5⟩ := z5
          clear ho4 hb4 HOW j4 jf
          go_wp2_with fail
          go_ret
          refine ⟨rfl, ?_⟩
          rw [HLK.out]
          exact HF.out
        · have HLK := hide (lookX_no (x := x) (l := l) hl0 (by rw [← HD.out]; exact hl1))
          go_wp2_with fail
          go_ret
          refine ⟨rfl, ?_⟩
          rw [HLK.out]
          exact HS2.out
end Go.Proofs.YtnefgafmnpblpaaGreat
