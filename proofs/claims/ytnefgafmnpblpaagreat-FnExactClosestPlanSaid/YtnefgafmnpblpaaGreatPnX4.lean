/- The reference's search for plans: its run. -/
import Derived.Test.YtnefgafmnpblpaaGreatPnX3
import Derived.Test.YtnefgafmnpblpaaGreatPnI5
namespace Go.Proofs.YtnefgafmnpblpaaGreat
open Go.RowKit Pn

theorem own_capI {w : World} {B c n : Nat} {A : Option Addr} {xs : List Int} (h : OwnI w B (.slice A n c) xs) (h0 : 0 < xs.length) : n ≤ c := by
  rcases h.2 with ⟨e, q⟩ | ⟨g, cap, cur, e, _, _, hc, _⟩
  · omega
  · injection e with _ e2 e; omega
/-- The question of the reference's search. -/
noncomputable def Cx.qx (x : Cx) (all clo : Bool) : Q := ⟨x.lim, -1, if clo then (fun _ => false) else x.low, x.lookX clo, !all && !clo⟩
section
variable {x : Cx} {all clo : Bool} {rec : List Int → S → S} {l : List Int} {m k : Nat} {s : S}
theorem tried_qx (l : List Int) : tried (x.qx all clo) l = true := by unfold tried Cx.qx; simp
theorem goK_zero (h0 : s.left = 0) (hf : (!all && !clo) = true → s.count = 0) : goK (x.qx all clo) rec l (m + 1) k s = { s with spent := true } := by
  cases hs : s.spent
  · refine goK_spent (tried_qx _) ?_ h0
    unfold ended
    rw [hs]
    show ((!all && !clo) && decide (0 < s.count)) = false
    cases hh : (!all && !clo)
    · rfl
    · rw [hf hh]; rfl
  · rw [goK_ended (by unfold ended; rw [hs]; rfl)]
    obtain ⟨a, b, c, d, e⟩ := s
    simp only at hs
    subst hs
    rfl
theorem ended_qx (hs : s.spent = false) (hf : (!all && !clo) = true → s.count = 0) : ended (x.qx all clo) s = false := by
  unfold ended
  rw [hs]
  show ((!all && !clo) && decide (0 < s.count)) = false
  cases hh : (!all && !clo)
  · rfl
  · rw [hf hh]; rfl
theorem ended_found (h : ((!all && !clo) && decide (0 < s.count)) = true) : ended (x.qx all clo) s = true := by
  unfold ended
  show (s.spent || ((!all && !clo) && decide (0 < s.count))) = true
  rw [h, Bool.or_true]
theorem found_no (hf : (!all && !clo) = true → s.count = 0) : ((!all && !clo) && decide (0 < s.count)) = false := by
  cases hh : (!all && !clo)
  · rfl
  · rw [hf hh]; rfl
theorem lookX_spent : (x.lookX clo l s).spent = s.spent ∧ (x.lookX clo l s).left = s.left := by
  cases clo
  · show (lookP x.plan l s).spent = _ ∧ (lookP x.plan l s).left = _
    unfold lookP
    split <;> exact ⟨rfl, rfl⟩
  · show (lookC x.snd x.dev l s).spent = _ ∧ (lookC x.snd x.dev l s).left = _
    unfold lookC
    split
    · split <;> exact ⟨rfl, rfl⟩
    · exact ⟨rfl, rfl⟩
end
/-- What is left when a run of the reference comes back. -/
def RunX (x : Cx) (w0 : World) (q N bm bp bg : Nat) (lA : Option Addr) (lc : Nat) (all clo : Bool) (bud : Int) (f : Nat) (l : List Int) (s : S) (e : Ending) (w' : World) : Prop :=
  ∃ sA sc, e = .returned (.bool ((!all && !clo) && decide (0 < (srch (x.qx all clo) f l s).count))) ∧ Xs x w0 q N bm bp bg lA lc all clo bud w' l (sumA l) sA sc (srch (x.qx all clo) f l s) ∧ ((srch (x.qx all clo) f l s).spent = true → (srch (x.qx all clo) f l s).left = 0)
/-- What is shown of a run with f calls still to come. -/
def RunXOK (x : Cx) (w0 : World) (q N bm bp bg : Nat) (lA : Option Addr) (lc : Nat) (all clo : Bool) (bud : Int) (f : Nat) : Prop :=
  ∀ (w : World) (l : List Int) (sA : Option Addr) (sc : Nat) (s : S), Xs x w0 q N bm bp bg lA lc all clo bud w l (sumA l) sA sc s → Pre x.lim l → l.length + f = x.zs.length + 1 → s.spent = false → ((!all && !clo) = true → s.count = 0) → (s.count + s.left + 1 ≤ 20000 ∨ l.length ≠ x.zs.length) →
    Calls Tryz.prog 70 #[.pointer (some ⟨q, 0, none⟩)] w (RunX x w0 q N bm bp bg lA lc all clo bud f l s)
set_option maxRecDepth 100000 in
set_option maxHeartbeats 2000000 in
/-- All steps stand. -/
theorem runX_full {x : Cx} {w0 w : World} {q N bm bp bg : Nat} {lA : Option Addr} {lc : Nat} {all clo : Bool} {bud : Int} {l : List Int} {sA : Option Addr} {sc : Nat} {s : S} (f : Nat) (HR : Hid (RefOK x w0 bm bp bg)) (HS : Hid (Xs x w0 q N bm bp bg lA lc all clo bud w l (sumA l) sA sc s)) (HP : Hid (Pre x.lim l)) (hl : l.length = x.zs.length) (HC : Hid (s.count + s.left + 1 ≤ 20000)) (HF : Hid ((!all && !clo) = true → s.count = 0)) (HSP : Hid (s.spent = false)) :
    Calls Tryz.prog 70 #[.pointer (some ⟨q, 0, none⟩)] w (RunX x w0 q N bm bp bg lA lc all clo bud (f + 1) l s) := by
  have HLL := hide (show l.length = x.lim.length from by rw [x.lim_length]; exact hl)
  have HE := hide (show srch (x.qx all clo) (f + 1) l s = x.lookX clo l s from srch_full (q := x.qx all clo) HLL.out)
  have HRAW := hide (raw_is HR HS HP)
  have HSW := hide HS.out
  obtain ⟨k0, k1, k2, k3, k4, _⟩ := HS.out.cells
  rw [← hl] at k3
  have HNN := hide hl
  clear k0 k1 k2 hl
  go_enter Tryz.func70, Tryz.ntmps70
  go_wp2_with fail
  refine HRAW.out.mono ?_
  rintro e w1 ⟨A1, c1, rfl, ho1, hb1⟩
  have HS1 := hide (HS.out.below hb1)
  have HO1 := hide (OwnI.sl ho1 (x.raw_length l).symm)
  clear ho1 hb1 HRAW k3 k4
  go_wp2_with fail
  refine (doneX_is A1 c1 HR HS1 HP HLL HO1 HC (hide (fun h1 h2 => HF.out (by rw [h1, h2]; rfl)))).mono ?_
  rintro e w2 ⟨rfl, hs2⟩
  have HS2 := hide hs2
  clear hs2
  go_wp2_with fail
  go_ret
  refine ⟨sA, sc, ?_, by rw [HE.out]; exact HS2.out, by rw [HE.out, lookX_spent.1, lookX_spent.2, HSP.out]; intro h; cases h⟩
  rw [HE.out]
  cases clo
  · cases all
    · have hc := HF.out rfl
      cases hp : x.plan l
      · rw [lookX_noplan hp, hc]; rfl
      · rw [lookX_plan hp, hc]; rfl
    · rfl
  · cases all <;> rfl
set_option maxRecDepth 100000 in
set_option maxHeartbeats 4000000 in
/-- A run goes on with a zone. -/
theorem runX_goes_c {x : Cx} {w0 w : World} {q N bm bp bg : Nat} {lA : Option Addr} {lc : Nat} {all : Bool} {bud : Int} {l : List Int} {sA : Option Addr} {sc : Nat} {s : S} (f : Nat) (HR : Hid (RefOK x w0 bm bp bg)) (HIH : Hid (RunXOK x w0 q N bm bp bg lA lc all true bud f)) (HS : Hid (Xs x w0 q N bm bp bg lA lc all true bud w l (sumA l) sA sc s)) (HP : Hid (Pre x.lim l)) (hl : l.length < x.zs.length) (hf : Hid (l.length + f = x.zs.length)) (HSP : Hid (s.spent = false)) (HF : Hid ((!all && !true) = true → s.count = 0)) :
    Calls Tryz.prog 70 #[.pointer (some ⟨q, 0, none⟩)] w (RunX x w0 q N bm bp bg lA lc all true bud (f + 1) l s) := by
  have HG := hide (srch_goes (q := x.qx all true) (f := f) (s := s) (l := l) (by show l.length ≠ x.lim.length; rw [x.lim_length]; omega))
  have hlb := HR.out.ok.lim_bd l.length
  obtain ⟨L, hL⟩ : ∃ L : Nat, ig x.lim l.length = L := ⟨(ig x.lim l.length).toNat, by omega⟩
  have HLL := hide hL
  have hL20 : L ≤ 20 := by omega
  have HGL := hide (show srch (x.qx all true) (f + 1) l s = goK (x.qx all true) (srch (x.qx all true) f) l (L + 1) 0 s from by rw [HG.out]; show goK _ _ _ ((ig x.lim l.length).toNat + 1) 0 s = _; rw [hL]; rfl)
  have hn8 := HR.out.ok.ask.z.len8
  have hsb := sumTo_20 (HP.out.all HR.out.ok.lim_bd) l.length
  obtain ⟨sm, hsm⟩ : ∃ sm, sm = sumA l := ⟨_, rfl⟩
  have HSM := hide hsm
  have hsm0 : 0 ≤ sm := by rw [hsm]; exact hsb.1
  have hsm1 : sm ≤ 160 := by rw [hsm]; have := hsb.2; show sumTo l l.length ≤ 160; omega
  rw [← hsm] at HS
  clear hsb hsm hlb hL HG
  have hne : ((l.length : Int) == (x.zs.length : Int)) = false := by simp; omega
  have hli : (l.length : Int) < x.zs.length := by omega
  have hl0 : (0 : Int) ≤ l.length := by omega
  have hbud2 := HS.out.bd.2
  obtain ⟨k0, k1, k2, k3, k4, _⟩ := HS.out.cells
  clear k0 k1 k2
  go_enter Tryz.func70, Tryz.ntmps70
  go_wp2_with fail
  clear k3 k4
  go_loopw [4] (fun v wr => ∃ (k : Nat) (s' : S) (sA' : Option Addr) (sc' : Nat), v = .int .i64 k ∧ k ≤ L + 1 ∧ Hid (Xs x w0 q N bm bp bg lA lc all true bud wr l sm sA' sc' s') ∧ Hid (goK (x.qx all true) (srch (x.qx all true) f) l (L + 1 - k) k s' = goK (x.qx all true) (srch (x.qx all true) f) l (L + 1) 0 s) ∧ Hid (s'.spent = true → s'.left = 0) ∧ Hid ((!all && !true) = true → s'.count = 0)) (fun v _ => L + 1 - (intOf v).toNat)
  case atStart => exact ⟨0, s, sA, sc, rfl, by omega, HS, hide rfl, hide (fun h => by rw [HSP.out] at h; cases h), HF⟩
  case round =>
    obtain ⟨k, s', sA', sc', rfl, hk, HS1, HK, HSL, HFC⟩ := hrel
    obtain ⟨w1, rfl⟩ : ∃ w1, w1 = wr := ⟨_, rfl⟩
    obtain ⟨g, hA, c1⟩ := HS1.out.limAt hl
    subst hA
    rw [HLL.out] at c1
    obtain ⟨k0, k1, k2, k3, k4, k5, k6, k7, k8, k10, k11, k12, k13, k14, kf⟩ := HS1.out.cells
    clear k0 k1 k2 k4 k6 k7 k8 k10 k11 kf
    by_cases hlt : k ≤ L
    · have hkL : (k : Int) ≤ L := by omega
      have HK2 := hide (show goK (x.qx all true) (srch (x.qx all true) f) l ((L - k) + 1) k s' = goK (x.qx all true) (srch (x.qx all true) f) l (L + 1) 0 s from by rw [← HK.out, show L + 1 - k = L - k + 1 by omega])
      have hd0 : decide ((0 : Int) ≤ -1) = false := by decide
      go_wp2_with fail
      have hqw := HS1.out.lt
      refine wp_region_kept (by kernel_rfl) (by kernel_rfl) ?_
      intro gc gf gz
      repeat (go_big_quiet_step (fail))
      refine wpQuiet_nil ?_
      intro w2 hw'
      obtain ⟨⟨_, hb2⟩, rfl⟩ := hw'
      clear gc gf gz
      try dsimp only
      have fs2 := hb2.size
      try simp at fs2 hb2
      have HS2 := hide (HS1.out.below hb2)
      have hc12 : w2.cell? ⟨q, 12, none⟩ = some (.int .i64 (bud - s'.left)) := HS2.out.cells.2.2.2.2.2.2.2.2.2.2.2.1
      have hc13 : w2.cell? ⟨q, 13, none⟩ = some (.int .i64 bud) := HS2.out.cells.2.2.2.2.2.2.2.2.2.2.2.2.1
      clear k3 k5 k12 k13 k14 c1 hd0 hb2 hqw HS1
      have hqw := HS2.out.lt
      by_cases h0 : s'.left = 0
      · have hnb : ((bud - s'.left) == bud) = true := by simp; omega
        go_wp2_with fail
        refine wp_region_kept (by kernel_rfl) (by kernel_rfl) ?_
        intro gc gf gz
        repeat (go_big_quiet_step (fail))
        refine wpQuiet_nil ?_
        intro w3 hw'
        obtain ⟨⟨_, hb3⟩, rfl⟩ := hw'
        clear gc gf gz
        try dsimp only
        have fs3 := hb3.size
        try simp at fs3 hb3
        have HS3 := hide (HS2.out.below hb3)
        have HS4 := hide HS3.out.over
        obtain ⟨j0, j1, j2, j3, j4, j5, j6, j7, j8, j10, j11, j12, j13, j14, jf⟩ := HS3.out.cells
        have f14 := jf 14
        clear j0 j1 j2 j3 j4 j5 j6 j7 j8 j10 j11 j12 j13 jf hb3 hc12 hc13 HS2
        have HE := hide ((goK_zero (x := x) (rec := srch (x.qx all true) f) (l := l) (m := L - k) (k := k) h0 HFC.out).symm.trans HK2.out)
        have HH0 := hide h0
        clear h0 hnb
        go_wp2_with fail
        go_ret
        refine ⟨sA', sc', ?_, ?_, ?_⟩
        · rw [HGL.out, ← HE.out]
          exact ret_bool (found_no (s := { s' with spent := true }) HFC.out).symm
        · rw [HGL.out, ← HE.out, ← HSM.out]; exact HS4.out
        · rw [HGL.out, ← HE.out]; intro _; exact HH0.out
      · have hnb : ((bud - s'.left) == bud) = false := by simp; omega
        have HH0 := hide h0
        have hspf : s'.spent = false := by
          cases h : s'.spent
          · rfl
          · exact absurd (HSL.out h) h0
        have HNS := hide hspf
        have HEN := hide (ended_qx (x := x) hspf HFC.out)
        have hb3b := HS2.out.bd.1
        have hb3i := HS2.out.inv.l0
        have kw : IntKind.i64.wrap (bud - s'.left + 1) = bud - s'.left + 1 := IntWalk.i64_in _ (by omega)
        go_wp2_with fail
        refine wp_region_kept (by kernel_rfl) (by kernel_rfl) ?_
        intro gc gf gz
        repeat (go_big_quiet_step (fail))
        refine wpQuiet_nil ?_
        intro w3 hw'
        obtain ⟨⟨_, hb3⟩, rfl⟩ := hw'
        clear gc gf gz
        try dsimp only
        have fs3 := hb3.size
        try simp at fs3 hb3
        have HS3 := hide (HS2.out.below hb3)
        have HS4 := hide (HS3.out.node h0 (nd := bud - s'.left + 1) rfl)
        have HND := hide (HS2.out.inv.node h0).2
        clear hc12 hc13 hb3 HS2 h0 hnb hb3b hb3i
        obtain ⟨j0, j1, j2, j3, j4, j5, j6, j7, j8, j10, j11, j12, j13, j14, jf⟩ := HS3.out.cells
        rw [hspf] at j14
        have f12 := jf 12
        clear j0 j1 j2 j3 j4 j5 j6 j7 j8 j10 j11 j13 jf hspf
        obtain ⟨W4, hW4⟩ : ∃ W4, W4 = w3.setCell ⟨q, 12, none⟩ (.int .i64 (bud - s'.left + 1)) := ⟨_, rfl⟩
        rw [← hW4] at HS4
        go_upto_region 13 with fail
        rw [← hW4]
        clear hW4 j12 j14 f12 kw HS3
        obtain ⟨k0, k1, k2, k3, k4, k5, k6, k7, k8, k10, k11, k12, k13, k14, kf⟩ := HS4.out.cells
        have f4 := kf 4
        have hqN := HS4.out.hN
        have hNw := HS4.out.hNw
        clear k0 k1 k2 k3 k5 k6 k7 k8 k10 k11 k12 k13 k14 kf
        have HPR := hide (HP.out.snoc (n := (k : Int)) (by rw [x.lim_length]; exact hl) (by omega) (by rw [HLL.out]; exact hkL))
        go_upto_region 14 with (at_builtin; refine wpList_appI_at rfl _ _ rfl N rfl HS4.out.row rfl (by omega) ?_ ?_; (focus (exact hNw)); intro A8 c8 w8 ho8 hb8 hg8 hat8; have HS8 := hide (HS4.out.push ho8 hb8 hg8 hat8); have k4' := (hb8.cell (p := ⟨q, 4, none⟩) hqN).trans k4; have f4' := (hb8.frozen (p := ⟨q, 4, none⟩) hqN).trans f4; clear ho8 hb8 hg8 hat8)
        clear k4 f4 k4' f4'
        generalize w8.setCell ⟨q, 4, none⟩ (.slice A8 (l.length + 1) c8) = w9 at *
        have HS9 := hide (HS8.out.sum (sm + (k : Int)))
        have kw2 : IntKind.i64.wrap (sm + (k : Int)) = sm + (k : Int) := IntWalk.i64_in _ (by omega)
        obtain ⟨k0, k1, k2, k3, k4, k5, k6, k7, k8, k10, k11, k12, k13, k14, kf⟩ := HS8.out.cells
        have f6 := kf 6
        clear k0 k1 k2 k3 k4 k5 k7 k8 k10 k11 k12 k13 k14 kf HS4 hNw
        go_upto_region 16 with fail
        generalize w9.setCell ⟨q, 6, none⟩ (.int .i64 (sm + (k : Int))) = wA at *
        clear k6 f6 HS8 kw2
        obtain ⟨k0, k1, k2, k3, k4, k5, k6, k7, k8, k10, k11, k12, k13, k14, kf⟩ := HS9.out.cells
        clear k3 k4 k5 k6 k7 k10 k11 k12 k13 k14 kf
        have HSA := hide (sumA_snoc l (k : Int))
        obtain ⟨AR, hAR⟩ : ∃ AR, AR = A8 := ⟨_, rfl⟩
        obtain ⟨cR, hcR⟩ : ∃ cR, cR = c8 := ⟨_, rfl⟩
        subst hAR hcR
        obtain ⟨wR, rfl⟩ : ∃ wR, wR = wA := ⟨_, rfl⟩
        have HSR := HS9
        clear HS9 k0 k1 k2
        have hrec := HIH.out wR (l ++ [(k : Int)]) AR cR { s' with left := s'.left - 1 } (by rw [HSA.out, ← HSM.out]; exact HSR.out) HPR.out (by have := hf.out; simp; omega) HNS.out HFC.out (.inl HND.out)
        have HREC := hide hrec
        clear hrec
        have HE := hide ((goK_go (tried_qx _) HEN.out HH0.out (rfl)).symm.trans HK2.out)
        go_wp2_with fail
        refine HREC.out.mono ?_
        rintro e wT ⟨AT, cT, rfl, hsT, hspT⟩
        obtain ⟨sT, hsTe⟩ : ∃ sT, sT = srch (x.qx all true) f (l ++ [(k : Int)]) { s' with left := s'.left - 1 } := ⟨_, rfl⟩
        rw [← hsTe] at hsT hspT HE ⊢
        rw [HSA.out, ← HSM.out] at hsT
        have HT := hide hsT
        have HSPT := hide hspT
        obtain ⟨bf, hbf⟩ : ∃ bf, bf = ((!all && !true) && decide (0 < sT.count)) := ⟨_, rfl⟩
        rw [← hbf]
        have HBF := hide hbf
        clear hsT hspT hsTe hbf HREC
        cases bf
        · obtain ⟨k0, k1, k2, k3, k4, k5, k6, k7, k8, k10, k11, k12, k13, k14, kf⟩ := HT.out.cells
          have f4 := kf 4
          clear k0 k1 k2 k3 k5 k6 k7 k8 k10 k11 k12 k13 k14 kf
          have hll : (l ++ [(k : Int)]).length = l.length + 1 := by simp
          rw [hll] at k4
          have HTR := hide HT.out.row
          rw [hll] at HTR
          obtain ⟨gT, hgT, _, _, _, _⟩ := own_get1 HTR.out (k := 0) (by simp)
          subst hgT
          have HT2 := hide (HT.out.pop (k := l.length) rfl)
          have hcap := own_capI HTR.out (by simp)
          clear HTR hll
          go_upto_region 24 with fail
          generalize wT.setCell ⟨q, 4, none⟩ (.slice (some ⟨gT, 0, none⟩) l.length cT) = wU at *
          clear k4 f4 HT hcap
          have HT3 := hide (HT2.out.sum sm)
          obtain ⟨k0, k1, k2, k3, k4, k5, k6, k7, k8, k10, k11, k12, k13, k14, kf⟩ := HT2.out.cells
          have f6 := kf 6
          have kw3 : IntKind.i64.wrap (sm + (k : Int) - (k : Int)) = sm := by rw [IntWalk.i64_in _ (by omega)]; omega
          clear k0 k1 k2 k3 k4 k5 k7 k8 k10 k11 k12 k13 k14 kf
          go_upto_region 25 with fail
          generalize wU.setCell ⟨q, 6, none⟩ (.int .i64 sm) = wV at *
          clear k6 f6 HT2 kw3
          have HFC2 := hide (show (!all && !true) = true → sT.count = 0 from fun h => by
            have hb := HBF.out
            rw [h] at hb
            have h0 := HT3.out.inv.c0
            simp at hb
            omega)
          go_wp2_with fail
          go_roundw
          case rel => exact ⟨k + 1, sT, _, _, by go_num, by omega, HT3, hide (by rw [show L + 1 - (k + 1) = L - k by omega]; exact HE.out), HSPT, HFC2⟩
          case measure => simp [intOf]; omega
        · obtain ⟨k0, k1, k2, k3, k4, k5, k6, k7, k8, k10, k11, k12, k13, k14, kf⟩ := HT.out.cells
          have f4 := kf 4
          clear k0 k1 k2 k3 k5 k6 k7 k8 k10 k11 k12 k13 k14 kf
          have hll : (l ++ [(k : Int)]).length = l.length + 1 := by simp
          rw [hll] at k4
          have HTR := hide HT.out.row
          rw [hll] at HTR
          obtain ⟨gT, hgT, _, _, _, _⟩ := own_get1 HTR.out (k := 0) (by simp)
          subst hgT
          have HT2 := hide (HT.out.pop (k := l.length) rfl)
          have hcap := own_capI HTR.out (by simp)
          clear HTR hll
          go_upto_region 24 with fail
          generalize wT.setCell ⟨q, 4, none⟩ (.slice (some ⟨gT, 0, none⟩) l.length cT) = wU at *
          clear k4 f4 HT hcap
          have HT3 := hide (HT2.out.sum sm)
          obtain ⟨k0, k1, k2, k3, k4, k5, k6, k7, k8, k10, k11, k12, k13, k14, kf⟩ := HT2.out.cells
          have f6 := kf 6
          have kw3 : IntKind.i64.wrap (sm + (k : Int) - (k : Int)) = sm := by rw [IntWalk.i64_in _ (by omega)]; omega
          clear k0 k1 k2 k3 k4 k5 k7 k8 k10 k11 k12 k13 k14 kf
          go_upto_region 25 with fail
          generalize wU.setCell ⟨q, 6, none⟩ (.int .i64 sm) = wV at *
          clear k6 f6 HT2 kw3
          have HE2 := hide ((goK_ended (q := x.qx all true) (rec := srch (x.qx all true) f) (l := l) (ended_found HBF.out.symm) (L - k) (k + 1)).symm.trans HE.out)
          go_wp2_with fail
          go_ret
          refine ⟨some ⟨gT, 0, none⟩, cT, ?_, ?_, ?_⟩
          · rw [HGL.out, ← HE2.out]
            exact ret_bool HBF.out
          · rw [HGL.out, ← HE2.out, ← HSM.out]; exact HT3.out
          · rw [HGL.out, ← HE2.out]; exact HSPT.out
    · have hkL : ¬ (k : Int) ≤ L := by omega
      have HE := hide (show goK (x.qx all true) (srch (x.qx all true) f) l (L + 1 - k) k s' = s' from by rw [show L + 1 - k = 0 by omega]; rfl)
      go_wp2_with fail
      go_ret
      refine ⟨sA', sc', ?_, ?_, ?_⟩
      · rw [HGL.out, ← HK.out, HE.out]
        exact ret_bool (found_no HFC.out).symm
      · rw [HGL.out, ← HK.out, HE.out, ← HSM.out]; exact HS1.out
      · rw [HGL.out, ← HK.out, HE.out]; exact HSL.out
set_option maxRecDepth 100000 in
set_option maxHeartbeats 4000000 in
/-- A run goes on with a zone. -/
theorem runX_goes_p {x : Cx} {w0 w : World} {q N bm bp bg : Nat} {lA : Option Addr} {lc : Nat} {all : Bool} {bud : Int} {l : List Int} {sA : Option Addr} {sc : Nat} {s : S} (f : Nat) (HR : Hid (RefOK x w0 bm bp bg)) (HIH : Hid (RunXOK x w0 q N bm bp bg lA lc all false bud f)) (HS : Hid (Xs x w0 q N bm bp bg lA lc all false bud w l (sumA l) sA sc s)) (HP : Hid (Pre x.lim l)) (hl : l.length < x.zs.length) (hf : Hid (l.length + f = x.zs.length)) (HSP : Hid (s.spent = false)) (HF : Hid ((!all && !false) = true → s.count = 0)) :
    Calls Tryz.prog 70 #[.pointer (some ⟨q, 0, none⟩)] w (RunX x w0 q N bm bp bg lA lc all false bud (f + 1) l s) := by
  have HG := hide (srch_goes (q := x.qx all false) (f := f) (s := s) (l := l) (by show l.length ≠ x.lim.length; rw [x.lim_length]; omega))
  have hlb := HR.out.ok.lim_bd l.length
  obtain ⟨L, hL⟩ : ∃ L : Nat, ig x.lim l.length = L := ⟨(ig x.lim l.length).toNat, by omega⟩
  have HLL := hide hL
  have hL20 : L ≤ 20 := by omega
  have HGL := hide (show srch (x.qx all false) (f + 1) l s = goK (x.qx all false) (srch (x.qx all false) f) l (L + 1) 0 s from by rw [HG.out]; show goK _ _ _ ((ig x.lim l.length).toNat + 1) 0 s = _; rw [hL]; rfl)
  have hn8 := HR.out.ok.ask.z.len8
  have hsb := sumTo_20 (HP.out.all HR.out.ok.lim_bd) l.length
  obtain ⟨sm, hsm⟩ : ∃ sm, sm = sumA l := ⟨_, rfl⟩
  have HSM := hide hsm
  have hsm0 : 0 ≤ sm := by rw [hsm]; exact hsb.1
  have hsm1 : sm ≤ 160 := by rw [hsm]; have := hsb.2; show sumTo l l.length ≤ 160; omega
  rw [← hsm] at HS
  clear hsb hsm hlb hL HG
  have hne : ((l.length : Int) == (x.zs.length : Int)) = false := by simp; omega
  have hli : (l.length : Int) < x.zs.length := by omega
  have hl0 : (0 : Int) ≤ l.length := by omega
  have hbud2 := HS.out.bd.2
  obtain ⟨k0, k1, k2, k3, k4, _⟩ := HS.out.cells
  clear k0 k1 k2
  go_enter Tryz.func70, Tryz.ntmps70
  go_wp2_with fail
  clear k3 k4
  go_loopw [4] (fun v wr => ∃ (k : Nat) (s' : S) (sA' : Option Addr) (sc' : Nat), v = .int .i64 k ∧ k ≤ L + 1 ∧ Hid (Xs x w0 q N bm bp bg lA lc all false bud wr l sm sA' sc' s') ∧ Hid (goK (x.qx all false) (srch (x.qx all false) f) l (L + 1 - k) k s' = goK (x.qx all false) (srch (x.qx all false) f) l (L + 1) 0 s) ∧ Hid (s'.spent = true → s'.left = 0) ∧ Hid ((!all && !false) = true → s'.count = 0)) (fun v _ => L + 1 - (intOf v).toNat)
  case atStart => exact ⟨0, s, sA, sc, rfl, by omega, HS, hide rfl, hide (fun h => by rw [HSP.out] at h; cases h), HF⟩
  case round =>
    obtain ⟨k, s', sA', sc', rfl, hk, HS1, HK, HSL, HFC⟩ := hrel
    obtain ⟨w1, rfl⟩ : ∃ w1, w1 = wr := ⟨_, rfl⟩
    obtain ⟨g, hA, c1⟩ := HS1.out.limAt hl
    subst hA
    rw [HLL.out] at c1
    obtain ⟨k0, k1, k2, k3, k4, k5, k6, k7, k8, k10, k11, k12, k13, k14, kf⟩ := HS1.out.cells
    clear k0 k1 k2 k4 k6 k7 k8 k10 k11 kf
    by_cases hlt : k ≤ L
    · have hkL : (k : Int) ≤ L := by omega
      have HK2 := hide (show goK (x.qx all false) (srch (x.qx all false) f) l ((L - k) + 1) k s' = goK (x.qx all false) (srch (x.qx all false) f) l (L + 1) 0 s from by rw [← HK.out, show L + 1 - k = L - k + 1 by omega])
      have hd0 : decide ((0 : Int) ≤ -1) = false := by decide
      go_wp2_with fail
      have hqw := HS1.out.lt
      refine wp_region_kept (by kernel_rfl) (by kernel_rfl) ?_
      intro gc gf gz
      repeat (go_big_quiet_step (fail))
      refine wpQuiet_nil ?_
      intro w2 hw'
      obtain ⟨⟨_, hb2⟩, rfl⟩ := hw'
      clear gc gf gz
      try dsimp only
      have fs2 := hb2.size
      try simp at fs2 hb2
      have HS2 := hide (HS1.out.below hb2)
      have hc12 : w2.cell? ⟨q, 12, none⟩ = some (.int .i64 (bud - s'.left)) := HS2.out.cells.2.2.2.2.2.2.2.2.2.2.2.1
      have hc13 : w2.cell? ⟨q, 13, none⟩ = some (.int .i64 bud) := HS2.out.cells.2.2.2.2.2.2.2.2.2.2.2.2.1
      clear k3 k5 k12 k13 k14 c1 hd0 hb2 hqw HS1
      have hqw := HS2.out.lt
      by_cases h0 : s'.left = 0
      · have hnb : ((bud - s'.left) == bud) = true := by simp; omega
        go_wp2_with fail
        refine wp_region_kept (by kernel_rfl) (by kernel_rfl) ?_
        intro gc gf gz
        repeat (go_big_quiet_step (fail))
        refine wpQuiet_nil ?_
        intro w3 hw'
        obtain ⟨⟨_, hb3⟩, rfl⟩ := hw'
        clear gc gf gz
        try dsimp only
        have fs3 := hb3.size
        try simp at fs3 hb3
        have HS3 := hide (HS2.out.below hb3)
        have HS4 := hide HS3.out.over
        obtain ⟨j0, j1, j2, j3, j4, j5, j6, j7, j8, j10, j11, j12, j13, j14, jf⟩ := HS3.out.cells
        have f14 := jf 14
        clear j0 j1 j2 j3 j4 j5 j6 j7 j8 j10 j11 j12 j13 jf hb3 hc12 hc13 HS2
        have HE := hide ((goK_zero (x := x) (rec := srch (x.qx all false) f) (l := l) (m := L - k) (k := k) h0 HFC.out).symm.trans HK2.out)
        have HH0 := hide h0
        clear h0 hnb
        go_wp2_with fail
        go_ret
        refine ⟨sA', sc', ?_, ?_, ?_⟩
        · rw [HGL.out, ← HE.out]
          exact ret_bool (found_no (s := { s' with spent := true }) HFC.out).symm
        · rw [HGL.out, ← HE.out, ← HSM.out]; exact HS4.out
        · rw [HGL.out, ← HE.out]; intro _; exact HH0.out
      · have hnb : ((bud - s'.left) == bud) = false := by simp; omega
        have HH0 := hide h0
        have hspf : s'.spent = false := by
          cases h : s'.spent
          · rfl
          · exact absurd (HSL.out h) h0
        have HNS := hide hspf
        have HEN := hide (ended_qx (x := x) hspf HFC.out)
        have hb3b := HS2.out.bd.1
        have hb3i := HS2.out.inv.l0
        have kw : IntKind.i64.wrap (bud - s'.left + 1) = bud - s'.left + 1 := IntWalk.i64_in _ (by omega)
        go_wp2_with fail
        refine wp_region_kept (by kernel_rfl) (by kernel_rfl) ?_
        intro gc gf gz
        repeat (go_big_quiet_step (fail))
        refine wpQuiet_nil ?_
        intro w3 hw'
        obtain ⟨⟨_, hb3⟩, rfl⟩ := hw'
        clear gc gf gz
        try dsimp only
        have fs3 := hb3.size
        try simp at fs3 hb3
        have HS3 := hide (HS2.out.below hb3)
        have HS4 := hide (HS3.out.node h0 (nd := bud - s'.left + 1) rfl)
        have HND := hide (HS2.out.inv.node h0).2
        clear hc12 hc13 hb3 HS2 h0 hnb hb3b hb3i
        obtain ⟨j0, j1, j2, j3, j4, j5, j6, j7, j8, j10, j11, j12, j13, j14, jf⟩ := HS3.out.cells
        rw [hspf] at j14
        have f12 := jf 12
        clear j0 j1 j2 j3 j4 j5 j6 j7 j8 j10 j11 j13 jf hspf
        obtain ⟨W4, hW4⟩ : ∃ W4, W4 = w3.setCell ⟨q, 12, none⟩ (.int .i64 (bud - s'.left + 1)) := ⟨_, rfl⟩
        rw [← hW4] at HS4
        go_upto_region 13 with fail
        rw [← hW4]
        clear hW4 j12 j14 f12 kw HS3
        obtain ⟨k0, k1, k2, k3, k4, k5, k6, k7, k8, k10, k11, k12, k13, k14, kf⟩ := HS4.out.cells
        have f4 := kf 4
        have hqN := HS4.out.hN
        have hNw := HS4.out.hNw
        clear k0 k1 k2 k3 k5 k6 k7 k8 k10 k11 k12 k13 k14 kf
        have HPR := hide (HP.out.snoc (n := (k : Int)) (by rw [x.lim_length]; exact hl) (by omega) (by rw [HLL.out]; exact hkL))
        go_upto_region 14 with (at_builtin; refine wpList_appI_at rfl _ _ rfl N rfl HS4.out.row rfl (by omega) ?_ ?_; (focus (exact hNw)); intro A8 c8 w8 ho8 hb8 hg8 hat8; have HS8 := hide (HS4.out.push ho8 hb8 hg8 hat8); have k4' := (hb8.cell (p := ⟨q, 4, none⟩) hqN).trans k4; have f4' := (hb8.frozen (p := ⟨q, 4, none⟩) hqN).trans f4; clear ho8 hb8 hg8 hat8)
        clear k4 f4 k4' f4'
        generalize w8.setCell ⟨q, 4, none⟩ (.slice A8 (l.length + 1) c8) = w9 at *
        have HS9 := hide (HS8.out.sum (sm + (k : Int)))
        have kw2 : IntKind.i64.wrap (sm + (k : Int)) = sm + (k : Int) := IntWalk.i64_in _ (by omega)
        obtain ⟨k0, k1, k2, k3, k4, k5, k6, k7, k8, k10, k11, k12, k13, k14, kf⟩ := HS8.out.cells
        have f6 := kf 6
        clear k0 k1 k2 k3 k4 k5 k7 k8 k10 k11 k12 k13 k14 kf HS4 hNw
        go_upto_region 16 with fail
        generalize w9.setCell ⟨q, 6, none⟩ (.int .i64 (sm + (k : Int))) = wA at *
        clear k6 f6 HS8 kw2
        obtain ⟨k0, k1, k2, k3, k4, k5, k6, k7, k8, k10, k11, k12, k13, k14, kf⟩ := HS9.out.cells
        clear k3 k4 k5 k6 k7 k10 k11 k12 k13 k14 kf
        have HSA := hide (sumA_snoc l (k : Int))
        have HRAW := hide (raw_is HR HS9 HPR)
        go_wp2_with fail
        refine HRAW.out.mono ?_
        rintro e wB ⟨AB, cB, rfl, hoB, hbB⟩
        have HOB := hide (OwnI.sl hoB (x.raw_length (l ++ [(k : Int)])).symm)
        have HSB := hide (HS9.out.below hbB)
        clear hoB hbB HRAW k0 k1 k2 k8 HS9
        obtain ⟨kL, hkL9⟩ : ∃ kL : Int, kL = (k : Int) := ⟨_, rfl⟩
        have HRW := hide (x.raw_length (l ++ [(k : Int)]))
        go_wp2_with fail
        go_loopw [7, 5] (fun v lw wi => ∃ k5 : Nat, v = .int .i64 k5 ∧ lw = .bool (lowTo x.t x.tol (x.raw (l ++ [(k : Int)])) k5) ∧ k5 ≤ 5 ∧ Hid (Below wB.heap.size wB wi)) (fun v _ _ => 5 - (intOf v).toNat)
        case atStart => exact ⟨0, rfl, rfl, by omega, hide (Below.refl _ _)⟩
        case round =>
          obtain ⟨k5, rfl, rfl, hk5, HBI⟩ := hrel
          obtain ⟨wI, rfl⟩ : ∃ wI, wI = wr := ⟨_, rfl⟩
          have hzI := HBI.out.size
          by_cases hlt5 : k5 < 5
          · have HSI := hide (HSB.out.below HBI.out)
            obtain ⟨bR, oR, hAB, hbR, hcR⟩ := (HOB.out.below HBI.out).getA (by have := HRW.out; omega)
            subst hAB
            have hq1 := hcR k5 (by have := HRW.out; omega)
            obtain ⟨j0, j1, j2, j3, j4, j5, j6, j7, j8, j10, j11, j12, j13, j14, jf⟩ := HSI.out.cells
            clear j0 j1 j3 j4 j5 j6 j7 j8 j10 j11 j12 j13 j14 jf hcR
            have hg := HR.out.ok.goal
            have HGA := hide (fun W (hb : Below wI.heap.size wI W) => (HR.out.below ((HSI.out.below hb).bel)).g)
            have HTI := hide (show InF [x.t0, x.t1, x.t2, x.t3, x.t4] from SoundOK.inF hg.t)
            have htol := hg.tol
            have HLT := hide (show lowTo x.t x.tol (x.raw (l ++ [(k : Int)])) (k5 + 1) = (lowTo x.t x.tol (x.raw (l ++ [(k : Int)])) k5 || lowK x.t x.tol k5 (ig (x.raw (l ++ [(k : Int)])) k5)) from rfl)
            have hki5 : (k5 : Int) < 5 := by omega
            have hk50 : (0 : Int) ≤ k5 := by omega
            obtain ⟨fv, hfv⟩ : ∃ fv, fv = ig (x.raw (l ++ [(k : Int)])) k5 := ⟨_, rfl⟩
            rw [← hfv] at hq1 HLT
            obtain ⟨l0, hl0e⟩ : ∃ l0, l0 = lowTo x.t x.tol (x.raw (l ++ [(k : Int)])) k5 := ⟨_, rfl⟩
            rw [← hl0e] at HLT ⊢
            have HLC := hide (fun W (hb : Below wI.heap.size wI W) => l10Low_is x.t0 x.t1 x.t2 x.t3 x.t4 x.tol x.most k5 fv bg 0 W (hide (HGA.out W hb)) HTI hlt5 htol.1 htol.2)
            clear hg htol hfv hl0e
            have P2 : ∀ W, Below wI.heap.size wI W → W.cell? ⟨q, 2, none⟩ = some (.pointer (some ⟨bg, 0, none⟩)) := fun W hb => (HSI.out.below hb).cells.2.2.1
            have PQ : ∀ W, Below wI.heap.size wI W → W.cell? ⟨bR, oR + k5, none⟩ = some (.int .i64 fv) := fun W hb => (hb.cell (p := ⟨bR, oR + k5, none⟩) hbR).trans hq1
            cases l0
            · obtain ⟨lv, hlv⟩ : ∃ lv, lv = lowK x.t x.tol k5 fv := ⟨_, rfl⟩
              rw [← hlv] at HLT
              have HLC := hide (fun W hb => by have h := HLC.out W hb; rw [show lowK [x.t0, x.t1, x.t2, x.t3, x.t4] x.tol k5 fv = lv from hlv.symm] at h; exact h)
              clear hlv
              go_wp2_with fail
              refine wp_region_noPanic ?_
              refine wp_region_held_drew (S := (fun w' => Below wI.heap.size wI w')) (by kernel_rfl) ((Below.refl _ _).drew) (fun hHeld => ?_)
              refine wpAnyH_take (i := 0) (oi := ?o0_1) (v := ?v0_1) ?hi0_1 ?hs0_1 ?hf0_1 ?hr0_1 (fun _ _ _ h => h) ?hy0_1 (by assumption) ?hh0_1
              case hi0_1 => ((simp only [List.getElem?_toArray, List.getElem?_cons_zero]); rfl)
              case hs0_1 => kernel_rfl
              case hf0_1 => kernel_rfl
              case hr0_1 => kernel_rfl
              case hy0_1 => exact Or.inl ⟨by rfl, by (intro wq hSw; (try dsimp only at hSw); go_simp; (try with_reducible rfl))⟩
              try simp only [Act.put, List.setIfInBounds_toArray, List.set_cons_zero, List.set_cons_succ]
              refine wpAnyH_take (i := 1) (oi := ?o1_2) (v := ?v1_2) ?hi1_2 ?hs1_2 ?hf1_2 ?hr1_2 (fun _ _ _ h => h) ?hy1_2 (by assumption) ?hh1_2
              case hi1_2 => ((simp only [List.getElem?_toArray, List.getElem?_cons_succ, List.getElem?_cons_zero]); rfl)
              case hs1_2 => kernel_rfl
              case hf1_2 => kernel_rfl
              case hr1_2 => kernel_rfl
              case hy1_2 => exact Or.inl ⟨by rfl, by (intro wq hSw; (try dsimp only at hSw); go_simp; (try with_reducible rfl))⟩
              try simp only [Act.put, List.setIfInBounds_toArray, List.set_cons_zero, List.set_cons_succ]
              refine wpAnyH_take (i := 2) (oi := ?o2_3) (v := ?v2_3) ?hi2_3 ?hs2_3 ?hf2_3 ?hr2_3 (fun _ _ _ h => h) ?hy2_3 (by assumption) ?hh2_3
              case hi2_3 => ((simp only [List.getElem?_toArray, List.getElem?_cons_succ, List.getElem?_cons_zero]); rfl)
              case hs2_3 => kernel_rfl
              case hf2_3 => kernel_rfl
              case hr2_3 => kernel_rfl
              case hy2_3 => exact Or.inl ⟨by rfl, by (intro wq hSw; (try dsimp only at hSw); go_simp; (try with_reducible rfl))⟩
              try simp only [Act.put, List.setIfInBounds_toArray, List.set_cons_zero, List.set_cons_succ]
              refine wpAnyH_take (i := 3) (oi := ?o3_4) (v := ?v3_4) ?hi3_4 ?hs3_4 ?hf3_4 ?hr3_4 (fun _ _ _ h => h) ?hy3_4 (by assumption) ?hh3_4
              case hi3_4 => ((simp only [List.getElem?_toArray, List.getElem?_cons_succ, List.getElem?_cons_zero]); rfl)
              case hs3_4 => kernel_rfl
              case hf3_4 => kernel_rfl
              case hr3_4 => kernel_rfl
              case hy3_4 => exact Or.inl ⟨by rfl, by (intro wq hSw; (try dsimp only at hSw); go_simp; (try with_reducible rfl))⟩
              try simp only [Act.put, List.setIfInBounds_toArray, List.set_cons_zero, List.set_cons_succ]
              refine wpAnyH_take (i := 4) (oi := ?o4_5) (v := ?v4_5) ?hi4_5 ?hs4_5 ?hf4_5 ?hr4_5 (fun _ _ _ h => h) ?hy4_5 (by assumption) ?hh4_5
              case hi4_5 => ((simp only [List.getElem?_toArray, List.getElem?_cons_succ, List.getElem?_cons_zero]); rfl)
              case hs4_5 => kernel_rfl
              case hf4_5 => kernel_rfl
              case hr4_5 => kernel_rfl
              case hy4_5 => exact Or.inl ⟨by rfl, by (intro wq hSw; (try dsimp only at hSw); go_simp; (try with_reducible rfl))⟩
              try simp only [Act.put, List.setIfInBounds_toArray, List.set_cons_zero, List.set_cons_succ]
              refine wpAnyH_take (i := 5) (oi := ?o5_6) (v := ?v5_6) ?hi5_6 ?hs5_6 ?hf5_6 ?hr5_6 (fun _ _ _ h => h) ?hy5_6 (by assumption) ?hh5_6
              case hi5_6 => ((simp only [List.getElem?_toArray, List.getElem?_cons_succ, List.getElem?_cons_zero]); rfl)
              case hs5_6 => kernel_rfl
              case hf5_6 => kernel_rfl
              case hr5_6 => kernel_rfl
              case hy5_6 => exact Or.inl ⟨by rfl, by (intro wq hSw; (try dsimp only at hSw); go_simp; (try with_reducible rfl))⟩
              try simp only [Act.put, List.setIfInBounds_toArray, List.set_cons_zero, List.set_cons_succ]
              refine wpAnyH_take (i := 6) (oi := ?o6_7) (v := ?v6_7) ?hi6_7 ?hs6_7 ?hf6_7 ?hr6_7 (fun _ _ _ h => h) ?hy6_7 (by assumption) ?hh6_7
              case hi6_7 => ((simp only [List.getElem?_toArray, List.getElem?_cons_succ, List.getElem?_cons_zero]); rfl)
              case hs6_7 => kernel_rfl
              case hf6_7 => kernel_rfl
              case hr6_7 => kernel_rfl
              case hy6_7 => exact Or.inl ⟨by rfl, by (intro wq hSw; (try dsimp only at hSw); go_simp; (try with_reducible rfl))⟩
              try simp only [Act.put, List.setIfInBounds_toArray, List.set_cons_zero, List.set_cons_succ]
              refine wpAnyH_take (i := 7) (oi := ?o7_8) (v := ?v7_8) ?hi7_8 ?hs7_8 ?hf7_8 ?hr7_8 (fun _ _ _ h => h) ?hy7_8 (by assumption) ?hh7_8
              case hi7_8 => ((simp only [List.getElem?_toArray, List.getElem?_cons_succ, List.getElem?_cons_zero]); rfl)
              case hs7_8 => kernel_rfl
              case hf7_8 => kernel_rfl
              case hr7_8 => kernel_rfl
              case hy7_8 => exact Or.inl ⟨by rfl, by (intro wq hSw; (try dsimp only at hSw); go_simp; (try with_reducible rfl))⟩
              try simp only [Act.put, List.setIfInBounds_toArray, List.set_cons_zero, List.set_cons_succ]
              refine wpAnyH_take (i := 8) (oi := ?o8_9) (v := ?v8_9) ?hi8_9 ?hs8_9 ?hf8_9 ?hr8_9 (fun _ _ _ h => h) ?hy8_9 (by assumption) ?hh8_9
              case hi8_9 => ((simp only [List.getElem?_toArray, List.getElem?_cons_succ, List.getElem?_cons_zero]); rfl)
              case hs8_9 => kernel_rfl
              case hf8_9 => kernel_rfl
              case hr8_9 => kernel_rfl
              case hy8_9 => exact Or.inl ⟨by rfl, by (intro wq hSw; (try dsimp only at hSw); go_simp; (try with_reducible rfl))⟩
              try simp only [Act.put, List.setIfInBounds_toArray, List.set_cons_zero, List.set_cons_succ]
              refine wpAnyH_take (i := 9) (oi := ?o9_10) (v := ?v9_10) ?hi9_10 ?hs9_10 ?hf9_10 ?hr9_10 (fun _ _ _ h => h) ?hy9_10 (by assumption) ?hh9_10
              case hi9_10 => ((simp only [List.getElem?_toArray, List.getElem?_cons_succ, List.getElem?_cons_zero]); rfl)
              case hs9_10 => kernel_rfl
              case hf9_10 => kernel_rfl
              case hr9_10 => kernel_rfl
              case hy9_10 => exact Or.inl ⟨by rfl, by (intro wq hSw; (try dsimp only at hSw); go_simp; (try with_reducible rfl))⟩
              try simp only [Act.put, List.setIfInBounds_toArray, List.set_cons_zero, List.set_cons_succ]
              refine wpAnyH_take (i := 10) (oi := ?o10_11) (v := ?v10_11) ?hi10_11 ?hs10_11 ?hf10_11 ?hr10_11 (fun _ _ _ h => h) ?hy10_11 (by assumption) ?hh10_11
              case hi10_11 => ((simp only [List.getElem?_toArray, List.getElem?_cons_succ, List.getElem?_cons_zero]); rfl)
              case hs10_11 => kernel_rfl
              case hf10_11 => kernel_rfl
              case hr10_11 => kernel_rfl
              case hy10_11 => exact Or.inl ⟨by rfl, by (intro wq hSw; (try dsimp only at hSw); go_simp; (try with_reducible rfl))⟩
              try simp only [Act.put, List.setIfInBounds_toArray, List.set_cons_zero, List.set_cons_succ]
              refine wpAnyH_ready (rs := [11]) (by kernel_rfl) (by simp) ?_
              refine AllReadyH.cons (o := ?o11_12) ?hi11_12 (fun K hK => ?hh11_12) AllReadyH.nil
              case hi11_12 => ((simp only [List.getElem?_toArray, List.getElem?_cons_succ, List.getElem?_cons_zero]); rfl)
              go_simp
              (go_at_call 133; refine (HLC.out _ hHeld).mono ?_; rintro e w5 ⟨rfl, hb5⟩)
              (try dsimp only)
              refine hK.out _ _ (hHeld.trans (hb5.mono hHeld.size)) (fun hHeld2 => ?_)
              clear hK K hHeld
              have hHeld := hHeld2
              clear hHeld2
              try simp only [Act.put, List.setIfInBounds_toArray, List.set_cons_zero, List.set_cons_succ]
              refine wpAnyH_take (i := 12) (oi := ?o12_13) (v := ?v12_13) ?hi12_13 ?hs12_13 ?hf12_13 ?hr12_13 (fun _ _ _ h => h) ?hy12_13 (by assumption) ?hh12_13
              case hi12_13 => ((simp only [List.getElem?_toArray, List.getElem?_cons_succ, List.getElem?_cons_zero]); rfl)
              case hs12_13 => kernel_rfl
              case hf12_13 => kernel_rfl
              case hr12_13 => kernel_rfl
              case hy12_13 => exact Or.inl ⟨by rfl, by (intro wq hSw; (try dsimp only at hSw); go_simp; (try with_reducible rfl))⟩
              try simp only [Act.put, List.setIfInBounds_toArray, List.set_cons_zero, List.set_cons_succ]
              refine wpAnyH_take (i := 13) (oi := ?o13_14) (v := ?v13_14) ?hi13_14 ?hs13_14 ?hf13_14 ?hr13_14 (fun _ _ _ h => h) ?hy13_14 (by assumption) ?hh13_14
              case hi13_14 => ((simp only [List.getElem?_toArray, List.getElem?_cons_succ, List.getElem?_cons_zero]); rfl)
              case hs13_14 => kernel_rfl
              case hf13_14 => kernel_rfl
              case hr13_14 => kernel_rfl
              case hy13_14 => exact Or.inl ⟨by rfl, by (intro wq hSw; (try dsimp only at hSw); go_simp; (try with_reducible rfl))⟩
              try simp only [Act.put, List.setIfInBounds_toArray, List.set_cons_zero, List.set_cons_succ]
              refine wpAnyH_done (by kernel_rfl) ?_ _
              refine NoPanic.normal ?_
              go_wp2_with fail
              go_roundw
              case rel => exact ⟨k5 + 1, by go_num, by rw [HLT.out]; simp, by omega, hide (HBI.out.trans (hHeld.mono hzI))⟩
              case measure => simp [intOf]; omega
            · go_wp2_with fail
              refine wp_region_kept (by kernel_rfl) (by kernel_rfl) ?_
              intro gc gf gz
              repeat (go_big_quiet_step (fail))
              refine wpQuiet_nil ?_
              intro w5 hw'
              obtain ⟨⟨_, hb5⟩, rfl⟩ := hw'
              clear gc gf gz
              try dsimp only
              have fs5 := hb5.size
              try simp at fs5 hb5
              go_wp2_with fail
              go_roundw
              case rel => exact ⟨k5 + 1, by go_num, by rw [HLT.out]; simp, by omega, hide (HBI.out.trans (hb5.mono hzI))⟩
              case measure => simp [intOf]; omega
          · obtain rfl : k5 = 5 := by omega
            have HLW := hide (show lowTo x.t x.tol (x.raw (l ++ [(k : Int)])) 5 = x.low (l ++ [(k : Int)]) from by rw [Cx.low, lowB])
            rw [HLW.out]
            obtain ⟨AR, hAR⟩ : ∃ AR, AR = A8 := ⟨_, rfl⟩
            obtain ⟨cR, hcR⟩ : ∃ cR, cR = c8 := ⟨_, rfl⟩
            subst hAR hcR
            obtain ⟨wR, rfl⟩ : ∃ wR, wR = wI := ⟨_, rfl⟩
            have HSR := hide (HSB.out.below HBI.out)
            clear HSB HOB HBI HRW HLW
            cases hlow : x.low (l ++ [(k : Int)])
            · have HLOW := hide hlow
              clear hlow
              have hrec := HIH.out wR (l ++ [(k : Int)]) AR cR { s' with left := s'.left - 1 } (by rw [HSA.out, ← HSM.out]; exact HSR.out) HPR.out (by have := hf.out; simp; omega) HNS.out HFC.out (.inl HND.out)
              have HREC := hide hrec
              clear hrec
              have HE := hide ((goK_go (tried_qx _) HEN.out HH0.out (HLOW.out)).symm.trans HK2.out)
              go_wp2_with fail
              refine HREC.out.mono ?_
              rintro e wT ⟨AT, cT, rfl, hsT, hspT⟩
              obtain ⟨sT, hsTe⟩ : ∃ sT, sT = srch (x.qx all false) f (l ++ [(k : Int)]) { s' with left := s'.left - 1 } := ⟨_, rfl⟩
              rw [← hsTe] at hsT hspT HE ⊢
              rw [HSA.out, ← HSM.out] at hsT
              have HT := hide hsT
              have HSPT := hide hspT
              obtain ⟨bf, hbf⟩ : ∃ bf, bf = ((!all && !false) && decide (0 < sT.count)) := ⟨_, rfl⟩
              rw [← hbf]
              have HBF := hide hbf
              clear hsT hspT hsTe hbf HREC
              cases bf
              · obtain ⟨k0, k1, k2, k3, k4, k5, k6, k7, k8, k10, k11, k12, k13, k14, kf⟩ := HT.out.cells
                have f4 := kf 4
                clear k0 k1 k2 k3 k5 k6 k7 k8 k10 k11 k12 k13 k14 kf
                have hll : (l ++ [(k : Int)]).length = l.length + 1 := by simp
                rw [hll] at k4
                have HTR := hide HT.out.row
                rw [hll] at HTR
                obtain ⟨gT, hgT, _, _, _, _⟩ := own_get1 HTR.out (k := 0) (by simp)
                subst hgT
                have HT2 := hide (HT.out.pop (k := l.length) rfl)
                have hcap := own_capI HTR.out (by simp)
                clear HTR hll
                go_upto_region 24 with fail
                generalize wT.setCell ⟨q, 4, none⟩ (.slice (some ⟨gT, 0, none⟩) l.length cT) = wU at *
                clear k4 f4 HT hcap
                have HT3 := hide (HT2.out.sum sm)
                obtain ⟨k0, k1, k2, k3, k4, k5, k6, k7, k8, k10, k11, k12, k13, k14, kf⟩ := HT2.out.cells
                have f6 := kf 6
                have kw3 : IntKind.i64.wrap (sm + (k : Int) - (k : Int)) = sm := by rw [IntWalk.i64_in _ (by omega)]; omega
                clear k0 k1 k2 k3 k4 k5 k7 k8 k10 k11 k12 k13 k14 kf
                go_upto_region 25 with fail
                generalize wU.setCell ⟨q, 6, none⟩ (.int .i64 sm) = wV at *
                clear k6 f6 HT2 kw3
                have HFC2 := hide (show (!all && !false) = true → sT.count = 0 from fun h => by
                  have hb := HBF.out
                  rw [h] at hb
                  have h0 := HT3.out.inv.c0
                  simp at hb
                  omega)
                go_wp2_with fail
                go_roundw
                case rel => exact ⟨k + 1, sT, _, _, by go_num, by omega, HT3, hide (by rw [show L + 1 - (k + 1) = L - k by omega]; exact HE.out), HSPT, HFC2⟩
                case measure => simp [intOf]; omega
              · obtain ⟨k0, k1, k2, k3, k4, k5, k6, k7, k8, k10, k11, k12, k13, k14, kf⟩ := HT.out.cells
                have f4 := kf 4
                clear k0 k1 k2 k3 k5 k6 k7 k8 k10 k11 k12 k13 k14 kf
                have hll : (l ++ [(k : Int)]).length = l.length + 1 := by simp
                rw [hll] at k4
                have HTR := hide HT.out.row
                rw [hll] at HTR
                obtain ⟨gT, hgT, _, _, _, _⟩ := own_get1 HTR.out (k := 0) (by simp)
                subst hgT
                have HT2 := hide (HT.out.pop (k := l.length) rfl)
                have hcap := own_capI HTR.out (by simp)
                clear HTR hll
                go_upto_region 24 with fail
                generalize wT.setCell ⟨q, 4, none⟩ (.slice (some ⟨gT, 0, none⟩) l.length cT) = wU at *
                clear k4 f4 HT hcap
                have HT3 := hide (HT2.out.sum sm)
                obtain ⟨k0, k1, k2, k3, k4, k5, k6, k7, k8, k10, k11, k12, k13, k14, kf⟩ := HT2.out.cells
                have f6 := kf 6
                have kw3 : IntKind.i64.wrap (sm + (k : Int) - (k : Int)) = sm := by rw [IntWalk.i64_in _ (by omega)]; omega
                clear k0 k1 k2 k3 k4 k5 k7 k8 k10 k11 k12 k13 k14 kf
                go_upto_region 25 with fail
                generalize wU.setCell ⟨q, 6, none⟩ (.int .i64 sm) = wV at *
                clear k6 f6 HT2 kw3
                have HE2 := hide ((goK_ended (q := x.qx all false) (rec := srch (x.qx all false) f) (l := l) (ended_found HBF.out.symm) (L - k) (k + 1)).symm.trans HE.out)
                go_wp2_with fail
                go_ret
                refine ⟨some ⟨gT, 0, none⟩, cT, ?_, ?_, ?_⟩
                · rw [HGL.out, ← HE2.out]
                  exact ret_bool HBF.out
                · rw [HGL.out, ← HE2.out, ← HSM.out]; exact HT3.out
                · rw [HGL.out, ← HE2.out]; exact HSPT.out
            · have HE := hide (show ({ s' with left := s'.left - 1 } : S) = goK (x.qx all false) (srch (x.qx all false) f) l (L + 1) 0 s from (goK_low (tried_qx _) HEN.out HH0.out hlow).symm.trans HK2.out)
              clear hlow
              obtain ⟨AT, rfl⟩ : ∃ AT, AT = AR := ⟨_, rfl⟩
              obtain ⟨cT, rfl⟩ : ∃ cT, cT = cR := ⟨_, rfl⟩
              obtain ⟨wT, rfl⟩ : ∃ wT, wT = wR := ⟨_, rfl⟩
              have HT := HSR
              clear HSR
              go_upto_region 23 with fail
              obtain ⟨k0, k1, k2, k3, k4, k5, k6, k7, k8, k10, k11, k12, k13, k14, kf⟩ := HT.out.cells
              have f4 := kf 4
              clear k0 k1 k2 k3 k5 k6 k7 k8 k10 k11 k12 k13 k14 kf
              have hll : (l ++ [(k : Int)]).length = l.length + 1 := by simp
              rw [hll] at k4
              have HTR := hide HT.out.row
              rw [hll] at HTR
              obtain ⟨gT, hgT, _, _, _, _⟩ := own_get1 HTR.out (k := 0) (by simp)
              subst hgT
              have HT2 := hide (HT.out.pop (k := l.length) rfl)
              have hcap := own_capI HTR.out (by simp)
              clear HTR hll
              go_upto_region 24 with fail
              generalize wT.setCell ⟨q, 4, none⟩ (.slice (some ⟨gT, 0, none⟩) l.length cT) = wU at *
              clear k4 f4 HT hcap
              have HT3 := hide (HT2.out.sum sm)
              obtain ⟨k0, k1, k2, k3, k4, k5, k6, k7, k8, k10, k11, k12, k13, k14, kf⟩ := HT2.out.cells
              have f6 := kf 6
              have kw3 : IntKind.i64.wrap (sm + (k : Int) - (k : Int)) = sm := by rw [IntWalk.i64_in _ (by omega)]; omega
              clear k0 k1 k2 k3 k4 k5 k7 k8 k10 k11 k12 k13 k14 kf
              go_upto_region 25 with fail
              generalize wU.setCell ⟨q, 6, none⟩ (.int .i64 sm) = wV at *
              clear k6 f6 HT2 kw3
              go_wp2_with fail
              go_ret
              refine ⟨some ⟨gT, 0, none⟩, cT, ?_, ?_, ?_⟩
              · rw [HGL.out, ← HE.out]
                exact ret_bool (found_no (s := { s' with left := s'.left - 1 }) HFC.out).symm
              · rw [HGL.out, ← HE.out, ← HSM.out]; exact HT3.out
              · rw [HGL.out, ← HE.out]; intro h; rw [show ({ s' with left := s'.left - 1 } : S).spent = s'.spent from rfl, HNS.out] at h; cases h
    · have hkL : ¬ (k : Int) ≤ L := by omega
      have HE := hide (show goK (x.qx all false) (srch (x.qx all false) f) l (L + 1 - k) k s' = s' from by rw [show L + 1 - k = 0 by omega]; rfl)
      go_wp2_with fail
      go_ret
      refine ⟨sA', sc', ?_, ?_, ?_⟩
      · rw [HGL.out, ← HK.out, HE.out]
        exact ret_bool (found_no HFC.out).symm
      · rw [HGL.out, ← HK.out, HE.out, ← HSM.out]; exact HS1.out
      · rw [HGL.out, ← HK.out, HE.out]; exact HSL.out
theorem runX_any {x : Cx} {w0 : World} {q N bm bp bg : Nat} {lA : Option Addr} {lc : Nat} {all clo : Bool} {bud : Int} (HR : Hid (RefOK x w0 bm bp bg)) : ∀ f, RunXOK x w0 q N bm bp bg lA lc all clo bud f := by
  intro f
  induction f with
  | zero =>
    intro w l sA sc s _ hp hf _ _ _
    have := hp.len
    rw [x.lim_length] at this
    omega
  | succ f ih =>
    intro w l sA sc s hs hp hf hsp hfc hc
    have hlen := hp.len
    rw [x.lim_length] at hlen
    by_cases hl : l.length = x.zs.length
    · exact runX_full f HR (hide hs) (hide hp) hl (hide (hc.resolve_right (fun q => q hl))) (hide hfc) (hide hsp)
    · cases clo
      · exact runX_goes_p f HR (hide ih) (hide hs) (hide hp) (by omega) (hide (by omega)) (hide hsp) (hide hfc)
      · exact runX_goes_c f HR (hide ih) (hide hs) (hide hp) (by omega) (hide (by omega)) (hide hsp) (hide hfc)
end Go.Proofs.YtnefgafmnpblpaaGreat
