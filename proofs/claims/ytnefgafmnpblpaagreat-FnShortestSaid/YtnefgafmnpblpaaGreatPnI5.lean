/- Contracts: the program's search for plans. -/
import Derived.Test.YtnefgafmnpblpaaGreatPnI4
namespace Go.Proofs.YtnefgafmnpblpaaGreat
open Go.RowKit Pn

/-- The question of the program's search. -/
noncomputable def Cx.q (x : Cx) (sum : Int) (first : Bool) : Q := ⟨x.lim, sum, x.low, lookP x.plan, first⟩
theorem Cx.OK.st {x : Cx} {w0 : World} {l : List Int} (h : x.OK w0) (hp : Pre x.lim l) : StOK x.zs x.rs (pad x.zs.length l) := by
  have hlen : l.length ≤ x.zs.length := by have := hp.len; rwa [x.lim_length] at this
  refine ⟨pad_length hlen, fun k => ?_, ?_⟩
  · rw [ig_pad]; exact Pre.small hp h.goal.most.1 k
  · refine turn_ok h.ask.r h.ask.z.len1 (fun z hz => ?_)
    rw [ig_pad]; exact Pre.fit hp z hz
set_option maxRecDepth 100000 in
set_option maxHeartbeats 1000000 in
/-- The end of a search: all steps stand, and are no plan. -/
theorem search_not {x : Cx} {w0 w : World} {b gl lc gs sc : Nat} {sum : Int} {first : Bool} {l : List Int} {s : S} (sm : Int) (HX : Hid (x.OK w0)) (HS : Hid (CuI x w0 b gl lc gs sc sum first w l s)) (HP : Hid (Pre x.lim l)) (hl : l.length = x.zs.length) (hp : x.plan l = false) :
    Calls Tryz.prog 45 #[.pointer (some ⟨b, 0, none⟩), .int .i64 l.length, .int .i64 sm] w fun e w' => e = .returned (.tuple #[]) ∧ CuI x w0 b gl lc gs sc sum first w' l s := by
  have HST := hide (by have h := HX.out.st HP.out; rwa [pad_full hl] at h : StOK x.zs x.rs l)
  obtain ⟨k0, k1, k2, k3, k4, k5, k6, k7, k8, k9, k10, k11, k12, k13, k14, k15, k16, k17, k18, kf⟩ := HS.out.all
  clear k0 k1 k2 k3 k4 k5 k6 k7 k8 k9 k10 k11 k12 k13 k14 k16 k17 k18 kf
  have HCT := hide (isPlan_is HX HS HST)
  rw [hp] at HCT
  clear hp
  rw [← hl] at k15
  have HL := hide hl
  clear hl
  go_enter Tryz.func45, Tryz.ntmps45
  go_wp2_with fail
  refine HCT.out.mono ?_
  rintro e w1 ⟨rfl, hb1⟩
  dsimp only
  have HB1 := hide hb1
  clear hb1
  go_wp2_with fail
  ((try simp only [Exit.inBlock, Exit.then]); refine bodyPost_ret (results_none rfl _ _ _) rfl ?_)
  exact ⟨rfl, HS.out.below HB1.out⟩
set_option maxRecDepth 100000 in
set_option maxHeartbeats 1000000 in
/-- The end of a search: all steps stand, and are a plan. -/
theorem search_plan_zero {x : Cx} {w0 w : World} {b gl lc gs sc : Nat} {sum : Int} {first : Bool} {l : List Int} {s : S} (sm : Int) (HX : Hid (x.OK w0)) (HS : Hid (CuI x w0 b gl lc gs sc sum first w l s)) (HP : Hid (Pre x.lim l)) (hl : l.length = x.zs.length) (hp : x.plan l = true) (hc : Hid (s.count + s.left + 1 ≤ 20000)) (h0 : s.count = 0) :
    Calls Tryz.prog 45 #[.pointer (some ⟨b, 0, none⟩), .int .i64 l.length, .int .i64 sm] w fun e w' => e = .returned (.tuple #[]) ∧ CuI x w0 b gl lc gs sc sum first w' l (lookP x.plan l s) := by
  have HST := hide (by have h := HX.out.st HP.out; rwa [pad_full hl] at h : StOK x.zs x.rs l)
  have HCT := hide (isPlan_is HX HS HST)
  have HLK := hide (show lookP x.plan l s = { s with count := s.count + 1, found := if s.count == 0 then l else s.found } from by rw [lookP, if_pos hp])
  rw [hp] at HCT
  clear hp
  obtain ⟨k0, k1, k2, k3, k4, k5, k6, k7, k8, k9, k10, k11, k12, k13, k14, k15, k16, k17, k18, kf⟩ := HS.out.all
  clear k0 k1 k2 k3 k4 k5 k6 k7 k8 k9 k10 k11 k12 k13 k14 k16 k17 k18 kf
  rw [← hl] at k15
  have HL := hide hl
  have hci : (s.count == 0) = true := by simpa using h0
  have HC0 := hide hci
  have hcl := HS.out.inv.c0
  have hll := HS.out.inv.l0
  have hcm := hc.out
  have kw : IntKind.i64.wrap (s.count + 1) = s.count + 1 := IntWalk.i64_in _ (by omega)
  have HH0 := hide h0
  clear hl h0
  go_enter Tryz.func45, Tryz.ntmps45
  go_wp2_with fail
  refine HCT.out.mono ?_
  rintro e w1 ⟨rfl, hb1⟩
  dsimp only
  have HS1 := hide (HS.out.below hb1)
  clear hb1 k15
  obtain ⟨k0, k1, k2, k3, k4, k5, k6, k7, k8, k9, k10, k11, k12, k13, k14, k15, k16, k17, k18, kf⟩ := HS1.out.all
  rw [← HL.out] at k15
  clear k0 k1 k2 k3 k4 k5 k6 k7 k8 k9 k10 k11 k12 k13 k14 k16 k17
  go_wp2_with fail
  refine (cloneI w0.heap.size (some ⟨gs, 0, none⟩) sc l _ (by have h := HS1.out.row; rwa [← HL.out] at h) (by have := HL.out; have := HX.out.ask.z.len8; omega)).mono ?_
  rintro e w2 ⟨A2, c2, rfl, ho2, hb2⟩
  dsimp only
  have HS2 := hide (CuI.find HS1.out ho2 hb2 HP.out (by rw [x.lim_length]; exact HL.out))
  have HS3 := hide (HS1.out.below hb2)
  clear ho2 hb2 k15 k18 kf
  obtain ⟨k0, k1, k2, k3, k4, k5, k6, k7, k8, k9, k10, k11, k12, k13, k14, k15, k16, k17, k18, kf⟩ := HS3.out.all
  obtain ⟨fA, fc, k19, _⟩ := HS3.out.fnd
  have f18 := kf 18
  have f19 := kf 19
  clear k0 k1 k2 k3 k4 k5 k6 k7 k8 k9 k10 k11 k12 k13 k14 k15 k16 k17 kf
  go_wp2_with fail
  ((try simp only [Exit.inBlock, Exit.then]); refine bodyPost_ret (results_none rfl _ _ _) rfl ?_)
  refine ⟨rfl, ?_⟩
  rw [HLK.out, HC0.out]
  exact HS2.out.more (by simp only; exact hc.out)
set_option maxRecDepth 100000 in
set_option maxHeartbeats 1000000 in
/-- The end of a search: all steps stand, and are a plan. -/
theorem search_plan_more {x : Cx} {w0 w : World} {b gl lc gs sc : Nat} {sum : Int} {first : Bool} {l : List Int} {s : S} (sm : Int) (HX : Hid (x.OK w0)) (HS : Hid (CuI x w0 b gl lc gs sc sum first w l s)) (HP : Hid (Pre x.lim l)) (hl : l.length = x.zs.length) (hp : x.plan l = true) (hc : Hid (s.count + s.left + 1 ≤ 20000)) (h0 : s.count ≠ 0) :
    Calls Tryz.prog 45 #[.pointer (some ⟨b, 0, none⟩), .int .i64 l.length, .int .i64 sm] w fun e w' => e = .returned (.tuple #[]) ∧ CuI x w0 b gl lc gs sc sum first w' l (lookP x.plan l s) := by
  have HST := hide (by have h := HX.out.st HP.out; rwa [pad_full hl] at h : StOK x.zs x.rs l)
  have HCT := hide (isPlan_is HX HS HST)
  have HLK := hide (show lookP x.plan l s = { s with count := s.count + 1, found := if s.count == 0 then l else s.found } from by rw [lookP, if_pos hp])
  rw [hp] at HCT
  clear hp
  obtain ⟨k0, k1, k2, k3, k4, k5, k6, k7, k8, k9, k10, k11, k12, k13, k14, k15, k16, k17, k18, kf⟩ := HS.out.all
  clear k0 k1 k2 k3 k4 k5 k6 k7 k8 k9 k10 k11 k12 k13 k14 k16 k17 k18 kf
  rw [← hl] at k15
  have HL := hide hl
  have hci : (s.count == 0) = false := by simpa using h0
  have HC0 := hide hci
  have hcl := HS.out.inv.c0
  have hll := HS.out.inv.l0
  have hcm := hc.out
  have kw : IntKind.i64.wrap (s.count + 1) = s.count + 1 := IntWalk.i64_in _ (by omega)
  have HH0 := hide h0
  clear hl h0
  go_enter Tryz.func45, Tryz.ntmps45
  go_wp2_with fail
  refine HCT.out.mono ?_
  rintro e w1 ⟨rfl, hb1⟩
  dsimp only
  have HS1 := hide (HS.out.below hb1)
  clear hb1 k15
  obtain ⟨k0, k1, k2, k3, k4, k5, k6, k7, k8, k9, k10, k11, k12, k13, k14, k15, k16, k17, k18, kf⟩ := HS1.out.all
  rw [← HL.out] at k15
  clear k0 k1 k2 k3 k4 k5 k6 k7 k8 k9 k10 k11 k12 k13 k14 k16 k17
  have f18 := kf 18
  clear k15 kf
  go_wp2_with fail
  ((try simp only [Exit.inBlock, Exit.then]); refine bodyPost_ret (results_none rfl _ _ _) rfl ?_)
  refine ⟨rfl, ?_⟩
  rw [HLK.out, HC0.out]
  exact HS1.out.more hc.out
theorem CuI.gets {x : Cx} {w0 w : World} {b gl lc gs sc : Nat} {sum : Int} {first : Bool} {ss : List Int} {s : S} (h : CuI x w0 b gl lc gs sc sum first w ss s) {k : Nat} (hk : k < x.zs.length) (hs : ss.length = x.zs.length) : w.cell? ⟨gl, k, none⟩ = some (.int .i64 (ig x.lim k)) ∧ w.cell? ⟨gs, k, none⟩ = some (.int .i64 (ig ss k)) ∧ w.frozen? ⟨gs, k, none⟩ = false := by
  obtain ⟨g, e, _, _, h1, _⟩ := own_get1 h.lim (k := k) (by rw [x.lim_length]; exact hk)
  injection e with e; injection e with e1
  obtain ⟨g2, e2, _, _, h2, h3⟩ := own_get1 h.row (k := k) (by rw [hs]; exact hk)
  injection e2 with e2; injection e2 with e3
  subst e1 e3
  exact ⟨h1, h2, h3⟩
theorem sumTo_20 {l : List Int} (h : ∀ k, 0 ≤ ig l k ∧ ig l k ≤ 20) : ∀ k : Nat, 0 ≤ sumTo l k ∧ sumTo l k ≤ 20 * k
  | 0 => by simp [sumTo]
  | k + 1 => by
    have := sumTo_20 h k
    have := h k
    simp only [sumTo]
    omega
theorem pad_at {n : Nat} {l : List Int} (u v : Int) : (pad n (l ++ [u])).set l.length v = pad n (l ++ [v]) := pad_set u v
/-- What is shown of a search with f calls still to come. -/
def SchOK (x : Cx) (w0 : World) (b gl lc gs sc : Nat) (sum : Int) (first : Bool) (f : Nat) : Prop :=
  ∀ (w : World) (l : List Int) (s : S), CuI x w0 b gl lc gs sc sum first w (pad x.zs.length l) s → Pre x.lim l → l.length + f = x.zs.length + 1 → (s.count + s.left + 1 ≤ 20000 ∨ l.length ≠ x.zs.length) →
    Calls Tryz.prog 45 #[.pointer (some ⟨b, 0, none⟩), .int .i64 l.length, .int .i64 (sumA l)] w fun e w' => e = .returned (.tuple #[]) ∧ CuI x w0 b gl lc gs sc sum first w' (pad x.zs.length l) (srch (x.q sum first) f l s)
set_option maxRecDepth 100000 in
set_option maxHeartbeats 2000000 in
theorem search_goes {x : Cx} {w0 w : World} {b gl lc gs sc : Nat} {sum : Int} {first : Bool} {l : List Int} {s : S} (f : Nat) (HX : Hid (x.OK w0)) (HIH : Hid (SchOK x w0 b gl lc gs sc sum first f)) (HS : Hid (CuI x w0 b gl lc gs sc sum first w (pad x.zs.length l) s)) (HP : Hid (Pre x.lim l)) (hl : l.length < x.zs.length) (hf : Hid (l.length + f = x.zs.length)) :
    Calls Tryz.prog 45 #[.pointer (some ⟨b, 0, none⟩), .int .i64 l.length, .int .i64 (sumA l)] w fun e w' => e = .returned (.tuple #[]) ∧ CuI x w0 b gl lc gs sc sum first w' (pad x.zs.length l) (srch (x.q sum first) (f + 1) l s) := by
  have HG := hide (srch_goes (q := x.q sum first) (f := f) (s := s) (l := l) (by show l.length ≠ x.lim.length; rw [x.lim_length]; omega))
  have hlb := HX.out.lim_bd l.length
  obtain ⟨L, hL⟩ : ∃ L : Nat, ig x.lim l.length = L := ⟨(ig x.lim l.length).toNat, by omega⟩
  have HLL := hide hL
  have hL20 : L ≤ 20 := by omega
  have HGL := hide (show srch (x.q sum first) (f + 1) l s = goK (x.q sum first) (srch (x.q sum first) f) l (L + 1) 0 s from by rw [HG.out]; show goK _ _ _ ((ig x.lim l.length).toNat + 1) 0 s = _; rw [hL]; rfl)
  have hn8 := HX.out.ask.z.len8
  have hsb := sumTo_20 (HP.out.all HX.out.lim_bd) l.length
  obtain ⟨sm, hsm⟩ : ∃ sm, sm = sumA l := ⟨_, rfl⟩
  rw [← hsm]
  have HSM := hide hsm
  have hsm0 : 0 ≤ sm := by rw [hsm]; exact hsb.1
  have hsm1 : sm ≤ 160 := by rw [hsm]; have := hsb.2; show sumTo l l.length ≤ 160; omega
  clear hsb hsm hlb hL HG
  have HPD := hide (pad_length (n := x.zs.length) (l := l) (by omega))
  obtain ⟨k0, k1, k2, k3, k4, k5, k6, k7, k8, k9, k10, k11, k12, k13, k14, k15, k16, k17, k18, kf⟩ := HS.out.all
  clear k0 k1 k2 k3 k4 k5 k6 k7 k8 k9 k10 k11 k12 k13 k14 k16 k17 k18 kf
  have hne : ((l.length : Int) == (x.zs.length : Int)) = false := by simp; omega
  have hli : (l.length : Int) < x.zs.length := by omega
  have hl0 : (0 : Int) ≤ l.length := by omega
  go_enter Tryz.func45, Tryz.ntmps45
  go_wp2_with fail
  go_loopw [6] (fun v wr => ∃ (k : Nat) (s' : S) (u : Int), v = .int .i64 k ∧ k ≤ L + 1 ∧ Hid (CuI x w0 b gl lc gs sc sum first wr (pad x.zs.length (l ++ [u])) s') ∧ Hid (goK (x.q sum first) (srch (x.q sum first) f) l (L + 1 - k) k s' = goK (x.q sum first) (srch (x.q sum first) f) l (L + 1) 0 s)) (fun v _ => L + 1 - (intOf v).toNat)
  case atStart => exact ⟨0, s, 0, rfl, by omega, by rw [pad_zero hl]; exact HS, hide rfl⟩
  case round =>
    clear k15
    obtain ⟨k, s', u, rfl, hk, HS1, HK⟩ := hrel
    obtain ⟨w1, rfl⟩ : ∃ w1, w1 = wr := ⟨_, rfl⟩
    have HPL := hide (pad_length (n := x.zs.length) (l := l ++ [u]) (by simp; omega))
    obtain ⟨c1, c2, c3⟩ := HS1.out.gets hl HPL.out
    rw [HLL.out] at c1
    obtain ⟨k0, k1, k2, k3, k4, k5, k6, k7, k8, k9, k10, k11, k12, k13, k14, k15, k16, k17, k18, kf⟩ := HS1.out.all
    clear k2 k3 k4 k5 k6 k7 k8 k9 k10 k11 k12 k13 k16 k17 k18
    have f0 := kf 0
    have f1 := kf 1
    clear kf
    by_cases hlt : k ≤ L
    · have hkL : (k : Int) ≤ L := by omega
      have kw : IntKind.i64.wrap (sm + (k : Int)) = sm + k := IntWalk.i64_in _ (by omega)
      have HK2 := hide (show goK (x.q sum first) (srch (x.q sum first) f) l ((L - k) + 1) k s' = goK (x.q sum first) (srch (x.q sum first) f) l (L + 1) 0 s from by rw [← HK.out, show L + 1 - k = L - k + 1 by omega])
      cases ht : triB sum x.zs.length l.length (sm + k)
      · have HT := hide (show tried (x.q sum first) (l ++ [(k : Int)]) = false from by rw [tried_eq (n := x.zs.length) x.lim_length, ← HSM.out]; exact ht)
        have HE := hide ((goK_not HT.out).symm.trans HK2.out)
        have HCT := hide (isTried_is l.length (sm + k) false HS1 (by omega) hn8 (hide ht))
        clear ht
        go_wp2_with fail
        refine HCT.out.mono ?_
        rintro e w2 ⟨rfl, rfl⟩
        dsimp only
        go_wp2_with fail
        go_roundw
        case rel => exact ⟨k + 1, s', u, by go_num, by omega, HS1, hide (by rw [show L + 1 - (k + 1) = L - k by omega]; exact HE.out)⟩
        case measure => simp [intOf]; omega
      · have HT := hide (show tried (x.q sum first) (l ++ [(k : Int)]) = true from by rw [tried_eq (n := x.zs.length) x.lim_length, ← HSM.out]; exact ht)
        have HCT := hide (isTried_is l.length (sm + k) true HS1 (by omega) hn8 (hide ht))
        clear ht
        cases he : ended (x.q sum first) s'
        · obtain ⟨hi0, hi1, hi2, hi3, hi4⟩ := HS1.out.inv
          have HD := hide (done_is false HS1 (hide he))
          by_cases h0 : s'.left = 0
          · have HE := hide (show ({ s' with spent := true } : S) = goK (x.q sum first) (srch (x.q sum first) f) l (L + 1) 0 s from (goK_spent HT.out he h0).symm.trans HK2.out)
            have HN := hide (node_none b s'.spent w1 (by rw [h0] at k0; exact k0) k1 f1)
            have HS2 := hide HS1.out.over
            clear he h0 k0 k1 f0 f1 k14 k15 c1 c2 c3 hi0 hi1 hi2 hi3 hi4
            obtain ⟨j0, j1, j2, j3, j4, j5, j6, j7, j8, j9, j10, j11, j12, j13, j14, j15, j16, j17, j18, jf⟩ := HS2.out.all
            obtain ⟨d1, d2, d3⟩ := HS2.out.gets hl HPL.out
            obtain ⟨y0, y1, y2, y3, y4, y5, y6, y7, y8, y9, y10, y11, y12, y13, k14, k15, y16, y17, y18, yf⟩ := HS1.out.all
            obtain ⟨c1, c2, c3⟩ := HS1.out.gets hl HPL.out
            rw [HLL.out] at c1
            clear j0 j1 j2 j3 j4 j5 j6 j7 j8 j9 j10 j11 j12 j13 j14 j16 j17 j18 jf d1 y0 y1 y2 y3 y4 y5 y6 y7 y8 y9 y10 y11 y12 y13 y16 y17 y18 yf
            go_wp2_with fail
            refine HCT.out.mono ?_
            rintro e w2 ⟨rfl, rfl⟩
            dsimp only
            go_wp2_with fail
            refine HD.out.mono ?_
            rintro e w2 ⟨rfl, rfl⟩
            dsimp only
            go_wp2_with fail
            refine HN.out.mono ?_
            rintro e w2 ⟨rfl, hw2⟩
            rw [hw2] at HS2 j15 d2 d3
            dsimp only
            clear k14 k15 c1 c2 c3 hw2
            go_wp2_with fail
            go_end0
            refine ⟨rfl, ?_⟩
            rw [HGL.out, ← HE.out]
            have h := HS2.out.step l.length 0
            rw [pad_at, pad_zero hl] at h
            exact h
          · have hdn := hi2
            have hpre := HP.out.snoc (n := (k : Int)) (by rw [x.lim_length]; exact hl) (by omega) (by rw [HLL.out]; exact hkL)
            have HPR := hide hpre
            have HN := hide (node_some b s'.left w1 h0 hi0 (by omega) k0 f0)
            have HS2 := hide (HS1.out.node h0)
            have HND := hide (HS1.out.inv.node h0).2
            have hst := HX.out.st hpre
            have HST := hide hst
            have kw2 : IntKind.i64.wrap ((l.length : Int) + 1) = (l.length : Int) + 1 := IntWalk.i64_in _ (by omega)
            have HE0 := hide he
            have HH0 := hide h0
            clear he h0 k0 k1 f0 f1 hi0 hi1 hi2 hi3 hi4 hdn hpre hst
            obtain ⟨j0, j1, j2, j3, j4, j5, j6, j7, j8, j9, j10, j11, j12, j13, j14, j15, j16, j17, j18, jf⟩ := HS2.out.all
            obtain ⟨d1, d2, d3⟩ := HS2.out.gets hl HPL.out
            clear j0 j1 j2 j3 j4 j5 j6 j7 j8 j9 j10 j11 j12 j13 j14 j16 j17 j18 jf d1
            go_wp2_with fail
            refine HCT.out.mono ?_
            rintro e w2 ⟨rfl, rfl⟩
            dsimp only
            go_wp2_with fail
            refine HD.out.mono ?_
            rintro e w2 ⟨rfl, rfl⟩
            dsimp only
            go_wp2_with fail
            refine HN.out.mono ?_
            rintro e w2 ⟨rfl, hw2⟩
            rw [hw2] at HS2 j15 d2 d3
            have HS3 := hide (HS2.out.step l.length (k : Int))
            rw [pad_at] at HS3
            have HLW := hide (tooLow_is HX HS3 HST)
            dsimp only
            clear k14 k15 c1 c2 c3 hw2
            go_wp2_with fail
            refine HLW.out.mono ?_
            rintro e w4 ⟨rfl, hb4⟩
            have HS4 := hide (HS3.out.below hb4)
            clear hb4 j15 d2 d3
            have hpl4 := HS4.out.row
            obtain ⟨j0, j1, j2, j3, j4, j5, j6, j7, j8, j9, j10, j11, j12, j13, j14, j15, j16, j17, j18, jf⟩ := HS4.out.all
            obtain ⟨d1, d2, d3⟩ := HS4.out.gets hl (pad_length (by simp; omega))
            clear j0 j1 j2 j3 j4 j5 j6 j7 j8 j9 j10 j11 j12 j13 j14 j16 j17 j18 jf d1 hpl4
            have HLP := hide (show x.low (pad x.zs.length (l ++ [(k : Int)])) = x.low (l ++ [(k : Int)]) from by rw [Cx.low, Cx.low, raw_pad])
            rw [HLP.out]
            cases hlow : x.low (l ++ [(k : Int)])
            · have HE := hide ((goK_go HT.out HE0.out HH0.out hlow).symm.trans HK2.out)
              have hrec := HIH.out w4 (l ++ [(k : Int)]) _ HS4.out HPR.out (by have := hf.out; simp; omega) (.inl HND.out)
              rw [show (((l ++ [(k : Int)]).length : Nat) : Int) = (l.length : Int) + 1 by simp, sumA_snoc, ← HSM.out] at hrec
              have HREC := hide hrec
              clear hrec hlow
              dsimp only
              go_wp2_with fail
              refine HREC.out.mono ?_
              rintro e w5 ⟨rfl, hS5⟩
              have HS5 := hide hS5
              clear hS5
              dsimp only
              go_wp2_with fail
              go_roundw
              case rel => exact ⟨k + 1, _, (k : Int), by go_num, by omega, HS5, hide (by rw [show L + 1 - (k + 1) = L - k by omega]; exact HE.out)⟩
              case measure => simp [intOf]; omega
            · have HE := hide (show ({ s' with left := s'.left - 1 } : S) = goK (x.q sum first) (srch (x.q sum first) f) l (L + 1) 0 s from (goK_low HT.out HE0.out HH0.out hlow).symm.trans HK2.out)
              clear hlow
              dsimp only
              go_wp2_with fail
              go_end0
              refine ⟨rfl, ?_⟩
              rw [HGL.out, ← HE.out]
              have h := HS4.out.step l.length 0
              rw [pad_at, pad_zero hl] at h
              exact h
        · have HD := hide (done_is true HS1 (hide he))
          have HE := hide (show s' = goK (x.q sum first) (srch (x.q sum first) f) l (L + 1) 0 s from (goK_ended he _ _).symm.trans HK2.out)
          clear he
          go_wp2_with fail
          refine HCT.out.mono ?_
          rintro e w2 ⟨rfl, rfl⟩
          dsimp only
          go_wp2_with fail
          refine HD.out.mono ?_
          rintro e w2 ⟨rfl, rfl⟩
          dsimp only
          go_wp2_with fail
          go_end0
          refine ⟨rfl, ?_⟩
          rw [HGL.out, ← HE.out]
          have h := HS1.out.step l.length 0
          rw [pad_at, pad_zero hl] at h
          exact h
    · have hkL : ¬ (k : Int) ≤ L := by omega
      have HE := hide (show goK (x.q sum first) (srch (x.q sum first) f) l (L + 1 - k) k s' = s' from by rw [show L + 1 - k = 0 by omega]; rfl)
      go_wp2_with fail
      go_end0
      refine ⟨rfl, ?_⟩
      rw [HGL.out, ← HK.out, HE.out]
      have h := HS1.out.step l.length 0
      rw [pad_at, pad_zero hl] at h
      exact h
theorem search_any {x : Cx} {w0 : World} {b gl lc gs sc : Nat} {sum : Int} {first : Bool} (HX : Hid (x.OK w0)) : ∀ f, SchOK x w0 b gl lc gs sc sum first f := by
  intro f
  induction f with
  | zero =>
    intro w l s _ hp hf _
    have := hp.len
    rw [x.lim_length] at this
    omega
  | succ f ih =>
    intro w l s hs hp hf hc
    have hlen := hp.len
    rw [x.lim_length] at hlen
    by_cases hl : l.length = x.zs.length
    · have e : srch (x.q sum first) (f + 1) l s = lookP x.plan l s := srch_full (q := x.q sum first) (by rw [hl]; exact x.lim_length.symm)
      rw [e]
      have hcc := hc.resolve_right (fun q => q hl)
      rw [pad_full hl] at hs ⊢
      cases hpl : x.plan l
      · refine (search_not (sumA l) HX (hide hs) (hide hp) hl hpl).mono ?_
        rintro e w' ⟨rfl, h⟩
        refine ⟨rfl, ?_⟩
        rw [lookP, if_neg (by rw [hpl]; simp)]
        exact h
      · by_cases h0 : s.count = 0
        · exact search_plan_zero (sumA l) HX (hide hs) (hide hp) hl hpl (hide hcc) h0
        · exact search_plan_more (sumA l) HX (hide hs) (hide hp) hl hpl (hide hcc) h0
    · exact search_goes f HX (hide ih) (hide hs) (hide hp) (by omega) (hide (by omega))
end Go.Proofs.YtnefgafmnpblpaaGreat
