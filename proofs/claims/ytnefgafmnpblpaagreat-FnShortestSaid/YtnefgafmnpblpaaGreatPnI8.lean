/- The planner's results; contracts: steps as cuts, the program's CountPlans, FirstPlan and ClosestPlan. -/
import Derived.Test.YtnefgafmnpblpaaGreatPnI6
import Derived.Test.YtnefgafmnpblpaaGreatPnI7
namespace Go.Proofs.YtnefgafmnpblpaaGreat
open Go.RowKit Pn

/-- Arguments without where they lie. -/
def Cx.bare (x : Cx) : Cx := ⟨none, 0, x.zs, none, 0, x.ws, none, 0, x.bs, x.nm, none, 0, x.rs, x.t0, x.t1, x.t2, x.t3, x.t4, x.tol, x.most⟩
/-- Arguments as they lie, not known to be valid. -/
structure Cx.In (x : Cx) (w : World) : Prop where
  md : MdAt w x.Az x.Aw x.Ab x.zs x.ws x.bs
  rg : SlAt encRing 3 w x.A x.rs
  sz : MdSz x.zs x.ws x.bs
  rn : x.rs.length ≤ 1048576
  nm : x.nm.size ≤ maxLen
theorem Cx.In.below {x : Cx} {w w' : World} (h : x.In w) (hb : Below w.heap.size w w') : x.In w' := ⟨h.md.below hb, h.rg.below hb, h.sz, h.rn, h.nm⟩
noncomputable def Cx.ser (x : Cx) (bud : Int) : Int := serB x.zs x.ws x.bs x.nm x.rs x.t x.tol x.most bud
theorem Cx.In.ok {x : Cx} {w : World} {bud : Int} (h : x.In w) (h0 : x.ser bud = 0) : x.OK w ∧ 1 ≤ bud ∧ bud ≤ 20000 := by
  unfold Cx.ser serB at h0
  by_cases ha : aimB x.zs x.ws x.bs x.nm x.rs x.t x.tol x.most = 0
  · rw [if_pos ha] at h0
    cases hb : inB bud 1 20000
    · rw [hb] at h0; simp at h0
    · unfold aimB at ha
      cases hg : dc (GoalOK x.t x.tol x.most)
      · rw [hg] at ha; simp at ha
      · rw [hg] at ha
        exact ⟨⟨h.md, h.rg, ask_zero ha, of_dc hg, h.nm⟩, inB_true hb⟩
  · rw [if_neg ha] at h0; exact absurd h0 ha
/-- How a search ends. -/
noncomputable def Cx.fin (x : Cx) (all clo : Bool) (bud : Int) : S := srch (x.qx all clo) (x.zs.length + 1) [] ⟨bud, false, 0, [], -1⟩
theorem fin_bare (x : Cx) (all clo : Bool) (bud : Int) : x.bare.fin all clo bud = x.fin all clo bud := rfl
theorem ser_bare (x : Cx) (bud : Int) : x.bare.ser bud = x.ser bud := rfl
theorem q_qx (x : Cx) (first : Bool) : x.q (-1) first = x.qx (!first) false := by cases first <;> rfl
/-- The first k steps as cuts. -/
def cutsTo (l : List Int) : Nat → List CutR
  | 0 => []
  | k + 1 => if 0 < ig l k then cutsTo l k ++ [⟨k, ig l k⟩] else cutsTo l k
@[irreducible] def cutsB (l : List Int) : List CutR := cutsTo l l.length
theorem cutsTo_len (l : List Int) : ∀ k, (cutsTo l k).length ≤ k
  | 0 => by simp [cutsTo]
  | k + 1 => by
    have := cutsTo_len l k
    unfold cutsTo
    split
    · simp; omega
    · omega
/-- The number of plans, and a code. -/
noncomputable def cntP (x : Cx) (bud : Int) : Int × Int := if x.ser bud = 0 then (if (x.fin true false bud).spent then (0, 5) else ((x.fin true false bud).count, 0)) else (0, x.ser bud)
/-- What a search has found. -/
noncomputable def plnd (s : S) : List CutR × Int := if s.spent then ([], 5) else if s.count = 0 then ([], 3) else (cutsB s.found, 0)
noncomputable def firstP (x : Cx) (bud : Int) : List CutR × Int := if x.ser bud = 0 then plnd (x.fin false false bud) else ([], x.ser bud)
noncomputable def closeP (x : Cx) (bud : Int) : List CutR × Int × Int :=
  if x.ser bud = 0 then (if (x.fin false true bud).spent then ([], 0, 5) else if (x.fin false true bud).least < 0 then ([], 0, 3) else (cutsB (x.fin false true bud).found, (x.fin false true bud).least, 0)) else ([], 0, x.ser bud)
theorem infoA_Cut : (Tryz.prog.info? 101).map (fun i => (i.zero, i.size, i.bytes)) = some (some (.agg #[.int .i64 0, .int .i64 0]), 2, 16) := by kernel_rfl
theorem one_Cut (x : CutR) : ∀ u ∈ encCut x, u.oneCell' = true := by intro u hu; simp [encCut] at hu; rcases hu with rfl | rfl <;> rfl
set_option maxRecDepth 100000 in
theorem wpList_appCut {w : World} {ops : Array Oper} {rest : List Oper} {o : Oper} {a : Act} {Q : Exit → Act → World → Prop} (hgd : o.guard = none) (s x : Operand) (ho : o.op = .call { callee := .builtin .append, args := #[s, x], argTypes := #[37, 37] }) (B : Nat) {v : Value} {xs : List CutR} (hs : a.eval s = v)
    (hown : Own encCut 2 101 w B v xs) {y0 : Int} {y1 : Int} {b : Nat} (hx : a.eval x = .slice (some ⟨b, 0, none⟩) 1 1) (hn : xs.length ≤ 1048576) (hB : B ≤ w.heap.size)
    (h : ∀ (A : Option Addr) (c : Nat) (w' : World), Own encCut 2 101 w' B (.slice A (xs.length + 1) c) (xs ++ [⟨y0, y1⟩]) → Below B w w' → w.grownBy w' v.ownBlock → wpList Tryz.prog ops Q rest (a.put o.dst (.slice A (xs.length + 1) c)) w') (hbk : b = w.heap.size := by first | rfl | simp) : wpList Tryz.prog ops Q (o :: rest) a (w.alloc (.cells #[.int .i64 y0, .int .i64 y1] 101)) := by
  subst hbk
  obtain ⟨i0, hi, hz0, hz1, hz2⟩ := info_parts infoA_Cut
  have hb0 : Below w.heap.size w (w.alloc (.cells #[.int .i64 y0, .int .i64 y1] 101)) := (Below.refl _ _).alloc (Nat.le_refl _) _
  refine wpList_app Tryz.underlying37 hi hz0 hz1 hz2 rfl (by omega) (by omega) (fun _ => rfl) hgd s x ho B hs (hown.below hb0) ⟨y0, y1⟩ (one_Cut _) hx (fun j u hj => ?_) hn (by simp; omega) fun A c w' h1 h2 h3 => h A c w' h1 ((hb0.mono hB).trans h2) (grown_trans (grown_of_below hb0 _) h3)
  match j, hj with
  | 0, hj => injection hj with hj; subst hj; simp [Addr.add]
  | 1, hj => injection hj with hj; subst hj; simp [Addr.add]
abbrev OwnC (w : World) (B : Nat) (v : Value) (xs : List CutR) : Prop := Own encCut 2 101 w B v xs
def CutRes (xs : List CutR) (w : World) (e : Ending) (w' : World) : Prop := ∃ A c, e = .returned (.slice A xs.length c) ∧ OwnC w' w.heap.size (.slice A xs.length c) xs ∧ Below w.heap.size w w'
/-- Cuts and a code of the call's own. -/
def PlRes (p : List CutR × Int) (w : World) (e : Ending) (w' : World) : Prop := ∃ (A : Option Addr) (c : Nat) (xs : List CutR) (code : Int), e = .returned (.tuple #[.slice A xs.length c, .int .i64 code]) ∧ p = (xs, code) ∧ xs.length ≤ 1048576 ∧ OwnC w' w.heap.size (.slice A xs.length c) xs ∧ Below w.heap.size w w'
theorem plRes_nil {p : List CutR × Int} {w w' : World} {code : Int} (h : p = ([], code)) (hb : Below w.heap.size w w') : PlRes p w (.returned (.tuple #[.slice none 0 0, .int .i64 code])) w' :=
  ⟨none, 0, [], code, rfl, h, by simp, Own.nil, hb⟩
set_option maxRecDepth 100000 in
set_option maxHeartbeats 1000000 in
theorem implcutsOf (B : Nat) (A : Option Addr) (c : Nat) (l : List Int) (w : World) (h : OwnI w B (.slice A l.length c) l) (hn : l.length ≤ 100000) :
    Calls Tryz.prog 51 #[.slice A l.length c] w (CutRes (cutsB l) w) := by
  have HX := hide h
  have HE := hide (show cutsB l = cutsTo l l.length by unfold cutsB; rfl)
  have hlc := cutsTo_len l
  have HLC := hide hlc
  clear h hlc
  go_enter Tryz.func51, Tryz.ntmps51
  go_wp2_with fail
  go_loopw [8, 3, 4, 5] (fun v o _ _ wr => ∃ (k : Nat) (A2 : Option Addr) (c2 : Nat), v = .int .i64 k ∧ o = .slice A2 (cutsTo l k).length c2 ∧ k ≤ l.length ∧ Hid (OwnC wr w.heap.size (.slice A2 (cutsTo l k).length c2) (cutsTo l k)) ∧ Hid (Below w.heap.size w wr)) (fun v _ _ _ _ => l.length - (intOf v).toNat)
  case atStart => exact ⟨0, none, 0, rfl, rfl, by omega, hide Own.nil, hide (Below.refl _ _)⟩
  case round =>
    obtain ⟨k, A2, c2, rfl, rfl, hk, HO, HB⟩ := hrel
    have hz := HB.out.size
    by_cases hlt : k < l.length
    · obtain ⟨g, hA, hg1, hg2, g1, g2⟩ := own_get1 (HX.out.below HB.out) hlt
      subst hA
      have hki : (k : Int) < l.length := by omega
      have hk0 : (0 : Int) ≤ k := by omega
      have hcl := HLC.out k
      clear g2
      by_cases hp : 0 < ig l k
      · have e : cutsTo l (k + 1) = cutsTo l k ++ [⟨k, ig l k⟩] := by rw [cutsTo, if_pos hp]
        have e2 : (cutsTo l (k + 1)).length = (cutsTo l k).length + 1 := by rw [e]; simp
        have HE1 := hide e
        have HE2 := hide e2
        clear e e2
        obtain ⟨v, hv⟩ : ∃ v, v = ig l k := ⟨_, rfl⟩
        rw [← hv] at hp g1 HE1
        clear hv
        obtain ⟨ys, hys⟩ : ∃ ys, ys = cutsTo l k := ⟨_, rfl⟩
        rw [← hys] at HO HE1 HE2 hcl ⊢
        clear hys
        go_wp2_with (at_builtin; refine wpList_appCut rfl _ _ rfl w.heap.size rfl HO.out rfl (by omega) ?_ ?_; (focus (exact hz)); intro A5 c5 w5 ho5 hb5 _hg5; have HO5 := hide ho5; have HB5 := hide (HB.out.trans hb5); clear ho5 hb5)
        go_roundw
        case rel => exact ⟨k + 1, A5, c5, by go_num, by rw [HE2.out], by omega, hide (by rw [HE2.out, HE1.out]; exact HO5.out), HB5⟩
        case measure => simp [intOf]; omega
      · have HE1 := hide (show cutsTo l (k + 1) = cutsTo l k by rw [cutsTo, if_neg hp])
        generalize ig l k = v at *
        go_wp2_with fail
        go_roundw
        case rel => exact ⟨k + 1, A2, c2, by go_num, by rw [HE1.out], by omega, by rw [HE1.out]; exact HO, HB⟩
        case measure => simp [intOf]; omega
    · obtain rfl : k = l.length := by omega
      rw [← HE.out] at HO ⊢
      go_wp2_with fail
      go_ret
      exact ⟨A2, c2, rfl, HO.out, HB.out⟩
set_option maxRecDepth 100000 in
theorem planned_is {x : Cx} {w0 w : World} {b gl lc gs sc : Nat} {sum : Int} {first : Bool} {ss : List Int} {s : S} (HS : Hid (CuI x w0 b gl lc gs sc sum first w ss s)) (hn : x.zs.length ≤ 8) :
    Calls Tryz.prog 46 #[.pointer (some ⟨b, 0, none⟩)] w (PlRes (plnd s) w) := by
  obtain ⟨k0, k1, k2, k3, k4, k5, k6, k7, k8, k9, k10, k11, k12, k13, k14, k15, k16, k17, k18, kf⟩ := HS.out.all
  obtain ⟨fA, fc, k19, ho⟩ := HS.out.fnd
  clear k0 k2 k3 k4 k5 k6 k7 k8 k9 k10 k11 k12 k13 k14 k15 k16 k17 kf
  have hfl : s.found.length ≤ 8 := by
    rcases HS.out.inv.fnd with e | e
    · rw [e]; simp
    · rw [e.2, x.lim_length]; exact hn
  have HFL := hide hfl
  have HO := hide ho
  clear ho hfl
  cases hsp : s.spent
  · rw [hsp] at k1
    by_cases h0 : s.count = 0
    · have E := hide (show plnd s = ([], 3) from by unfold plnd; rw [hsp, h0]; rfl)
      rw [h0] at k18
      clear h0 hsp
      go_enter Tryz.func46, Tryz.ntmps46
      go_wp2_with fail
      go_ret2
      exact plRes_nil E.out (Below.refl _ _)
    · have E := hide (show plnd s = (cutsB s.found, 0) from by unfold plnd; rw [hsp, if_neg h0]; rfl)
      have h1 : (s.count == 0) = false := by simpa using h0
      have HC := hide (implcutsOf (b + 1) fA fc s.found w HO.out (by have := HFL.out; omega))
      have HL := hide (show (cutsB s.found).length ≤ 1048576 from by have := cutsTo_len s.found s.found.length; have := HFL.out; unfold cutsB; omega)
      clear h0 hsp
      go_enter Tryz.func46, Tryz.ntmps46
      go_wp2_with fail
      refine HC.out.mono ?_
      rintro e w1 ⟨A1, c1, rfl, ho1, hb1⟩
      have HO1 := hide ho1
      have HB1 := hide hb1
      clear ho1 hb1
      go_wp2_with fail
      go_ret2
      exact ⟨A1, c1, _, 0, rfl, E.out, HL.out, HO1.out, HB1.out⟩
  · rw [hsp] at k1
    have E := hide (show plnd s = ([], 5) from by unfold plnd; rw [hsp]; rfl)
    clear hsp
    go_enter Tryz.func46, Tryz.ntmps46
    go_wp2_with fail
    go_ret2
    exact plRes_nil E.out (Below.refl _ _)
end Go.Proofs.YtnefgafmnpblpaaGreat
