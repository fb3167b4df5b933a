/- Contracts: deviations of the reference, and the greatest of them. The planner's search, no program in sight. The planner's plain side: profiles after steps within the limits are valid; partials fall with steps. -/
import Derived.Test.YtnefgafmnpblpaaGreatPnQ2
namespace Go.Proofs.YtnefgafmnpblpaaGreat
open Go.RowKit Pn

theorem gr_max (l : List Int) (k : Nat) : gr l (k + 1) = mx (gr l k) (mx (ig l k) (-ig l k)) := by
  have e : absI (ig l k) = mx (ig l k) (-ig l k) := by unfold absI mx; split <;> split <;> omega
  rw [← e]
  rfl
set_option maxRecDepth 100000 in
set_option maxHeartbeats 1000000 in
theorem specl10Greatest (A : Option Addr) (c : Nat) (xs : List Int) (w : World) (h : SlAt encI 1 w A xs) (hn : xs.length ≤ 1048576) (HB0 : Hid (∀ k, k < xs.length → -4000000000000000000 ≤ ig xs k ∧ ig xs k ≤ 4000000000000000000)) :
    Calls Tryz.prog 175 #[.slice A xs.length c] w fun e w' => e = .returned (.int .i64 (grB xs)) ∧ Below w.heap.size w w' := by
  have HX := hide h
  have HG := hide (show grB xs = gr xs xs.length by unfold grB; rfl)
  clear h
  go_enter Tryz.func175, Tryz.ntmps175
  go_wp2_with fail
  go_loopw [4, 3] (fun v s wr => ∃ k : Nat, v = .int .i64 k ∧ s = .int .i64 (gr xs k) ∧ k ≤ xs.length ∧ Hid (Below w.heap.size w wr)) (fun v _ _ => xs.length - (intOf v).toNat)
  case atStart => exact ⟨0, rfl, rfl, by omega, hide (Below.refl _ _)⟩
  case round =>
    obtain ⟨k, rfl, rfl, hk, HB⟩ := hrel
    have hz := HB.out.size
    by_cases hlt : k < xs.length
    · obtain ⟨b, o, rfl, hb, hc⟩ := (HX.out.below HB.out).getA (by omega)
      have hck := hc k hlt
      have hbk := HB0.out k hlt
      have E := hide (gr_max xs k)
      have hki : (k : Int) < xs.length := by omega
      have hk0 : (0 : Int) ≤ k := by omega
      clear hc
      generalize ig xs k = x at *
      generalize gr xs k = s at *
      have kn : IntKind.i64.wrap (-x) = -x := IntWalk.i64_in _ (by omega)
      go_wp2_with fail
      refine wp_region_kept (by kernel_rfl) (by kernel_rfl) ?_
      intro gc gf gz
      repeat (go_big_quiet_step ((go_at_call 139; exact Calls.kept_same (specl00Max _ _ _))))
      refine wpQuiet_nil ?_
      intro w4 hw'
      obtain ⟨⟨_, hb4⟩, rfl⟩ := hw'
      clear gc gf gz
      try dsimp only
      have fs4 := hb4.size
      try simp at fs4 hb4
      go_wp2_with fail
      go_roundw
      case rel => exact ⟨k + 1, by go_num, by rw [← E.out], by omega, hide (HB.out.trans (hb4.mono hz))⟩
      case measure => simp [intOf]; omega
    · obtain rfl : k = xs.length := by omega
      go_wp2_with fail
      go_ret
      exact ⟨ret_int HG.out.symm, HB.out⟩
/-- The deviations of a sound as a result: a list and whether there is a sound. -/
def DevRes (t xs : List Int) (w : World) (e : Ending) (w' : World) : Prop :=
  ∃ (A : Option Addr) (c : Nat) (ys : List Int), e = .returned (.tuple #[.slice A ys.length c, .bool (dc (SoundOK xs))]) ∧ (dc (SoundOK xs) = true → ys = devs t xs) ∧ OwnI w' w.heap.size (.slice A ys.length c) ys ∧ Below w.heap.size w w'
set_option maxRecDepth 100000 in
set_option maxHeartbeats 1000000 in
theorem specl10Dev (bg : Nat) (t0 t1 t2 t3 t4 tol most : Int) (A : Option Addr) (c : Nat) (xs : List Int) (w : World) (hg : GoalAt w bg 0 [t0, t1, t2, t3, t4] tol most) (h : SlAt encI 1 w A xs) (hn : xs.length = 5) (HT : Hid (InF [t0, t1, t2, t3, t4])) :
    Calls Tryz.prog 174 #[.pointer (some ⟨bg, 0, none⟩), .slice A 5 c] w (DevRes [t0, t1, t2, t3, t4] xs w) := by
  have HG := hide hg
  have HX := hide h
  have HN := hide hn
  have HC := hide (show Calls Tryz.prog 91 #[.slice A 5 c] w fun e w' => e = .returned (.agg #[.int .i64 (ig xs 0), .int .i64 (ig xs 1), .int .i64 (ig xs 2), .int .i64 (ig xs 3), .int .i64 (ig xs 4)]) ∧ Below w.heap.size w w' from by
    refine specl04Sound_is A c (ig xs 0) (ig xs 1) (ig xs 2) (ig xs 3) (ig xs 4) w ?_
    match xs, hn with
    | [a, b, c, d, e], _ => exact h)
  have HS := hide (show SoundOK [ig xs 0, ig xs 1, ig xs 2, ig xs 3, ig xs 4] = SoundOK xs from by
    match xs, hn with
    | [a, b, c, d, e], _ => rfl)
  clear hg h hn
  go_enter Tryz.func174, Tryz.ntmps174
  go_wp2_with fail
  refine HC.out.mono ?_
  rintro e w1 ⟨rfl, hb1⟩
  have HB1 := hide hb1
  have HG1 := hide (HG.out.below hb1)
  have HX1 := hide (HX.out.below hb1)
  clear hb1 HC HG HX
  go_wp2_with fail
  refine (l04Ok_is w1.heap.size 0 (ig xs 0) (ig xs 1) (ig xs 2) (ig xs 3) (ig xs 4) _ (by simp) (by simp) (by simp) (by simp) (by simp)).mono ?_
  rintro e w2 ⟨rfl, hb2⟩
  rw [HS.out]
  have HB2 := hide (HB1.out.trans ((((Below.refl _ _).alloc (Nat.le_refl _) _).trans (hb2.mono (by simp))).mono HB1.out.size))
  have hbx : Below w1.heap.size w1 w2 := ((Below.refl _ _).alloc (Nat.le_refl _) _).trans (hb2.mono (by simp))
  have HG2 := hide (HG1.out.below hbx)
  have HX2 := hide (HX1.out.below hbx)
  clear hbx hb2 HG1 HX1
  cases hso : dc (SoundOK xs)
  · have HSO := hide hso
    clear hso
    go_wp2_with fail
    go_ret2
    exact ⟨none, 0, [], by simp [HSO.out], fun h => by rw [HSO.out] at h; simp at h, Own.nil, HB2.out⟩
  · have HSO := hide hso
    have HIF := hide (SoundOK.inF (of_dc hso))
    clear hso
    go_wp2_with fail
    refine (l04List_goal HG2.out).mono ?_
    rintro e w3 ⟨b3, rfl, ho3, hb3⟩
    have HL3 := hide (ho3.sl rfl)
    have HX3 := hide (HX2.out.below hb3)
    have HB3 := hide (HB2.out.trans (hb3.mono HB2.out.size))
    clear ho3 hb3 HX2 HG2 HS
    generalize hT : [t0, t1, t2, t3, t4] = T at *
    have HTL := hide (show T.length = 5 by rw [← hT]; rfl)
    clear hT
    have HA0 := hide ((Below.refl w3.heap.size w3).alloc (Nat.le_refl _) (.cells #[] 2))
    have H00 := hide (own_made (enc := encI) (sz := 1) (T := 2) w3 rfl (Nat.le_refl _))
    go_wp2_with fail
    generalize w3.alloc (.cells #[] 2) = w4 at *
    go_loopw [9, 8] (fun v o wr => ∃ (k : Nat) (A : Option Addr) (c : Nat) (ys : List Int), v = .int .i64 k ∧ o = .slice A ys.length c ∧ k ≤ 5 ∧ ys.length = k ∧ Hid (ys = (devs T xs).take k) ∧ Hid (OwnI wr w3.heap.size (.slice A ys.length c) ys) ∧ Hid (Below w3.heap.size w3 wr)) (fun v _ _ => 5 - (intOf v).toNat)
    case atStart => exact ⟨0, _, _, [], rfl, rfl, by omega, rfl, hide (by simp), H00, HA0⟩
    case round =>
      obtain ⟨k, A2, c2, ys, rfl, rfl, hk, hy, HY, HO0, HB⟩ := hrel
      have HLY := hide hy
      by_cases hlt : k < 5
      · obtain ⟨bt, ot, et, hbt, hct⟩ := HL3.out.getA (by have := HTL.out; omega)
        obtain ⟨br, or_, er, hbr, hcr⟩ := HX3.out.getA (by have := HN.out; omega)
        injection et with et; injection et with et1 et2; subst et1; subst et2
        subst er
        have ht := hct k (by have := HTL.out; omega)
        have hr := hcr k (by have := HN.out; omega)
        simp only [Nat.zero_add] at ht
        obtain ⟨g1, g2⟩ := HT.out k hlt
        obtain ⟨g3, g4⟩ := HIF.out k hlt
        have HN2 := hide (show ys ++ [ctB (ig T k) (ig xs k)] = (devs T xs).take (k + 1) from by rw [HY.out, devs_take T xs k hlt])
        have HC := hide (fun W => specl02Between_is (ig T k) (ig xs k) W g1 g2 g3 g4)
        have hki : (k : Int) < 5 := by omega
        have hk0 : (0 : Int) ≤ k := by omega
        clear hct hcr hy HY
        generalize ctB (ig T k) (ig xs k) = d at *
        generalize ig T k = f at *
        generalize ig xs k = g at *
        have P1 : ∀ w', Below w3.heap.size w3 w' → w'.cell? ⟨b3, k, none⟩ = some (.int .i64 f) := fun w' hb => (hb.cell (p := ⟨b3, k, none⟩) hbt).trans ht
        have P2 : ∀ w', Below w3.heap.size w3 w' → w'.cell? ⟨br, or_ + k, none⟩ = some (.int .i64 g) := fun w' hb => (hb.cell (p := ⟨br, or_ + k, none⟩) hbr).trans hr
        have HO := hide (show OwnI wr.drew w3.heap.size (.slice A2 ys.length c2) ys from HO0.out)
        clear ht hr
        have hzw := HB.out.size
        go_upto_region 9 with fail
        refine wp_region_noPanic ?_
        refine wp_region_held_drew (S := (fun w' => Below w3.heap.size w3 w')) (by kernel_rfl) (HB.out.drew) (fun hHeld => ?_)
        refine wpAnyH_take (i := 0) (oi := ?o0_1) (v := ?v0_1) ?hi0_1 ?hs0_1 ?hf0_1 ?hr0_1 (fun _ _ _ h => h) ?hy0_1 (by assumption) ?hh0_1
        case hi0_1 => ((simp only [List.getElem?_toArray, List.getElem?_cons_zero]); rfl)
        case hs0_1 => kernel_rfl
        case hf0_1 => kernel_rfl
        case hr0_1 => kernel_rfl
        case hy0_1 => exact Or.inl ⟨by rfl, by (intro wq hSw; (try dsimp only at hSw); go_simp; (try with_reducible rfl))⟩
        try simp only [Act.put, List.setIfInBounds_toArray, List.set_cons_zero, List.set_cons_succ]
        refine wpAnyH_take (i := 1) (oi := ?o1_2) (v := ?v1_2) ?hi1_2 ?hs1_2 ?hf1_2 ?hr1_2 (fun _ _ _ h => h) ?hy1_2 (by assumption) ?hh1_2
        case hi1_2 => ((simp only [List.getElem?_toArray, List.getElem?_cons_succ, List.getElem?_cons_zero]); rfl)
        case hs1_2 => kernel_rfl
        case hf1_2 => kernel_rfl
        case hr1_2 => kernel_rfl
        case hy1_2 => exact Or.inl ⟨by rfl, by (intro wq hSw; (try dsimp only at hSw); go_simp; (try with_reducible rfl))⟩
        try simp only [Act.put, List.setIfInBounds_toArray, List.set_cons_zero, List.set_cons_succ]
        refine wpAnyH_take (i := 2) (oi := ?o2_3) (v := ?v2_3) ?hi2_3 ?hs2_3 ?hf2_3 ?hr2_3 (fun _ _ _ h => h) ?hy2_3 (by assumption) ?hh2_3
        case hi2_3 => ((simp only [List.getElem?_toArray, List.getElem?_cons_succ, List.getElem?_cons_zero]); rfl)
        case hs2_3 => kernel_rfl
        case hf2_3 => kernel_rfl
        case hr2_3 => kernel_rfl
        case hy2_3 => exact Or.inl ⟨by rfl, by (intro wq hSw; (try dsimp only at hSw); go_simp; (try with_reducible rfl))⟩
        try simp only [Act.put, List.setIfInBounds_toArray, List.set_cons_zero, List.set_cons_succ]
        refine wpAnyH_take (i := 3) (oi := ?o3_4) (v := ?v3_4) ?hi3_4 ?hs3_4 ?hf3_4 ?hr3_4 (fun _ _ _ h => h) ?hy3_4 (by assumption) ?hh3_4
        case hi3_4 => ((simp only [List.getElem?_toArray, List.getElem?_cons_succ, List.getElem?_cons_zero]); rfl)
        case hs3_4 => kernel_rfl
        case hf3_4 => kernel_rfl
        case hr3_4 => kernel_rfl
        case hy3_4 => exact Or.inl ⟨by rfl, by (intro wq hSw; (try dsimp only at hSw); go_simp; (try with_reducible rfl))⟩
        try simp only [Act.put, List.setIfInBounds_toArray, List.set_cons_zero, List.set_cons_succ]
        refine wpAnyH_take (i := 4) (oi := ?o4_5) (v := ?v4_5) ?hi4_5 ?hs4_5 ?hf4_5 ?hr4_5 (fun _ _ _ h => h) ?hy4_5 (by assumption) ?hh4_5
        case hi4_5 => ((simp only [List.getElem?_toArray, List.getElem?_cons_succ, List.getElem?_cons_zero]); rfl)
        case hs4_5 => kernel_rfl
        case hf4_5 => kernel_rfl
        case hr4_5 => kernel_rfl
        case hy4_5 => exact Or.inl ⟨by rfl, by (intro wq hSw; (try dsimp only at hSw); go_simp; (try with_reducible rfl))⟩
        try simp only [Act.put, List.setIfInBounds_toArray, List.set_cons_zero, List.set_cons_succ]
        refine wpAnyH_take (i := 5) (oi := ?o5_6) (v := ?v5_6) ?hi5_6 ?hs5_6 ?hf5_6 ?hr5_6 (fun _ _ _ h => h) ?hy5_6 (by assumption) ?hh5_6
        case hi5_6 => ((simp only [List.getElem?_toArray, List.getElem?_cons_succ, List.getElem?_cons_zero]); rfl)
        case hs5_6 => kernel_rfl
        case hf5_6 => kernel_rfl
        case hr5_6 => kernel_rfl
        case hy5_6 => exact Or.inl ⟨by rfl, by (intro wq hSw; (try dsimp only at hSw); go_simp; (try with_reducible rfl))⟩
        try simp only [Act.put, List.setIfInBounds_toArray, List.set_cons_zero, List.set_cons_succ]
        refine wpAnyH_take (i := 6) (oi := ?o6_7) (v := ?v6_7) ?hi6_7 ?hs6_7 ?hf6_7 ?hr6_7 (fun _ _ _ h => h) ?hy6_7 (by assumption) ?hh6_7
        case hi6_7 => ((simp only [List.getElem?_toArray, List.getElem?_cons_succ, List.getElem?_cons_zero]); rfl)
        case hs6_7 => kernel_rfl
        case hf6_7 => kernel_rfl
        case hr6_7 => kernel_rfl
        case hy6_7 => exact Or.inl ⟨by rfl, by (intro wq hSw; (try dsimp only at hSw); go_simp; (try with_reducible rfl))⟩
        try simp only [Act.put, List.setIfInBounds_toArray, List.set_cons_zero, List.set_cons_succ]
        refine wpAnyH_take (i := 7) (oi := ?o7_8) (v := ?v7_8) ?hi7_8 ?hs7_8 ?hf7_8 ?hr7_8 (fun _ _ _ h => h) ?hy7_8 (by assumption) ?hh7_8
        case hi7_8 => ((simp only [List.getElem?_toArray, List.getElem?_cons_succ, List.getElem?_cons_zero]); rfl)
        case hs7_8 => kernel_rfl
        case hf7_8 => kernel_rfl
        case hr7_8 => kernel_rfl
        case hy7_8 => exact Or.inl ⟨by rfl, by (intro wq hSw; (try dsimp only at hSw); go_simp; (try with_reducible rfl))⟩
        try simp only [Act.put, List.setIfInBounds_toArray, List.set_cons_zero, List.set_cons_succ]
        refine wpAnyH_take (i := 8) (oi := ?o8_9) (v := ?v8_9) ?hi8_9 ?hs8_9 ?hf8_9 ?hr8_9 (fun _ _ _ h => h) ?hy8_9 (by assumption) ?hh8_9
        case hi8_9 => ((simp only [List.getElem?_toArray, List.getElem?_cons_succ, List.getElem?_cons_zero]); rfl)
        case hs8_9 => kernel_rfl
        case hf8_9 => kernel_rfl
        case hr8_9 => kernel_rfl
        case hy8_9 => exact Or.inl ⟨by rfl, by (intro wq hSw; (try dsimp only at hSw); go_simp; (try with_reducible rfl))⟩
        try simp only [Act.put, List.setIfInBounds_toArray, List.set_cons_zero, List.set_cons_succ]
        refine wpAnyH_ready (rs := [9]) (by kernel_rfl) (by simp) ?_
        refine AllReadyH.cons (o := ?o9_10) ?hi9_10 (fun K hK => ?hh9_10) AllReadyH.nil
        case hi9_10 => ((simp only [List.getElem?_toArray, List.getElem?_cons_succ, List.getElem?_cons_zero]); rfl)
        go_simp
        (go_at_call 176; refine (HC.out _).mono ?_; rintro e w5 ⟨rfl, rfl⟩)
        (try dsimp only)
        refine hK.out _ _ (hHeld) (fun hHeld2 => ?_)
        clear hK K hHeld
        have hHeld := hHeld2
        clear hHeld2
        try simp only [Act.put, List.setIfInBounds_toArray, List.set_cons_zero, List.set_cons_succ]
        refine wpAnyH_ready (rs := [10]) (by kernel_rfl) (by simp) ?_
        refine AllReadyH.cons (o := ?o10_11) ?hi10_11 (fun K hK => ?hh10_11) AllReadyH.nil
        case hi10_11 => ((simp only [List.getElem?_toArray, List.getElem?_cons_succ, List.getElem?_cons_zero]); rfl)
        go_simp
        refine hK.out _ _ (hHeld.alloc hHeld.size _) (fun hHeld2 => ?_)
        clear hK K hHeld
        have hHeld := hHeld2
        clear hHeld2
        try simp only [Act.put, List.setIfInBounds_toArray, List.set_cons_zero, List.set_cons_succ]
        refine wpAnyH_ready (rs := [11]) (by kernel_rfl) (by simp) ?_
        refine AllReadyH.cons (o := ?o11_12) ?hi11_12 (fun K hK => ?hh11_12) AllReadyH.nil
        case hi11_12 => ((simp only [List.getElem?_toArray, List.getElem?_cons_succ, List.getElem?_cons_zero]); rfl)
        refine step_appI (by rfl) _ _ (by rfl) w3.heap.size (by rfl) HO.out (by rfl) (by have := HLY.out; omega) (by simpa using hzw) ?_; intro A6 c6 w6 ho6 hb6 _; have HO6 := hide ho6; have HB6 := hide (hHeld.trans hb6); clear ho6 hb6
        refine hK.out _ _ (HB6.out) (fun hHeld2 => ?_)
        clear hK K hHeld
        have hHeld := hHeld2
        clear hHeld2
        try simp only [Act.put, List.setIfInBounds_toArray, List.set_cons_zero, List.set_cons_succ]
        refine wpAnyH_take (i := 12) (oi := ?o12_13) (v := ?v12_13) ?hi12_13 ?hs12_13 ?hf12_13 ?hr12_13 (fun _ _ _ h => h) ?hy12_13 (by assumption) ?hh12_13
        case hi12_13 => ((simp only [List.getElem?_toArray, List.getElem?_cons_succ, List.getElem?_cons_zero]); rfl)
        case hs12_13 => kernel_rfl
        case hf12_13 => kernel_rfl
        case hr12_13 => kernel_rfl
        case hy12_13 => exact Or.inl ⟨by rfl, by (intro wq hSw; (try dsimp only at hSw); go_simp; (try with_reducible rfl))⟩
        try simp only [Act.put, List.setIfInBounds_toArray, List.set_cons_zero, List.set_cons_succ]
        refine wpAnyH_done (by kernel_rfl) ?_ _
        refine NoPanic.normal ?_
        go_wp2_with fail
        go_roundw
        case rel => exact ⟨k + 1, A6, c6, ys ++ [d], by go_num, by simp, by omega, by simp [HLY.out], HN2, hide (by simpa using HO6.out), HB6⟩
        case measure => simp [intOf]; omega
      · have he : ys = devs T xs := by rw [HY.out, List.take_of_length_le (by rw [devs_length]; omega)]
        obtain rfl : k = 5 := by omega
        have HE := hide HB3.out.size
        clear hy HLY HY
        subst he
        go_wp2_with fail
        go_ret2
        exact ⟨A2, c2, devs T xs, by simp [HSO.out], fun _ => rfl, HO0.out.mono HE.out, HB3.out.trans (HB.out.mono HE.out)⟩
end Go.Proofs.YtnefgafmnpblpaaGreat
namespace Go.Proofs.YtnefgafmnpblpaaGreat.Pn
open Go.Proofs.YtnefgafmnpblpaaGreat

/-- What a search knows: the nodes left, whether they were too few, the number of plans, what was found, the least deviation (-1: none). -/
structure S where
  left : Int
  spent : Bool
  count : Int
  found : List Int
  least : Int
/-- What a search asks: the greatest steps, the sum it wants (below 0: any), whether steps are too low, what it does with all steps, whether it ends at the first plan. -/
structure Q where
  lim : List Int
  sum : Int
  low : List Int → Bool
  look : List Int → S → S
  first : Bool
def sumA (l : List Int) : Int := sumTo l l.length
def ended (q : Q) (s : S) : Bool := s.spent || (q.first && decide (0 < s.count))
/-- Whether steps so far may lead to the sum. -/
def tried (q : Q) (l : List Int) : Bool := decide (q.sum < 0) || (decide (sumA l ≤ q.sum) && (decide (l.length < q.lim.length) || decide (sumA l = q.sum)))
/-- The numbers of steps from k on, m of them, in the next zone. -/
def goK (q : Q) (rec : List Int → S → S) (l : List Int) : Nat → Nat → S → S
  | 0, _, s => s
  | m + 1, k, s =>
    if tried q (l ++ [(k : Int)]) then
      if ended q s then s
      else if s.left == 0 then { s with spent := true }
      else if q.low (l ++ [(k : Int)]) then { s with left := s.left - 1 }
      else goK q rec l m (k + 1) (rec (l ++ [(k : Int)]) { s with left := s.left - 1 })
    else goK q rec l m (k + 1) s
def srch (q : Q) : Nat → List Int → S → S
  | 0, _, s => s
  | f + 1, l, s => if l.length == q.lim.length then q.look l s else goK q (srch q f) l ((ig q.lim l.length).toNat + 1) 0 s
section
variable {q : Q} {rec : List Int → S → S} {l : List Int} {m k : Nat} {s : S}
theorem goK_not (h : tried q (l ++ [(k : Int)]) = false) : goK q rec l (m + 1) k s = goK q rec l m (k + 1) s := by rw [goK, h]; rfl
theorem goK_spent (h : tried q (l ++ [(k : Int)]) = true) (he : ended q s = false) (h0 : s.left = 0) : goK q rec l (m + 1) k s = { s with spent := true } := by
  rw [goK, h, he, h0]; rfl
theorem goK_low (h : tried q (l ++ [(k : Int)]) = true) (he : ended q s = false) (h0 : s.left ≠ 0) (hl : q.low (l ++ [(k : Int)]) = true) : goK q rec l (m + 1) k s = { s with left := s.left - 1 } := by
  have h1 : (s.left == 0) = false := by simpa using h0
  rw [goK, h, he, h1, hl]; rfl
theorem goK_go (h : tried q (l ++ [(k : Int)]) = true) (he : ended q s = false) (h0 : s.left ≠ 0) (hl : q.low (l ++ [(k : Int)]) = false) : goK q rec l (m + 1) k s = goK q rec l m (k + 1) (rec (l ++ [(k : Int)]) { s with left := s.left - 1 }) := by
  have h1 : (s.left == 0) = false := by simpa using h0
  rw [goK, h, he, h1, hl]; rfl
theorem goK_ended (he : ended q s = true) : ∀ (m k : Nat), goK q rec l m k s = s
  | 0, _ => rfl
  | m + 1, k => by
    rw [goK, he]
    split
    · rfl
    · exact goK_ended he m (k + 1)
theorem srch_full {f : Nat} (h : l.length = q.lim.length) : srch q (f + 1) l s = q.look l s := by
  rw [srch, if_pos (by simpa using h)]
theorem srch_goes {f : Nat} (h : l.length ≠ q.lim.length) : srch q (f + 1) l s = goK q (srch q f) l ((ig q.lim l.length).toNat + 1) 0 s := by
  rw [srch, if_neg (by simpa using h)]
end
theorem sumTo_app (l : List Int) (n : Int) : ∀ k, k ≤ l.length → sumTo (l ++ [n]) k = sumTo l k
  | 0, _ => rfl
  | k + 1, h => by
    unfold sumTo
    rw [sumTo_app l n k (by omega)]
    have : ig (l ++ [n]) k = ig l k := by
      rw [← ig_eq (show k < (l ++ [n]).length by simp; omega), ← ig_eq (show k < l.length by omega), List.getElem_append_left (by omega)]
    rw [this]
theorem ig_snoc (l : List Int) (n : Int) : ig (l ++ [n]) l.length = n := by
  rw [← ig_eq (show l.length < (l ++ [n]).length by simp)]; simp
theorem ig_snoc_lt (l : List Int) (n : Int) {k : Nat} (h : k < l.length) : ig (l ++ [n]) k = ig l k := by
  rw [← ig_eq (show k < (l ++ [n]).length by simp; omega), ← ig_eq h, List.getElem_append_left h]
theorem sumA_snoc (l : List Int) (n : Int) : sumA (l ++ [n]) = sumA l + n := by
  unfold sumA
  rw [List.length_append, List.length_singleton]
  show sumTo (l ++ [n]) l.length + ig (l ++ [n]) l.length = _
  rw [sumTo_app l n _ (Nat.le_refl _), ig_snoc]
/-- Steps so far, within the limits. -/
structure Pre (lim l : List Int) : Prop where
  len : l.length ≤ lim.length
  at_ : ∀ k, k < l.length → 0 ≤ ig l k ∧ ig l k ≤ ig lim k
theorem Pre.nil (lim : List Int) : Pre lim [] := ⟨by simp, fun k h => by simp at h⟩
theorem Pre.snoc {lim l : List Int} {n : Int} (h : Pre lim l) (hl : l.length < lim.length) (h0 : 0 ≤ n) (h1 : n ≤ ig lim l.length) : Pre lim (l ++ [n]) := by
  refine ⟨by simp; omega, fun k hk => ?_⟩
  by_cases e : k < l.length
  · rw [ig_snoc_lt l n e]; exact h.at_ k e
  · have e2 : k = l.length := by simp at hk; omega
    subst e2; rw [ig_snoc]; exact ⟨h0, h1⟩
theorem Pre.all {lim l : List Int} {c : Int} (h : Pre lim l) (hc : ∀ k, 0 ≤ ig lim k ∧ ig lim k ≤ c) : ∀ k, 0 ≤ ig l k ∧ ig l k ≤ c := by
  have := hc 0
  refine ig_all (fun k hk => ?_) (by omega) (by omega)
  have := h.at_ k hk; have := hc k; omega
/-- What a search never breaks. -/
structure Inv (lim : List Int) (s : S) : Prop where
  l0 : 0 ≤ s.left
  c0 : 0 ≤ s.count
  sum : s.count + s.left ≤ 20000
  fnd : s.found = [] ∨ (Pre lim s.found ∧ s.found.length = lim.length)
  le : -1 ≤ s.least ∧ s.least ≤ 4000000000000000000
theorem Inv.node {lim : List Int} {s : S} (h : Inv lim s) (h0 : s.left ≠ 0) : Inv lim { s with left := s.left - 1 } ∧ s.count + (s.left - 1) + 1 ≤ 20000 := by
  have a := h.l0; have b := h.sum
  exact ⟨⟨by simp only; omega, h.c0, by simp only; omega, h.fnd, h.le⟩, by omega⟩
/-- A look that never breaks what a search holds. -/
def LookOK (lim : List Int) (look : List Int → S → S) : Prop := ∀ l s, Pre lim l → l.length = lim.length → Inv lim s → s.count + s.left + 1 ≤ 20000 → Inv lim (look l s)
theorem srch_inv {q : Q} (hq : LookOK q.lim q.look) (hlim : ∀ k, 0 ≤ ig q.lim k) : ∀ (f : Nat) (l : List Int) (s : S), Pre q.lim l → Inv q.lim s → (s.count + s.left + 1 ≤ 20000 ∨ l.length ≠ q.lim.length) → Inv q.lim (srch q f l s) := by
  intro f
  induction f with
  | zero => intro l s _ h _; exact h
  | succ f ih =>
    intro l s hp h hc
    by_cases hl : l.length = q.lim.length
    · rw [srch_full hl]; exact hq l s hp hl h (hc.resolve_right (fun q => q hl))
    · rw [srch_goes hl]
      have key : ∀ (m k : Nat) (s : S), k + m = (ig q.lim l.length).toNat + 1 → Inv q.lim s → Inv q.lim (goK q (srch q f) l m k s) := by
        intro m
        induction m with
        | zero => intro k s _ h; exact h
        | succ m ihm =>
          intro k s hk h
          cases ht : tried q (l ++ [(k : Int)])
          · rw [goK_not ht]; exact ihm (k + 1) s (by omega) h
          · cases he : ended q s
            · by_cases h0 : s.left = 0
              · rw [goK_spent ht he h0]; exact ⟨h.l0, h.c0, h.sum, h.fnd, h.le⟩
              · have hn := h.node h0
                cases hlow : q.low (l ++ [(k : Int)])
                · rw [goK_go ht he h0 hlow]
                  refine ihm (k + 1) _ (by omega) (ih _ _ (hp.snoc (by have := hp.len; omega) (by omega) (by have := hlim l.length; omega)) hn.1 (.inl hn.2))
                · rw [goK_low ht he h0 hlow]; exact hn.1
            · rw [goK_ended he]; exact h
      exact key _ 0 s (by omega) h
/-- The look of a search for plans. -/
def lookP (plan : List Int → Bool) (l : List Int) (s : S) : S := if plan l then { s with count := s.count + 1, found := if s.count == 0 then l else s.found } else s
theorem lookP_ok (lim : List Int) (plan : List Int → Bool) : LookOK lim (lookP plan) := by
  intro l s hp hl h hc
  unfold lookP
  split
  · refine ⟨h.l0, by have := h.c0; simp only; omega, by simp only; omega, ?_, h.le⟩
    simp only
    split
    · exact .inr ⟨hp, hl⟩
    · exact h.fnd
  · exact h
/-- The look of a search for the least deviation. -/
def lookC (snd : List Int → Bool) (dev : List Int → Int) (l : List Int) (s : S) : S := if snd l then (if s.least < 0 ∨ dev l < s.least then { s with found := l, least := dev l } else s) else s
theorem lookC_ok (lim : List Int) (snd : List Int → Bool) (dev : List Int → Int) (hd : ∀ l, 0 ≤ dev l ∧ dev l ≤ 4000000000000000000) : LookOK lim (lookC snd dev) := by
  intro l s hp hl h hc
  unfold lookC
  split
  · split
    · exact ⟨h.l0, h.c0, h.sum, .inr ⟨hp, hl⟩, by have := hd l; simp only; omega⟩
    · exact h
  · exact h
end Go.Proofs.YtnefgafmnpblpaaGreat.Pn
namespace Go.Proofs.YtnefgafmnpblpaaGreat.Pn
open Go.Proofs.YtnefgafmnpblpaaGreat

theorem turn_zero {zs st : List Int} {rs : List RingR} (h : ∀ z, ig st z = 0) : turn zs st rs = rs := by
  unfold turn
  refine List.ext_getElem (by simp) fun i h1 h2 => ?_
  simp only [List.getElem_mapIdx, cutR]
  rw [h]
  simp
theorem roomTo_ok {zs : List Int} {rs : List RingR} {z : Nat} : ∀ (m n j : Nat), n < j → (j : Int) ≤ roomTo zs rs z n m → RingsOK (turn zs (only z (j : Int)) rs)
  | 0, n, j, h1, h2 => by simp [roomTo] at h2; omega
  | m + 1, n, j, h1, h2 => by
    by_cases h : RingsOK (turn zs (only z ((n : Int) + 1)) rs)
    · by_cases e : j = n + 1
      · subst e; simpa using h
      · rw [roomTo_yes h] at h2
        exact roomTo_ok m (n + 1) j (by omega) h2
    · rw [roomTo_no h] at h2; omega
theorem room_ok {zs : List Int} {rs : List RingR} (h : RingsOK rs) {z : Nat} {v : Int} (h0 : 0 ≤ v) (h1 : v ≤ room zs rs z) : RingsOK (turn zs (only z v) rs) := by
  by_cases e : v = 0
  · subst e
    rw [turn_zero fun k => by rw [ig_only]; split <;> rfl]
    exact h
  · obtain ⟨j, rfl⟩ : ∃ j : Nat, v = j := ⟨v.toNat, (Int.toNat_of_nonneg h0).symm⟩
    unfold room at h1
    exact roomTo_ok 20 0 j (by omega) h1
theorem hsum_turn {zs st : List Int} {rs : List RingR} : ∀ k, k ≤ rs.length → hsum (turn zs st rs) k = hsum rs k
  | 0, _ => rfl
  | k + 1, h => by
    unfold hsum
    rw [hsum_turn k (by omega), rg_turn zs st rs k (by omega)]
    rfl
/-- Steps that each zone alone allows. -/
def Fit (zs : List Int) (rs : List RingR) (st : List Int) : Prop := ∀ z, z < zs.length → 0 ≤ ig st z ∧ ig st z ≤ room zs rs z
theorem ring_only {zs st : List Int} {rs : List RingR} {k : Nat} (hk : k < rs.length) : rg (turn zs st rs) k = rg (turn zs (only (zoneAt zs (k : Int)) (ig st (zoneAt zs (k : Int)))) rs) k := by
  rw [rg_turn _ _ _ _ hk, rg_turn _ _ _ _ hk]
  unfold cutR
  rw [ig_only, if_pos rfl]
theorem turn_ok {zs st : List Int} {rs : List RingR} (h : RingsOK rs) (hz : 1 ≤ zs.length) (hf : Fit zs rs st) : RingsOK (turn zs st rs) := by
  have ok : ∀ k : Nat, RingsOK (turn zs (only (zoneAt zs (k : Int)) (ig st (zoneAt zs (k : Int)))) rs) := fun k => by
    have := hf _ (zoneAt_lt (i := (k : Int)) hz)
    exact room_ok h this.1 this.2
  have out : ∀ (st' : List Int) (k : Nat), k < rs.length → (rg (turn zs st' rs) k).outer = (rg rs k).outer := fun st' k hk => by rw [rg_turn _ _ _ _ hk]; rfl
  refine ⟨by rw [turn_length]; exact h.len1, by rw [turn_length]; exact h.len32, fun k hk => ?_, fun k hk => ?_, ?_⟩
  · rw [turn_length] at hk
    rw [ring_only hk]
    exact (ok k).ring k (by rw [turn_length]; exact hk)
  · rw [turn_length] at hk
    have a := ((ok k).join k (by rw [turn_length]; exact hk)).1
    have b := ((ok (k + 1)).join k (by rw [turn_length]; exact hk)).2
    rw [← ring_only (show k < rs.length by omega), out _ _ hk] at a
    rw [← ring_only (show k + 1 < rs.length by omega), out _ _ (show k < rs.length by omega)] at b
    rw [out _ _ hk, out _ _ (show k < rs.length by omega)]
    exact ⟨a, b⟩
  · rw [turn_length, hsum_turn _ (Nat.le_refl _)]; exact h.hgt
/-- The partials after steps. -/
def rawT (zs : List Int) (ws : List (List Int)) (bs : List Int) (rs : List RingR) (st : List Int) : List Int := rawP zs ws bs (turn zs st rs)
theorem lim_bd (zs : List Int) (rs : List RingR) {most : Int} (h0 : 0 ≤ most) : ∀ k, 0 ≤ ig (limB zs rs most) k ∧ ig (limB zs rs most) k ≤ 20 := by
  refine ig_all (fun k hk => ?_) (by omega) (by omega)
  rw [limB_length] at hk
  rw [limB_get zs rs most hk]
  have := room_bd zs rs k
  omega
theorem Pre.fit {zs : List Int} {rs : List RingR} {most : Int} {l : List Int} (h : Pre (limB zs rs most) l) : Fit zs rs l := fun z hz => by
  by_cases hl : z < l.length
  · have a := h.at_ z hl
    rw [limB_get zs rs most hz] at a
    omega
  · rw [ig_out (by omega)]
    have := room_bd zs rs z
    omega
theorem Pre.small {zs : List Int} {rs : List RingR} {most : Int} {l : List Int} (h : Pre (limB zs rs most) l) (h0 : 0 ≤ most) : SmallI l := fun k => by
  have := h.all (lim_bd zs rs h0) k
  omega
end Go.Proofs.YtnefgafmnpblpaaGreat.Pn
