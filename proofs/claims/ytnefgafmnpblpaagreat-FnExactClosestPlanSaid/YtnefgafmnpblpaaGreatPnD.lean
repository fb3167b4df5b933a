/- Contracts: deviations of the reference, and the greatest of them. -/
import Derived.Test.YtnefgafmnpblpaaGreatPnQ2
namespace Go.Proofs.YtnefgafmnpblpaaGreat
open Go.RowKit Pn

theorem gr_max (l : List Int) (k : Nat) : gr l (k + 1) = mx (gr l k) (mx (ig l k) (-ig l k)) := by
  have e : absI (ig l k) = mx (ig l k) (-ig l k) := by unfold absI mx; split <;> split <;> omega
  rw [← e]
  rfl
set_option maxRecDepth 100000 in
set_option maxHeartbeats 1000000 in
theorem specl10Greatest (A : Option Addr) (c : Nat) (xs : List Int) (w : World) (h : SlAt encI 1 w A xs) (hn : xs.length ≤ 1048576) (HB0 : Hid (∀ k, k < xs.length → -4000000000000000000 ≤ ig xs k ∧ ig xs k ≤ 4000000000000000000)) :
    Calls Tryz.prog 175 #[.slice A xs.length c] w fun e w' => e = .returned (.int .i64 (grB xs)) ∧ Below w.heap.size w w' := by
  have HX := hide h
  have HG := hide (show grB xs = gr xs xs.length by unfold grB; rfl)
  clear h
  go_enter Tryz.func175, Tryz.ntmps175
  go_wp2_with fail
  go_loopw [4, 3] (fun v s wr => ∃ k : Nat, v = .int .i64 k ∧ s = .int .i64 (gr xs k) ∧ k ≤ xs.length ∧ Hid (Below w.heap.size w wr)) (fun v _ _ => xs.length - (intOf v).toNat)
  case atStart => exact ⟨0, rfl, rfl, by omega, hide (Below.refl _ _)⟩
  case round =>
    obtain ⟨k, rfl, rfl, hk, HB⟩ := hrel
    have hz := HB.out.size
    by_cases hlt : k < xs.length
    · obtain ⟨b, o, rfl, hb, hc⟩ := (HX.out.below HB.out).getA (by omega)
      have hck := hc k hlt
      have hbk := HB0.out k hlt
      have E := hide (gr_max xs k)
      have hki : (k : Int) < xs.length := by omega
      have hk0 : (0 : Int) ≤ k := by omega
      clear hc
      generalize ig xs k = x at *
      generalize gr xs k = s at *
      have kn : IntKind.i64.wrap (-x) = -x := IntWalk.i64_in _ (by omega)
      go_wp2_with fail
      refine wp_region_kept (by kernel_rfl) (by kernel_rfl) ?_
      intro gc gf gz
      repeat (go_big_quiet_step ((go_at_call 139; exact Calls.kept_same (specl00Max _ _ _))))
      refine wpQuiet_nil ?_
      intro w4 hw'
      obtain ⟨⟨_, hb4⟩, rfl⟩ := hw'
      clear gc gf gz
      try dsimp only
      have fs4 := hb4.size
      try simp at fs4 hb4
      go_wp2_with fail
      go_roundw
      case rel => exact ⟨k + 1, by go_num, by rw [← E.out], by omega, hide (HB.out.trans (hb4.mono hz))⟩
      case measure => simp [intOf]; omega
    · obtain rfl : k = xs.length := by omega
      go_wp2_with fail
      go_ret
      exact ⟨ret_int HG.out.symm, HB.out⟩
/-- The deviations of a sound as a result: a list and whether there is a sound. -/
def DevRes (t xs : List Int) (w : World) (e : Ending) (w' : World) : Prop :=
  ∃ (A : Option Addr) (c : Nat) (ys : List Int), e = .returned (.tuple #[.slice A ys.length c, .bool (dc (SoundOK xs))]) ∧ (dc (SoundOK xs) = true → ys = devs t xs) ∧ OwnI w' w.heap.size (.slice A ys.length c) ys ∧ Below w.heap.size w w'
set_option maxRecDepth 100000 in
set_option maxHeartbeats 1000000 in
theorem specl10Dev (bg : Nat) (t0 t1 t2 t3 t4 tol most : Int) (A : Option Addr) (c : Nat) (xs : List Int) (w : World) (hg : GoalAt w bg 0 [t0, t1, t2, t3, t4] tol most) (h : SlAt encI 1 w A xs) (hn : xs.length = 5) (HT : Hid (InF [t0, t1, t2, t3, t4])) :
    Calls Tryz.prog 174 #[.pointer (some ⟨bg, 0, none⟩), .slice A 5 c] w (DevRes [t0, t1, t2, t3, t4] xs w) := by
  have HG := hide hg
  have HX := hide h
  have HN := hide hn
  have HC := hide (show Calls Tryz.prog 91 #[.slice A 5 c] w fun e w' => e = .returned (.agg #[.int .i64 (ig xs 0), .int .i64 (ig xs 1), .int .i64 (ig xs 2), .int .i64 (ig xs 3), .int .i64 (ig xs 4)]) ∧ Below w.heap.size w w' from by
    refine specl04Sound_is A c (ig xs 0) (ig xs 1) (ig xs 2) (ig xs 3) (ig xs 4) w ?_
    match xs, hn with
    | [a, b, c, d, e], _ => exact h)
  have HS := hide (show SoundOK [ig xs 0, ig xs 1, ig xs 2, ig xs 3, ig xs 4] = SoundOK xs from by
    match xs, hn with
    | [a, b, c, d, e], _ => rfl)
  clear hg h hn
  go_enter Tryz.func174, Tryz.ntmps174
  go_wp2_with fail
  refine HC.out.mono ?_
  rintro e w1 ⟨rfl, hb1⟩
  have HB1 := hide hb1
  have HG1 := hide (HG.out.below hb1)
  have HX1 := hide (HX.out.below hb1)
  clear hb1 HC HG HX
  go_wp2_with fail
  refine (l04Ok_is w1.heap.size 0 (ig xs 0) (ig xs 1) (ig xs 2) (ig xs 3) (ig xs 4) _ (by simp) (by simp) (by simp) (by simp) (by simp)).mono ?_
  rintro e w2 ⟨rfl, hb2⟩
  rw [HS.out]
  have HB2 := hide (HB1.out.trans ((((Below.refl _ _).alloc (Nat.le_refl _) _).trans (hb2.mono (by simp))).mono HB1.out.size))
  have hbx : Below w1.heap.size w1 w2 := ((Below.refl _ _).alloc (Nat.le_refl _) _).trans (hb2.mono (by simp))
  have HG2 := hide (HG1.out.below hbx)
  have HX2 := hide (HX1.out.below hbx)
  clear hbx hb2 HG1 HX1
  cases hso : dc (SoundOK xs)
  · have HSO := hide hso
    clear hso
    go_wp2_with fail
    go_ret2
    exact ⟨none, 0, [], by simp [HSO.out], fun h => by rw [HSO.out] at h; simp at h, Own.nil, HB2.out⟩
  · have HSO := hide hso
    have HIF := hide (SoundOK.inF (of_dc hso))
    clear hso
    go_wp2_with fail
    refine (l04List_goal HG2.out).mono ?_
    rintro e w3 ⟨b3, rfl, ho3, hb3⟩
    have HL3 := hide (ho3.sl rfl)
    have HX3 := hide (HX2.out.below hb3)
    have HB3 := hide (HB2.out.trans (hb3.mono HB2.out.size))
    clear ho3 hb3 HX2 HG2 HS
    generalize hT : [t0, t1, t2, t3, t4] = T at *
    have HTL := hide (show T.length = 5 by rw [← hT]; rfl)
    clear hT
    have HA0 := hide ((Below.refl w3.heap.size w3).alloc (Nat.le_refl _) (.cells #[] 2))
    have H00 := hide (own_made (enc := encI) (sz := 1) (T := 2) w3 rfl (Nat.le_refl _))
    go_wp2_with fail
    generalize w3.alloc (.cells #[] 2) = w4 at *
    go_loopw [9, 8] (fun v o wr => ∃ (k : Nat) (A : Option Addr) (c : Nat) (ys : List Int), v = .int .i64 k ∧ o = .slice A ys.length c ∧ k ≤ 5 ∧ ys.length = k ∧ Hid (ys = (devs T xs).take k) ∧ Hid (OwnI wr w3.heap.size (.slice A ys.length c) ys) ∧ Hid (Below w3.heap.size w3 wr)) (fun v _ _ => 5 - (intOf v).toNat)
    case atStart => exact ⟨0, _, _, [], rfl, rfl, by omega, rfl, hide (by simp), H00, HA0⟩
    case round =>
      obtain ⟨k, A2, c2, ys, rfl, rfl, hk, hy, HY, HO0, HB⟩ := hrel
      have HLY := hide hy
      by_cases hlt : k < 5
      · obtain ⟨bt, ot, et, hbt, hct⟩ := HL3.out.getA (by have := HTL.out; omega)
        obtain ⟨br, or_, er, hbr, hcr⟩ := HX3.out.getA (by have := HN.out; omega)
        injection et with et; injection et with et1 et2; subst et1; subst et2
        subst er
        have ht := hct k (by have := HTL.out; omega)
        have hr := hcr k (by have := HN.out; omega)
        simp only [Nat.zero_add] at ht
        obtain ⟨g1, g2⟩ := HT.out k hlt
        obtain ⟨g3, g4⟩ := HIF.out k hlt
        have HN2 := hide (show ys ++ [ctB (ig T k) (ig xs k)] = (devs T xs).take (k + 1) from by rw [HY.out, devs_take T xs k hlt])
        have HC := hide (fun W => specl02Between_is (ig T k) (ig xs k) W g1 g2 g3 g4)
        have hki : (k : Int) < 5 := by omega
        have hk0 : (0 : Int) ≤ k := by omega
        clear hct hcr hy HY
        generalize ctB (ig T k) (ig xs k) = d at *
        generalize ig T k = f at *
        generalize ig xs k = g at *
        have P1 : ∀ w', Below w3.heap.size w3 w' → w'.cell? ⟨b3, k, none⟩ = some (.int .i64 f) := fun w' hb => (hb.cell (p := ⟨b3, k, none⟩) hbt).trans ht
        have P2 : ∀ w', Below w3.heap.size w3 w' → w'.cell? ⟨br, or_ + k, none⟩ = some (.int .i64 g) := fun w' hb => (hb.cell (p := ⟨br, or_ + k, none⟩) hbr).trans hr
        have HO := hide (show OwnI wr.drew w3.heap.size (.slice A2 ys.length c2) ys from HO0.out)
        clear ht hr
        have hzw := HB.out.size
        go_upto_region 9 with fail
        refine wp_region_noPanic ?_
        refine wp_region_held_drew (S := (fun w' => Below w3.heap.size w3 w')) (by kernel_rfl) (HB.out.drew) (fun hHeld => ?_)
        refine wpAnyH_take (i := 0) (oi := ?o0_1) (v := ?v0_1) ?hi0_1 ?hs0_1 ?hf0_1 ?hr0_1 (fun _ _ _ h => h) ?hy0_1 (by assumption) ?hh0_1
        case hi0_1 => ((simp only [List.getElem?_toArray, List.getElem?_cons_zero]); rfl)
        case hs0_1 => kernel_rfl
        case hf0_1 => kernel_rfl
        case hr0_1 => kernel_rfl
        case hy0_1 => exact Or.inl ⟨by rfl, by (intro wq hSw; (try dsimp only at hSw); go_simp; (try with_reducible rfl))⟩
        try simp only [Act.put, List.setIfInBounds_toArray, List.set_cons_zero, List.set_cons_succ]
        refine wpAnyH_take (i := 1) (oi := ?o1_2) (v := ?v1_2) ?hi1_2 ?hs1_2 ?hf1_2 ?hr1_2 (fun _ _ _ h => h) ?hy1_2 (by assumption) ?hh1_2
        case hi1_2 => ((simp only [List.getElem?_toArray, List.getElem?_cons_succ, List.getElem?_cons_zero]); rfl)
        case hs1_2 => kernel_rfl
        case hf1_2 => kernel_rfl
        case hr1_2 => kernel_rfl
        case hy1_2 => exact Or.inl ⟨by rfl, by (intro wq hSw; (try dsimp only at hSw); go_simp; (try with_reducible rfl))⟩
        try simp only [Act.put, List.setIfInBounds_toArray, List.set_cons_zero, List.set_cons_succ]
        refine wpAnyH_take (i := 2) (oi := ?o2_3) (v := ?v2_3) ?hi2_3 ?hs2_3 ?hf2_3 ?hr2_3 (fun _ _ _ h => h) ?hy2_3 (by assumption) ?hh2_3
        case hi2_3 => ((simp only [List.getElem?_toArray, List.getElem?_cons_succ, List.getElem?_cons_zero]); rfl)
        case hs2_3 => kernel_rfl
        case hf2_3 => kernel_rfl
        case hr2_3 => kernel_rfl
        case hy2_3 => exact Or.inl ⟨by rfl, by (intro wq hSw; (try dsimp only at hSw); go_simp; (try with_reducible rfl))⟩
        try simp only [Act.put, List.setIfInBounds_toArray, List.set_cons_zero, List.set_cons_succ]
        refine wpAnyH_take (i := 3) (oi := ?o3_4) (v := ?v3_4) ?hi3_4 ?hs3_4 ?hf3_4 ?hr3_4 (fun _ _ _ h => h) ?hy3_4 (by assumption) ?hh3_4
        case hi3_4 => ((simp only [List.getElem?_toArray, List.getElem?_cons_succ, List.getElem?_cons_zero]); rfl)
        case hs3_4 => kernel_rfl
        case hf3_4 => kernel_rfl
        case hr3_4 => kernel_rfl
        case hy3_4 => exact Or.inl ⟨by rfl, by (intro wq hSw; (try dsimp only at hSw); go_simp; (try with_reducible rfl))⟩
        try simp only [Act.put, List.setIfInBounds_toArray, List.set_cons_zero, List.set_cons_succ]
        refine wpAnyH_take (i := 4) (oi := ?o4_5) (v := ?v4_5) ?hi4_5 ?hs4_5 ?hf4_5 ?hr4_5 (fun _ _ _ h => h) ?hy4_5 (by assumption) ?hh4_5
        case hi4_5 => ((simp only [List.getElem?_toArray, List.getElem?_cons_succ, List.getElem?_cons_zero]); rfl)
        case hs4_5 => kernel_rfl
        case hf4_5 => kernel_rfl
        case hr4_5 => kernel_rfl
        case hy4_5 => exact Or.inl ⟨by rfl, by (intro wq hSw; (try dsimp only at hSw); go_simp; (try with_reducible rfl))⟩
        try simp only [Act.put, List.setIfInBounds_toArray, List.set_cons_zero, List.set_cons_succ]
        refine wpAnyH_take (i := 5) (oi := ?o5_6) (v := ?v5_6) ?hi5_6 ?hs5_6 ?hf5_6 ?hr5_6 (fun _ _ _ h => h) ?hy5_6 (by assumption) ?hh5_6
        case hi5_6 => ((simp only [List.getElem?_toArray, List.getElem?_cons_succ, List.getElem?_cons_zero]); rfl)
        case hs5_6 => kernel_rfl
        case hf5_6 => kernel_rfl
        case hr5_6 => kernel_rfl
        case hy5_6 => exact Or.inl ⟨by rfl, by (intro wq hSw; (try dsimp only at hSw); go_simp; (try with_reducible rfl))⟩
        try simp only [Act.put, List.setIfInBounds_toArray, List.set_cons_zero, List.set_cons_succ]
        refine wpAnyH_take (i := 6) (oi := ?o6_7) (v := ?v6_7) ?hi6_7 ?hs6_7 ?hf6_7 ?hr6_7 (fun _ _ _ h => h) ?hy6_7 (by assumption) ?hh6_7
        case hi6_7 => ((simp only [List.getElem?_toArray, List.getElem?_cons_succ, List.getElem?_cons_zero]); rfl)
        case hs6_7 => kernel_rfl
        case hf6_7 => kernel_rfl
        case hr6_7 => kernel_rfl
        case hy6_7 => exact Or.inl ⟨by rfl, by (intro wq hSw; (try dsimp only at hSw); go_simp; (try with_reducible rfl))⟩
        try simp only [Act.put, List.setIfInBounds_toArray, List.set_cons_zero, List.set_cons_succ]
        refine wpAnyH_take (i := 7) (oi := ?o7_8) (v := ?v7_8) ?hi7_8 ?hs7_8 ?hf7_8 ?hr7_8 (fun _ _ _ h => h) ?hy7_8 (by assumption) ?hh7_8
        case hi7_8 => ((simp only [List.getElem?_toArray, List.getElem?_cons_succ, List.getElem?_cons_zero]); rfl)
        case hs7_8 => kernel_rfl
        case hf7_8 => kernel_rfl
        case hr7_8 => kernel_rfl
        case hy7_8 => exact Or.inl ⟨by rfl, by (intro wq hSw; (try dsimp only at hSw); go_simp; (try with_reducible rfl))⟩
        try simp only [Act.put, List.setIfInBounds_toArray, List.set_cons_zero, List.set_cons_succ]
        refine wpAnyH_take (i := 8) (oi := ?o8_9) (v := ?v8_9) ?hi8_9 ?hs8_9 ?hf8_9 ?hr8_9 (fun _ _ _ h => h) ?hy8_9 (by assumption) ?hh8_9
        case hi8_9 => ((simp only [List.getElem?_toArray, List.getElem?_cons_succ, List.getElem?_cons_zero]); rfl)
        case hs8_9 => kernel_rfl
        case hf8_9 => kernel_rfl
        case hr8_9 => kernel_rfl
        case hy8_9 => exact Or.inl ⟨by rfl, by (intro wq hSw; (try dsimp only at hSw); go_simp; (try with_reducible rfl))⟩
        try simp only [Act.put, List.setIfInBounds_toArray, List.set_cons_zero, List.set_cons_succ]
        refine wpAnyH_ready (rs := [9]) (by kernel_rfl) (by simp) ?_
        refine AllReadyH.cons (o := ?o9_10) ?hi9_10 (fun K hK => ?hh9_10) AllReadyH.nil
        case hi9_10 => ((simp only [List.getElem?_toArray, List.getElem?_cons_succ, List.getElem?_cons_zero]); rfl)
        go_simp
        (go_at_call 176; refine (HC.out _).mono ?_; rintro e w5 ⟨rfl, rfl⟩)
        (try dsimp only)
        refine hK.out _ _ (hHeld) (fun hHeld2 => ?_)
        clear hK K hHeld
        have hHeld := hHeld2
        clear hHeld2
        try simp only [Act.put, List.setIfInBounds_toArray, List.set_cons_zero, List.set_cons_succ]
        refine wpAnyH_ready (rs := [10]) (by kernel_rfl) (by simp) ?_
        refine AllReadyH.cons (o := ?o10_11) ?hi10_11 (fun K hK => ?hh10_11) AllReadyH.nil
        case hi10_11 => ((simp only [List.getElem?_toArray, List.getElem?_cons_succ, List.getElem?_cons_zero]); rfl)
        go_simp
        refine hK.out _ _ (hHeld.alloc hHeld.size _) (fun hHeld2 => ?_)
        clear hK K hHeld
        have hHeld := hHeld2
        clear hHeld2
        try simp only [Act.put, List.setIfInBounds_toArray, List.set_cons_zero, List.set_cons_succ]
        refine wpAnyH_ready (rs := [11]) (by kernel_rfl) (by simp) ?_
        refine AllReadyH.cons (o := ?o11_12) ?hi11_12 (fun K hK => ?hh11_12) AllReadyH.nil
        case hi11_12 => ((simp only [List.getElem?_toArray, List.getElem?_cons_succ, List.getElem?_cons_zero]); rfl)
        refine step_appI (by rfl) _ _ (by rfl) w3.heap.size (by rfl) HO.out (by rfl) (by have := HLY.out; omega) (by simpa using hzw) ?_; intro A6 c6 w6 ho6 hb6 _; have HO6 := hide ho6; have HB6 := hide (hHeld.trans hb6); clear ho6 hb6
        refine hK.out _ _ (HB6.out) (fun hHeld2 => ?_)
        clear hK K hHeld
        have hHeld := hHeld2
        clear hHeld2
        try simp only [Act.put, List.setIfInBounds_toArray, List.set_cons_zero, List.set_cons_succ]
        refine wpAnyH_take (i := 12) (oi := ?o12_13) (v := ?v12_13) ?hi12_13 ?hs12_13 ?hf12_13 ?hr12_13 (fun _ _ _ h => h) ?hy12_13 (by assumption) ?hh12_13
        case hi12_13 => ((simp only [List.getElem?_toArray, List.getElem?_cons_succ, List.getElem?_cons_zero]); rfl)
        case hs12_13 => kernel_rfl
        case hf12_13 => kernel_rfl
        case hr12_13 => kernel_rfl
        case hy12_13 => exact Or.inl ⟨by rfl, by (intro wq hSw; (try dsimp only at hSw); go_simp; (try with_reducible rfl))⟩
        try simp only [Act.put, List.setIfInBounds_toArray, List.set_cons_zero, List.set_cons_succ]
        refine wpAnyH_done (by kernel_rfl) ?_ _
        refine NoPanic.normal ?_
        go_wp2_with fail
        go_roundw
        case rel => exact ⟨k + 1, A6, c6, ys ++ [d], by go_num, by simp, by omega, by simp [HLY.out], HN2, hide (by simpa using HO6.out), HB6⟩
        case measure => simp [intOf]; omega
      · have he : ys = devs T xs := by rw [HY.out, List.take_of_length_le (by rw [devs_length]; omega)]
        obtain rfl : k = 5 := by omega
        have HE := hide HB3.out.size
        clear hy HLY HY
        subst he
        go_wp2_with fail
        go_ret2
        exact ⟨A2, c2, devs T xs, by simp [HSO.out], fun _ => rfl, HO0.out.mono HE.out, HB3.out.trans (HB.out.mono HE.out)⟩
end Go.Proofs.YtnefgafmnpblpaaGreat
