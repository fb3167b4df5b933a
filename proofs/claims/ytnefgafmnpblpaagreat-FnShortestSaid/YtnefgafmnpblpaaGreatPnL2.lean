/- The walk of laws.FnShortest out of contracts. -/
import Derived.Test.YtnefgafmnpblpaaGreatPnE9
import Derived.Test.YtnefgafmnpblpaaGreatPnJ6
import Derived.Deep.DeepCutAuto
namespace Go.Proofs.YtnefgafmnpblpaaGreat
open Go.RowKit Pn

theorem b10Long_is (A : Option Addr) (n c : Nat) (w : World) : Calls Tryz.prog 8 #[.slice A n c] w fun e w' => e = .returned (.bool (decide ((1048576 : Int) < n))) ∧ w = w' := by
  by_cases h : (1048576 : Int) < n
  all_goals
    go_enter Tryz.func8, Tryz.ntmps8
    go_wp2
    go_ret
    exact ⟨by simp [*], rfl⟩
theorem firstP_bare (x : Cx) (bud : Int) : firstP x.bare bud = firstP x bud := rfl
theorem ser_vals {x : Cx} {bud : Int} (h : x.ser bud ≠ 0) : x.ser bud = 1 ∨ x.ser bud = 2 := by
  unfold Cx.ser serB at h ⊢
  by_cases ha : aimB x.zs x.ws x.bs x.nm x.rs x.t x.tol x.most = 0
  · rw [if_pos ha] at h ⊢
    split at h
    · exact absurd rfl h
    · rename_i hb; rw [if_neg hb]; exact .inr rfl
  · rw [if_neg ha] at h ⊢
    unfold aimB at h ⊢
    split at h
    · rename_i hg
      rw [if_pos hg]
      rcases ask_vals (zs := x.zs) (ws := x.ws) (bs := x.bs) (nm := x.nm) (rs := x.rs) with e | e | e
      · exact absurd e h
      · exact .inl e
      · exact .inr e
    · rename_i hg; rw [if_neg hg]; exact .inl rfl
theorem closeP_bare (x : Cx) (bud : Int) : closeP x.bare bud = closeP x bud := rfl
/-- What the law asks, at valid arguments. -/
structure ShortSay (x : Cx) (xs1 : List CutR) (c1 : Int) (xs2 : List CutR) (c2 : Int) (xs3 : List CutR) (c3 : Int) (xs4 : List CutR) (d4 c4 : Int) : Prop where
  n1 : c1 ≠ 1 ∧ c1 ≠ 2
  a : c1 = 0 → c2 ≠ 3 ∧ ∃ l, x.plan l = true ∧ CutIn x l xs1 ∧ (c2 = 0 → ∃ l2, CutIn x l2 xs2 ∧ sumA l ≤ sumA l2) ∧ (c3 = 0 → ∃ l3, CutIn x l3 xs3 ∧ sumA l ≤ sumA l3)
  g : c3 = 0 → c1 ≠ 3 ∧ ∃ l3, x.plan l3 = true ∧ CutIn x l3 xs3
  n : c4 = 0 → ∃ l4, x.snd l4 = true ∧ CutIn x l4 xs4 ∧ d4 = x.dev l4 ∧ (c1 = 0 → x.dev l4 ≤ x.tol) ∧ (x.dev l4 ≤ x.tol → c1 ≠ 3)
  z : c4 = 3 → c1 ≠ 0
theorem short_says {x : Cx} {bud : Int} {xs1 xs2 xs3 xs4 : List CutR} {c1 c2 c3 c4 d4 : Int} (h0 : x.ser bud = 0) (h1 : ShortOK x xs1 c1) (h2 : firstP x bud = (xs2, c2)) (h3 : c3 = 0 → ∃ l, x.plan l = true ∧ CutIn x l xs3) (h4 : closeP x bud = (xs4, d4, c4)) : ShortSay x xs1 c1 xs2 c2 xs3 c3 xs4 d4 c4 := by
  obtain ⟨ha, hg⟩ := aim_ok (ser_aim h0)
  have hf := firstP_says (x := x) (bud := bud) h0
  have hc := closeP_says (x := x) (bud := bud) h0
  rw [h2] at hf
  rw [h4] at hc
  simp only at hf hc
  have mk : ∀ l xs, Full x l → xs = cutsB l → CutIn x l xs := fun l xs hl e => by subst e; exact ⟨ha, hg, hl, hl.cuts hg.most.1 ha.z.len8⟩
  have no3 : ∀ l, Full x l → x.plan l = true → c1 ≠ 3 := fun l hl hp e => by
    rcases h1 with ⟨_, q | ⟨_, q⟩⟩ | ⟨q, _⟩
    · omega
    · rw [q l hl] at hp; cases hp
    · omega
  refine ⟨?_, fun e => ?_, fun e => ?_, fun e => ?_, fun e => ?_⟩
  · rcases h1 with ⟨_, q | ⟨q, _⟩⟩ | ⟨q, _⟩ <;> omega
  · rcases h1 with ⟨_, q | ⟨q, _⟩⟩ | ⟨_, l, hl, hp, e1, hm⟩
    · omega
    · omega
    · refine ⟨fun e3 => ?_, l, hp, mk l _ hl e1, fun e2 => ?_, fun e3 => ?_⟩
      · rcases hf with ⟨_, q | ⟨_, q⟩⟩ | ⟨q, _⟩
        · omega
        · rw [q l hl] at hp; cases hp
        · omega
      · rcases hf with ⟨_, q | ⟨q, _⟩⟩ | ⟨_, l2, hl2, hp2, e4⟩
        · omega
        · omega
        · exact ⟨l2, mk l2 _ hl2 e4, hm l2 hl2 hp2⟩
      · obtain ⟨l3, hp3, hi3⟩ := h3 e3
        exact ⟨l3, hi3, hm l3 hi3.full hp3⟩
  · obtain ⟨l3, hp3, hi3⟩ := h3 e
    exact ⟨no3 l3 hi3.full hp3, l3, hp3, hi3⟩
  · rcases hc with ⟨_, q | ⟨q, _⟩⟩ | ⟨_, l4, hl4, hs4, e4, ed, hm⟩
    · omega
    · omega
    · refine ⟨l4, hs4, mk l4 _ hl4 e4, ed, fun e1 => ?_, fun hd => no3 l4 hl4 (by rw [snd_plan hs4]; simpa using hd)⟩
      rcases h1 with ⟨_, q | ⟨q, _⟩⟩ | ⟨_, l, hl, hp, _, _⟩
      · omega
      · omega
      · have := plan_snd hp
        have := hm l hl this.1
        omega
  · rcases hc with ⟨_, q | ⟨_, q⟩⟩ | ⟨q, _⟩
    · omega
    · intro e1
      rcases h1 with ⟨_, q2 | ⟨q2, _⟩⟩ | ⟨_, l, hl, hp, _, _⟩
      · omega
      · omega
      · have := (plan_snd hp).1
        rw [q l hl] at this; cases this
    · omega
theorem total_is {x : Cx} {l : List Int} {xs : List CutR} (A : Option Addr) (c : Nat) (w : World) (h : SlAt encCut 2 w A xs) (HC : Hid (CutIn x l xs)) :
    Calls Tryz.prog 14 #[.slice A xs.length c] w fun e w' => e = .returned (.tuple #[.int .i64 (sumA l), .int .i64 0]) ∧ w = w' := by
  have hh := specTotalSteps_ok A c _ xs w h (hide HC.out.of.ok)
  rw [HC.out.of.tot] at hh
  exact hh
set_option maxRecDepth 100000 in
set_option maxHeartbeats 4000000 in
theorem lawFnShortest (A : Option Addr) (n c : Nat) (w : World) (h : ByAt w w.heap.size A n) (hn : n ≤ 9223372036854775807) :
    Calls Tryz.prog 3 #[.slice A n c] w fun e w' => e = .returned (.bool true) ∧ Below w.heap.size w w' := by
  have HX := hide h
  clear h
  go_enter Tryz.func3, Tryz.ntmps3
  go_wp2_with fail
  refine (b10Long_is A n c w).mono ?_
  rintro e w0 ⟨rfl, rfl⟩
  cases hq : decide ((1048576 : Int) < n)
  · clear hq
    go_wp2_with fail
    refine (specDrawShortestPlan_is A n c w HX.out hn).mono ?_
    rintro e w1 ⟨x, bud, rfl, hI, hcap, hb1⟩
    have HI := hide hI
    have B1 := hide hb1
    have HB := hide (Bx.new hI)
    clear hI hcap hb1 HX
    go_upto_region 4 with fail
    generalize (((w1.alloc (.cells #[.slice x.Az x.zs.length x.cz, .slice x.Aw x.ws.length x.cw, .slice x.Ab x.bs.length x.cb] 27)).alloc (.cells #[.string x.nm, .slice x.A x.rs.length x.c] 30)).alloc (.cells #[.int .i64 x.t0, .int .i64 x.t1, .int .i64 x.t2, .int .i64 x.t3, .int .i64 x.t4, .int .i64 x.tol, .int .i64 x.most] 34)) = w2 at *
    have BB := hide (fun W (hb : Bx x w1 W) => show Below w.heap.size w W from B1.out.trans (hb.b.bel.mono B1.out.size))
    clear B1
    obtain ⟨c0, c1, c2, p0, p1, g0, g1, g2, g3, g4, g5, g6⟩ := HB.out.cells
    have m0 := HB.out.b.m.lt
    have m1 := HB.out.b.p.lt
    have HI2 := hide (HB.out.in_ HI.out)
    go_wp2_with fail
    refine (implShortestPlan_x bud HI2).mono ?_
    rintro e w3 ⟨A3, u3, xs1, one, rfl, h1, hl1, ho3, hb3⟩
    have H1 := hide h1
    have F3 := hide (Own.at_ (enc := encCut) (fun _ => rfl) ho3)
    have HB3 := hide (HB.out.below hb3)
    have HI3 := hide (HB3.out.in_ HI.out)
    clear h1 ho3 hb3 c0 c1 c2 p0 p1 g0 g1 g2 g3 g4 g5 g6 m0 m1 HB HI2
    obtain ⟨c0, c1, c2, p0, p1, g0, g1, g2, g3, g4, g5, g6⟩ := HB3.out.cells
    have m0 := HB3.out.b.m.lt
    have m1 := HB3.out.b.p.lt
    go_wp2_with fail
    refine (implFirstPlan_x bud HI3).mono ?_
    rintro e w4 ⟨A4, u4, xs2, cod2, rfl, h2, hl2, ho4, hb4⟩
    rw [firstP_bare] at h2
    have H2 := hide h2
    have F4 := hide (Own.at_ (enc := encCut) (fun _ => rfl) ho4)
    have G4 := hide (F3.out.below hb4)
    have HB4 := hide (HB3.out.below hb4)
    have HI4 := hide (HB4.out.in_ HI.out)
    clear h2 ho4 hb4 c0 c1 c2 p0 p1 g0 g1 g2 g3 g4 g5 g6 m0 m1 HB3 HI3 F3
    obtain ⟨c0, c1, c2, p0, p1, g0, g1, g2, g3, g4, g5, g6⟩ := HB4.out.cells
    have m0 := HB4.out.b.m.lt
    have m1 := HB4.out.b.p.lt
    go_wp2_with fail
    refine (implGreedyPlan_x HI4).mono ?_
    rintro e w5 ⟨A5, u5, xs3, three, rfl, h3, -, hl3, ho5, hb5⟩
    have H3 := hide h3
    have F5 := hide (Own.at_ (enc := encCut) (fun _ => rfl) ho5)
    have G5 := hide (G4.out.below hb5)
    have E5 := hide (F4.out.below hb5)
    have HB5 := hide (HB4.out.below hb5)
    have HI5 := hide (HB5.out.in_ HI.out)
    clear h3 ho5 hb5 c0 c1 c2 p0 p1 g0 g1 g2 g3 g4 g5 g6 m0 m1 HB4 HI4 F4 G4
    obtain ⟨c0, c1, c2, p0, p1, g0, g1, g2, g3, g4, g5, g6⟩ := HB5.out.cells
    have m0 := HB5.out.b.m.lt
    have m1 := HB5.out.b.p.lt
    go_wp2_with fail
    refine (implClosestPlan_x bud HI5).mono ?_
    rintro e w6 ⟨A6, u6, xs4, val, four, rfl, h4, hl4, ho6, hb6⟩
    rw [closeP_bare] at h4
    have H4 := hide h4
    have F6 := hide (Own.at_ (enc := encCut) (fun _ => rfl) ho6)
    have G6 := hide (G5.out.below hb6)
    have E6 := hide (E5.out.below hb6)
    have D6 := hide (F5.out.below hb6)
    have HB6 := hide (HB5.out.below hb6)
    have HI6 := hide (HB6.out.in_ HI.out)
    clear h4 ho6 hb6 c0 c1 c2 p0 p1 g0 g1 g2 g3 g4 g5 g6 m0 m1 HB5 HI5 F5 G5 E5
    by_cases h0 : x.ser bud = 0
    · have h1 : ShortOK x xs1 one := by
        rcases H1.out with ⟨q, _⟩ | ⟨_, q⟩
        · exact absurd h0 q
        · exact q
      have HSY := hide (short_says h0 h1 H2.out H3.out H4.out)
      clear h1 H1 H2 H3 H4 h0
      have hn1 : (one == 1) = false := by simpa using HSY.out.n1.1
      have hn2 : (one == 2) = false := by simpa using HSY.out.n1.2
      go_upto_if 79 with fail
      clear hn1 hn2
      go_cut [16] (fun _ wx => Hid (Below w6.heap.size w6 wx))
      case first =>
        by_cases ho : one = 0
        · obtain ⟨hc23, l1, hp1, hi1, hf2, hf3⟩ := HSY.out.a ho
          subst ho
          have HP1 := hide hp1
          have HI1 := hide hi1
          have HS1 := hide (plan_snd hp1).1
          have HF2 := hide hf2
          have HF3 := hide hf3
          have h23 : (cod2 == 3) = false := by simpa using hc23
          clear hp1 hi1 hf2 hf3 hc23
          obtain ⟨s1, hs1⟩ : ∃ s1, s1 = sumA l1 := ⟨_, rfl⟩
          have HT1 := hide (show Calls Tryz.prog 14 #[.slice A3 xs1.length u3] w6 fun e w' => e = .returned (.tuple #[.int .i64 s1, .int .i64 0]) ∧ w6 = w' from by rw [hs1]; exact total_is A3 u3 w6 G6.out HI1)
          have HE1 := hide hs1
          clear hs1
          obtain ⟨c0, c1, c2, p0, p1, g0, g1, g2, g3, g4, g5, g6⟩ := HB6.out.cells
          have m0 := HB6.out.b.m.lt
          have m1 := HB6.out.b.p.lt
          go_wp2_with fail
          refine HT1.out.mono ?_
          rintro e w7 ⟨rfl, rfl⟩
          dsimp only
          go_wp2_with fail
          refine (implIsPlan_ok A3 u3 w6 HI6 G6.out HI1 HS1).mono ?_
          rintro e w8 ⟨rfl, hb8⟩
          rw [HP1.out]
          have HB8 := hide hb8
          have E8 := hide (E6.out.below hb8)
          have D8 := hide (D6.out.below hb8)
          clear hb8 HT1 c0 c1 c2 p0 p1 g0 g1 g2 g3 g4 g5 g6 m0 m1
          by_cases hc2 : cod2 = 0
          · obtain ⟨l2, hi2, hle2⟩ := HF2.out hc2
            subst hc2
            obtain ⟨s2, hs2⟩ : ∃ s2, s2 = sumA l2 := ⟨_, rfl⟩
            have HT2 := hide (show Calls Tryz.prog 14 #[.slice A4 xs2.length u4] w8 fun e w' => e = .returned (.tuple #[.int .i64 s2, .int .i64 0]) ∧ w8 = w' from by rw [hs2]; exact total_is A4 u4 w8 E8.out (hide hi2))
            have h12 : s1 ≤ s2 := by rw [HE1.out, hs2]; exact hle2
            clear hs2 hi2 hle2
            go_wp2_with fail
            refine HT2.out.mono ?_
            rintro e w9 ⟨rfl, rfl⟩
            dsimp only
            clear HT2
            by_cases hc3 : three = 0
            · obtain ⟨l3, hi3, hle3⟩ := HF3.out hc3
              subst hc3
              obtain ⟨s3, hs3⟩ : ∃ s3, s3 = sumA l3 := ⟨_, rfl⟩
              have HT3 := hide (show Calls Tryz.prog 14 #[.slice A5 xs3.length u5] w8 fun e w' => e = .returned (.tuple #[.int .i64 s3, .int .i64 0]) ∧ w8 = w' from by rw [hs3]; exact total_is A5 u5 w8 D8.out (hide hi3))
              have h13 : s1 ≤ s3 := by rw [HE1.out, hs3]; exact hle3
              clear hs3 hi3 hle3
              go_wp2_with fail
              refine HT3.out.mono ?_
              rintro e w10 ⟨rfl, rfl⟩
              dsimp only
              clear HT3
              go_wp2_with fail
              go_meet
              exact HB8
            · have h3z : (three == 0) = false := by simpa using hc3
              clear hc3
              go_wp2_with fail
              go_meet
              exact HB8
          · have h2z : (cod2 == 0) = false := by simpa using hc2
            clear hc2
            by_cases hc3 : three = 0
            · obtain ⟨l3, hi3, hle3⟩ := HF3.out hc3
              subst hc3
              obtain ⟨s3, hs3⟩ : ∃ s3, s3 = sumA l3 := ⟨_, rfl⟩
              have HT3 := hide (show Calls Tryz.prog 14 #[.slice A5 xs3.length u5] w8 fun e w' => e = .returned (.tuple #[.int .i64 s3, .int .i64 0]) ∧ w8 = w' from by rw [hs3]; exact total_is A5 u5 w8 D8.out (hide hi3))
              have h13 : s1 ≤ s3 := by rw [HE1.out, hs3]; exact hle3
              clear hs3 hi3 hle3
              go_wp2_with fail
              refine HT3.out.mono ?_
              rintro e w10 ⟨rfl, rfl⟩
              dsimp only
              clear HT3
              go_wp2_with fail
              go_meet
              exact HB8
            · have h3z : (three == 0) = false := by simpa using hc3
              clear hc3
              go_wp2_with fail
              go_meet
              exact HB8
        · have h1z : (one == 0) = false := by simpa using ho
          clear ho
          go_wp2_with fail
          go_meet
          exact hide (Below.refl _ _)
      case rest =>
        obtain ⟨w7, rfl⟩ : ∃ w7, w7 = wc := ⟨_, rfl⟩
        have HB7 := hide (HB6.out.below hcut.out)
        have HI7 := hide (HB7.out.in_ HI.out)
        have F7 := hide (F6.out.below hcut.out)
        have D7 := hide (D6.out.below hcut.out)
        clear hcut HB6 HI6 F6 D6 E6 G6
        go_upto_region 22 with fail
        go_cut [140] (fun s wx => s = .bool false ∧ Hid (Below w7.heap.size w7 wx))
        case first =>
          by_cases hc3 : three = 0
          · obtain ⟨h13, l3, hp3, hi3⟩ := HSY.out.g hc3
            subst hc3
            have HP3 := hide hp3
            have HI3 := hide hi3
            have HS3 := hide (plan_snd hp3).1
            have h1t : (one == 3) = false := by simpa using h13
            clear hp3 hi3 h13
            obtain ⟨c0, c1, c2, p0, p1, g0, g1, g2, g3, g4, g5, g6⟩ := HB7.out.cells
            have m0 := HB7.out.b.m.lt
            have m1 := HB7.out.b.p.lt
            go_wp2_with fail
            refine (implIsPlan_ok A5 u5 w7 HI7 D7.out HI3 HS3).mono ?_
            rintro e w8 ⟨rfl, hb8⟩
            rw [HP3.out]
            have HB8 := hide hb8
            clear hb8 c0 c1 c2 p0 p1 g0 g1 g2 g3 g4 g5 g6 m0 m1
            go_wp2_with fail
            go_meet
            exact ⟨rfl, HB8⟩
          · have h3z : (three == 0) = false := by simpa using hc3
            clear hc3
            go_wp2_with fail
            go_meet
            exact ⟨rfl, hide (Below.refl _ _)⟩
        case rest =>
          obtain ⟨w8, rfl⟩ : ∃ w8, w8 = wc := ⟨_, rfl⟩
          obtain ⟨rfl, hcb⟩ := hcut
          have HB8 := hide (HB7.out.below hcb.out)
          have HI8 := hide (HB8.out.in_ HI.out)
          have F8 := hide (F7.out.below hcb.out)
          clear hcb HB7 HI7 F7 D7
          by_cases hc4 : four = 0
          · obtain ⟨l4, hs4, hi4, hd4, ha4, hb4⟩ := HSY.out.n hc4
            subst hc4
            have HI4 := hide hi4
            have HS4 := hide hs4
            obtain ⟨bp, hbp⟩ : ∃ bp, bp = x.plan l4 := ⟨_, rfl⟩
            have hbd : bp = decide (val ≤ x.tol) := by rw [hbp, snd_plan hs4, hd4]
            have HA4 := hide (show one = 0 → val ≤ x.tol from by rw [hd4]; exact ha4)
            have HB4 := hide (show val ≤ x.tol → one ≠ 3 from by rw [hd4]; exact hb4)
            have HIP := hide (show Calls Tryz.prog 15 #[.agg #[.slice x.Az x.zs.length x.cz, .slice x.Aw x.ws.length x.cw, .slice x.Ab x.bs.length x.cb], .agg #[.string x.nm, .slice x.A x.rs.length x.c], .agg #[.int .i64 x.t0, .int .i64 x.t1, .int .i64 x.t2, .int .i64 x.t3, .int .i64 x.t4, .int .i64 x.tol, .int .i64 x.most], .slice A6 xs4.length u6] w8 fun e w' => e = .returned (.bool bp) ∧ Below w8.heap.size w8 w' from by rw [hbp]; exact implIsPlan_ok A6 u6 w8 HI8 F8.out HI4 HS4)
            clear hs4 hi4 hd4 ha4 hb4 hbp HSY
            obtain ⟨c0, c1, c2, p0, p1, g0, g1, g2, g3, g4, g5, g6⟩ := HB8.out.cells
            have m0 := HB8.out.b.m.lt
            have m1 := HB8.out.b.p.lt
            go_wp2_with fail
            refine HIP.out.mono ?_
            rintro e w9 ⟨rfl, hb9⟩
            have HB9 := hide (HB8.out.below hb9)
            clear hb9 c0 c1 c2 p0 p1 g0 g1 g2 g3 g4 g5 g6 m0 m1 HIP
            obtain ⟨c0, c1, c2, p0, p1, g0, g1, g2, g3, g4, g5, g6⟩ := HB9.out.cells
            have m0 := HB9.out.b.m.lt
            have m1 := HB9.out.b.p.lt
            cases hv : decide (val ≤ x.tol)
            · rw [hv] at hbd
              subst hbd
              have ho : ¬ one = 0 := fun q => by have := HA4.out q; simp at hv; omega
              by_cases ht : one = 3
              · subst ht
                clear ho HA4 HB4
                go_wp2_with fail
                go_ret
                exact ⟨rfl, BB.out _ HB9.out⟩
              · have h1z : (one == 0) = false := by simpa using ho
                have h1t : (one == 3) = false := by simpa using ht
                go_wp2_with fail
                go_ret
                exact ⟨rfl, BB.out _ HB9.out⟩
            · rw [hv] at hbd
              subst hbd
              have ho : ¬ one = 3 := HB4.out (by simpa using hv)
              by_cases ht : one = 0
              · subst ht
                clear ho HA4 HB4
                go_wp2_with fail
                go_ret
                exact ⟨rfl, BB.out _ HB9.out⟩
              · have h1z : (one == 0) = false := by simpa using ht
                have h1t : (one == 3) = false := by simpa using ho
                go_wp2_with fail
                go_ret
                exact ⟨rfl, BB.out _ HB9.out⟩
          · have h4z : (four == 0) = false := by simpa using hc4
            by_cases h43 : four = 3
            · have ho : ¬ one = 0 := HSY.out.z h43
              subst h43
              have h1z : (one == 0) = false := by simpa using ho
              have HNE := hide (show (one != 0) = true from by simpa using ho)
              clear hc4 h4z
              go_wp2_with fail
              go_ret
              exact ⟨ret_bool HNE.out, BB.out _ HB8.out⟩
            · have h4t : (four == 3) = false := by simpa using h43
              go_wp2_with fail
              go_ret
              exact ⟨rfl, BB.out _ HB8.out⟩
    · have hv := ser_vals h0
      have h1 : xs1 = [] ∧ one = x.ser bud := by
        rcases H1.out with ⟨_, q⟩ | ⟨q, _⟩
        · exact q
        · exact absurd q h0
      have e2 : firstP x bud = ([], x.ser bud) := by unfold firstP; rw [if_neg h0]
      have e4 : closeP x bud = ([], 0, x.ser bud) := by unfold closeP; rw [if_neg h0]
      have q2 := H2.out
      have q4 := H4.out
      rw [e2] at q2
      rw [e4] at q4
      injection q2 with q2 q3
      injection q4 with q4 q5
      injection q5 with q5 q6
      have q1 := h1.2
      generalize x.ser bud = sr at *
      subst q1 q3 q6
      clear H1 H2 H3 H4 e2 e4 q2 q4 q5 h1
      rcases hv with rfl | rfl
      · go_wp2_with fail
        go_ret
        exact ⟨rfl, BB.out _ HB6.out⟩
      · go_wp2_with fail
        go_ret
        exact ⟨rfl, BB.out _ HB6.out⟩
  · go_wp2_with fail
    go_ret
    exact ⟨rfl, Below.refl _ _⟩
end Go.Proofs.YtnefgafmnpblpaaGreat
