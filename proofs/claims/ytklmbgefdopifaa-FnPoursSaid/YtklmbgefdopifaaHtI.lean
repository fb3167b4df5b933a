/- The program's search for schedules: what it leaves is what the plain search says. -/
import Derived.Test.YtklmbgefdopifaaHtR
import Derived.Test.YtklmbgefdopifaaSrc2
import Derived.Deep.DeepCutAuto
namespace Go.Proofs.Ytklmbgefdopifaa
open Go.RowKit

theorem node_none (b : Nat) (s : Bool) (w : World) (c0 : w.cell? ⟨b, 0, none⟩ = some (.int .i64 0)) (c1 : w.cell? ⟨b, 1, none⟩ = some (.bool s)) (f1 : w.frozen? ⟨b, 1, none⟩ = false) :
    Calls Try.prog 105 #[.pointer (some ⟨b, 0, none⟩)] w fun e w' => e = .returned (.bool false) ∧ w.setCell ⟨b, 1, none⟩ (.bool true) = w' := by
  go_enter Try.func105, Try.ntmps105
  go_wp2_with fail
  go_ret
  exact ⟨rfl, rfl⟩
theorem node_some (b : Nat) (n : Int) (w : World) (h0 : n ≠ 0) (h1 : 0 ≤ n) (h2 : n ≤ 1000000000) (c0 : w.cell? ⟨b, 0, none⟩ = some (.int .i64 n)) (f0 : w.frozen? ⟨b, 0, none⟩ = false) :
    Calls Try.prog 105 #[.pointer (some ⟨b, 0, none⟩)] w fun e w' => e = .returned (.bool true) ∧ w.setCell ⟨b, 0, none⟩ (.int .i64 (n - 1)) = w' := by
  have e : (n == 0) = false := by simpa using h0
  clear h0
  go_enter Try.func105, Try.ntmps105
  go_wp2_with fail
  go_ret
  exact ⟨rfl, rfl⟩
theorem heap_set {w : World} {b j : Nat} {vs : Array Value} {T : TypeId} (v : Value) (h : w.heap[b]? = some (.cells vs T (0, 0))) : (w.setCell ⟨b, j, none⟩ v).heap[b]? = some (.cells (vs.setIfInBounds j v) T (0, 0)) := by
  simp [World.setCell, Array.getElem?_modify, h]
theorem own_far {α : Type} {enc : α → List Value} {sz : Nat} {T : TypeId} {w w' : World} {b : Nat} {v : Value} {xs : List α} (h : Own enc sz T w (b + 1) v xs) (hg : w.grownBy w' (some b)) : Own enc sz T w' (b + 1) v xs := by
  refine h.kept hg ?_
  cases e : v.ownBlock with
  | none => exact .inl rfl
  | some g => exact .inr fun q => by injection q with q; have := (h.lt g e).1; omega
/-- A row of heats at every world that may follow. -/
structure RowAt (w : World) (A : Option Addr) (n : Nat) (hs : List HeatR) : Prop where
  len : n = hs.length
  few : hs.length ≤ 12
  at_ : ∀ u : Kept w, SlAt encHeat 4 u.w' A hs
theorem lastE_row {w : World} {A : Option Addr} {n c : Nat} {hs : List HeatR} {v : Int} (h : RowAt w A n hs) (hv : Ht.lastE hs = v) (u : Kept w) : Calls Try.prog 39 #[.slice A n c] u.w' fun e w' => e = .returned (.int .i64 v) ∧ Below u.w'.heap.size u.w' w' := by
  obtain ⟨rfl, hf, ha⟩ := h
  subst hv
  exact implLastEnd A c hs u.w' (ha u) (by omega)
theorem nextHeat_is {x : PourR} {y : CrucR} {fr a b cd : Int} (w : World) (hx : vPourR x = true) (hy : vCrucR y = true) (hs0 : x.nm.size ≤ maxLen) (hs1 : y.nm.size ≤ maxLen) (h0 : y.fr ≤ fr) (h1 : fr ≤ 10000) (h : Ht.nxR x y fr = (a, b, cd)) :
    Calls Try.prog 74 #[.agg #[.string x.nm, .int .i64 x.mass, .int .i64 x.rdy, .int .i64 x.due], .agg #[.string y.nm, .int .i64 y.cap, .int .i64 y.ht, .int .i64 y.fr], .int .i64 fr] w fun e w' => e = .returned (.tuple #[.int .i64 a, .int .i64 b, .int .i64 cd]) ∧ Below w.heap.size w w' := by
  refine (implNextHeat x.nm x.mass x.rdy x.due y.nm y.cap y.ht y.fr fr w hx hy hs0 hs1 h0 h1).mono ?_
  rintro e w' ⟨a', b', cd', h', he, hb⟩
  have q := h.symm.trans h'
  simp only [Prod.mk.injEq] at q
  obtain ⟨rfl, rfl, rfl⟩ := q
  exact ⟨he, hb⟩
theorem hasPour_is (A : Option Addr) (c : Nat) (hs : List HeatR) (p : Int) (v : Bool) (w : World) (h : SlAt encHeat 4 w A hs) (hn : hs.length ≤ 1048576) (hv : Ht.hasP hs p = v) :
    Calls Try.prog 107 #[.slice A hs.length c, .int .i64 p] w fun e w' => e = .returned (.bool v) ∧ Below w.heap.size w w' := by
  subst hv
  exact implhasPour A c hs p w h hn
/-- The searching struct in block b. -/
structure HtI (w0 : World) (b : Nat) (A : Option Addr) (n c : Nat) (A1 : Option Addr) (m c1 : Nat) (first : Bool) (w : World) (s : Ht.S) : Prop where
  st : ∃ bv bc, w.heap[b]? = some (.cells #[.int .i64 s.left, .bool s.spent, .slice A n c, .slice A1 m c1, .bool first, .int .i64 s.count, .slice bv s.best.length bc] 103 (0, 0)) ∧ OwnH w (b + 1) (.slice bv s.best.length bc) s.best
  inv : Ht.Inv s
  bel : Below w0.heap.size w0 w
  hb : w0.heap.size ≤ b
section
variable {w0 : World} {b : Nat} {A A1 : Option Addr} {n c m c1 : Nat} {first : Bool} {w w' : World} {s : Ht.S}
theorem HtI.lt (h : HtI w0 b A n c A1 m c1 first w s) : b < w.heap.size := by
  obtain ⟨bv, bc, h1, _⟩ := h.st
  exact heap_lt h1
theorem HtI.below (h : HtI w0 b A n c A1 m c1 first w s) (hb : Below w.heap.size w w') : HtI w0 b A n c A1 m c1 first w' s := by
  have hl := h.lt
  obtain ⟨bv, bc, h1, h2⟩ := h.st
  exact ⟨⟨bv, bc, (hb.block b hl).trans h1, h2.below hb⟩, h.inv, h.bel.trans (hb.mono h.bel.size), h.hb⟩
end
set_option maxRecDepth 100000 in
set_option maxHeartbeats 8000000 in
theorem hsearch_any (w0 : World) (b : Nat) (A : Option Addr) (c : Nat) (ps : List PourR) (A1 : Option Addr) (c1 : Nat) (cs : List CrucR) (first : Bool) (HX : Hid (SlAt encPour 4 w0 A ps)) (HY : Hid (SlAt encCruc 4 w0 A1 cs)) (HV : Hid (∀ x ∈ ps, vPourR x = true)) (HW : Hid (∀ y ∈ cs, vCrucR y = true)) (HS0 : Hid (∀ x ∈ ps, x.nm.size ≤ maxLen)) (HS1 : Hid (∀ y ∈ cs, y.nm.size ≤ maxLen)) (hn : ps.length ≤ 12) (hm : cs.length ≤ 4) :
    ∀ (f : Nat) (hs : List HeatR) (s : Ht.S) (w : World) (A2 : Option Addr) (c2 : Nat), ps.length < f + hs.length → Hid (HtI w0 b A ps.length c A1 cs.length c1 first w s) → Hid (OwnH w (b + 1) (.slice A2 hs.length c2) hs) → Hid (Ht.GoodH ps cs hs) → hs.length ≤ ps.length →
      Calls Try.prog 91 #[.pointer (some ⟨b, 0, none⟩), .slice A2 hs.length c2] w fun e w' => e = .returned (.tuple #[]) ∧ HtI w0 b A ps.length c A1 cs.length c1 first w' (Ht.srch first (Ht.nx ps cs) ps.length cs.length f hs s) ∧ w.grownBy w' (some b) := by
  intro f
  induction f with
  | zero => intro hs s w A2 c2 hf HS HO HG hle; omega
  | succ f ih =>
    intro hs s w A2 c2 hf HS HO HG hle
    have hbl : b < w.heap.size := HS.out.lt
    cases hen : Ht.ended first s
    · obtain ⟨bv, bc, h1, ho⟩ := HS.out.st
      obtain ⟨left, spent, count, best⟩ := s
      simp only at h1 ho
      obtain rfl : spent = false := by
        unfold Ht.ended at hen
        cases spent
        · rfl
        · simp at hen
      have hfc : (first && decide (0 < count)) = false := by unfold Ht.ended at hen; simpa using hen
      have HE := hide hen
      have g0 : w.cell? ⟨b, 0, none⟩ = some (.int .i64 left) := by simp [World.cell?, h1]
      have g1 : w.cell? ⟨b, 1, none⟩ = some (.bool false) := by simp [World.cell?, h1]
      have g4 : w.cell? ⟨b, 4, none⟩ = some (.bool first) := by simp [World.cell?, h1]
      have g5 : w.cell? ⟨b, 5, none⟩ = some (.int .i64 count) := by simp [World.cell?, h1]
      have f0 : w.frozen? ⟨b, 0, none⟩ = false := by simp [World.frozen?, h1]
      have f1 : w.frozen? ⟨b, 1, none⟩ = false := by simp [World.frozen?, h1]
      by_cases hl0 : left = 0
      · subst hl0
        have hsp := Ht.srch_spent (nx := Ht.nx ps cs) (n := ps.length) (m := cs.length) (f := f) (hs := hs) hen rfl
        have HSP := hide hsp
        have hn0 := node_none b false w g0 g1 f1
        have HN0 := hide hn0
        have GX := hide (grown_set (grown_refl w (some b)) 1 (.bool true))
        have HX2 := hide (heap_set (j := 1) (.bool true) h1)
        have HOB := hide ho
        clear hsp hn0 h1 ho hen ih HX HY HV HW HS0 HS1 HG HO
        cases first
        · go_enter Try.func91, Try.ntmps91
          go_wp2_with (go_at_call 105; refine HN0.out.mono ?_; rintro e w2 ⟨rfl, rfl⟩)
          ((try simp only [Exit.inBlock, Exit.then]); refine bodyPost_ret (results_none rfl _ _ _) rfl ?_)
          exact ⟨rfl, by rw [HSP.out]; exact ⟨⟨bv, bc, HX2.out, own_far HOB.out GX.out⟩, HS.out.inv, HS.out.bel.setCell HS.out.hb _, HS.out.hb⟩, GX.out⟩
        · have hc : decide (0 < count) = false := by simpa using hfc
          go_enter Try.func91, Try.ntmps91
          go_wp2_with (go_at_call 105; refine HN0.out.mono ?_; rintro e w2 ⟨rfl, rfl⟩)
          ((try simp only [Exit.inBlock, Exit.then]); refine bodyPost_ret (results_none rfl _ _ _) rfl ?_)
          exact ⟨rfl, by rw [HSP.out]; exact ⟨⟨bv, bc, HX2.out, own_far HOB.out GX.out⟩, HS.out.inv, HS.out.bel.setCell HS.out.hb _, HS.out.hb⟩, GX.out⟩
      · obtain ⟨l0, l1, l2, l3⟩ := HS.out.inv
        simp only at l0 l1 l2 l3
        have HL := hide hl0
        have HH := hide h1
        have HOB := hide ho
        clear hen h1 ho hl0
        go_enter Try.func91, Try.ntmps91
        go_upto_region 0 with fail
        go_cut [33] (fun s33 wx => s33 = .bool false ∧ wx = w.setCell ⟨b, 0, none⟩ (.int .i64 (left - 1)))
        case first =>
          have hn1 := node_some b left w HL.out l0 (by omega) g0 f0
          have HN1 := hide hn1
          clear hn1
          cases first
          · go_wp2_with (go_at_call 105; refine HN1.out.mono ?_; rintro e w2 ⟨rfl, rfl⟩)
            go_meet
            exact ⟨rfl, rfl⟩
          · have hc : decide (0 < count) = false := by simpa using hfc
            go_wp2_with (go_at_call 105; refine HN1.out.mono ?_; rintro e w2 ⟨rfl, rfl⟩)
            go_meet
            exact ⟨rfl, rfl⟩
        case rest =>
          obtain ⟨rfl, rfl⟩ := hcut
          have hl1 := HL.out
          have G1 := hide (grown_set (grown_refl w (some b)) 0 (.int .i64 (left - 1)))
          have hS1 : HtI w0 b A ps.length c A1 cs.length c1 first (w.setCell ⟨b, 0, none⟩ (.int .i64 (left - 1))) ⟨left - 1, false, count, best⟩ :=
            ⟨⟨bv, bc, heap_set _ HH.out, own_far HOB.out G1.out⟩, ⟨by simp only; omega, by simp only; omega, by simp only; omega, l3⟩, HS.out.bel.setCell HS.out.hb _, HS.out.hb⟩
          have HS1 := hide hS1
          have HO1 := hide (own_far HO.out G1.out)
          have hOB1 := hide (own_far HOB.out G1.out)
          have h1 := heap_set (j := 0) (.int .i64 (left - 1)) HH.out
          have HH1 := hide h1
          have hbl1 : b < (w.setCell ⟨b, 0, none⟩ (.int .i64 (left - 1))).heap.size := HS1.out.lt
          clear hS1 g0 g1 g4 g5 f0 f1 hfc HS HO HH HOB
          generalize w.setCell ⟨b, 0, none⟩ (.int .i64 (left - 1)) = w1 at *
          have hz1 := HS1.out.bel.size
          have g2 : w1.cell? ⟨b, 2, none⟩ = some (.slice A ps.length c) := by simp [World.cell?, h1]
          have g3 : w1.cell? ⟨b, 3, none⟩ = some (.slice A1 cs.length c1) := by simp [World.cell?, h1]
          have g5 : w1.cell? ⟨b, 5, none⟩ = some (.int .i64 count) := by simp [World.cell?, h1]
          have g6 : w1.cell? ⟨b, 6, none⟩ = some (.slice bv best.length bc) := by simp [World.cell?, h1]
          have f5 : w1.frozen? ⟨b, 5, none⟩ = false := by simp [World.frozen?, h1]
          have f6 : w1.frozen? ⟨b, 6, none⟩ = false := by simp [World.frozen?, h1]
          clear h1
          by_cases hfull : hs.length = ps.length
          · have hfl := Ht.srch_full (first := first) (nx := Ht.nx ps cs) (m := cs.length) (f := f) (hs := hs) (s := ⟨left, false, count, best⟩) HE.out HL.out hfull
            have HFL := hide hfl
            have hfu : ((hs.length : Int) == ps.length) = true := by simp; omega
            have R1 : RowAt w1 A2 hs.length hs := ⟨rfl, by omega, fun u => ((HO1.out.below u.h).at_ (fun _ => rfl))⟩
            have R2 : RowAt w1 bv best.length best := ⟨rfl, by omega, fun u => ((hOB1.out.below u.h).at_ (fun _ => rfl))⟩
            have HFU := hide hfull
            clear hfl hfull
            go_upto_region 2 with fail
            go_cut [56] (fun v wx => v = .bool (Ht.better hs ⟨left - 1, false, count, best⟩) ∧ Hid (Below w1.heap.size w1 wx))
            case first =>
              by_cases hc0 : count = 0
              · subst hc0
                refine wp_region_kept (by kernel_rfl) (by kernel_rfl) ?_
                intro gc gf gz
                repeat (go_big_quiet_step (fail))
                refine wpQuiet_nil ?_
                intro w2 hw'
                obtain ⟨⟨_, hb2⟩, rfl⟩ := hw'
                clear gc gf gz
                try dsimp only
                have fs2 := hb2.size
                try simp at fs2 hb2
                go_wp2_with fail
                go_meet
                exact ⟨by simp [Ht.better], hide hb2⟩
              · have hc1 : (count == 0) = false := by simpa using hc0
                have hbt : Hid (Ht.better hs ⟨left - 1, false, count, best⟩ = decide (Ht.lastE hs < Ht.lastE best)) := hide (by unfold Ht.better; simp only; rw [hc1]; rfl)
                generalize hv1 : Ht.lastE hs = v1 at *
                generalize hv2 : Ht.lastE best = v2 at *
                clear hc0
                refine wp_region_kept (by kernel_rfl) (by kernel_rfl) ?_
                intro gc gf gz
                repeat (go_big_quiet_step ((go_at_call 39; exact Calls.kept (lastE_row (by assumption) (by assumption) _))))
                refine wpQuiet_nil ?_
                intro w2 hw'
                obtain ⟨⟨_, hb2⟩, rfl⟩ := hw'
                clear gc gf gz
                try dsimp only
                have fs2 := hb2.size
                try simp at fs2 hb2
                go_wp2_with fail
                go_meet
                exact ⟨by rw [hbt.out], hide hb2⟩
            case rest =>
              obtain ⟨rfl, HB2⟩ := hcut
              obtain ⟨w2, rfl⟩ : ∃ w2, w2 = wc := ⟨_, rfl⟩
              have HS2 := hide (HS1.out.below HB2.out)
              have HO2 := hide (HO1.out.below HB2.out)
              have HH2 := hide ((HB2.out.block b hbl1).trans HH1.out)
              have hOB2 := hide (hOB1.out.below HB2.out)
              have G2 := hide (grown_trans G1.out (grown_of_below HB2.out (some b)))
              clear R1 R2 g2 g3 g5 g6 f5 f6 HO1 HH1 hOB1 G1 HB2 ih
              clear HX HY HV HW HS0 HS1
              have hl2 : hs.length ≤ 12 := by omega
              have h2 := HH2.out
              have hbl2 := HS2.out.lt
              have g5 : w2.cell? ⟨b, 5, none⟩ = some (.int .i64 count) := by simp [World.cell?, h2]
              have g6 : w2.cell? ⟨b, 6, none⟩ = some (.slice bv best.length bc) := by simp [World.cell?, h2]
              have f5 : w2.frozen? ⟨b, 5, none⟩ = false := by simp [World.frozen?, h2]
              have f6 : w2.frozen? ⟨b, 6, none⟩ = false := by simp [World.frozen?, h2]
              clear h2
              cases hbt : Ht.better hs ⟨left - 1, false, count, best⟩
              · have HLK : Hid (Ht.look hs ⟨left - 1, false, count, best⟩ = ⟨left - 1, false, count + 1, best⟩) := hide (by unfold Ht.look; rw [hbt]; rfl)
                have GX := hide (grown_set (grown_refl w2 (some b)) 5 (.int .i64 (count + 1)))
                have HX2 := hide (heap_set (j := 5) (.int .i64 (count + 1)) HH2.out)
                have INV : Hid (Ht.Inv ⟨left - 1, false, count + 1, best⟩) := hide ⟨by simp only; omega, by simp only; omega, by simp only; omega, by simp only; omega⟩
                have BEL := hide (HS2.out.bel.setCell HS2.out.hb (p := ⟨b, 5, none⟩) (.int .i64 (count + 1)))
                clear hbt
                go_wp2_with fail
                ((try simp only [Exit.inBlock, Exit.then]); refine bodyPost_ret (results_none rfl _ _ _) rfl ?_)
                exact ⟨rfl, by rw [HFL.out, HLK.out]; exact ⟨⟨bv, bc, HX2.out, own_far hOB2.out GX.out⟩, INV.out, BEL.out, HS2.out.hb⟩, grown_trans G2.out GX.out⟩
              · have HLK : Hid (Ht.look hs ⟨left - 1, false, count, best⟩ = ⟨left - 1, false, count + 1, hs⟩) := hide (by unfold Ht.look; rw [hbt]; rfl)
                have GX := hide (grown_set (grown_set (grown_refl w2 (some b)) 6 (.slice A2 hs.length c2)) 5 (.int .i64 (count + 1)))
                have HX2 := hide (heap_set (j := 5) (.int .i64 (count + 1)) (heap_set (j := 6) (.slice A2 hs.length c2) HH2.out))
                have INV : Hid (Ht.Inv ⟨left - 1, false, count + 1, hs⟩) := hide ⟨by simp only; omega, by simp only; omega, by simp only; omega, by simp only; omega⟩
                have BEL := hide ((HS2.out.bel.setCell HS2.out.hb (p := ⟨b, 6, none⟩) (.slice A2 hs.length c2)).setCell HS2.out.hb (p := ⟨b, 5, none⟩) (.int .i64 (count + 1)))
                clear hbt
                go_wp2_with fail
                ((try simp only [Exit.inBlock, Exit.then]); refine bodyPost_ret (results_none rfl _ _ _) rfl ?_)
                exact ⟨rfl, by rw [HFL.out, HLK.out]; exact ⟨⟨A2, c2, HX2.out, own_far HO2.out GX.out⟩, INV.out, BEL.out, HS2.out.hb⟩, grown_trans G2.out GX.out⟩
          · have hgo := Ht.srch_goes (first := first) (nx := Ht.nx ps cs) (m := cs.length) (f := f) (hs := hs) (s := ⟨left, false, count, best⟩) HE.out HL.out hfull
            have hfu : ((hs.length : Int) == ps.length) = false := by simp; omega
            have HGO := hide hgo
            have hll : hs.length < ps.length := by omega
            clear hgo hfull g5 g6 f5 f6 hOB1 HH1
            go_wp2_with (go_at_call 106; refine (sizePour _ _ _ _).mono ?_; rintro e w4 ⟨rfl, rfl⟩)
            go_loopw [73] (fun v wr => ∃ (p : Nat) (s' : Ht.S), v = .int .i64 p ∧ p ≤ ps.length ∧ Hid (HtI w0 b A ps.length c A1 cs.length c1 first wr s') ∧ Hid (w.grownBy wr (some b)) ∧ Hid (OwnH wr (b + 1) (.slice A2 hs.length c2) hs) ∧ Hid (Ht.rounds (Ht.stepP first (Ht.nx ps cs) ps.length cs.length f hs) (ps.length - p) p s' = Ht.srch first (Ht.nx ps cs) ps.length cs.length (f + 1) hs ⟨left, false, count, best⟩)) (fun v _ => ps.length - (intOf v).toNat)
            case atStart => exact ⟨0, ⟨left - 1, false, count, best⟩, rfl, by omega, HS1, G1, HO1, hide (by rw [HGO.out, Nat.sub_zero])⟩
            case round =>
              clear HS1 G1 HO1 HGO
              obtain ⟨p, s', rfl, hp, HS, GW, HO, HFo⟩ := hrel
              obtain ⟨wo, rfl⟩ : ∃ wo, wo = wr := ⟨_, rfl⟩
              have hbo := HS.out.lt
              obtain ⟨bv2, bc2, h1, _⟩ := HS.out.st
              have g2 : wo.cell? ⟨b, 2, none⟩ = some (.slice A ps.length c) := by simp [World.cell?, h1]
              have g3 : wo.cell? ⟨b, 3, none⟩ = some (.slice A1 cs.length c1) := by simp [World.cell?, h1]
              clear h1
              by_cases hlt : p < ps.length
              · have hr := Ht.rounds_more (stp := Ht.stepP first (Ht.nx ps cs) ps.length cs.length f hs) (s := s') hlt
                have HRo := hide hr
                clear hr
                cases hhp : Ht.hasP hs p
                · go_wp2_with fail
                  refine (hasPour_is A2 c2 hs p _ _ (HO.out.at_ (fun _ => rfl)) (by omega) hhp).mono ?_
                  rintro e w4 ⟨rfl, hb4⟩
                  have HS4 := hide (HS.out.below hb4)
                  have HO4 := hide (HO.out.below hb4)
                  have G4 := hide (grown_trans GW.out (grown_of_below hb4 (some b)))
                  have hbr4 := HS4.out.lt
                  clear HS HO GW hb4 g2 g3
                  obtain ⟨bv2, bc2, h1, _⟩ := HS4.out.st
                  have g2 : w4.cell? ⟨b, 2, none⟩ = some (.slice A ps.length c) := by simp [World.cell?, h1]
                  have g3 : w4.cell? ⟨b, 3, none⟩ = some (.slice A1 cs.length c1) := by simp [World.cell?, h1]
                  clear h1
                  replace hhp := hide hhp
                  go_wp2_with (go_at_call 73; refine (sizeCrucible _ _ _ _).mono ?_; rintro e w4 ⟨rfl, rfl⟩)
                  go_loopw [84] (fun v wr => ∃ (q : Nat) (s2 : Ht.S), v = .int .i64 q ∧ q ≤ cs.length ∧ Hid (HtI w0 b A ps.length c A1 cs.length c1 first wr s2) ∧ Hid (w.grownBy wr (some b)) ∧ Hid (OwnH wr (b + 1) (.slice A2 hs.length c2) hs) ∧ Hid (Ht.rounds (Ht.stepC first (Ht.nx ps cs) ps.length cs.length f hs p) (cs.length - q) q s2 = Ht.stepP first (Ht.nx ps cs) ps.length cs.length f hs p s')) (fun v _ => cs.length - (intOf v).toNat)
                  case atStart => exact ⟨0, s', rfl, by omega, HS4, G4, HO4, hide rfl⟩
                  case round =>
                    clear HS4 G4 HO4 g2 g3
                    obtain ⟨q, s2, rfl, hq, HS, GW, HO, HF⟩ := hrel
                    have hbr := HS.out.lt
                    obtain ⟨bv2, bc2, h1, _⟩ := HS.out.st
                    have g2 : wr.cell? ⟨b, 2, none⟩ = some (.slice A ps.length c) := by simp [World.cell?, h1]
                    have g3 : wr.cell? ⟨b, 3, none⟩ = some (.slice A1 cs.length c1) := by simp [World.cell?, h1]
                    clear h1
                    by_cases hlc : q < cs.length
                    · have hr := Ht.rounds_more (stp := Ht.stepC first (Ht.nx ps cs) ps.length cs.length f hs p) (s := s2) hlc
                      have HRC := hide hr
                      generalize hnxq : Ht.nx ps cs p q hs = nxv
                      obtain ⟨a, b', cd⟩ := nxv
                      have hnxe := hide hnxq
                      obtain ⟨bp, op, rfl, hbp, hc⟩ := (HX.out.below HS.out.bel) p hlt
                      have p0 := hc 0 _ rfl
                      have p1 := hc 1 _ rfl
                      have p2 := hc 2 _ rfl
                      have p3 := hc 3 _ rfl
                      simp only [Nat.add_zero] at p0
                      obtain ⟨bq, oq, rfl, hbq, hd⟩ := (HY.out.below HS.out.bel) q hlc
                      have q0 := hd 0 _ rfl
                      have q1 := hd 1 _ rfl
                      have q2 := hd 2 _ rfl
                      have q3 := hd 3 _ rfl
                      simp only [Nat.add_zero] at q0
                      have hvx := HV.out ps[p] (List.getElem_mem hlt)
                      have hvy := HW.out cs[q] (List.getElem_mem hlc)
                      have hsx := HS0.out ps[p] (List.getElem_mem hlt)
                      have hsy := HS1.out cs[q] (List.getElem_mem hlc)
                      have hpk : Ht.pk ps p = ps[p] := by unfold Ht.pk; rw [Int.toNat_natCast, List.getD_eq_getElem?_getD, List.getElem?_eq_getElem hlt]; rfl
                      have hck : Ht.ck cs q = cs[q] := by unfold Ht.ck; rw [Int.toNat_natCast, List.getD_eq_getElem?_getD, List.getElem?_eq_getElem hlc]; rfl
                      have hfra := fun u : Kept wr => implfreeAfter (some ⟨bq, oq, none⟩) A2 c1 c2 cs hs q u.w' ((HY.out.below HS.out.bel).below u.h) ((HO.out.below u.h).at_ (fun _ => rfl)) hlc (by omega)
                      have hvb := vCruc_true _ _ _ _ hvy
                      have hvp := vPour_true hvx
                      have hfb := Ht.free_bd (c := q) HG.out (b := (Ht.ck cs q).fr) (Int.le_refl _) (by rw [hck]; omega)
                      unfold Ht.nx at hnxq
                      rw [hpk] at hnxq
                      rw [hck] at hnxq hfra hfb
                      generalize Ht.freeOf hs q cs[q].fr = fr at *
                      have HCK := hide hck
                      clear hpk hck hc hd
                      generalize ps[p] = x at *
                      generalize cs[q] = y at *
                      have hnb : cd = 0 → y.fr ≤ b' ∧ b' ≤ 10000 := fun e => by subst e; have := Ht.nxR_ok hnxq; omega
                      have HNB := hide hnb
                      have HFR := hide hfra
                      have hnh := fun u : Kept wr => nextHeat_is (x := x) (y := y) u.w' hvx hvy hsx hsy hfb.1 hfb.2 hnxq
                      have HNH := hide hnh
                      clear hnb hfra hnh hnxq hvx hvy hsx hsy hvb hvp hfb
                      go_upto_region 12 with fail
                      go_cut [6, 7, 8] (fun u v z wx => u = .int .i64 a ∧ v = .int .i64 b' ∧ z = .int .i64 cd ∧ Hid (Below wr.heap.size wr wx))
                      case first =>
                        refine wp_region_kept (by kernel_rfl) (by kernel_rfl) ?_
                        intro gc gf gz
                        repeat (go_big_quiet_step ((first | (go_at_call 75; exact Calls.kept (HFR.out _)) | (go_at_call 74; exact Calls.kept (HNH.out _)))))
                        refine wpQuiet_nil ?_
                        intro w5 hw'
                        obtain ⟨⟨_, hb5⟩, rfl⟩ := hw'
                        clear gc gf gz
                        try dsimp only
                        have fs5 := hb5.size
                        try simp at fs5 hb5
                        go_wp2_with fail
                        go_meet
                        exact ⟨rfl, rfl, rfl, hide hb5⟩
                      case rest =>
                        obtain ⟨rfl, rfl, rfl, HB5⟩ := hcut
                        obtain ⟨w5, rfl⟩ : ∃ w5, w5 = wc := ⟨_, rfl⟩
                        have HS5 := hide (HS.out.below HB5.out)
                        have HO5 := hide (HO.out.below HB5.out)
                        have G5 := hide (grown_trans GW.out (grown_of_below HB5.out (some b)))
                        have hz5 := HS5.out.lt
                        clear HS HO GW HB5 g2 g3 p0 p1 p2 p3 q0 q1 q2 q3 HFR HNH
                        by_cases hcd : cd = 0
                        · replace HNB := hide (HNB.out hcd)
                          subst hcd
                          have hst := Ht.stepC_yes (first := first) (n := ps.length) (m := cs.length) (f := f) (s := s2) hhp.out hnxe.out
                          have HST := hide hst
                          clear hst
                          go_wp2_with fail
                          refine (cloneH (b + 1) A2 c2 hs _ HO5.out (by omega)).mono ?_
                          rintro e w6 ⟨A6, c6, rfl, ho6, hb6⟩
                          have HO6 := hide ho6
                          have HB6 := hide hb6
                          have hz6 := hb6.size
                          clear ho6 hb6
                          go_wp2_with (at_builtin; refine wpList_appHeat rfl _ _ rfl w5.heap.size rfl HO6.out rfl (by omega) ?_ ?_; (focus (exact hz6)); intro A7 c7 w7 ho7 hb7 _hg7; have HO7 := hide ho7; have HB7 := hide hb7; clear ho7 hb7)
                          have hb7 : Below w5.heap.size w5 w7 := HB6.out.trans HB7.out
                          have hgd : Ht.GoodH ps cs (hs ++ [⟨p, q, a, b'⟩]) := HG.out.snoc hlt hlc (by rw [HCK.out]; have := HNB.out.1; omega) HNB.out.2
                          have hq := ih (hs ++ [⟨p, q, a, b'⟩]) s2 w7 A7 c7 (by simp; omega) (hide (HS5.out.below hb7)) (hide (by rw [List.length_append]; exact HO7.out.mono (by have := HS5.out.lt; omega))) (hide hgd) (by simp; omega)
                          rw [show (hs ++ [(⟨p, q, a, b'⟩ : HeatR)]).length = hs.length + 1 by simp] at hq
                          refine hq.mono ?_
                          rintro e w8 ⟨rfl, hS8, hg8⟩
                          have HS8 := hide hS8
                          have G8 := hide (grown_trans (grown_trans G5.out (grown_of_below hb7 (some b))) hg8)
                          have HO8 := hide (own_far (HO5.out.below hb7) hg8)
                          clear hS8 hg8 hq hb7 HO6 HO7 HB6 HB7 hgd
                          go_wp2_with fail
                          go_roundw
                          case rel => exact ⟨q + 1, _, by go_num, by omega, HS8, G8, HO8, hide (by rw [← HF.out, HRC.out, HST.out])⟩
                          case measure => simp [intOf]; omega
                        · have hst := Ht.stepC_no (first := first) (nx := Ht.nx ps cs) (n := ps.length) (m := cs.length) (f := f) (hs := hs) (p := p) (c := q) (s := s2) (by rw [hnxe.out]; exact hcd)
                          have HST := hide hst
                          have hc2 : (cd == 0) = false := by simpa using hcd
                          clear hst hcd
                          go_wp2_with fail
                          go_roundw
                          case rel => exact ⟨q + 1, s2, by go_num, by omega, HS5, G5, HO5, hide (by rw [← HF.out, HRC.out, HST.out])⟩
                          case measure => simp [intOf]; omega
                    · obtain rfl : q = cs.length := by omega
                      have hr := Ht.rounds_none (stp := Ht.stepC first (Ht.nx ps cs) ps.length cs.length f hs p) (s := s2) (Nat.le_refl cs.length)
                      have HE2 := hide (HF.out.symm.trans hr)
                      clear hr
                      go_wp2_with fail
                      go_roundw
                      case rel => exact ⟨p + 1, s2, by go_num, by omega, HS, GW, HO, hide (by rw [← HFo.out, HRo.out, HE2.out])⟩
                      case measure => simp [intOf]; omega
                · have hst := Ht.stepP_has (first := first) (nx := Ht.nx ps cs) (n := ps.length) (m := cs.length) (f := f) (s := s') hhp
                  have HST := hide hst
                  clear hst
                  go_wp2_with fail
                  refine (hasPour_is A2 c2 hs p _ _ (HO.out.at_ (fun _ => rfl)) (by omega) hhp).mono ?_
                  rintro e w4 ⟨rfl, hb4⟩
                  have HS4 := hide (HS.out.below hb4)
                  have HO4 := hide (HO.out.below hb4)
                  have G4 := hide (grown_trans GW.out (grown_of_below hb4 (some b)))
                  clear HS HO GW hb4 hhp
                  go_wp2_with fail
                  go_roundw
                  case rel => exact ⟨p + 1, s', by go_num, by omega, HS4, G4, HO4, hide (by rw [← HFo.out, HRo.out, HST.out])⟩
                  case measure => simp [intOf]; omega
              · obtain rfl : p = ps.length := by omega
                have hr := Ht.rounds_none (stp := Ht.stepP first (Ht.nx ps cs) ps.length cs.length f hs) (s := s') (Nat.le_refl ps.length)
                have HE2 := hide (HFo.out.symm.trans hr)
                clear hr
                go_wp2_with fail
                go_end0
                exact ⟨rfl, by rw [HE2.out]; exact HS.out, GW.out⟩
    · have e1 := Ht.srch_ended (nx := Ht.nx ps cs) (n := ps.length) (m := cs.length) (f := f + 1) (hs := hs) hen
      obtain ⟨bv, bc, h1, _⟩ := HS.out.st
      obtain ⟨left, spent, count, best⟩ := s
      unfold Ht.ended at hen
      simp only at hen h1
      have g1 : w.cell? ⟨b, 1, none⟩ = some (.bool spent) := by simp [World.cell?, h1]
      have g4 : w.cell? ⟨b, 4, none⟩ = some (.bool first) := by simp [World.cell?, h1]
      have g5 : w.cell? ⟨b, 5, none⟩ = some (.int .i64 count) := by simp [World.cell?, h1]
      have E1 := hide e1
      clear e1 h1 ih HX HY HV HW HS0 HS1 HO HG
      cases spent
      · cases first
        · simp at hen
        · have hc : decide (0 < count) = true := by simpa using hen
          clear hen
          go_enter Try.func91, Try.ntmps91
          go_wp2_with fail
          ((try simp only [Exit.inBlock, Exit.then]); refine bodyPost_ret (results_none rfl _ _ _) rfl ?_)
          exact ⟨rfl, by rw [E1.out]; exact HS.out, grown_refl _ _⟩
      · clear hen
        go_enter Try.func91, Try.ntmps91
        go_wp2_with fail
        ((try simp only [Exit.inBlock, Exit.then]); refine bodyPost_ret (results_none rfl _ _ _) rfl ?_)
        exact ⟨rfl, by rw [E1.out]; exact HS.out, grown_refl _ _⟩
end Go.Proofs.Ytklmbgefdopifaa
