/- The reference's search for plans: the partials after the steps so far. -/
import Derived.Test.YtnefgafmnpblpaaGreatPnX
import Derived.Test.YtnefgafmnpblpaaGreatPnI4
namespace Go.Proofs.YtnefgafmnpblpaaGreat
open Go.RowKit Pn

theorem pad_take {n k : Nat} {l : List Int} (h : k < l.length) (hn : l.length ≤ n) : (pad n (l.take k)).set k (ig l k) = pad n (l.take (k + 1)) := by
  have e : (l.take k).length = k := by simp; omega
  have a := pad_set (n := n) (l := l.take k) 0 (ig l k)
  rw [pad_zero (by omega), e] at a
  rw [a, take_ig h]
theorem prof_set2 {w : World} {g N c : Nat} {u0 u1 : Value} {nm : ByteArray} {A : Option Addr} {rs : List RingR} (h : w.heap[g]? = some (.cells #[u0, u1] 30 (0, 0))) (ho : OwnR w N (.slice A rs.length c) rs) (hN : g < N) :
    ProfAt ((w.setCell ⟨g, 0, none⟩ (.string nm)).setCell ⟨g, 1, none⟩ (.slice A rs.length c)) g nm A c rs := by
  have h1 : (w.setCell ⟨g, 0, none⟩ (.string nm)).heap[g]? = some (.cells #[.string nm, u1] 30 (0, 0)) := by simpa using heap_setD (j := 0) (.string nm) h
  have h2 : ((w.setCell ⟨g, 0, none⟩ (.string nm)).setCell ⟨g, 1, none⟩ (.slice A rs.length c)).heap[g]? = some (.cells #[.string nm, .slice A rs.length c] 30 (0, 0)) := by simpa using heap_setD (j := 1) (.slice A rs.length c) h1
  have o1 := own_farN ho hN (grown_set (grown_refl w (some g)) 0 (.string nm))
  have o2 := own_farN o1 hN (grown_set (grown_refl _ (some g)) 1 (.slice A rs.length c))
  exact ⟨heap_lt h2, by simp [World.cell?, h2], by simp [World.cell?, h2], Own.at_ (enc := encRing) (fun _ => rfl) o2⟩
theorem zeroP {w w5 : World} (hb : Below (w.alloc (.cells #[.string ⟨#[]⟩, .slice none 0 0] 30)).drew.heap.size (w.alloc (.cells #[.string ⟨#[]⟩, .slice none 0 0] 30)).drew w5) : w5.heap[w.heap.size]? = some (.cells #[.string ⟨#[]⟩, .slice none 0 0] 30 (0, 0)) :=
  (hb.block w.heap.size (show w.heap.size < (w.alloc _).heap.size by simp)).trans (heap_alloc_new w _)
set_option maxRecDepth 100000 in
set_option maxHeartbeats 1000000 in
theorem raw_is {x : Cx} {w0 w : World} {q N bm bp bg : Nat} {lA : Option Addr} {lc : Nat} {all clo : Bool} {bud : Int} {l : List Int} {sm : Int} {sA : Option Addr} {sc : Nat} {s : S} (HR : Hid (RefOK x w0 bm bp bg)) (HS : Hid (Xs x w0 q N bm bp bg lA lc all clo bud w l sm sA sc s)) (HP : Hid (Pre x.lim l)) :
    Calls Tryz.prog 132 #[.pointer (some ⟨q, 0, none⟩)] w fun e w' => ∃ A' c', e = .returned (.slice A' 5 c') ∧ OwnI w' w.heap.size (.slice A' 5 c') (x.raw l) ∧ Below w.heap.size w w' := by
  have hl8 : l.length ≤ 8 := by have := HP.out.len; rw [x.lim_length] at this; have := HR.out.ok.ask.z.len8; omega
  have HZ8 := hide HR.out.ok.ask.z.len8
  have HFIT := hide (Pre.fit HP.out)
  have HSML := hide (Pre.small HP.out HR.out.ok.goal.most.1)
  have HOKT := hide (turn_ok HR.out.ok.ask.r HR.out.ok.ask.z.len1 HFIT.out)
  have hl1 : 0 < (turn x.zs l x.rs).length := by rw [turn_length]; exact HR.out.ok.ask.r.len1
  have hl32 : (turn x.zs l x.rs).length ≤ 32 := by rw [turn_length]; exact HR.out.ok.ask.r.len32
  have HWL := hide HOKT.out.walls
  have HZT := hide (zones_turn (st := l) HR.out.ok.ask.z)
  have HRR := hide (fun W (hb : Below w.heap.size w W) => HR.out.below ((HS.out.below hb).bel))
  have HPC := hide (fun W (hb : Below w.heap.size w W) => (HS.out.below hb).cells)
  have P0 : ∀ W, Below w.heap.size w W → W.cell? ⟨q, 0, none⟩ = some (.pointer (some ⟨bm, 0, none⟩)) := fun W hb => (HPC.out W hb).1
  have P1 : ∀ W, Below w.heap.size w W → W.cell? ⟨q, 1, none⟩ = some (.pointer (some ⟨bp, 0, none⟩)) := fun W hb => (HPC.out W hb).2.1
  have P4 : ∀ W, Below w.heap.size w W → W.cell? ⟨q, 4, none⟩ = some (.slice sA l.length sc) := fun W hb => (HPC.out W hb).2.2.2.2.1
  have M0 : ∀ W, Below w.heap.size w W → W.cell? ⟨bm, 0, none⟩ = some (.slice x.Az x.zs.length x.cz) := fun W hb => (HRR.out W hb).m.c0
  obtain ⟨i0, hi, hz0, hz1, hz2⟩ := info_parts info_i64
  have hmk := fun W => run_make_rowN (P := Tryz.prog) 24 2 i0 _ Tryz.underlying24 hi hz0 .i64 .i64 8 8 (Nat.le_refl _) (by rw [hz2]; omega) (by omega) W
  rw [hz1] at hmk
  have HO := hide (own_zeros (w := w) (B := w.heap.size) (n := 8) (Nat.le_refl _) (by simp [maxLen]))
  generalize madeCells (Value.int .i64 0).cells (8 * 1) = cs at hmk HO
  have hmk8 : ∀ W : World, (Instr.makeSlice 24 (.int .i64 8) (.int .i64 8)).run Tryz.prog W = .ok (.slice (some ⟨W.heap.size, 0, none⟩) 8 8) (W.alloc (.cells cs 2)) := hmk
  have hb1 : Below w.heap.size w (w.alloc (.cells cs 2)) := (by repeat (first | with_reducible exact Below.refl _ _ | with_reducible assumption | (with_reducible refine Below.drew ?_) | (with_reducible refine below_drewN ?_ _) | ((with_reducible refine Below.alloc ?_ ?_ _); rotate_left; (focus (first | omega | (simp; omega) | simp))) | ((with_reducible refine Below.setCell ?_ ?_ _); rotate_left; (focus (first | omega | (simp; omega) | simp))) | (refine Below.trans ?_ (Below.mono (by assumption) (by first | omega | (simp; omega) | simp)))))
  have HB1 := hide hb1
  clear hi hz0 hz1 hz2 hmk hb1
  go_enter Tryz.func132, Tryz.ntmps132
  go_wp2_with fail
  clear hmk8
  generalize w.alloc (.cells cs 2) = w1 at *
  go_loopw [4] (fun v wr => ∃ k : Nat, v = .int .i64 k ∧ k ≤ l.length ∧ Hid (OwnI wr w.heap.size (.slice (some ⟨w.heap.size, 0, none⟩) 8 8) (pad 8 (l.take k))) ∧ Hid (Below w.heap.size w wr)) (fun v _ => l.length - (intOf v).toNat)
  case atStart => exact ⟨0, rfl, by omega, hide (by have e : pad 8 (l.take 0) = List.replicate 8 0 := by unfold pad; simp
                                                    rw [e]; exact HO.out), HB1⟩
  case round =>
    obtain ⟨k, rfl, hk, HK, HB⟩ := hrel
    obtain ⟨wL, rfl⟩ : ∃ wL, wL = wr := ⟨_, rfl⟩
    have p4 := P4 wL HB.out
    by_cases hlt : k < l.length
    · obtain ⟨g, hA, hg1, hg2, g1, g2⟩ := own_get1 (k := k) (HS.out.below HB.out).row hlt
      subst hA
      obtain ⟨g', hA', hg1', hg2', g1', g2'⟩ := own_get1 (k := k) HK.out (by rw [pad_length (by simp; omega)]; omega)
      injection hA' with hA'; injection hA' with hA'
      subst hA'
      have HN := hide (own_set1 (f := fun x : Int => .int .i64 x) (fun _ => rfl) HK.out (k := k) (ig l k))
      rw [pad_take hlt hl8] at HN
      have HBN := hide (HB.out.setCell (p := ⟨w.heap.size, k, none⟩) (Nat.le_refl _) (.int .i64 (ig l k)))
      have hki : (k : Int) < l.length := by omega
      have hk0 : (0 : Int) ≤ k := by omega
      have hk8 : k < 8 := by omega
      have hk8i : (k : Int) < 8 := by omega
      generalize ig l k = v at *
      go_wp2_with fail
      go_roundw
      case rel => exact ⟨k + 1, by go_num, by omega, HN, HBN⟩
      case measure => simp [intOf]; omega
    · obtain rfl : k = l.length := by omega
      rw [List.take_length] at HK
      have HCT := hide (fun W (hb : Below wL.heap.size wL W) => by
        have hW := HRR.out W (HB.out.trans (hb.mono HB.out.size))
        have hcon := specl09Turned bp x.nm x.A x.c x.rs x.Az (some ⟨w.heap.size, 0, none⟩) x.cz 8 x.zs (pad 8 l) W hW.p hW.m.md.z (OwnI.sl (HK.out.below hb) (pad_length hl8).symm) hW.ok.ask.r.len32 hW.ok.ask.r.len1 hW.ok.ask.z.len1 (by rw [pad_length hl8]; exact HZ8.out) (by rw [pad_length hl8]; omega) (hide (fun k => by rw [ig_pad]; exact HSML.out k)) (hide hW.ok.ask.r.inner)
        rw [pad_length hl8, turn_congr (fun k => ig_pad 8 l k)] at hcon
        exact hcon)
      have Q0 : ∀ W, Below wL.heap.size wL W → W.cell? ⟨q, 0, none⟩ = some (.pointer (some ⟨bm, 0, none⟩)) := fun W hb => P0 W (HB.out.trans (hb.mono HB.out.size))
      have Q1 : ∀ W, Below wL.heap.size wL W → W.cell? ⟨q, 1, none⟩ = some (.pointer (some ⟨bp, 0, none⟩)) := fun W hb => P1 W (HB.out.trans (hb.mono HB.out.size))
      have QM : ∀ W, Below wL.heap.size wL W → W.cell? ⟨bm, 0, none⟩ = some (.slice x.Az x.zs.length x.cz) := fun W hb => M0 W (HB.out.trans (hb.mono HB.out.size))
      clear P0 P1 P4 M0
      go_wp2_with fail
      go_cut [5] (fun s5 wx => ∃ p A' c', s5 = .pointer (some ⟨p, 0, none⟩) ∧ Hid (ProfAt wx p x.nm A' c' (turn x.zs l x.rs)) ∧ Hid (Below w.heap.size w wx))
      case first =>
        refine wp_region_noPanic ?_
        refine wp_region_held_drew (S := (fun w' => Below wL.heap.size wL w')) (by kernel_rfl) ((Below.refl _ _).drew) (fun hHeld => ?_)
        refine wpAnyH_take (i := 0) (oi := ?o0_1) (v := ?v0_1) ?hi0_1 ?hs0_1 ?hf0_1 ?hr0_1 (fun _ _ _ h => h) ?hy0_1 (by assumption) ?hh0_1
        case hi0_1 => ((simp only [List.getElem?_toArray, List.getElem?_cons_zero]); rfl)
        case hs0_1 => kernel_rfl
        case hf0_1 => kernel_rfl
        case hr0_1 => kernel_rfl
        case hy0_1 => exact Or.inl ⟨by rfl, by (intro wq hSw; (try dsimp only at hSw); go_simp; (try with_reducible rfl))⟩
        try simp only [Act.put, List.setIfInBounds_toArray, List.set_cons_zero, List.set_cons_succ]
        refine wpAnyH_take (i := 1) (oi := ?o1_2) (v := ?v1_2) ?hi1_2 ?hs1_2 ?hf1_2 ?hr1_2 (fun _ _ _ h => h) ?hy1_2 (by assumption) ?hh1_2
        case hi1_2 => ((simp only [List.getElem?_toArray, List.getElem?_cons_succ, List.getElem?_cons_zero]); rfl)
        case hs1_2 => kernel_rfl
        case hf1_2 => kernel_rfl
        case hr1_2 => kernel_rfl
        case hy1_2 => exact Or.inl ⟨by rfl, by (intro wq hSw; (try dsimp only at hSw); go_simp; (try with_reducible rfl))⟩
        try simp only [Act.put, List.setIfInBounds_toArray, List.set_cons_zero, List.set_cons_succ]
        refine wpAnyH_take (i := 2) (oi := ?o2_3) (v := ?v2_3) ?hi2_3 ?hs2_3 ?hf2_3 ?hr2_3 (fun _ _ _ h => h) ?hy2_3 (by assumption) ?hh2_3
        case hi2_3 => ((simp only [List.getElem?_toArray, List.getElem?_cons_succ, List.getElem?_cons_zero]); rfl)
        case hs2_3 => kernel_rfl
        case hf2_3 => kernel_rfl
        case hr2_3 => kernel_rfl
        case hy2_3 => exact Or.inl ⟨by rfl, by (intro wq hSw; (try dsimp only at hSw); go_simp; (try with_reducible rfl))⟩
        try simp only [Act.put, List.setIfInBounds_toArray, List.set_cons_zero, List.set_cons_succ]
        refine wpAnyH_take (i := 3) (oi := ?o3_4) (v := ?v3_4) ?hi3_4 ?hs3_4 ?hf3_4 ?hr3_4 (fun _ _ _ h => h) ?hy3_4 (by assumption) ?hh3_4
        case hi3_4 => ((simp only [List.getElem?_toArray, List.getElem?_cons_succ, List.getElem?_cons_zero]); rfl)
        case hs3_4 => kernel_rfl
        case hf3_4 => kernel_rfl
        case hr3_4 => kernel_rfl
        case hy3_4 => exact Or.inl ⟨by rfl, by (intro wq hSw; (try dsimp only at hSw); go_simp; (try with_reducible rfl))⟩
        try simp only [Act.put, List.setIfInBounds_toArray, List.set_cons_zero, List.set_cons_succ]
        refine wpAnyH_take (i := 4) (oi := ?o4_5) (v := ?v4_5) ?hi4_5 ?hs4_5 ?hf4_5 ?hr4_5 (fun _ _ _ h => h) ?hy4_5 (by assumption) ?hh4_5
        case hi4_5 => ((simp only [List.getElem?_toArray, List.getElem?_cons_succ, List.getElem?_cons_zero]); rfl)
        case hs4_5 => kernel_rfl
        case hf4_5 => kernel_rfl
        case hr4_5 => kernel_rfl
        case hy4_5 => exact Or.inl ⟨by rfl, by (intro wq hSw; (try dsimp only at hSw); go_simp; (try with_reducible rfl))⟩
        try simp only [Act.put, List.setIfInBounds_toArray, List.set_cons_zero, List.set_cons_succ]
        refine wpAnyH_take (i := 5) (oi := ?o5_6) (v := ?v5_6) ?hi5_6 ?hs5_6 ?hf5_6 ?hr5_6 (fun _ _ _ h => h) ?hy5_6 (by assumption) ?hh5_6
        case hi5_6 => ((simp only [List.getElem?_toArray, List.getElem?_cons_succ, List.getElem?_cons_zero]); rfl)
        case hs5_6 => kernel_rfl
        case hf5_6 => kernel_rfl
        case hr5_6 => kernel_rfl
        case hy5_6 => exact Or.inl ⟨by rfl, by (intro wq hSw; (try dsimp only at hSw); go_simp; (try with_reducible rfl))⟩
        try simp only [Act.put, List.setIfInBounds_toArray, List.set_cons_zero, List.set_cons_succ]
        refine wpAnyH_take (i := 6) (oi := ?o6_7) (v := ?v6_7) ?hi6_7 ?hs6_7 ?hf6_7 ?hr6_7 (fun _ _ _ h => h) ?hy6_7 (by assumption) ?hh6_7
        case hi6_7 => ((simp only [List.getElem?_toArray, List.getElem?_cons_succ, List.getElem?_cons_zero]); rfl)
        case hs6_7 => kernel_rfl
        case hf6_7 => kernel_rfl
        case hr6_7 => kernel_rfl
        case hy6_7 => exact Or.inl ⟨by rfl, by (intro wq hSw; (try dsimp only at hSw); go_simp; (try with_reducible rfl))⟩
        try simp only [Act.put, List.setIfInBounds_toArray, List.set_cons_zero, List.set_cons_succ]
        refine wpAnyH_take (i := 7) (oi := ?o7_8) (v := ?v7_8) ?hi7_8 ?hs7_8 ?hf7_8 ?hr7_8 (fun _ _ _ h => h) ?hy7_8 (by assumption) ?hh7_8
        case hi7_8 => ((simp only [List.getElem?_toArray, List.getElem?_cons_succ, List.getElem?_cons_zero]); rfl)
        case hs7_8 => kernel_rfl
        case hf7_8 => kernel_rfl
        case hr7_8 => kernel_rfl
        case hy7_8 => exact Or.inl ⟨by rfl, by (intro wq hSw; (try dsimp only at hSw); go_simp; (try with_reducible rfl))⟩
        try simp only [Act.put, List.setIfInBounds_toArray, List.set_cons_zero, List.set_cons_succ]
        refine wpAnyH_take (i := 8) (oi := ?o8_9) (v := ?v8_9) ?hi8_9 ?hs8_9 ?hf8_9 ?hr8_9 (fun _ _ _ h => h) ?hy8_9 (by assumption) ?hh8_9
        case hi8_9 => ((simp only [List.getElem?_toArray, List.getElem?_cons_succ, List.getElem?_cons_zero]); rfl)
        case hs8_9 => kernel_rfl
        case hf8_9 => kernel_rfl
        case hr8_9 => kernel_rfl
        case hy8_9 => exact Or.inl ⟨by rfl, by (intro wq hSw; (try dsimp only at hSw); go_simp; (try with_reducible rfl))⟩
        try simp only [Act.put, List.setIfInBounds_toArray, List.set_cons_zero, List.set_cons_succ]
        refine wpAnyH_take (i := 9) (oi := ?o9_10) (v := ?v9_10) ?hi9_10 ?hs9_10 ?hf9_10 ?hr9_10 (fun _ _ _ h => h) ?hy9_10 (by assumption) ?hh9_10
        case hi9_10 => ((simp only [List.getElem?_toArray, List.getElem?_cons_succ, List.getElem?_cons_zero]); rfl)
        case hs9_10 => kernel_rfl
        case hf9_10 => kernel_rfl
        case hr9_10 => kernel_rfl
        case hy9_10 => exact Or.inl ⟨by rfl, by (intro wq hSw; (try dsimp only at hSw); go_simp; (try with_reducible rfl))⟩
        try simp only [Act.put, List.setIfInBounds_toArray, List.set_cons_zero, List.set_cons_succ]
        refine wpAnyH_take (i := 10) (oi := ?o10_11) (v := ?v10_11) ?hi10_11 ?hs10_11 ?hf10_11 ?hr10_11 (fun _ _ _ h => h) ?hy10_11 (by assumption) ?hh10_11
        case hi10_11 => ((simp only [List.getElem?_toArray, List.getElem?_cons_succ, List.getElem?_cons_zero]); rfl)
        case hs10_11 => kernel_rfl
        case hf10_11 => kernel_rfl
        case hr10_11 => kernel_rfl
        case hy10_11 => exact Or.inl ⟨by rfl, by (intro wq hSw; (try dsimp only at hSw); go_simp; (try with_reducible rfl))⟩
        try simp only [Act.put, List.setIfInBounds_toArray, List.set_cons_zero, List.set_cons_succ]
        refine wpAnyH_take (i := 11) (oi := ?o11_12) (v := ?v11_12) ?hi11_12 ?hs11_12 ?hf11_12 ?hr11_12 (fun _ _ _ h => h) ?hy11_12 (by assumption) ?hh11_12
        case hi11_12 => ((simp only [List.getElem?_toArray, List.getElem?_cons_succ, List.getElem?_cons_zero]); rfl)
        case hs11_12 => kernel_rfl
        case hf11_12 => kernel_rfl
        case hr11_12 => kernel_rfl
        case hy11_12 => exact Or.inl ⟨by rfl, by (intro wq hSw; (try dsimp only at hSw); go_simp; (try with_reducible rfl))⟩
        try simp only [Act.put, List.setIfInBounds_toArray, List.set_cons_zero, List.set_cons_succ]
        refine wpAnyH_ready (rs := [12, 13]) (by kernel_rfl) (by simp) ?_
        refine AllReadyH.cons (o := ?o12_13) ?hi12_13 (fun K hK => ?hh12_13) (AllReadyH.cons (o := ?o13_14) ?hi13_14 (fun K hK => ?hh13_14) AllReadyH.nil)
        case hi12_13 => ((simp only [List.getElem?_toArray, List.getElem?_cons_succ, List.getElem?_cons_zero]); rfl)
        case hi13_14 => ((simp only [List.getElem?_toArray, List.getElem?_cons_succ, List.getElem?_cons_zero]); rfl)
        go_simp
        (go_at_call 90; refine (HCT.out _ hHeld).mono ?_; rintro e w5 ⟨A5, c5, rfl, ho5, hb5⟩; have HB5 := hide (hHeld.trans (hb5.mono hHeld.size)); have HO5 := hide ho5; (try (have hqr := zeroP hb5; have y0 : w5.cell? ⟨wL.heap.size, 0, none⟩ = some (.string ⟨#[]⟩) := (by simp [World.cell?, hqr]); have y1 : w5.cell? ⟨wL.heap.size, 1, none⟩ = some (.slice none 0 0) := (by simp [World.cell?, hqr]); have z : ∀ j, w5.frozen? ⟨wL.heap.size, j, none⟩ = false := (fun j => by simp [World.frozen?, hqr]); have z0 := z 0; have z1 := z 1; have HQR := hide hqr; clear hqr)))
        (try dsimp only)
        refine hK.out _ _ (HB5.out) (fun hHeld2 => ?_)
        clear hK K hHeld
        have hHeld := hHeld2
        clear hHeld2
        try simp only [Act.put, List.setIfInBounds_toArray, List.set_cons_zero, List.set_cons_succ]
        refine wpAnyH_ready (rs := [13]) (by kernel_rfl) (by simp) ?_
        refine AllReadyH.cons (o := ?o13_15) ?hi13_15 (fun K hK => ?hh13_15) AllReadyH.nil
        case hi13_15 => ((simp only [List.getElem?_toArray, List.getElem?_cons_succ, List.getElem?_cons_zero]); rfl)
        go_simp
        refine hK.out _ _ (hHeld.alloc hHeld.size _) (fun hHeld2 => ?_)
        clear hK K hHeld
        have hHeld := hHeld2
        clear hHeld2
        try simp only [Act.put, List.setIfInBounds_toArray, List.set_cons_zero, List.set_cons_succ]
        refine wpAnyH_ready (rs := [14]) (by kernel_rfl) (by simp) ?_
        refine AllReadyH.cons (o := ?o14_16) ?hi14_16 (fun K hK => ?hh14_16) AllReadyH.nil
        case hi14_16 => ((simp only [List.getElem?_toArray, List.getElem?_cons_succ, List.getElem?_cons_zero]); rfl)
        go_simp
        refine hK.out _ _ (by first | exact HB5.out.alloc HB5.out.size _ | ((repeat (refine Below.setCell ?_ (show wL.heap.size ≤ wL.heap.size from Nat.le_refl _) _)); exact HB5.out)) (fun hHeld2 => ?_)
        clear hK K hHeld
        have hHeld := hHeld2
        clear hHeld2
        try simp only [Act.put, List.setIfInBounds_toArray, List.set_cons_zero, List.set_cons_succ]
        refine wpAnyH_done (by kernel_rfl) ?_ _
        refine NoPanic.normal ?_
        rotate_left
        go_simp
        refine hK.out _ _ (hHeld.alloc hHeld.size _) (fun hHeld2 => ?_)
        clear hK K hHeld
        have hHeld := hHeld2
        clear hHeld2
        try simp only [Act.put, List.setIfInBounds_toArray, List.set_cons_zero, List.set_cons_succ]
        refine wpAnyH_ready (rs := [12]) (by kernel_rfl) (by simp) ?_
        refine AllReadyH.cons (o := ?o12_17) ?hi12_17 (fun K hK => ?hh12_17) AllReadyH.nil
        case hi12_17 => ((simp only [List.getElem?_toArray, List.getElem?_cons_succ, List.getElem?_cons_zero]); rfl)
        go_simp
        (go_at_call 90; refine (HCT.out _ hHeld).mono ?_; rintro e w5 ⟨A5, c5, rfl, ho5, hb5⟩; have HB5 := hide (hHeld.trans (hb5.mono hHeld.size)); have HO5 := hide ho5; (try (have hqr := zeroP hb5; have y0 : w5.cell? ⟨wL.heap.size, 0, none⟩ = some (.string ⟨#[]⟩) := (by simp [World.cell?, hqr]); have y1 : w5.cell? ⟨wL.heap.size, 1, none⟩ = some (.slice none 0 0) := (by simp [World.cell?, hqr]); have z : ∀ j, w5.frozen? ⟨wL.heap.size, j, none⟩ = false := (fun j => by simp [World.frozen?, hqr]); have z0 := z 0; have z1 := z 1; have HQR := hide hqr; clear hqr)))
        (try dsimp only)
        refine hK.out _ _ (HB5.out) (fun hHeld2 => ?_)
        clear hK K hHeld
        have hHeld := hHeld2
        clear hHeld2
        try simp only [Act.put, List.setIfInBounds_toArray, List.set_cons_zero, List.set_cons_succ]
        refine wpAnyH_ready (rs := [14]) (by kernel_rfl) (by simp) ?_
        refine AllReadyH.cons (o := ?o14_18) ?hi14_18 (fun K hK => ?hh14_18) AllReadyH.nil
        case hi14_18 => ((simp only [List.getElem?_toArray, List.getElem?_cons_succ, List.getElem?_cons_zero]); rfl)
        go_simp
        refine hK.out _ _ (by first | exact HB5.out.alloc HB5.out.size _ | ((repeat (refine Below.setCell ?_ (show wL.heap.size ≤ wL.heap.size from Nat.le_refl _) _)); exact HB5.out)) (fun hHeld2 => ?_)
        clear hK K hHeld
        have hHeld := hHeld2
        clear hHeld2
        try simp only [Act.put, List.setIfInBounds_toArray, List.set_cons_zero, List.set_cons_succ]
        refine wpAnyH_done (by kernel_rfl) ?_ _
        refine NoPanic.normal ?_
        rotate_left
        · go_wp2_with fail
          go_meet
          exact ⟨_, A5, c5, rfl, hide (ProfAt.new (Own.at_ (enc := encRing) (fun _ => rfl) HO5.out)), hide (HB.out.trans (hHeld.mono HB.out.size))⟩
        · go_wp2_with fail
          go_meet
          exact ⟨_, A5, c5, rfl, hide (prof_set2 HQR.out HO5.out (by simp)), hide (HB.out.trans (hHeld.mono HB.out.size))⟩
      case rest =>
        obtain ⟨w6, rfl⟩ : ∃ w6, w6 = wc := ⟨_, rfl⟩
        obtain ⟨p, A5, c5, rfl, HPF, HB6⟩ := hcut
        have hW := HRR.out w6 HB6.out
        have HPR := hide (specl08Raw bm p x.Az x.Aw x.Ab x.cz x.cw x.cb x.zs x.ws x.bs x.nm A5 c5 (turn x.zs l x.rs) w6 hW.m HPF.out hl32 hl1 (hide hW.ok.ask.m) HZT HWL)
        have q0 := (HPC.out w6 HB6.out).1
        clear hW Q0 Q1 QM
        go_wp2_with fail
        refine HPR.out.mono ?_
        rintro e w7 ⟨A7, c7, rfl, ho7, hb7⟩
        go_wp2_with fail
        go_ret
        exact ⟨A7, c7, rfl, ho7.mono HB6.out.size, HB6.out.trans (hb7.mono HB6.out.size)⟩
end Go.Proofs.YtnefgafmnpblpaaGreat
