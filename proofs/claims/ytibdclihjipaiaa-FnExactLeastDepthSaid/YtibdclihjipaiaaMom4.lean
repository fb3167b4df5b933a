/- Reactions, moments, stresses and bendings of beams: the reference's side. -/
import Derived.Test.YtibdclihjipaiaaMom3
namespace Go.Proofs.Ytibdclihjipaiaa
open Go.RowKit

/-- The cells of a beam's numbers and loads. -/
structure CellsB (w : World) (bl : Nat) (span wd dp wood : Int) (A : Option Addr) (n c : Nat) : Prop where
  c1 : w.cell? ⟨bl, 1, none⟩ = some (.int .i64 span)
  c2 : w.cell? ⟨bl, 2, none⟩ = some (.int .i64 wd)
  c3 : w.cell? ⟨bl, 3, none⟩ = some (.int .i64 dp)
  c4 : w.cell? ⟨bl, 4, none⟩ = some (.int .i64 wood)
  c5 : w.cell? ⟨bl, 5, none⟩ = some (.slice A n c)
theorem CellsB.lt {w : World} {bl : Nat} {span wd dp wood : Int} {A : Option Addr} {n c : Nat} (h : CellsB w bl span wd dp wood A n c) : bl < w.heap.size := World.block_lt_of_cell? w _ h.c1
theorem CellsB.below {w w' : World} {bl : Nat} {span wd dp wood : Int} {A : Option Addr} {n c : Nat} (h : CellsB w bl span wd dp wood A n c) (hb : Below w.heap.size w w') : CellsB w' bl span wd dp wood A n c :=
  ⟨(hb.cell (p := ⟨bl, 1, none⟩) h.lt).trans h.c1, (hb.cell (p := ⟨bl, 2, none⟩) h.lt).trans h.c2, (hb.cell (p := ⟨bl, 3, none⟩) h.lt).trans h.c3, (hb.cell (p := ⟨bl, 4, none⟩) h.lt).trans h.c4, (hb.cell (p := ⟨bl, 5, none⟩) h.lt).trans h.c5⟩
theorem CellsB.box {w w1 : World} {nm : ByteArray} {span wd dp wood : Int} {A : Option Addr} {n c : Nat} (hb : Below (w.heap.size + 1) (w.alloc (.cells #[.string nm, .int .i64 span, .int .i64 wd, .int .i64 dp, .int .i64 wood, .slice A n c] 29)) w1) : CellsB w1 w.heap.size span wd dp wood A n c := by
  refine ⟨?_, ?_, ?_, ?_, ?_⟩
  · exact (hb.cell (p := ⟨w.heap.size, 1, none⟩) (by simp)).trans (by simp)
  · exact (hb.cell (p := ⟨w.heap.size, 2, none⟩) (by simp)).trans (by simp)
  · exact (hb.cell (p := ⟨w.heap.size, 3, none⟩) (by simp)).trans (by simp)
  · exact (hb.cell (p := ⟨w.heap.size, 4, none⟩) (by simp)).trans (by simp)
  · exact (hb.cell (p := ⟨w.heap.size, 5, none⟩) (by simp)).trans (by simp)

set_option maxRecDepth 100000 in
set_option maxHeartbeats 1000000 in
theorem specl21Moment (bl : Nat) (span wd dp wood : Int) (A : Option Addr) (c : Nat) (ls : List LoadR) (w : World) (h : SlAt encLoad 2 w A ls) (hc : CellsB w bl span wd dp wood A ls.length c) (hg : GoodB span wd dp wood ls) (x : Int) (x0 : 0 ≤ x) (x1 : x ≤ span) :
    Calls Try.prog 68 #[.pointer (some ⟨bl, 0, none⟩), .int .i64 x] w fun e w' => e = .returned (.int .i64 (momB span x ls)) ∧ Below w.heap.size w w' := by
  have HX := hide h
  have HC := hide hc
  have hbl := hc.lt
  have HG := hide hg
  have s1 := hg.s1
  have s2 := hg.s2
  have hn := hg.n
  clear h hg hc
  go_enter Try.func68, Try.ntmps68
  go_wp2_with fail
  go_loopw [6, 5] (fun v t wr => ∃ (k : Nat) (s : Int), v = .int .i64 k ∧ t = .int .i64 s ∧ k ≤ ls.length ∧ Hid (s = momB span x (ls.take k)) ∧ Below w.heap.size w wr) (fun v _ _ => ls.length - (intOf v).toNat)
  case atStart => exact ⟨0, 0, rfl, rfl, by omega, by simp [Hid, momB, sumB], Below.refl _ _⟩
  case round =>
    obtain ⟨k, s, rfl, rfl, hk, hs, hb⟩ := hrel
    have bs := momB_take_bd k s2 x0 x1 HG.out.l hn
    rw [← hs.out] at bs
    have hcr := HC.out.below hb
    have g1 := hcr.c1
    have g5 := hcr.c5
    have hz := hb.size
    have hblr : bl < wr.heap.size := by omega
    have HB := hide hb
    clear hcr
    by_cases hlt : k < ls.length
    · obtain ⟨b, off, rfl, hbk, hc⟩ := HX.out.below hb k hlt
      have c0 := hc 0 _ rfl
      have c1 := hc 1 _ rfl
      simp only [Nat.add_zero] at c0
      have hl := HG.out.l ls[k] (List.getElem_mem hlt)
      have ht := hide (sumB_take (f := mTerm span x) hlt)
      clear hc hb
      generalize ls[k] = y at *
      obtain ⟨a, t⟩ := y
      simp only at c0 c1 hl
      obtain ⟨⟨a0, a1⟩, t0, t1⟩ := hl
      obtain ⟨⟨m1, m2⟩, m3, m4⟩ := mTerm_parts s2 x0 x1 a0 a1 t0 t1
      by_cases hax : a < x
      · have hst : Hid (s + t * (span - a) * x - t * (x - a) * span = momB span x (ls.take (k + 1))) := hide (by unfold momB; rw [ht.out, hs.out, momB]; unfold mTerm; simp only [hax, if_true]; omega)
        have q := mTerm_parts (span := span) (x := span) (a := span - (x - a)) (t := t) s2 (by omega) (by omega) (by omega) (by omega) t0 t1
        rw [show span - (span - (x - a)) = x - a by omega] at q
        obtain ⟨⟨m5, m6⟩, m7, m8⟩ := q
        go_wp2_with fail
        have k1 : IntKind.i64.wrap (span - a) = span - a := IntWalk.i64_in _ (by omega)
        have k2 : IntKind.i64.wrap (t * (span - a)) = t * (span - a) := IntWalk.i64_in _ (by omega)
        have k3 : IntKind.i64.wrap (t * (span - a) * x) = t * (span - a) * x := IntWalk.i64_in _ (by omega)
        have k4 : IntKind.i64.wrap (s + t * (span - a) * x) = s + t * (span - a) * x := IntWalk.i64_in _ (by omega)
        go_quiet (fail)
        go_wp2_with fail
        have k5 : IntKind.i64.wrap (x - a) = x - a := IntWalk.i64_in _ (by omega)
        have k6 : IntKind.i64.wrap (t * (x - a)) = t * (x - a) := IntWalk.i64_in _ (by omega)
        have k7 : IntKind.i64.wrap (t * (x - a) * span) = t * (x - a) * span := IntWalk.i64_in _ (by omega)
        have k8 : IntKind.i64.wrap (s + t * (span - a) * x - t * (x - a) * span) = s + t * (span - a) * x - t * (x - a) * span := IntWalk.i64_in _ (by omega)
        go_quiet (fail)
        go_wp2_with fail
        go_roundw
        case rel => exact ⟨k + 1, _, by go_num, rfl, by omega, hst, below_drewN (HB.out.alloc (by omega) _) _⟩
        case measure => simp [intOf]; omega
      · have hst : Hid (s + t * (span - a) * x = momB span x (ls.take (k + 1))) := hide (by unfold momB; rw [ht.out, hs.out, momB]; unfold mTerm; simp only [hax, if_false])
        go_wp2_with fail
        have k1 : IntKind.i64.wrap (span - a) = span - a := IntWalk.i64_in _ (by omega)
        have k2 : IntKind.i64.wrap (t * (span - a)) = t * (span - a) := IntWalk.i64_in _ (by omega)
        have k3 : IntKind.i64.wrap (t * (span - a) * x) = t * (span - a) * x := IntWalk.i64_in _ (by omega)
        have k4 : IntKind.i64.wrap (s + t * (span - a) * x) = s + t * (span - a) * x := IntWalk.i64_in _ (by omega)
        go_quiet (fail)
        go_wp2_with fail
        go_roundw
        case rel => exact ⟨k + 1, _, by go_num, rfl, by omega, hst, below_drewN (HB.out.alloc (by omega) _) _⟩
        case measure => simp [intOf]; omega
    · obtain rfl : k = ls.length := by omega
      have e : Hid (momB span x ls = s) := hide (by rw [hs.out, List.take_length])
      go_wp2_with fail
      go_ret
      exact ⟨ret_int e.out.symm, hb⟩
set_option maxRecDepth 100000 in
theorem specl21Most (bl : Nat) (span wd dp wood : Int) (A : Option Addr) (c : Nat) (ls : List LoadR) (w : World) (h : SlAt encLoad 2 w A ls) (hc : CellsB w bl span wd dp wood A ls.length c) (hg : GoodB span wd dp wood ls) :
    Calls Try.prog 71 #[.pointer (some ⟨bl, 0, none⟩)] w fun e w' => e = .returned (two (gmB span ls ls)) ∧ Below w.heap.size w w' := by
  have HX := hide h
  have HC := hide hc
  have hbl := hc.lt
  have HG := hide hg
  have s1 := hg.s1
  have s2 := hg.s2
  have hn := hg.n
  clear h hg hc
  go_enter Try.func71, Try.ntmps71
  go_wp2_with fail
  go_loopw [6, 4, 5] (fun v a t wr => ∃ (k : Nat) (p q : Int), v = .int .i64 k ∧ a = .int .i64 p ∧ t = .int .i64 q ∧ k ≤ ls.length ∧ Hid (gmB span ls (ls.take k) = (p, q)) ∧ Below w.heap.size w wr) (fun v _ _ _ => ls.length - (intOf v).toNat)
  case atStart => exact ⟨0, 0, 0, rfl, rfl, rfl, by omega, rfl, Below.refl _ _⟩
  case round =>
    obtain ⟨k, p, q, rfl, rfl, rfl, hk, hs, hb⟩ := hrel
    have hcr := HC.out.below hb
    have HCR := hide hcr
    have g5 := hcr.c5
    have hz := hb.size
    have HB := hide hb
    clear hcr
    by_cases hlt : k < ls.length
    · obtain ⟨b, off, rfl, hbk, hc⟩ := HX.out.below hb k hlt
      have HXR := hide (HX.out.below hb)
      have c0 := hc 0 _ rfl
      simp only [Nat.add_zero] at c0
      have hl := HG.out.l ls[k] (List.getElem_mem hlt)
      have ht := hide ((gmB_take (span := span) hlt).trans (by rw [hs.out]))
      clear hc hb
      generalize ls[k] = y at *
      obtain ⟨a, t⟩ := y
      simp only at c0 hl
      obtain ⟨⟨a0, a1⟩, t0, t1⟩ := hl
      go_wp2_with fail
      refine (specl21Moment bl span wd dp wood _ c ls _ HXR.out HCR.out HG.out a a0 a1).mono ?_
      rintro e w1 ⟨rfl, hb1⟩
      have d0 := (hb1.cell (p := ⟨b, off + k * 2, none⟩) hbk).trans c0
      have d5 := (HCR.out.below hb1).c5
      have HB1 := hide (HB.out.trans (hb1.mono hz))
      clear hb1
      have hst : Hid (gmStep span ls (p, q) ⟨a, t⟩ = if q < momB span a ls then (a, momB span a ls) else (p, q)) := hide rfl
      generalize momB span a ls = m at *
      by_cases hlt2 : q < m
      · have hst2 : Hid (gmB span ls (ls.take (k + 1)) = (a, m)) := hide (by rw [ht.out, hst.out, if_pos hlt2])
        go_wp2_with fail
        go_roundw
        case rel => exact ⟨k + 1, a, m, by go_num, rfl, rfl, by omega, hst2, HB1.out⟩
        case measure => simp [intOf]; omega
      · have hst2 : Hid (gmB span ls (ls.take (k + 1)) = (p, q)) := hide (by rw [ht.out, hst.out, if_neg hlt2])
        go_wp2_with fail
        go_roundw
        case rel => exact ⟨k + 1, p, q, by go_num, rfl, rfl, by omega, hst2, HB1.out⟩
        case measure => simp [intOf]; omega
    · obtain rfl : k = ls.length := by omega
      have e : Hid (gmB span ls ls = (p, q)) := hide (by rw [← hs.out, List.take_length])
      clear hs
      go_wp2_with fail
      go_ret2
      exact ⟨ret_two e.out, hb⟩
set_option maxRecDepth 100000 in
theorem specl21Stress (bl : Nat) (span wd dp wood : Int) (A : Option Addr) (c : Nat) (ls : List LoadR) (w : World) (h : SlAt encLoad 2 w A ls) (hc : CellsB w bl span wd dp wood A ls.length c) (hg : GoodB span wd dp wood ls) :
    Calls Try.prog 73 #[.pointer (some ⟨bl, 0, none⟩)] w fun e w' => e = .returned (.int .i64 (stressB span wd dp ls)) ∧ Below w.heap.size w w' := by
  have HC := hide hc
  have hbl := hc.lt
  obtain ⟨⟨x1, x2⟩, ⟨x3, x4⟩, -⟩ := depth_bd hg.w1 hg.w2 hg.d1 hg.d2 hg.o1 hg.o2
  obtain ⟨-, x5, x6⟩ := gmB_bd' hg
  obtain ⟨x7, x8⟩ := nr_most hg.s1 x5 x6
  have s1 := hg.s1
  have s2 := hg.s2
  have e : Hid (stressB span wd dp ls = Pl.nr (6000 * Pl.nr (gmB span ls ls).2 span) (wd * dp * dp)) := by unfold Hid stressB; rfl
  go_enter Try.func73, Try.ntmps73
  go_wp2_with fail
  refine (specl21Most bl span wd dp wood A c ls _ h hc hg).mono ?_
  rintro e1 w1 ⟨rfl, hb1⟩
  have hc1 := HC.out.below hb1
  have g1 := hc1.c1
  have g2 := hc1.c2
  have g3 := hc1.c3
  have hbl1 := hc1.lt
  clear hc1 hc h hg
  go_wp2_with fail
  have k1 : IntKind.i64.wrap (6000 * Pl.nr (gmB span ls ls).2 span) = 6000 * Pl.nr (gmB span ls ls).2 span := IntWalk.i64_in _ (by omega)
  have k2 : IntKind.i64.wrap (wd * dp) = wd * dp := IntWalk.i64_in _ (by omega)
  have k3 : IntKind.i64.wrap (wd * dp * dp) = wd * dp * dp := IntWalk.i64_in _ (by omega)
  refine wp_region_kept (by kernel_rfl) (by kernel_rfl) ?_
  intro gc gf gz
  repeat (go_big_quiet_step ((go_at_call 63; exact Calls.kept_same (l01Div_any _ _ _ (by omega) (by omega) (by omega) (by omega)))))
  refine wpQuiet_nil ?_
  intro w2 hw'
  obtain ⟨⟨_, hb2⟩, rfl⟩ := hw'
  clear gc gf gz
  try dsimp only
  have fs2 := hb2.size
  try simp at fs2 hb2
  go_wp2_with fail
  go_ret
  exact ⟨ret_int e.out.symm, hb1.trans (hb2.mono hb1.size)⟩
theorem specl00MinB (a b : Int) (w : World) : Calls Try.prog 102 #[.int .i64 a, .int .i64 b] w fun e w' => e = .returned (.int .i64 (minB a b)) ∧ w = w' := by
  by_cases h : a < b
  · have e : Hid (minB a b = a) := by unfold Hid minB; rw [if_neg (by omega)]
    go_enter Try.func102, Try.ntmps102
    go_wp2
    go_ret
    exact ⟨ret_int e.out.symm, rfl⟩
  · have e : Hid (minB a b = b) := by unfold Hid minB; split <;> omega
    go_enter Try.func102, Try.ntmps102
    go_wp2
    go_ret
    exact ⟨ret_int e.out.symm, rfl⟩
set_option maxRecDepth 100000 in
set_option maxHeartbeats 1000000 in
theorem specl21Bending (bl : Nat) (span wd dp wood : Int) (A : Option Addr) (c : Nat) (ls : List LoadR) (w : World) (h : SlAt encLoad 2 w A ls) (hc : CellsB w bl span wd dp wood A ls.length c) (hg : GoodB span wd dp wood ls) :
    Calls Try.prog 65 #[.pointer (some ⟨bl, 0, none⟩)] w fun e w' => e = .returned (.int .i64 (bendB span wd dp wood ls)) ∧ Below w.heap.size w w' := by
  have HX := hide h
  have HC := hide hc
  have hbl := hc.lt
  have HG := hide hg
  have s1 := hg.s1
  have s2 := hg.s2
  have hn := hg.n
  obtain ⟨-, -, ⟨x1, x2⟩, ⟨x3, x4⟩, ⟨x5, x6⟩, ⟨x7, x8⟩⟩ := depth_bd hg.w1 hg.w2 hg.d1 hg.d2 hg.o1 hg.o2
  have e : Hid (bendB span wd dp wood ls = Pl.nr (sumB (bTerm span) ls) (wood * wd * dp * dp * dp / 250)) := by unfold Hid bendB; rfl
  clear h hg hc
  go_enter Try.func65, Try.ntmps65
  go_wp2_with fail
  go_loopw [4, 3] (fun v t wr => ∃ (k : Nat) (s : Int), v = .int .i64 k ∧ t = .int .i64 s ∧ k ≤ ls.length ∧ Hid (s = sumB (bTerm span) (ls.take k)) ∧ Below w.heap.size w wr) (fun v _ _ => ls.length - (intOf v).toNat)
  case atStart => exact ⟨0, 0, rfl, rfl, by omega, by simp [Hid, sumB], Below.refl _ _⟩
  case round =>
    obtain ⟨k, s, rfl, rfl, hk, hs, hb⟩ := hrel
    have bs := sumB_take_bd (f := bTerm span) k (fun l hl => bTerm_bd s1 s2 (HG.out.l l hl)) (by omega) hn
    rw [← hs.out] at bs
    have hcr := HC.out.below hb
    have g1 := hcr.c1
    have g2 := hcr.c2
    have g3 := hcr.c3
    have g4 := hcr.c4
    have g5 := hcr.c5
    have hblr := hcr.lt
    have hz := hb.size
    have HB := hide hb
    clear hcr
    by_cases hlt : k < ls.length
    · obtain ⟨b, off, rfl, hbk, hc⟩ := HX.out.below hb k hlt
      have c0 := hc 0 _ rfl
      have c1 := hc 1 _ rfl
      simp only [Nat.add_zero] at c0
      have hl := HG.out.l ls[k] (List.getElem_mem hlt)
      have ht := hide (sumB_take (f := bTerm span) hlt)
      have hki : (k : Int) < (ls.length : Int) := by omega
      clear hc hb
      generalize ls[k] = y at *
      obtain ⟨a, t⟩ := y
      simp only at c0 c1 hl
      obtain ⟨⟨a0, a1⟩, t0, t1⟩ := hl
      have hmn := minB_bd a0 a1
      obtain ⟨⟨m1, m2⟩, ⟨m3, m4⟩, ⟨m5, m6⟩, ⟨m7, m8⟩, ⟨m9, m10⟩⟩ := bParts (a := minB a (span - a)) s1 s2 hmn.1 hmn.2 t0 t1
      have hst : Hid (s + t * minB a (span - a) * (3 * span * span - 4 * minB a (span - a) * minB a (span - a)) = sumB (bTerm span) (ls.take (k + 1))) := hide (by rw [ht.out, hs.out]; rfl)
      go_wp2_with fail
      have k1 : IntKind.i64.wrap (span - a) = span - a := IntWalk.i64_in _ (by omega)
      refine wp_region_kept (by kernel_rfl) (by kernel_rfl) ?_
      intro gc gf gz
      repeat (go_big_quiet_step ((go_at_call 102; exact Calls.kept_same (specl00MinB _ _ _))))
      refine wpQuiet_nil ?_
      intro w1 hw'
      obtain ⟨⟨_, hb1⟩, rfl⟩ := hw'
      clear gc gf gz
      try dsimp only
      have fs1 := hb1.size
      try simp at fs1 hb1
      have c0' := (hb1.cell (p := ⟨b, off + k * 2, none⟩) hbk).trans c0
      have c1' := (hb1.cell (p := ⟨b, off + k * 2 + 1, none⟩) hbk).trans c1
      have g1' := (hb1.cell (p := ⟨bl, 1, none⟩) hblr).trans g1
      have g5' := (hb1.cell (p := ⟨bl, 5, none⟩) hblr).trans g5
      have hbl1 : bl < w1.heap.size := by omega
      have hbk1 : b < w1.heap.size := by omega
      have HB1 := hide (HB.out.trans (hb1.mono hz))
      clear hb1 g1 g5 c0 c1 k1
      generalize minB a (span - a) = mm at *
      go_wp2_with fail
      have k1 : IntKind.i64.wrap (t * mm) = t * mm := IntWalk.i64_in _ (by omega)
      have k2 : IntKind.i64.wrap (3 * span) = 3 * span := IntWalk.i64_in _ (by omega)
      have k3 : IntKind.i64.wrap (3 * span * span) = 3 * span * span := IntWalk.i64_in _ (by omega)
      have k4 : IntKind.i64.wrap (4 * mm) = 4 * mm := IntWalk.i64_in _ (by omega)
      have k5 : IntKind.i64.wrap (4 * mm * mm) = 4 * mm * mm := IntWalk.i64_in _ (by omega)
      have k6 : IntKind.i64.wrap (3 * span * span - 4 * mm * mm) = 3 * span * span - 4 * mm * mm := IntWalk.i64_in _ (by omega)
      have k7 : IntKind.i64.wrap (t * mm * (3 * span * span - 4 * mm * mm)) = t * mm * (3 * span * span - 4 * mm * mm) := IntWalk.i64_in _ (by omega)
      have k8 : IntKind.i64.wrap (s + t * mm * (3 * span * span - 4 * mm * mm)) = s + t * mm * (3 * span * span - 4 * mm * mm) := IntWalk.i64_in _ (by omega)
      go_quiet (fail)
      go_wp2_with fail
      go_roundw
      case rel => exact ⟨k + 1, _, by go_num, rfl, by omega, hst, below_drewN HB1.out _⟩
      case measure => simp [intOf]; omega
    · obtain rfl : k = ls.length := by omega
      have e2 : Hid (bendB span wd dp wood ls = Pl.nr s (wood * wd * dp * dp * dp / 250)) := hide (by rw [e.out, hs.out, List.take_length])
      go_wp2_with fail
      have k1 : IntKind.i64.wrap (wood * wd) = wood * wd := IntWalk.i64_in _ (by omega)
      have k2 : IntKind.i64.wrap (wood * wd * dp) = wood * wd * dp := IntWalk.i64_in _ (by omega)
      have k3 : IntKind.i64.wrap (wood * wd * dp * dp) = wood * wd * dp * dp := IntWalk.i64_in _ (by omega)
      have k4 : IntKind.i64.wrap (wood * wd * dp * dp * dp) = wood * wd * dp * dp * dp := IntWalk.i64_in _ (by omega)
      have k5 : (wood * wd * dp * dp * dp).tdiv 250 = wood * wd * dp * dp * dp / 250 := Int.tdiv_eq_ediv_of_nonneg (by omega)
      have k6 : IntKind.i64.wrap (wood * wd * dp * dp * dp / 250) = wood * wd * dp * dp * dp / 250 := IntWalk.i64_in _ (by omega)
      refine wp_region_kept (by kernel_rfl) (by kernel_rfl) ?_
      intro gc gf gz
      repeat (go_big_quiet_step ((go_at_call 63; exact Calls.kept_same (l01Div_any _ _ _ (by omega) (by omega) (by omega) (by omega)))))
      refine wpQuiet_nil ?_
      intro w2 hw'
      obtain ⟨⟨_, hb2⟩, rfl⟩ := hw'
      clear gc gf gz
      try dsimp only
      have fs2 := hb2.size
      try simp at fs2 hb2
      go_wp2_with fail
      go_ret
      exact ⟨ret_int e2.out.symm, HB.out.trans (hb2.mono hz)⟩
end Go.Proofs.Ytibdclihjipaiaa
