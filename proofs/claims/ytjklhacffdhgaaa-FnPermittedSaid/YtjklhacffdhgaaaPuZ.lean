/- The reference's search for the greatest force: a call within the list. -/
import Derived.Test.YtjklhacffdhgaaaPuY
namespace Go.Proofs.Ytjklhacffdhgaaa
open Go.RowKit

theorem frcs_len (xs : List SwingR) : (frcs xs).length = xs.length := by simp [frcs]
theorem frcs_getD {xs : List SwingR} {k : Nat} (h : k < xs.length) : (frcs xs).getD k 0 = xs[k].force := by
  unfold frcs; rw [List.getD_eq_getElem?_getD, List.getElem?_map, List.getElem?_eq_getElem h]; rfl
section
variable {w0 : World} {b : Nat} {lA aA rA : Option Addr} {lc ac rc n : Nat} {lim bud : Int} {w : World} {tv : Option Addr} {tc : Nat} {taken : List Int} {sway force : Int} {bv : Option Addr} {bc : Nat} {s : Pu.S}
theorem PuX.cells (h : PuX w0 b lA lc aA ac rA rc n lim bud w tv tc taken sway force bv bc s) : w.cell? ⟨b, 0, none⟩ = some (.slice lA n lc) ∧ w.cell? ⟨b, 1, none⟩ = some (.slice aA n ac) ∧ w.cell? ⟨b, 2, none⟩ = some (.slice rA (n + 1) rc) ∧ w.cell? ⟨b, 3, none⟩ = some (.int .i64 lim) ∧ w.cell? ⟨b, 4, none⟩ = some (.slice tv taken.length tc) ∧ w.cell? ⟨b, 5, none⟩ = some (.int .i64 sway) ∧ w.cell? ⟨b, 6, none⟩ = some (.int .i64 force) ∧ w.cell? ⟨b, 7, none⟩ = some (.slice bv s.best.length bc) ∧ w.cell? ⟨b, 8, none⟩ = some (.int .i64 s.most) ∧ w.cell? ⟨b, 9, none⟩ = some (.int .i64 (bud - s.left)) ∧ w.cell? ⟨b, 10, none⟩ = some (.int .i64 bud) ∧ w.cell? ⟨b, 11, none⟩ = some (.bool s.spent) := by
  have hst := h.st
  simp [World.cell?, hst, puCellsX]
theorem PuX.thaw (h : PuX w0 b lA lc aA ac rA rc n lim bud w tv tc taken sway force bv bc s) : w.frozen? ⟨b, 4, none⟩ = false ∧ w.frozen? ⟨b, 5, none⟩ = false ∧ w.frozen? ⟨b, 6, none⟩ = false ∧ w.frozen? ⟨b, 9, none⟩ = false ∧ w.frozen? ⟨b, 11, none⟩ = false := by
  have hst := h.st
  simp [World.frozen?, hst]
end
set_option maxRecDepth 100000 in
set_option maxHeartbeats 8000000 in
theorem run_goes (w0 : World) (b : Nat) (lA : Option Addr) (lc : Nat) (aA : Option Addr) (ac : Nat) (rA : Option Addr) (rc : Nat) (lim bud : Int) (xs : List SwingR) (am rl : List Int) (HL : Hid (SlAt encSwing 3 w0 lA xs)) (HA : Hid (SlAt encI 1 w0 aA am)) (HR : Hid (SlAt encI 1 w0 rA rl))
    (HLN : Hid (∀ g o, lA = some ⟨g, o, none⟩ → g ≠ b)) (HAN : Hid (∀ g o, aA = some ⟨g, o, none⟩ → g ≠ b)) (HRN : Hid (∀ g o, rA = some ⟨g, o, none⟩ → g ≠ b)) (hal : am.length = xs.length) (hrl : rl.length = xs.length + 1) (HRL : Hid (∀ k (h : k + 1 < rl.length), rl[k + 1] = Pu.rest (frcs xs) k))
    (HFV : Hid (∀ x ∈ frcs xs, 0 ≤ x ∧ x ≤ 1000000)) (HAV : Hid (∀ x ∈ am, 0 ≤ x ∧ x ≤ 1000000000000)) (hn : xs.length ≤ 16) (hl0 : lim ≤ 100000)
    (f : Nat) (ih : RunOK w0 b lA lc aA ac rA rc lim bud (frcs xs) am f) (k : Nat) (hk : k < xs.length) (hf : xs.length < f + 1 + k) (taken : List Int) (htl : taken.length ≤ k) (force sway : Int) (f0 : 0 ≤ force) (f1 : force ≤ 1000000 * k) (y0 : 0 ≤ sway) (y1 : sway ≤ lim) (s : Pu.S) (w : World) (tv : Option Addr) (tc : Nat) (bv : Option Addr) (bc : Nat)
    (HS : Hid (PuX w0 b lA lc aA ac rA rc (frcs xs).length lim bud w tv tc taken sway force bv bc s)) :
    Calls Try.prog 98 #[.pointer (some ⟨b, 0, none⟩), .int .i64 k] w (RunPost w0 b lA lc aA ac rA rc lim bud (frcs xs) am (f + 1) k taken force sway s) := by
  have hfl := frcs_len xs
  unfold RunPost
  rw [hfl] at HS ⊢
  obtain ⟨fin, hfin⟩ : ∃ fin, fin = Pu.pull (frcs xs) am lim (f + 1) k taken force sway s := ⟨_, rfl⟩
  rw [← hfin]
  obtain ⟨o1, ho1⟩ : ∃ o1, o1 = Pu.one (frcs xs) am lim f k taken force sway s := ⟨_, rfl⟩
  obtain ⟨rs, hrs⟩ : ∃ rs, rs = Pu.rest (frcs xs) k := ⟨_, rfl⟩
  obtain ⟨fk, hfk⟩ : ∃ fk, fk = xs[k].force := ⟨_, rfl⟩
  obtain ⟨ak, hake⟩ : ∃ ak, ak = am[k]'(by omega) := ⟨_, rfl⟩
  have had : am.getD k 0 = ak := by rw [List.getD_eq_getElem?_getD, List.getElem?_eq_getElem (by omega), hake]; rfl
  have hfd : (frcs xs).getD k 0 = fk := by rw [frcs_getD hk, hfk]
  have hgo := Pu.pull_goes (fs := frcs xs) (am := am) (lim := lim) (f := f) (taken := taken) (force := force) (sway := sway) (s := s) (show k ≠ (frcs xs).length by omega)
  rw [← hfin, ← ho1, ← hrs] at hgo
  have HFIN := hide hgo
  have HONE := hide (show o1 = Pu.enter (decide (sway + ak ≤ lim) && decide (s.most < force + fk + rs)) (Pu.pull (frcs xs) am lim f (k + 1) (taken ++ [(k : Int)]) (force + fk) (sway + ak)) s from by rw [ho1]; unfold Pu.one; rw [hfd, had, ← hrs])
  obtain ⟨r0, r1⟩ := rest_bd (k := k) HFV.out (by omega)
  rw [← hrs] at r0 r1
  obtain ⟨v0, v1⟩ : 0 ≤ fk ∧ fk ≤ 1000000 := by rw [hfk]; exact HFV.out _ (by unfold frcs; rw [List.mem_map]; exact ⟨xs[k], List.getElem_mem hk, rfl⟩)
  obtain ⟨u0, u1⟩ : 0 ≤ ak ∧ ak ≤ 1000000000000 := by rw [hake]; exact HAV.out _ (List.getElem_mem (by omega))
  obtain ⟨ba, oa, haA, hba, hc⟩ := HA.out k (by omega)
  subst haA
  have HAK := hide (show w0.cell? ⟨ba, oa + k, none⟩ = some (.int .i64 ak) from by have q := hc 0 _ rfl; simp only [Nat.add_zero, Nat.mul_one] at q; rw [q, hake])
  clear hc
  obtain ⟨br, or, hrA, hbr, hc⟩ := HR.out (k + 1) (by omega)
  subst hrA
  have HRK := hide (show w0.cell? ⟨br, or + (k + 1), none⟩ = some (.int .i64 rs) from by have q := hc 0 _ rfl; simp only [Nat.add_zero, Nat.mul_one] at q; rw [q, hrs, HRL.out k (by omega)])
  clear hc
  obtain ⟨bl, ol, hlA, hbl, hc⟩ := HL.out k hk
  subst hlA
  have HLK := hide (show w0.cell? ⟨bl, ol + k * 3 + 2, none⟩ = some (.int .i64 fk) from by have q := hc 2 _ rfl; rw [q, hfk])
  clear hc
  have hnab : ba ≠ b := HAN.out ba oa rfl
  have hnrb : br ≠ b := HRN.out br or rfl
  have hnlb : bl ≠ b := HLN.out bl ol rfl
  have HK := hide (fun (W : World) (h : w0.grownBy W (some b)) => And.intro ((h.cell_far ⟨ba, oa + k, none⟩ hba (fun q => by injection q with q; exact hnab q)).trans HAK.out) (And.intro ((h.cell_far ⟨br, or + (k + 1), none⟩ hbr (fun q => by injection q with q; exact hnrb q)).trans HRK.out) ((h.cell_far ⟨bl, ol + k * 3 + 2, none⟩ hbl (fun q => by injection q with q; exact hnlb q)).trans HLK.out)))
  have hst := HS.out.st
  have g0 : w.cell? ⟨b, 0, none⟩ = some (.slice (some ⟨bl, ol, none⟩) xs.length lc) := by simp [World.cell?, hst, puCellsX]
  have hbw := HS.out.lt
  have hd : ((k : Int) == (xs.length : Int)) = false := by simp; omega
  have hd2 : (k == xs.length) = false := by simp; omega
  have kk : IntKind.i64.wrap ((k : Int) + 1) = ((k + 1 : Nat) : Int) := by rw [IntWalk.i64_in _ (by omega)]; rfl
  have HFL := hide hfl
  clear hst hfin ho1 hrs hfk hake had hfd hgo hfl
  go_enter Try.func98, Try.ntmps98
  go_wp2_with fail
  clear g0 hd hd2
  go_loopg [4] 2 (fun gk v wr => ∃ (t : Int) (s' : Pu.S) (tv' : Option Addr) (tc' : Nat) (bv' : Option Addr) (bc' : Nat), v = .int .i64 t ∧ (gk : Int) = t + 1 ∧ Hid (PuX w0 b (some ⟨bl, ol, none⟩) lc (some ⟨ba, oa, none⟩) ac (some ⟨br, or, none⟩) rc xs.length lim bud wr tv' tc' taken sway force bv' bc' s') ∧ Hid ((t = 1 ∧ s' = s) ∨ (t = 0 ∧ s' = o1) ∨ (t = -1 ∧ s' = fin)))
  case atStart => exact ⟨1, s, tv, tc, bv, bc, rfl, by omega, HS, hide (.inl ⟨rfl, rfl⟩)⟩
  case round =>
    clear HS
    obtain ⟨t, s', tv', tc', bv', bc', rfl, hgt, HS, HT⟩ := hrel
    obtain ⟨left, spent, most, best⟩ := s'
    obtain ⟨m0, m1, m2, m3, m4⟩ := HS.out.inv
    obtain ⟨d0, d1⟩ := HS.out.bd
    simp only at m0 m1 m2 m3 m4 d0
    have hblr := HS.out.lt
    obtain ⟨g0, g1, g2, g3, g4, g5, g6, g7, g8, g9, g10, g11⟩ := HS.out.cells
    obtain ⟨f4, f5, f6, f9, f11⟩ := HS.out.thaw
    obtain ⟨q1, q2, q3⟩ := HK.out _ HS.out.gr
    simp only at g0 g1 g2 g3 g4 g5 g6 g7 g8 g9 g10 g11
    have gzr := HS.out.gr.size
    have z1r : ba < wr.heap.size := by omega
    have z2r : br < wr.heap.size := by omega
    have z3r : bl < wr.heap.size := by omega
    have hkl : (k : Int) < xs.length := by omega
    rcases HT.out with ⟨ht, hs⟩ | ⟨ht, hs⟩ | ⟨ht, hs⟩
    · subst ht
      have HONE2 := hide (show o1 = Pu.enter (decide (sway + ak ≤ lim) && decide (most < force + fk + rs)) (Pu.pull (frcs xs) am lim f (k + 1) (taken ++ [(k : Int)]) (force + fk) (sway + ak)) ⟨left, spent, most, best⟩ from by rw [HONE.out, ← hs])
      clear hs HT
      have kA : IntKind.i64.wrap (sway + ak) = sway + ak := IntWalk.i64_in _ (by omega)
      have kR : IntKind.i64.wrap (force + rs) = force + rs := IntWalk.i64_in _ (by omega)
      have kF : IntKind.i64.wrap (force + rs + fk) = force + rs + fk := IntWalk.i64_in _ (by omega)
      by_cases p1 : sway + ak ≤ lim
      · have dq : decide (lim < sway + ak) = false := by simp; omega
        go_wp2_with fail
        refine wp_region_kept (by kernel_rfl) (by kernel_rfl) ?_
        intro gc gf gz
        repeat (go_big_quiet_step (fail))
        refine wpQuiet_nil ?_
        intro w1 hw'
        obtain ⟨⟨_, hb1⟩, rfl⟩ := hw'
        clear gc gf gz
        try dsimp only
        have fs1 := hb1.size
        try simp at fs1 hb1
        have HS1 := hide (HS.out.below hb1)
        clear HS hb1 fs1
        clear g0 g1 g2 g3 g4 g5 g6 g7 g8 g9 g10 g11 f4 f5 f6 f9 f11 q1 q2 q3
        have hbl1 := HS1.out.lt
        obtain ⟨g0, g1, g2, g3, g4, g5, g6, g7, g8, g9, g10, g11⟩ := HS1.out.cells
        obtain ⟨f4, f5, f6, f9, f11⟩ := HS1.out.thaw
        obtain ⟨q1, q2, q3⟩ := HK.out _ HS1.out.gr
        simp only at g0 g1 g2 g3 g4 g5 g6 g7 g8 g9 g10 g11
        have gz1 := HS1.out.gr.size
        have z11 : ba < w1.heap.size := by omega
        have z21 : br < w1.heap.size := by omega
        have z31 : bl < w1.heap.size := by omega
        clear dq
        go_wp2_with fail
        refine wp_region_kept (by kernel_rfl) (by kernel_rfl) ?_
        intro gc gf gz
        repeat (go_big_quiet_step (fail))
        refine wpQuiet_nil ?_
        intro w2 hw'
        obtain ⟨⟨_, hb2⟩, rfl⟩ := hw'
        clear gc gf gz
        try dsimp only
        have fs2 := hb2.size
        try simp at fs2 hb2
        have HS2 := hide (HS1.out.below hb2)
        clear HS1 hb2 fs2
        clear g0 g1 g2 g3 g4 g5 g6 g7 g8 g9 g10 g11 f4 f5 f6 f9 f11 q1 q2 q3
        have hbl2 := HS2.out.lt
        obtain ⟨g0, g1, g2, g3, g4, g5, g6, g7, g8, g9, g10, g11⟩ := HS2.out.cells
        obtain ⟨f4, f5, f6, f9, f11⟩ := HS2.out.thaw
        obtain ⟨q1, q2, q3⟩ := HK.out _ HS2.out.gr
        simp only at g0 g1 g2 g3 g4 g5 g6 g7 g8 g9 g10 g11
        have gz2 := HS2.out.gr.size
        have z12 : ba < w2.heap.size := by omega
        have z22 : br < w2.heap.size := by omega
        have z32 : bl < w2.heap.size := by omega
        by_cases p2 : force + rs + fk ≤ most
        · have dm : decide (force + rs + fk ≤ most) = true := by simp; omega
          have dm2 : decide (most < force + rs + fk) = false := by simp; omega
          have HO := hide (show o1 = ⟨left, spent, most, best⟩ from by rw [HONE2.out]; exact Pu.enter_no (by rw [Bool.and_eq_false_iff]; right; simp; omega))
          go_wp2_with fail
          go_roundg 1
          case measure => omega
          case rel => exact ⟨0, _, tv', tc', bv', bc', by go_num, by omega, HS2, hide (.inr (.inl ⟨rfl, HO.out.symm⟩))⟩
        · have dm : decide (force + rs + fk ≤ most) = false := by simp; omega
          have dm2 : decide (most < force + rs + fk) = true := by simp; omega
          by_cases l0 : left = 0
          · have HO := hide (show o1 = ⟨left, true, most, best⟩ from by rw [HONE2.out]; exact Pu.enter_full (show (decide (sway + ak ≤ lim) && decide (most < force + fk + rs)) = true from by rw [Bool.and_eq_true]; exact ⟨by simp; omega, by simp; omega⟩) l0)
            have HFI := hide (show fin = ⟨left, true, most, best⟩ from by rw [HFIN.out, HO.out]; exact Pu.enter_spent rfl)
            have dn : (bud - left == bud) = true := by rw [beq_iff_eq]; omega
            clear HONE2
            go_wp2_with fail
            refine wp_region_kept (by kernel_rfl) (by kernel_rfl) ?_
            intro gc gf gz
            repeat (go_big_quiet_step (fail))
            refine wpQuiet_nil ?_
            intro w3 hw'
            obtain ⟨⟨_, hb3⟩, rfl⟩ := hw'
            clear gc gf gz
            try dsimp only
            have fs3 := hb3.size
            try simp at fs3 hb3
            have HS3 := hide (HS2.out.below hb3)
            clear HS2 hb3 fs3
            clear g0 g1 g2 g3 g4 g5 g6 g7 g8 g9 g10 g11 f4 f5 f6 f9 f11 q1 q2 q3
            have hbl3 := HS3.out.lt
            obtain ⟨g0, g1, g2, g3, g4, g5, g6, g7, g8, g9, g10, g11⟩ := HS3.out.cells
            obtain ⟨f4, f5, f6, f9, f11⟩ := HS3.out.thaw
            obtain ⟨q1, q2, q3⟩ := HK.out _ HS3.out.gr
            simp only at g0 g1 g2 g3 g4 g5 g6 g7 g8 g9 g10 g11
            have gz3 := HS3.out.gr.size
            have z13 : ba < w3.heap.size := by omega
            have z23 : br < w3.heap.size := by omega
            have z33 : bl < w3.heap.size := by omega
            have HF3 := hide (HS3.out.full l0)
            go_wp2_with fail
            ((try simp only [Exit.inBlock, Exit.then]); refine bodyPost_ret (results_none rfl _ _ _) rfl ?_)
            exact ⟨rfl, tv', tc', bv', bc', by rw [HFI.out]; exact HF3.out⟩
          · have hsp : spent = false := by
              cases spent
              · rfl
              · exact absurd (HS2.out.sp rfl) l0
            subst hsp
            have HO := hide (show o1 = Pu.pull (frcs xs) am lim f (k + 1) (taken ++ [(k : Int)]) (force + fk) (sway + ak) ⟨left - 1, false, most, best⟩ from by rw [HONE2.out]; exact Pu.enter_go (show (decide (sway + ak ≤ lim) && decide (most < force + fk + rs)) = true from by rw [Bool.and_eq_true]; exact ⟨by simp; omega, by simp; omega⟩) rfl l0)
            have dn : (bud - left == bud) = false := beq_eq_false_iff_ne.2 (by omega)
            clear HONE2
            go_wp2_with fail
            refine wp_region_kept (by kernel_rfl) (by kernel_rfl) ?_
            intro gc gf gz
            repeat (go_big_quiet_step (fail))
            refine wpQuiet_nil ?_
            intro w3 hw'
            obtain ⟨⟨_, hb3⟩, rfl⟩ := hw'
            clear gc gf gz
            try dsimp only
            have fs3 := hb3.size
            try simp at fs3 hb3
            have HS3 := hide (HS2.out.below hb3)
            clear HS2 hb3 fs3
            clear g0 g1 g2 g3 g4 g5 g6 g7 g8 g9 g10 g11 f4 f5 f6 f9 f11 q1 q2 q3
            have hbl3 := HS3.out.lt
            obtain ⟨g0, g1, g2, g3, g4, g5, g6, g7, g8, g9, g10, g11⟩ := HS3.out.cells
            obtain ⟨f4, f5, f6, f9, f11⟩ := HS3.out.thaw
            obtain ⟨q1, q2, q3⟩ := HK.out _ HS3.out.gr
            simp only at g0 g1 g2 g3 g4 g5 g6 g7 g8 g9 g10 g11
            have gz3 := HS3.out.gr.size
            have z13 : ba < w3.heap.size := by omega
            have z23 : br < w3.heap.size := by omega
            have z33 : bl < w3.heap.size := by omega
            have HS4 := hide (HS3.out.node (nd := bud - left + 1) l0 rfl)
            go_upto_region 17 with fail
            generalize w3.setCell ⟨b, 9, none⟩ (.int .i64 (bud - left + 1)) = w4 at *
            clear HS3
            clear g0 g1 g2 g3 g4 g5 g6 g7 g8 g9 g10 g11 f4 f5 f6 f9 f11 q1 q2 q3
            have hbl4 := HS4.out.lt
            obtain ⟨g0, g1, g2, g3, g4, g5, g6, g7, g8, g9, g10, g11⟩ := HS4.out.cells
            obtain ⟨f4, f5, f6, f9, f11⟩ := HS4.out.thaw
            obtain ⟨q1, q2, q3⟩ := HK.out _ HS4.out.gr
            simp only at g0 g1 g2 g3 g4 g5 g6 g7 g8 g9 g10 g11
            have gz4 := HS4.out.gr.size
            have z14 : ba < w4.heap.size := by omega
            have z24 : br < w4.heap.size := by omega
            have z34 : bl < w4.heap.size := by omega
            go_wp2_with (at_builtin; go_loud (refine wpList_appI_at rfl _ _ rfl w0.heap.size rfl HS4.out.ot rfl (by omega) ?_ ?_; (focus omega); intro A8 c8 w8 ho8 hb8 hg8 hat8; have HP8 := hide (HS4.out.push ho8 hb8 hg8 hat8); have g4' : w8.cell? ⟨b, 4, none⟩ = some (.slice tv' taken.length tc') := (hb8.cell (p := ⟨b, 4, none⟩) HS4.out.hb).trans g4; have f4' : w8.frozen? ⟨b, 4, none⟩ = false := (hb8.frozen (p := ⟨b, 4, none⟩) HS4.out.hb).trans f4; clear ho8 hb8 hg8 hat8))
            clear g4' f4' HS4
            clear g0 g1 g2 g3 g4 g5 g6 g7 g8 g9 g10 g11 f4 f5 f6 f9 f11 q1 q2 q3
            generalize hw9 : w8.setCell ⟨b, 4, none⟩ (.slice A8 (taken.length + 1) c8) = w9 at *
            clear hw9
            have HP9 := HP8
            clear HP8
            go_upto_region 18 with fail
            go_cut [] (fun wx => Hid (PuX w0 b (some ⟨bl, ol, none⟩) lc (some ⟨ba, oa, none⟩) ac (some ⟨br, or, none⟩) rc xs.length lim bud wx A8 c8 (taken ++ [(k : Int)]) (sway + ak) force bv' bc' ⟨left - 1, false, most, best⟩))
            case first =>
              have hbl9 := HP9.out.lt
              obtain ⟨g0, g1, g2, g3, g4, g5, g6, g7, g8, g9, g10, g11⟩ := HP9.out.cells
              obtain ⟨f4, f5, f6, f9, f11⟩ := HP9.out.thaw
              obtain ⟨q1, q2, q3⟩ := HK.out _ HP9.out.gr
              (try simp only at g0 g1 g2 g3 g4 g5 g6 g7 g8 g9 g10 g11)
              have gz9 := HP9.out.gr.size
              have z19 : ba < w9.heap.size := by omega
              have z29 : br < w9.heap.size := by omega
              have z39 : bl < w9.heap.size := by omega
              have kY : IntKind.i64.wrap (sway + ak) = sway + ak := IntWalk.i64_in _ (by omega)
              go_region
              all_goals
                go_wp2_with fail
                go_meet
                exact hide (by first | exact (HP9.out.below (Below.refl _ _).drew).swayTo _ | exact (HP9.out.swayTo _).below (Below.refl _ _).drew | exact HP9.out.swayTo _)
            case rest =>
              obtain ⟨w10, rfl⟩ : ∃ w10, w10 = wc := ⟨_, rfl⟩
              have HP10 : Hid (PuX w0 b (some ⟨bl, ol, none⟩) lc (some ⟨ba, oa, none⟩) ac (some ⟨br, or, none⟩) rc xs.length lim bud w10 A8 c8 (taken ++ [(k : Int)]) (sway + ak) force bv' bc' ⟨left - 1, false, most, best⟩) := hcut
              clear HP9 hcut
              go_upto_region 19 with fail
              go_cut [] (fun wx => Hid (PuX w0 b (some ⟨bl, ol, none⟩) lc (some ⟨ba, oa, none⟩) ac (some ⟨br, or, none⟩) rc xs.length lim bud wx A8 c8 (taken ++ [(k : Int)]) (sway + ak) (force + fk) bv' bc' ⟨left - 1, false, most, best⟩))
              case first =>
                have hbl10 := HP10.out.lt
                obtain ⟨g0, g1, g2, g3, g4, g5, g6, g7, g8, g9, g10, g11⟩ := HP10.out.cells
                obtain ⟨f4, f5, f6, f9, f11⟩ := HP10.out.thaw
                obtain ⟨q1, q2, q3⟩ := HK.out _ HP10.out.gr
                (try simp only at g0 g1 g2 g3 g4 g5 g6 g7 g8 g9 g10 g11)
                have gz10 := HP10.out.gr.size
                have z110 : ba < w10.heap.size := by omega
                have z210 : br < w10.heap.size := by omega
                have z310 : bl < w10.heap.size := by omega
                have kG : IntKind.i64.wrap (force + fk) = force + fk := IntWalk.i64_in _ (by omega)
                go_region
                all_goals
                  go_wp2_with fail
                  go_meet
                  exact hide (by first | exact (HP10.out.below (Below.refl _ _).drew).forceTo _ | exact (HP10.out.forceTo _).below (Below.refl _ _).drew | exact HP10.out.forceTo _)
              case rest =>
                obtain ⟨w11, rfl⟩ : ∃ w11, w11 = wc := ⟨_, rfl⟩
                have HP11 : Hid (PuX w0 b (some ⟨bl, ol, none⟩) lc (some ⟨ba, oa, none⟩) ac (some ⟨br, or, none⟩) rc xs.length lim bud w11 A8 c8 (taken ++ [(k : Int)]) (sway + ak) (force + fk) bv' bc' ⟨left - 1, false, most, best⟩) := hcut
                clear HP10 hcut
                have HQ := hide (ih (k + 1) (taken ++ [(k : Int)]) (force + fk) (sway + ak) ⟨left - 1, false, most, best⟩ w11 A8 c8 bv' bc' (by rw [HFL.out]; omega) (by rw [HFL.out]; omega) (by simp; omega) (by omega) (by omega) (by omega) p1 (by rw [HFL.out]; exact HP11))
                go_wp2_with fail
                refine HQ.out.mono ?_
                rintro e w13 ⟨rfl, tv13, tc13, bv13, bc13, hP⟩
                rw [HFL.out, ← HO.out] at hP
                obtain ⟨g13, hcv, hcap⟩ := own_cap hP.ot rfl (by simp)
                subst hcv
                have hlen : (taken ++ [(k : Int)]).length = taken.length + 1 := by simp
                rw [hlen] at hcap
                have HP13 := hide hP
                clear hP HQ HP11
                go_upto_region 21 with fail
                go_cut [] (fun wx => Hid (PuX w0 b (some ⟨bl, ol, none⟩) lc (some ⟨ba, oa, none⟩) ac (some ⟨br, or, none⟩) rc xs.length lim bud wx (some ⟨g13, 0, none⟩) tc13 taken (sway + ak) (force + fk) bv13 bc13 o1))
                case first =>
                  have hbl13 := HP13.out.lt
                  obtain ⟨g0, g1, g2, g3, g4, g5, g6, g7, g8, g9, g10, g11⟩ := HP13.out.cells
                  obtain ⟨f4, f5, f6, f9, f11⟩ := HP13.out.thaw
                  obtain ⟨q1, q2, q3⟩ := HK.out _ HP13.out.gr
                  (try simp only at g0 g1 g2 g3 g4 g5 g6 g7 g8 g9 g10 g11)
                  have gz13 := HP13.out.gr.size
                  have z113 : ba < w13.heap.size := by omega
                  have z213 : br < w13.heap.size := by omega
                  have z313 : bl < w13.heap.size := by omega
                  rw [hlen] at g4
                  have k0' : IntKind.i64.wrap ((taken.length : Int) + 1 - 1) = taken.length := by rw [show (taken.length : Int) + 1 - 1 = taken.length by omega]; exact IntWalk.i64_in _ (by omega)
                  have hcap2 : taken.length ≤ tc13 := by omega
                  have htl2 : taken.length ≤ 16 := by omega
                  go_region
                  all_goals
                    go_wp2_with fail
                    go_meet
                    exact hide (by first | exact (HP13.out.below (Below.refl _ _).drew).pop rfl | exact (HP13.out.pop rfl).below (Below.refl _ _).drew | exact HP13.out.pop rfl)
                case rest =>
                  obtain ⟨w14, rfl⟩ : ∃ w14, w14 = wc := ⟨_, rfl⟩
                  have HP14 : Hid (PuX w0 b (some ⟨bl, ol, none⟩) lc (some ⟨ba, oa, none⟩) ac (some ⟨br, or, none⟩) rc xs.length lim bud w14 (some ⟨g13, 0, none⟩) tc13 taken (sway + ak) (force + fk) bv13 bc13 o1) := hcut
                  clear HP13 hcut
                  go_upto_region 22 with fail
                  go_cut [] (fun wx => Hid (PuX w0 b (some ⟨bl, ol, none⟩) lc (some ⟨ba, oa, none⟩) ac (some ⟨br, or, none⟩) rc xs.length lim bud wx (some ⟨g13, 0, none⟩) tc13 taken sway (force + fk) bv13 bc13 o1))
                  case first =>
                    have hbl14 := HP14.out.lt
                    obtain ⟨g0, g1, g2, g3, g4, g5, g6, g7, g8, g9, g10, g11⟩ := HP14.out.cells
                    obtain ⟨f4, f5, f6, f9, f11⟩ := HP14.out.thaw
                    obtain ⟨q1, q2, q3⟩ := HK.out _ HP14.out.gr
                    (try simp only at g0 g1 g2 g3 g4 g5 g6 g7 g8 g9 g10 g11)
                    have gz14 := HP14.out.gr.size
                    have z114 : ba < w14.heap.size := by omega
                    have z214 : br < w14.heap.size := by omega
                    have z314 : bl < w14.heap.size := by omega
                    have kY : IntKind.i64.wrap (sway + ak - ak) = sway := by rw [show sway + ak - ak = sway by omega]; exact IntWalk.i64_in _ (by omega)
                    go_region
                    all_goals
                      go_wp2_with fail
                      go_meet
                      exact hide (by first | exact (HP14.out.below (Below.refl _ _).drew).swayTo _ | exact (HP14.out.swayTo _).below (Below.refl _ _).drew | exact HP14.out.swayTo _)
                  case rest =>
                    obtain ⟨w15, rfl⟩ : ∃ w15, w15 = wc := ⟨_, rfl⟩
                    have HP15 : Hid (PuX w0 b (some ⟨bl, ol, none⟩) lc (some ⟨ba, oa, none⟩) ac (some ⟨br, or, none⟩) rc xs.length lim bud w15 (some ⟨g13, 0, none⟩) tc13 taken sway (force + fk) bv13 bc13 o1) := hcut
                    clear HP14 hcut
                    go_upto_region 23 with fail
                    have hbl15 := HP15.out.lt
                    obtain ⟨g0, g1, g2, g3, g4, g5, g6, g7, g8, g9, g10, g11⟩ := HP15.out.cells
                    obtain ⟨f4, f5, f6, f9, f11⟩ := HP15.out.thaw
                    obtain ⟨q1, q2, q3⟩ := HK.out _ HP15.out.gr
                    (try simp only at g0 g1 g2 g3 g4 g5 g6 g7 g8 g9 g10 g11)
                    have gz15 := HP15.out.gr.size
                    have z115 : ba < w15.heap.size := by omega
                    have z215 : br < w15.heap.size := by omega
                    have z315 : bl < w15.heap.size := by omega
                    have kG : IntKind.i64.wrap (force + fk - fk) = force := by rw [show force + fk - fk = force by omega]; exact IntWalk.i64_in _ (by omega)
                    go_region
                    all_goals
                      go_wp2_with fail
                      go_roundg 1
                      case measure => omega
                      case rel => exact ⟨0, _, _, _, _, _, by go_num, by omega, hide (by first | exact (HP15.out.below (Below.refl _ _).drew).forceTo _ | exact (HP15.out.forceTo _).below (Below.refl _ _).drew | exact HP15.out.forceTo _), hide (.inr (.inl ⟨rfl, rfl⟩))⟩
      · have dq : decide (lim < sway + ak) = true := by simp; omega
        have HO := hide (show o1 = ⟨left, spent, most, best⟩ from by rw [HONE2.out]; exact Pu.enter_no (by simp [p1]))
        go_wp2_with fail
        refine wp_region_kept (by kernel_rfl) (by kernel_rfl) ?_
        intro gc gf gz
        repeat (go_big_quiet_step (fail))
        refine wpQuiet_nil ?_
        intro w1 hw'
        obtain ⟨⟨_, hb1⟩, rfl⟩ := hw'
        clear gc gf gz
        try dsimp only
        have fs1 := hb1.size
        try simp at fs1 hb1
        have HS1 := hide (HS.out.below hb1)
        clear HS hb1 fs1
        clear g0 g1 g2 g3 g4 g5 g6 g7 g8 g9 g10 g11 f4 f5 f6 f9 f11 q1 q2 q3
        have hbl1 := HS1.out.lt
        obtain ⟨g0, g1, g2, g3, g4, g5, g6, g7, g8, g9, g10, g11⟩ := HS1.out.cells
        obtain ⟨f4, f5, f6, f9, f11⟩ := HS1.out.thaw
        obtain ⟨q1, q2, q3⟩ := HK.out _ HS1.out.gr
        simp only at g0 g1 g2 g3 g4 g5 g6 g7 g8 g9 g10 g11
        have gz1 := HS1.out.gr.size
        have z11 : ba < w1.heap.size := by omega
        have z21 : br < w1.heap.size := by omega
        have z31 : bl < w1.heap.size := by omega
        clear p1
        go_wp2_with fail
        go_roundg 1
        case measure => omega
        case rel => exact ⟨0, _, tv', tc', bv', bc', by go_num, by omega, HS1, hide (.inr (.inl ⟨rfl, HO.out.symm⟩))⟩
    · subst ht
      have HFIN2 := hide (show fin = Pu.enter (decide (most < force + rs)) (Pu.pull (frcs xs) am lim f (k + 1) taken force sway) ⟨left, spent, most, best⟩ from by rw [HFIN.out, ← hs])
      clear hs HT
      have kR : IntKind.i64.wrap (force + rs) = force + rs := IntWalk.i64_in _ (by omega)
      go_wp2_with fail
      refine wp_region_kept (by kernel_rfl) (by kernel_rfl) ?_
      intro gc gf gz
      repeat (go_big_quiet_step (fail))
      refine wpQuiet_nil ?_
      intro w1 hw'
      obtain ⟨⟨_, hb1⟩, rfl⟩ := hw'
      clear gc gf gz
      try dsimp only
      have fs1 := hb1.size
      try simp at fs1 hb1
      have HS1 := hide (HS.out.below hb1)
      clear HS hb1 fs1
      clear g0 g1 g2 g3 g4 g5 g6 g7 g8 g9 g10 g11 f4 f5 f6 f9 f11 q1 q2 q3
      have hbl1 := HS1.out.lt
      obtain ⟨g0, g1, g2, g3, g4, g5, g6, g7, g8, g9, g10, g11⟩ := HS1.out.cells
      obtain ⟨f4, f5, f6, f9, f11⟩ := HS1.out.thaw
      obtain ⟨q1, q2, q3⟩ := HK.out _ HS1.out.gr
      simp only at g0 g1 g2 g3 g4 g5 g6 g7 g8 g9 g10 g11
      have gz1 := HS1.out.gr.size
      have z11 : ba < w1.heap.size := by omega
      have z21 : br < w1.heap.size := by omega
      have z31 : bl < w1.heap.size := by omega
      go_wp2_with fail
      refine wp_region_kept (by kernel_rfl) (by kernel_rfl) ?_
      intro gc gf gz
      repeat (go_big_quiet_step (fail))
      refine wpQuiet_nil ?_
      intro w2 hw'
      obtain ⟨⟨_, hb2⟩, rfl⟩ := hw'
      clear gc gf gz
      try dsimp only
      have fs2 := hb2.size
      try simp at fs2 hb2
      have HS2 := hide (HS1.out.below hb2)
      clear HS1 hb2 fs2
      clear g0 g1 g2 g3 g4 g5 g6 g7 g8 g9 g10 g11 f4 f5 f6 f9 f11 q1 q2 q3
      have hbl2 := HS2.out.lt
      obtain ⟨g0, g1, g2, g3, g4, g5, g6, g7, g8, g9, g10, g11⟩ := HS2.out.cells
      obtain ⟨f4, f5, f6, f9, f11⟩ := HS2.out.thaw
      obtain ⟨q1, q2, q3⟩ := HK.out _ HS2.out.gr
      simp only at g0 g1 g2 g3 g4 g5 g6 g7 g8 g9 g10 g11
      have gz2 := HS2.out.gr.size
      have z12 : ba < w2.heap.size := by omega
      have z22 : br < w2.heap.size := by omega
      have z32 : bl < w2.heap.size := by omega
      by_cases p2 : force + rs ≤ most
      · have dm : decide (force + rs ≤ most) = true := by simp; omega
        have HO := hide (show fin = ⟨left, spent, most, best⟩ from by rw [HFIN2.out]; exact Pu.enter_no (by simp; omega))
        go_wp2_with fail
        go_roundg 0
        case measure => omega
        case rel => exact ⟨-1, _, tv', tc', bv', bc', by go_num, by omega, HS2, hide (.inr (.inr ⟨rfl, HO.out.symm⟩))⟩
      · have dm : decide (force + rs ≤ most) = false := by simp; omega
        by_cases l0 : left = 0
        · have HFI := hide (show fin = ⟨left, true, most, best⟩ from by rw [HFIN2.out]; exact Pu.enter_full (show decide (most < force + rs) = true from by simp; omega) l0)
          have dn : (bud - left == bud) = true := by rw [beq_iff_eq]; omega
          clear HFIN2
          go_wp2_with fail
          refine wp_region_kept (by kernel_rfl) (by kernel_rfl) ?_
          intro gc gf gz
          repeat (go_big_quiet_step (fail))
          refine wpQuiet_nil ?_
          intro w3 hw'
          obtain ⟨⟨_, hb3⟩, rfl⟩ := hw'
          clear gc gf gz
          try dsimp only
          have fs3 := hb3.size
          try simp at fs3 hb3
          have HS3 := hide (HS2.out.below hb3)
          clear HS2 hb3 fs3
          clear g0 g1 g2 g3 g4 g5 g6 g7 g8 g9 g10 g11 f4 f5 f6 f9 f11 q1 q2 q3
          have hbl3 := HS3.out.lt
          obtain ⟨g0, g1, g2, g3, g4, g5, g6, g7, g8, g9, g10, g11⟩ := HS3.out.cells
          obtain ⟨f4, f5, f6, f9, f11⟩ := HS3.out.thaw
          obtain ⟨q1, q2, q3⟩ := HK.out _ HS3.out.gr
          simp only at g0 g1 g2 g3 g4 g5 g6 g7 g8 g9 g10 g11
          have gz3 := HS3.out.gr.size
          have z13 : ba < w3.heap.size := by omega
          have z23 : br < w3.heap.size := by omega
          have z33 : bl < w3.heap.size := by omega
          have HF3 := hide (HS3.out.full l0)
          go_wp2_with fail
          ((try simp only [Exit.inBlock, Exit.then]); refine bodyPost_ret (results_none rfl _ _ _) rfl ?_)
          exact ⟨rfl, tv', tc', bv', bc', by rw [HFI.out]; exact HF3.out⟩
        · have hsp : spent = false := by
            cases spent
            · rfl
            · exact absurd (HS2.out.sp rfl) l0
          subst hsp
          have HO := hide (show fin = Pu.pull (frcs xs) am lim f (k + 1) taken force sway ⟨left - 1, false, most, best⟩ from by rw [HFIN2.out]; exact Pu.enter_go (show decide (most < force + rs) = true from by simp; omega) rfl l0)
          have dn : (bud - left == bud) = false := beq_eq_false_iff_ne.2 (by omega)
          clear HFIN2
          go_wp2_with fail
          refine wp_region_kept (by kernel_rfl) (by kernel_rfl) ?_
          intro gc gf gz
          repeat (go_big_quiet_step (fail))
          refine wpQuiet_nil ?_
          intro w3 hw'
          obtain ⟨⟨_, hb3⟩, rfl⟩ := hw'
          clear gc gf gz
          try dsimp only
          have fs3 := hb3.size
          try simp at fs3 hb3
          have HS3 := hide (HS2.out.below hb3)
          clear HS2 hb3 fs3
          clear g0 g1 g2 g3 g4 g5 g6 g7 g8 g9 g10 g11 f4 f5 f6 f9 f11 q1 q2 q3
          have hbl3 := HS3.out.lt
          obtain ⟨g0, g1, g2, g3, g4, g5, g6, g7, g8, g9, g10, g11⟩ := HS3.out.cells
          obtain ⟨f4, f5, f6, f9, f11⟩ := HS3.out.thaw
          obtain ⟨q1, q2, q3⟩ := HK.out _ HS3.out.gr
          simp only at g0 g1 g2 g3 g4 g5 g6 g7 g8 g9 g10 g11
          have gz3 := HS3.out.gr.size
          have z13 : ba < w3.heap.size := by omega
          have z23 : br < w3.heap.size := by omega
          have z33 : bl < w3.heap.size := by omega
          have HS4 := hide (HS3.out.node (nd := bud - left + 1) l0 rfl)
          go_wp2_with fail
          generalize w3.setCell ⟨b, 9, none⟩ (.int .i64 (bud - left + 1)) = w4 at *
          have HQ := hide (ih (k + 1) taken force sway ⟨left - 1, false, most, best⟩ w4 tv' tc' bv' bc' (by rw [HFL.out]; omega) (by rw [HFL.out]; omega) (by omega) (by omega) (by omega) (by omega) (by omega) (by rw [HFL.out]; exact HS4))
          refine HQ.out.mono ?_
          rintro e w13 ⟨rfl, tv13, tc13, bv13, bc13, hP⟩
          rw [HFL.out, ← HO.out] at hP
          have HP13 := hide hP
          clear hP HQ HS4 HS3
          go_wp2_with fail
          go_roundg 0
          case measure => omega
          case rel => exact ⟨-1, _, _, _, _, _, by go_num, by omega, HP13, hide (.inr (.inr ⟨rfl, rfl⟩))⟩
    · subst ht
      have HE := hide hs
      clear hs HT
      go_wp2_with fail
      go_end0
      exact ⟨rfl, tv', tc', bv', bc', by rw [← HE.out]; exact HS.out⟩
end Go.Proofs.Ytjklhacffdhgaaa
