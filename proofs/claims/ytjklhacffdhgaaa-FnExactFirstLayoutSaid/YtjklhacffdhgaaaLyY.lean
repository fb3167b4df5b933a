/- The reference's search for a layout: the way that tries places. -/
import Derived.Test.YtjklhacffdhgaaaLyX
namespace Go.Proofs.Ytjklhacffdhgaaa
open Go.RowKit

theorem heap_five {w1 : World} {v0 v1 v2 v3 v4 : Value} {T : TypeId} {b : Nat} {u0 u1 u2 u3 u4 : Value} (h : w1.heap[b]? = some (.cells #[u0, u1, u2, u3, u4] T (0, 0))) : (((((w1.setCell ⟨b, 0, none⟩ v0).setCell ⟨b, 1, none⟩ v1).setCell ⟨b, 2, none⟩ v2).setCell ⟨b, 3, none⟩ v3).setCell ⟨b, 4, none⟩ v4).heap[b]? = some (.cells #[v0, v1, v2, v3, v4] T (0, 0)) := by
  simpa using heap_set' v4 (heap_set' v3 (heap_set' v2 (heap_set' v1 (heap_set' v0 h (j := 0)) (j := 1)) (j := 2)) (j := 3)) (j := 4)
theorem ended_of {s : Ly.S PlaceR} (h1 : Ly.ended s = false) : s.spent = false ∧ s.got = false := by unfold Ly.ended at h1; simpa using h1
set_option maxRecDepth 100000 in
set_option maxHeartbeats 4000000 in
theorem visit_goes (w0 : World) (b bc : Nat) (A : Option Addr) (c : Nat) (a1 a2 a3 g sp z bud : Int) (rs : List Int) (HX : Hid (SlAt encI 1 w0 A rs)) (HR : Hid (∀ r ∈ rs, inB r 1 5000 = true)) (h24 : rs.length ≤ 24) (HC : Hid (vCh a1 a2 a3 = true)) (HG : Hid (inB g 0 5000 = true)) (HSP : Hid (inB sp 1 20000 = true)) (HZ : Hid (inB z 0 20000 = true))
    (HCH : Hid (w0.heap[bc]? = some (.cells #[.int .i64 a1, .int .i64 a2, .int .i64 a3] 86 (0, 0))))
    (f : Nat) (ih : VisitLy w0 b bc A c a1 a2 a3 g sp z bud rs f) (left : Int) (list : List PlaceR) (l : List PlaceR) (w : World) (pv : Option Addr) (pc : Nat)
    (HS : Hid (LyX w0 b bc A rs.length c g sp z bud w pv pc l ⟨left, false, false, list⟩)) (HL : Hid (GoodL l)) (h0 : left ≠ 0) (hl : l.length < rs.length) (hf : rs.length < f + 1 + l.length) :
    Calls Try.prog 125 #[.pointer (some ⟨b, 0, none⟩)] w (VisitPost w0 b bc A c a1 a2 a3 g sp z bud rs (f + 1) l ⟨left, false, false, list⟩ pv pc w) := by
  obtain ⟨⟨c1, c2⟩, ⟨c3, c4⟩, -⟩ := vCh_true _ _ _ HC.out
  obtain ⟨s1, s2⟩ := inB_true HSP.out
  have E1 := hide (show lyVisit a1 a2 a3 g sp z rs (f + 1) l ⟨left, false, false, list⟩ = Ly.rounds (Ly.col (freeB a1 a2 a3 g) (lyP sp z rs) rs.length (lyN a1 sp) (lyN a2 sp) f l) (lyN a1 sp) 0 ⟨left - 1, false, false, list⟩ from Ly.visit_goes rfl h0 (by omega))
  obtain ⟨nx, hnx⟩ : ∃ nx, nx = lyN a1 sp := ⟨_, rfl⟩
  obtain ⟨ny, hny⟩ : ∃ ny, ny = lyN a2 sp := ⟨_, rfl⟩
  have IX := hide (fun i : Nat => hnx ▸ lyN_iff (a := a1) (st := sp) (by omega) s1 i)
  have IY := hide (fun i : Nat => hny ▸ lyN_iff (a := a2) (st := sp) (by omega) s1 i)
  have HNX := hide hnx
  have HNY := hide hny
  clear hnx hny
  have hst := HS.out.st
  obtain ⟨i0, i1⟩ := HS.out.inv
  obtain ⟨t1, t2⟩ := HS.out.bud
  simp only at i0 i1 t1
  have hnd : Ly.nodes bud ⟨left, false, false, list⟩ = bud - left := rfl
  rw [hnd] at hst
  have g6 : w.cell? ⟨b, 6, none⟩ = some (.int .i64 (bud - left)) := by simp [World.cell?, hst]
  have f6 : w.frozen? ⟨b, 6, none⟩ = false := by simp [World.frozen?, hst]
  have hbl := HS.out.lt
  have hwb := HS.out.bel.size
  have hb0 := HS.out.hb
  have hbc : bc < w0.heap.size := heap_lt HCH.out
  obtain ⟨bq, oq, hA, hbq, hc⟩ := HX.out l.length hl
  subst hA
  have HQ0 := hide (hc 0 _ rfl)
  clear hc
  obtain ⟨rk, hrk⟩ : ∃ rk, rk = rs[l.length] := ⟨_, rfl⟩
  rw [← hrk] at HQ0
  simp only [Nat.add_zero, Nat.mul_one] at HQ0
  obtain ⟨nm, hnm⟩ : ∃ nm, nm = lyNm l.length := ⟨_, rfl⟩
  have HP := hide (fun i j : Nat => lyP_eq (sp := sp) (z := z) (i := i) (j := j) hl hnm hrk)
  have HV := hide (fun (i j : Nat) (q1 : sp * i ≤ a1) (q2 : sp * j ≤ a2) => lyP_ok (k := l.length) hl h24 HR.out c2 c4 (show 0 ≤ sp by omega) q1 q2 HZ.out)
  have hl24 : l.length < 24 := by omega
  have HNM := hide hnm
  obtain ⟨nd, hnd2⟩ : ∃ nd, nd = bud - left + 1 := ⟨_, rfl⟩
  have k0 : IntKind.i64.wrap (bud - left + 1) = nd := by rw [hnd2]; exact IntWalk.i64_in _ (by omega)
  have HS1 := hide (HS.out.node h0 (nd := nd) hnd2)
  have HND2 := hide (show Ly.nodes bud ⟨left - 1, false, false, list⟩ = nd from by rw [hnd2]; simp [Ly.nodes]; omega)
  have F1 := hide (Fr.set (b := b) (w := w) (v := .slice pv l.length pc) Fr.refl 6 (.int .i64 nd))
  have hle : decide (bud < nd) = false := by simp [hnd2]; omega
  have hd : ((l.length : Int) == (rs.length : Int)) = false := by simp; omega
  have hd2 : (l.length == rs.length) = false := by simp; omega
  clear hst hnd h0 HS hnm hrk hnd2
  go_enter Try.func125, Try.ntmps125
  go_wp2_with fail
  clear k0 g6 f6
  have hst2 := HS1.out.st
  rw [HND2.out] at hst2
  generalize w.setCell ⟨b, 6, none⟩ (.int .i64 nd) = w1 at *
  have q6 : w1.cell? ⟨b, 6, none⟩ = some (.int .i64 nd) := by simp [World.cell?, hst2]
  have q7 : w1.cell? ⟨b, 7, none⟩ = some (.int .i64 bud) := by simp [World.cell?, hst2]
  have q1 : w1.cell? ⟨b, 1, none⟩ = some (.slice (some ⟨bq, oq, none⟩) rs.length c) := by simp [World.cell?, hst2]
  have q5 : w1.cell? ⟨b, 5, none⟩ = some (.slice pv l.length pc) := by simp [World.cell?, hst2]
  have hbl2 := HS1.out.lt
  clear hst2
  refine wp_region_kept (by kernel_rfl) (by kernel_rfl) ?_
  intro gc gf gz
  repeat (go_big_quiet_step (fail))
  refine wpQuiet_nil ?_
  intro w2 hw'
  obtain ⟨⟨_, hb2⟩, rfl⟩ := hw'
  clear gc gf gz
  try dsimp only
  have fs2 := hb2.size
  try simp at fs2 hb2
  have HS2 := hide (HS1.out.below hb2)
  have HF2 := hide (F1.out.below hb2)
  have hst2 := HS2.out.st
  have q5 : w2.cell? ⟨b, 5, none⟩ = some (.slice pv l.length pc) := by simp [World.cell?, hst2]
  clear HS1 F1 hb2 fs2 q6 q7 q1 hst2 hle
  go_wp2_with fail
  clear q5 hd hd2
  obtain ⟨fin, hfin⟩ : ∃ fin, fin = lyVisit a1 a2 a3 g sp z rs (f + 1) l ⟨left, false, false, list⟩ := ⟨_, rfl⟩
  have E2 := hide (show Ly.rounds (Ly.col (freeB a1 a2 a3 g) (lyP sp z rs) rs.length nx ny f l) (nx - 0) 0 ⟨left - 1, false, false, list⟩ = fin from by rw [hfin, E1.out, HNX.out, HNY.out]; rfl)
  have HFIN := hide hfin
  clear hfin E1
  go_loopg [4] nx (fun gk v wr => ∃ (i : Nat) (s' : Ly.S PlaceR) (pv' : Option Addr) (pc' : Nat) (x : Int), v = .int .i64 x ∧ gk + i = nx ∧ Ly.ended s' = false ∧ Hid (x = sp * (i : Int)) ∧ Hid (LyX w0 b bc (some ⟨bq, oq, none⟩) rs.length c g sp z bud wr pv' pc' l s') ∧ Hid (Fr b w wr (.slice pv l.length pc) (.slice pv' l.length pc')) ∧ Hid (Ly.rounds (Ly.col (freeB a1 a2 a3 g) (lyP sp z rs) rs.length nx ny f l) (nx - i) i s' = fin))
  case atStart => exact ⟨0, _, pv, pc, 0, rfl, by omega, rfl, hide (by simp), HS2, HF2, E2⟩
  case round =>
    clear HS2 HF2 E2
    obtain ⟨i, s', pv', pc', x, rfl, hgi, hen, HXX, HRR, HFR, HF⟩ := hrel
    have hst := HRR.out.st
    have hch := (HRR.out.bel.block bc hbc).trans HCH.out
    have g0 : wr.cell? ⟨b, 0, none⟩ = some (.pointer (some ⟨bc, 0, none⟩)) := by simp [World.cell?, hst]
    have g3 : wr.cell? ⟨b, 3, none⟩ = some (.int .i64 sp) := by simp [World.cell?, hst]
    have d0 : wr.cell? ⟨bc, 0, none⟩ = some (.int .i64 a1) := by simp [World.cell?, hch]
    clear hst hch
    by_cases hi : i < nx
    · have hle : x ≤ a1 := by rw [HXX.out]; exact (IX.out i).1 hi
      have hdec : decide (x ≤ a1) = true := by simpa using hle
      have hx0 : 0 ≤ x := by rw [HXX.out]; exact Int.mul_nonneg (by omega) (by omega)
      have HFM := hide (show Ly.rounds (Ly.col (freeB a1 a2 a3 g) (lyP sp z rs) rs.length nx ny f l) (nx - (i + 1)) (i + 1) (Ly.rounds (Ly.cell (freeB a1 a2 a3 g) (lyP sp z rs) rs.length nx ny f l i) (ny - 0) 0 s') = fin from by rw [← HF.out, Ly.rounds_more hi]; rfl)
      clear HF
      go_wp2_with fail
      clear g0 g3 d0 hdec
      go_loopg [5] ny (fun gj v wj => ∃ (j : Nat) (s' : Ly.S PlaceR) (pv' : Option Addr) (pc' : Nat) (y : Int), v = .int .i64 y ∧ gj + j = ny ∧ Ly.ended s' = false ∧ Hid (y = sp * (j : Int)) ∧ Hid (LyX w0 b bc (some ⟨bq, oq, none⟩) rs.length c g sp z bud wj pv' pc' l s') ∧ Hid (Fr b w wj (.slice pv l.length pc) (.slice pv' l.length pc')) ∧ Hid (Ly.rounds (Ly.col (freeB a1 a2 a3 g) (lyP sp z rs) rs.length nx ny f l) (nx - (i + 1)) (i + 1) (Ly.rounds (Ly.cell (freeB a1 a2 a3 g) (lyP sp z rs) rs.length nx ny f l i) (ny - j) j s') = fin))
      case atStart => exact ⟨0, s', pv', pc', 0, rfl, by omega, hen, hide (by simp), HRR, HFR, HFM⟩
      case round =>
        clear HRR HFR HFM
        obtain ⟨j, s2, pv2, pc2, y2, rfl, hgj, hen2, HYY, HRR, HFR, HF⟩ := hrel
        have hst := HRR.out.st
        have hch := (HRR.out.bel.block bc hbc).trans HCH.out
        have g0 : wr.cell? ⟨b, 0, none⟩ = some (.pointer (some ⟨bc, 0, none⟩)) := by simp [World.cell?, hst]
        have g1 : wr.cell? ⟨b, 1, none⟩ = some (.slice (some ⟨bq, oq, none⟩) rs.length c) := by simp [World.cell?, hst]
        have g3 : wr.cell? ⟨b, 3, none⟩ = some (.int .i64 sp) := by simp [World.cell?, hst]
        have g4 : wr.cell? ⟨b, 4, none⟩ = some (.int .i64 z) := by simp [World.cell?, hst]
        have d1 : wr.cell? ⟨bc, 1, none⟩ = some (.int .i64 a2) := by simp [World.cell?, hch]
        have hqk := (HRR.out.bel.cell (p := ⟨bq, oq + l.length, none⟩) hbq).trans HQ0.out
        have hblr := HRR.out.lt
        have hbsz := HRR.out.bel.size
        clear hst hch
        by_cases hj : j < ny
        · have hle2 : y2 ≤ a2 := by rw [HYY.out]; exact (IY.out j).1 hj
          have hdec : decide (y2 ≤ a2) = true := by simpa using hle2
          have hy0 : 0 ≤ y2 := by rw [HYY.out]; exact Int.mul_nonneg (by omega) (by omega)
          have HFM := hide (show Ly.rounds (Ly.col (freeB a1 a2 a3 g) (lyP sp z rs) rs.length nx ny f l) (nx - (i + 1)) (i + 1) (Ly.rounds (Ly.cell (freeB a1 a2 a3 g) (lyP sp z rs) rs.length nx ny f l i) (ny - (j + 1)) (j + 1) (Ly.cell (freeB a1 a2 a3 g) (lyP sp z rs) rs.length nx ny f l i j s2)) = fin from by rw [← HF.out, Ly.rounds_more hj])
          have hpe : lyP sp z rs l.length i j = ⟨nm, x, y2, z, rk⟩ := by rw [HP.out i j, HXX.out, HYY.out]
          have HPE := hide hpe
          have HVP := hide (show vPlace nm x y2 z rk = true from by
            have q := HV.out i j (by rw [← HXX.out]; exact hle) (by rw [← HYY.out]; exact hle2)
            rw [hpe] at q
            exact q)
          have hbqr : bq < wr.heap.size := by omega
          clear HF hpe
          go_upto_region 11 with fail
          go_cut [6] (fun s6 wx => ∃ qb, s6 = .pointer (some ⟨qb, 0, none⟩) ∧ wr.heap.size ≤ qb ∧ Hid (wx.heap[qb]? = some (.cells #[.string nm, .int .i64 x, .int .i64 y2, .int .i64 z, .int .i64 rk] 95 (0, 0))) ∧ Hid (Below wr.heap.size wr wx))
          case first =>
            have HK := hide (fun (W : World) (h : Below wr.heap.size wr W) => And.intro ((h.cell (p := ⟨b, 1, none⟩) hblr).trans g1) (And.intro ((h.cell (p := ⟨b, 4, none⟩) hblr).trans g4) (And.intro ((h.cell (p := ⟨bq, oq + l.length, none⟩) hbqr).trans hqk) (And.intro (Nat.lt_of_lt_of_le hblr h.size) (And.intro (Nat.lt_of_lt_of_le hbqr h.size) h)))))
            go_region_held3 (fun w' => w'.cell? ⟨b, 1, none⟩ = some (.slice (some ⟨bq, oq, none⟩) rs.length c) ∧ w'.cell? ⟨b, 4, none⟩ = some (.int .i64 z) ∧ w'.cell? ⟨bq, oq + l.length, none⟩ = some (.int .i64 rk) ∧ b < w'.heap.size ∧ bq < w'.heap.size ∧ Below wr.heap.size wr w')
              (exact HK.out _ (by repeat (first | with_reducible exact Below.refl _ _ | with_reducible assumption | (with_reducible refine Below.drew ?_) | (with_reducible refine below_drewN ?_ _) | ((with_reducible refine Below.alloc ?_ ?_ _); rotate_left; (focus (first | omega | (simp; omega) | simp))) | ((with_reducible refine Below.setCell ?_ ?_ _); rotate_left; (focus (first | omega | (simp; omega) | simp))) | (refine Below.trans ?_ (Below.mono (by assumption) (by first | omega | (simp; omega) | simp))))))
              (first | (go_at_call 173; refine (specl23Name l.length hl24 _).mono ?_; rintro e wK ⟨rfl, hbK⟩; rw [← HNM.out]; have hbW : Below wr.heap.size wr wK := Below.trans (show Below wr.heap.size wr _ from (by repeat (first | with_reducible exact Below.refl _ _ | with_reducible assumption | (with_reducible refine Below.drew ?_) | (with_reducible refine below_drewN ?_ _) | ((with_reducible refine Below.alloc ?_ ?_ _); rotate_left; (focus (first | omega | (simp; omega) | simp))) | ((with_reducible refine Below.setCell ?_ ?_ _); rotate_left; (focus (first | omega | (simp; omega) | simp))) | (refine Below.trans ?_ (Below.mono (by assumption) (by first | omega | (simp; omega) | simp)))))) (hbK.mono (by first | exact Nat.le_refl _ | (simp; done) | (simp; omega))); have hzW := hbW.size; try (have hq3 := hbK.block wr.heap.size (by simp; done); have fcQ := fun j => World.cell?_of_block (a := ⟨wr.heap.size, j, none⟩) hq3; have ffQ := fun j => World.frozen?_of_block (a := ⟨wr.heap.size, j, none⟩) hq3; have hz3 : wr.heap.size < wK.heap.size := by have := hbK.size; simp at this; omega)))
            all_goals
              go_wp2_with fail
              go_meet
              first
                | (with_reducible refine ⟨wK.heap.size, rfl, hzW, ?_⟩
                   exact ⟨hide (heap_alloc_new _ _), hide (hbW.alloc hzW _)⟩)
                | (with_reducible refine ⟨wr.heap.size, rfl, Nat.le_refl _, ?_⟩
                   exact ⟨hide (heap_five (hq3.trans (heap_alloc_new _ _))), hide (((((hbW.setCell (Nat.le_refl _) _).setCell (Nat.le_refl _) _).setCell (Nat.le_refl _) _).setCell (Nat.le_refl _) _).setCell (Nat.le_refl _) _)⟩)
          case rest =>
            obtain ⟨w3, rfl⟩ : ∃ w3, w3 = wc := ⟨_, rfl⟩
            obtain ⟨qb, rfl, hqb, HQ3, HB3⟩ := hcut
            have HR3 := hide (HRR.out.below HB3.out)
            have HF3 := hide (HFR.out.below HB3.out)
            have hwr : w.heap.size ≤ wr.heap.size := HFR.out.size
            have hqb2 : qb ≠ b := by omega
            have hnq3 : (Value.slice pv2 l.length pc2).ownBlock ≠ some qb := fun e => by have := (HRR.out.oc.lt qb e).2; omega
            have HNQ := hide hnq3
            have hst := HR3.out.st
            have hch := (HR3.out.bel.block bc hbc).trans HCH.out
            have hq3 := HQ3.out
            have p0 : w3.cell? ⟨b, 0, none⟩ = some (.pointer (some ⟨bc, 0, none⟩)) := by simp [World.cell?, hst]
            have p2 : w3.cell? ⟨b, 2, none⟩ = some (.int .i64 g) := by simp [World.cell?, hst]
            have hb3l := HR3.out.lt
            have hq3l := heap_lt hq3
            have hc3l : bc < w3.heap.size := by have := HR3.out.bel.size; omega
            have HW0 := hide (fun u : Kept w3 => And.intro ((u.h.block b hb3l).trans hst) (And.intro ((u.h.block bc hc3l).trans hch) ((u.h.block qb hq3l).trans hq3)))
            have HWI0 := hide (fun u : Kept w3 => specl23Within bc qb 0 a1 a2 a3 nm x y2 z rk g u.w' HC.out HVP.out HG.out (by simp [World.cell?, (HW0.out u).2.1]) (by simp [World.cell?, (HW0.out u).2.1]) (by simp [World.cell?, (HW0.out u).2.1]) (by simp [World.cell?, (HW0.out u).2.2]) (by simp [World.cell?, (HW0.out u).2.2]) (by simp [World.cell?, (HW0.out u).2.2]) (by simp [World.cell?, (HW0.out u).2.2]))
            have HNR0 := hide (fun u : Kept w3 => near_any b bc qb (some ⟨bq, oq, none⟩) rs.length c g sp z pv2 pc2 (Ly.nodes bud s2) bud l nm x y2 z rk u.w' (HW0.out u).1 ((Own.at_ (enc := encPlace) (sz := 5) (fun _ => rfl) HR3.out.oc).below u.h) HL.out HVP.out (by omega) (HW0.out u).2.2)
            clear hst hch hq3 hnq3 HRR HFR g0 g1 g3 g4 d1 hqk hdec HB3
            cases hfi : fits a1 a2 a3 x y2 z rk g
            · have HFR0 := hide (show freeB a1 a2 a3 g l (⟨nm, x, y2, z, rk⟩ : PlaceR) = false from freeB_1 hfi)
              have HFM2 := hide (show Ly.rounds (Ly.col (freeB a1 a2 a3 g) (lyP sp z rs) rs.length nx ny f l) (nx - (i + 1)) (i + 1) (Ly.rounds (Ly.cell (freeB a1 a2 a3 g) (lyP sp z rs) rs.length nx ny f l i) (ny - (j + 1)) (j + 1) s2) = fin from by
                rw [← HFM.out, Ly.cell_no (by rw [HPE.out]; exact HFR0.out)])
              rw [hfi] at HWI0
              clear HFM HNR0 hfi HW0
              go_wp2_with fail
              refine wp_region_kept (by kernel_rfl) (by kernel_rfl) ?_
              intro gc gf gz
              repeat (go_big_quiet_step ((go_at_call 174; exact Calls.kept_drew (HWI0.out _))))
              refine wpQuiet_nil ?_
              intro w4 hw'
              obtain ⟨⟨_, hb4⟩, rfl⟩ := hw'
              clear gc gf gz
              try dsimp only
              have fs4 := hb4.size
              try simp at fs4 hb4
              have HR4 := hide (HR3.out.below hb4)
              have HF4 := hide (HF3.out.below hb4)
              clear hb4 fs4 HR3 HF3 p0 p2 HWI0
              have hst := HR4.out.st
              have g3 : w4.cell? ⟨b, 3, none⟩ = some (.int .i64 sp) := by simp [World.cell?, hst]
              have kY : IntKind.i64.wrap (y2 + sp) = y2 + sp := IntWalk.i64_in _ (by omega)
              have HYN := hide (show y2 + sp = sp * ((j + 1 : Nat) : Int) from by rw [mul_succ', ← HYY.out])
              clear hst
              go_wp2_with fail
              go_roundg (gk - 1)
              case measure => omega
              case rel => exact ⟨j + 1, s2, pv2, pc2, y2 + sp, by go_num, by omega, hen2, HYN, HR4, HF4, HFM2⟩
            · rw [hfi] at HWI0
              cases hnr : nearB g l (⟨nm, x, y2, z, rk⟩ : PlaceR)
              · have HFR0 := hide (show freeB a1 a2 a3 g l (⟨nm, x, y2, z, rk⟩ : PlaceR) = true from by rw [freeB_2 (a := a1) (b := a2) (c := a3) (g := g) (p := ⟨nm, x, y2, z, rk⟩) hfi, hnr]; rfl)
                have HFM2 := hide (show Ly.rounds (Ly.col (freeB a1 a2 a3 g) (lyP sp z rs) rs.length nx ny f l) (nx - (i + 1)) (i + 1) (Ly.rounds (Ly.cell (freeB a1 a2 a3 g) (lyP sp z rs) rs.length nx ny f l i) (ny - (j + 1)) (j + 1) (lyVisit a1 a2 a3 g sp z rs f (l ++ [⟨nm, x, y2, z, rk⟩]) s2)) = fin from by
                  rw [← HFM.out, Ly.cell_yes (by rw [HPE.out]; exact HFR0.out), HPE.out]
                  unfold lyVisit
                  rw [HNX.out, HNY.out])
                rw [hnr] at HNR0
                clear HFM hfi hnr HW0
                go_wp2_with fail
                refine wp_region_kept (by kernel_rfl) (by kernel_rfl) ?_
                intro gc gf gz
                repeat (go_big_quiet_step ((first | (go_at_call 174; exact Calls.kept_drew (HWI0.out _)) | (go_at_call 175; exact Calls.kept (HNR0.out _)))))
                refine wpQuiet_nil ?_
                intro w4 hw'
                obtain ⟨⟨_, hb4⟩, rfl⟩ := hw'
                clear gc gf gz
                try dsimp only
                have fs4 := hb4.size
                try simp at fs4 hb4
                have HR4 := hide (HR3.out.below hb4)
                have HF4 := hide (HF3.out.below hb4)
                have HQ4 := hide ((hb4.block qb hq3l).trans HQ3.out)
                clear hb4 fs4 HR3 HF3 HQ3 p0 p2 HWI0 HNR0
                have hst := HR4.out.st
                have hqq := HQ4.out
                have g9 : w4.cell? ⟨b, 5, none⟩ = some (.slice pv2 l.length pc2) := by simp [World.cell?, hst]
                have f9 : w4.frozen? ⟨b, 5, none⟩ = false := by simp [World.frozen?, hst]
                have v0 : w4.cell? ⟨qb, 0, none⟩ = some (.string nm) := by simp [World.cell?, hqq]
                have v1 : w4.cell? ⟨qb, 1, none⟩ = some (.int .i64 x) := by simp [World.cell?, hqq]
                have v2 : w4.cell? ⟨qb, 2, none⟩ = some (.int .i64 y2) := by simp [World.cell?, hqq]
                have v3 : w4.cell? ⟨qb, 3, none⟩ = some (.int .i64 z) := by simp [World.cell?, hqq]
                have v4 : w4.cell? ⟨qb, 4, none⟩ = some (.int .i64 rk) := by simp [World.cell?, hqq]
                have hqz := heap_lt hqq
                have hblr := heap_lt hst
                clear hst hqq hb3l hq3l hc3l
                have HNb := hide (show some b ≠ (Value.slice pv2 l.length pc2).ownBlock from fun e => by have := (HR4.out.oc.lt b e.symm).1; omega)
                go_upto_region 13 with fail
                go_cut [] (fun wx => ∃ (A8 : Option Addr) (c8 : Nat), Hid (LyX w0 b bc (some ⟨bq, oq, none⟩) rs.length c g sp z bud wx A8 c8 (l ++ [(⟨nm, x, y2, z, rk⟩ : PlaceR)]) s2) ∧ Hid (Fr b w wx (.slice pv l.length pc) (.slice A8 (l.length + 1) c8)))
                case first =>
                  obtain ⟨i0', hi0, hz0, hz1', hz2'⟩ := info_parts infoA_Place
                  go_region_law (refine step_append_lies _ (by rfl) _ _ _ (by rfl) (b + 1) 95 i0' _ 5 48 Try.underlying83 hi0 hz0 hz1' hz2' rfl (by omega) (.slice pv2 l.length pc2) l.length (l.flatMap encPlace) (by rfl) (Own.below HR4.out.oc (by repeat (first | with_reducible exact Below.refl _ _ | with_reducible assumption | (with_reducible refine Below.drew ?_) | (with_reducible refine below_drewN ?_ _) | ((with_reducible refine Below.alloc ?_ ?_ _); rotate_left; (focus (first | omega | (simp; omega) | simp))) | ((with_reducible refine Below.setCell ?_ ?_ _); rotate_left; (focus (first | omega | (simp; omega) | simp))) | (refine Below.trans ?_ (Below.mono (by assumption) (by first | omega | (simp; omega) | simp)))))) ⟨w4.heap.size, 0, none⟩ 1 1 [.string nm, .int .i64 x, .int .i64 y2, .int .i64 z, .int .i64 rk] (by rfl) (by rfl) (World.news_of_block (cs := #[.string nm, .int .i64 x, .int .i64 y2, .int .i64 z, .int .i64 rk]) (t := 95) (fr := (0, 0)) (heap_alloc_new _ _)) (by simp [Value.oneCell']) (by omega) (by unfold maxLen; omega) (by omega) (by simp; omega) (w4.heap.size + 1) (by simp) ?_; intro gg cap w9 hown9 hgrow hat hlt9; have g9' := (hgrow.cell_far ⟨b, 5, none⟩ (by simp; omega) HNb.out).trans (show _ = some (Value.slice pv2 l.length pc2) by go_simp); have f9' := (hgrow.frozen_far ⟨b, 5, none⟩ (by simp; omega) HNb.out).trans (show _ = false by go_simp))
                  all_goals
                    have hb9 : Below (b + 1) w4 w9 := Below.grown (show Below (b + 1) w4 _ from (by repeat (first | with_reducible exact Below.refl _ _ | with_reducible assumption | (with_reducible refine Below.drew ?_) | (with_reducible refine below_drewN ?_ _) | ((with_reducible refine Below.alloc ?_ ?_ _); rotate_left; (focus (first | omega | (simp; omega) | simp))) | ((with_reducible refine Below.setCell ?_ ?_ _); rotate_left; (focus (first | omega | (simp; omega) | simp))) | (refine Below.trans ?_ (Below.mono (by assumption) (by first | omega | (simp; omega) | simp)))))) hgrow (by simp; omega) (fun k hk => (HR4.out.oc.lt k hk).1)
                    have hg9 := grown_trans (grown_of_below (show Below w4.heap.size w4 _ from (by repeat (first | with_reducible exact Below.refl _ _ | with_reducible assumption | (with_reducible refine Below.drew ?_) | (with_reducible refine below_drewN ?_ _) | ((with_reducible refine Below.alloc ?_ ?_ _); rotate_left; (focus (first | omega | (simp; omega) | simp))) | ((with_reducible refine Below.setCell ?_ ?_ _); rotate_left; (focus (first | omega | (simp; omega) | simp))) | (refine Below.trans ?_ (Below.mono (by assumption) (by first | omega | (simp; omega) | simp)))))) (Value.slice pv2 l.length pc2).ownBlock) hgrow
                    have hown : Own encPlace 5 95 w9 (b + 1) (.slice (some ⟨gg, 0, none⟩) (l.length + 1) cap) (l ++ [(⟨nm, x, y2, z, rk⟩ : PlaceR)]) := by
                      unfold Own
                      rw [List.length_append, List.flatMap_append]
                      simpa [encPlace] using hown9
                    have hat' : (Value.slice (some ⟨gg, 0, none⟩) (l.length + 1) cap).ownBlock = (Value.slice pv2 l.length pc2).ownBlock ∨ ∃ g2, (Value.slice (some ⟨gg, 0, none⟩) (l.length + 1) cap).ownBlock = some g2 ∧ w4.heap.size ≤ g2 := by
                      rcases hat with e | e
                      · exact .inl e.symm
                      · exact .inr ⟨gg, rfl, by omega⟩
                    have HALL := hide (And.intro (HR4.out.push hown hb9) ((HF4.out.push hg9 hat').set 5 (.slice (some ⟨gg, 0, none⟩) (l.length + 1) cap)))
                    clear hb9 hg9 hown hat' hown9 hgrow hat g9' f9' hi0 hz0 hz1' hz2'
                    go_wp2_with fail
                    go_meet
                    exact ⟨some ⟨gg, 0, none⟩, cap, hide HALL.out.1, hide HALL.out.2⟩
                case rest =>
                  obtain ⟨w9, rfl⟩ : ∃ w9, w9 = wc := ⟨_, rfl⟩
                  obtain ⟨A8, c8, HP9, HF9⟩ := hcut
                  clear HR4 HF4 HQ4 g9 f9 v0 v1 v2 v3 v4 hqz hblr HNb
                  have hsn := ih (l ++ [(⟨nm, x, y2, z, rk⟩ : PlaceR)]) s2 w9 A8 c8 (by simp; omega) (by simp; omega) HP9 (hide (GoodL.snoc HL.out HVP.out)) hen2
                  have HSN := hide hsn
                  clear hsn
                  go_wp2_with fail
                  refine HSN.out.mono ?_
                  rintro e w10 ⟨s3, pv3, pc3, l3, rfl, hs3, hI, hN3, hFr⟩
                  have HS3 := hide hs3
                  have HF10 := hide (HF9.out.trans (by simpa using hFr))
                  have HI10 := hide hI
                  have HN3 := hide hN3
                  clear hs3 hI hFr HSN HP9 HF9 hN3
                  cases hen3 : Ly.ended s3
                  · obtain ⟨sp3, got3⟩ := ended_of hen3
                    have hl3 := HN3.out sp3
                    rw [now_no got3] at hl3
                    subst hl3
                    have HFM3 := hide (show Ly.rounds (Ly.col (freeB a1 a2 a3 g) (lyP sp z rs) rs.length nx ny f l) (nx - (i + 1)) (i + 1) (Ly.rounds (Ly.cell (freeB a1 a2 a3 g) (lyP sp z rs) rs.length nx ny f l i) (ny - (j + 1)) (j + 1) s3) = fin from by rw [← HFM2.out, HS3.out])
                    clear HFM2 HN3 sp3 got3
                    obtain ⟨g13, hcv, hcap⟩ := own_cap HI10.out.oc rfl (by simp)
                    subst hcv
                    have hst := HI10.out.st
                    have hlen : (l ++ [(⟨nm, x, y2, z, rk⟩ : PlaceR)]).length = l.length + 1 := by simp
                    rw [hlen] at hst hcap
                    have g9 : w10.cell? ⟨b, 5, none⟩ = some (.slice (some ⟨g13, 0, none⟩) (l.length + 1) pc3) := by simp [World.cell?, hst]
                    have g3 : w10.cell? ⟨b, 3, none⟩ = some (.int .i64 sp) := by simp [World.cell?, hst]
                    have f9 : w10.frozen? ⟨b, 5, none⟩ = false := by simp [World.frozen?, hst]
                    have hcap2 : l.length ≤ pc3 := by omega
                    have HR11 := hide (show LyX w0 b bc (some ⟨bq, oq, none⟩) rs.length c g sp z bud (w10.setCell ⟨b, 5, none⟩ (.slice (some ⟨g13, 0, none⟩) l.length pc3)) (some ⟨g13, 0, none⟩) pc3 l s3 from HI10.out.pop rfl)
                    have HF11 := hide ((HF10.out.set 5 (.slice (some ⟨g13, 0, none⟩) l.length pc3)).short (n' := l.length))
                    have kY : IntKind.i64.wrap (y2 + sp) = y2 + sp := IntWalk.i64_in _ (by omega)
                    have HYN := hide (show y2 + sp = sp * ((j + 1 : Nat) : Int) from by rw [mul_succ', ← HYY.out])
                    have HEN3 := hide hen3
                    clear hst HI10 HF10
                    go_wp2_with fail
                    go_roundg (gk - 1)
                    case measure => omega
                    case rel => exact ⟨j + 1, s3, some ⟨g13, 0, none⟩, pc3, y2 + sp, by go_num, by omega, HEN3.out, HYN, HR11, HF11, HFM3⟩
                  · have HEN := hide hen3
                    have HFE := hide (show s3 = fin from by
                      rw [← HFM2.out, HS3.out]
                      rw [Ly.cells_ended HEN.out, Ly.cols_ended HEN.out])
                    have HN4 := hide (show s3.spent = false → l3 = Ly.now l s3 from fun q => by
                      rw [HN3.out q]
                      have : s3.got = true := by
                        have := HEN.out
                        unfold Ly.ended at this
                        rw [q] at this
                        simpa using this
                      unfold Ly.now
                      rw [this]
                      rfl)
                    clear HFM2 HN3
                    go_wp2_with fail
                    go_ret
                    exact ⟨s3, pv3, pc3, l3, by rw [HEN.out]; rfl, by rw [← HFIN.out, HFE.out], HI10.out, HN4.out, HF10.out⟩
              · have HFR0 := hide (show freeB a1 a2 a3 g l (⟨nm, x, y2, z, rk⟩ : PlaceR) = false from by rw [freeB_2 (a := a1) (b := a2) (c := a3) (g := g) (p := ⟨nm, x, y2, z, rk⟩) hfi, hnr]; rfl)
                have HFM2 := hide (show Ly.rounds (Ly.col (freeB a1 a2 a3 g) (lyP sp z rs) rs.length nx ny f l) (nx - (i + 1)) (i + 1) (Ly.rounds (Ly.cell (freeB a1 a2 a3 g) (lyP sp z rs) rs.length nx ny f l i) (ny - (j + 1)) (j + 1) s2) = fin from by
                  rw [← HFM.out, Ly.cell_no (by rw [HPE.out]; exact HFR0.out)])
                rw [hnr] at HNR0
                clear HFM hfi hnr HW0
                go_wp2_with fail
                refine wp_region_kept (by kernel_rfl) (by kernel_rfl) ?_
                intro gc gf gz
                repeat (go_big_quiet_step ((first | (go_at_call 174; exact Calls.kept_drew (HWI0.out _)) | (go_at_call 175; exact Calls.kept (HNR0.out _)))))
                refine wpQuiet_nil ?_
                intro w4 hw'
                obtain ⟨⟨_, hb4⟩, rfl⟩ := hw'
                clear gc gf gz
                try dsimp only
                have fs4 := hb4.size
                try simp at fs4 hb4
                have HR4 := hide (HR3.out.below hb4)
                have HF4 := hide (HF3.out.below hb4)
                clear hb4 fs4 HR3 HF3 p0 p2 HWI0 HNR0
                have hst := HR4.out.st
                have g3 : w4.cell? ⟨b, 3, none⟩ = some (.int .i64 sp) := by simp [World.cell?, hst]
                have kY : IntKind.i64.wrap (y2 + sp) = y2 + sp := IntWalk.i64_in _ (by omega)
                have HYN := hide (show y2 + sp = sp * ((j + 1 : Nat) : Int) from by rw [mul_succ', ← HYY.out])
                clear hst
                go_wp2_with fail
                go_roundg (gk - 1)
                case measure => omega
                case rel => exact ⟨j + 1, s2, pv2, pc2, y2 + sp, by go_num, by omega, hen2, HYN, HR4, HF4, HFM2⟩
        · have hle2 : ¬ y2 ≤ a2 := by rw [HYY.out]; exact fun h => hj ((IY.out j).2 h)
          have hdec : decide (y2 ≤ a2) = false := by simpa using hle2
          have HF2 := hide (show Ly.rounds (Ly.col (freeB a1 a2 a3 g) (lyP sp z rs) rs.length nx ny f l) (nx - (i + 1)) (i + 1) s2 = fin from by rw [← HF.out, Ly.rounds_none (n := ny) (k := j) (by omega)])
          have HXN := hide (show x + sp = sp * ((i + 1 : Nat) : Int) from by rw [mul_succ', ← HXX.out])
          have kX : IntKind.i64.wrap (x + sp) = x + sp := IntWalk.i64_in _ (by omega)
          clear HF
          go_wp2_with fail
          go_roundg (nx - (i + 1))
          case measure => omega
          case rel => exact ⟨i + 1, s2, pv2, pc2, x + sp, by go_num, by omega, hen2, HXN, HRR, HFR, HF2⟩
    · have hle : ¬ x ≤ a1 := by rw [HXX.out]; exact fun h => hi ((IX.out i).2 h)
      have hdec : decide (x ≤ a1) = false := by simpa using hle
      have HFE := hide (show s' = fin from by rw [← HF.out, Ly.rounds_none (by omega)])
      have HEN := hide hen
      clear HF
      go_wp2_with fail
      go_ret
      exact ⟨s', pv', pc', l, by rw [HEN.out]; rfl, by rw [← HFIN.out, HFE.out], HRR.out, (fun _ => by rw [now_no (ended_of HEN.out).2]), HFR.out⟩
end Go.Proofs.Ytjklhacffdhgaaa
