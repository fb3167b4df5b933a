/- What the law of clappers draws (printed by genclq.py). -/
import Derived.Test.YtobcjhbfkanakaaDoorStrike
import Derived.Test.YtobcjhbfkanakaaDoorSrc2
import Derived.Outline
namespace Go.Proofs.YtobcjhbfkanakaaDoor
open Go.RowKit

/-- A source made for bytes below B, in a world of at least B blocks. -/
theorem specl00From_at (B : Nat) (A : Option Addr) (n c : Nat) (w : World) (h : ByAt w B A n) (hn : n ≤ 9223372036854775807) (hB : B ≤ w.heap.size) :
    Calls Tryd.prog 22 #[.slice A n c] w fun e w' => e = .returned (.pointer (some ⟨w.heap.size, 0, none⟩)) ∧ Src w' B w.heap.size 0 ∧ Below w.heap.size w w' := by
  have HX := hide h
  clear h
  go_enter Tryd.func22, Tryd.ntmps22
  go_wp2_with fail
  go_ret
  exact ⟨rfl, ⟨hB, A, n, c, 0, 0, ⟨by go_simp, by go_simp, by go_simp, by go_simp, by go_simp⟩, HX.out.below (by repeat (first | with_reducible exact Below.refl _ _ | with_reducible assumption | (with_reducible refine Below.drew ?_) | (with_reducible refine below_drewN ?_ _) | ((with_reducible refine Below.alloc ?_ ?_ _); rotate_left; (focus (first | omega | (simp; omega) | simp))) | ((with_reducible refine Below.setCell ?_ ?_ _); rotate_left; (focus (first | omega | (simp; omega) | simp))) | (refine Below.trans ?_ (Below.mono (by assumption) (by first | omega | (simp; omega) | simp))))), hn, by omega, by omega⟩, (by repeat (first | with_reducible exact Below.refl _ _ | with_reducible assumption | (with_reducible refine Below.drew ?_) | (with_reducible refine below_drewN ?_ _) | ((with_reducible refine Below.alloc ?_ ?_ _); rotate_left; (focus (first | omega | (simp; omega) | simp))) | ((with_reducible refine Below.setCell ?_ ?_ _); rotate_left; (focus (first | omega | (simp; omega) | simp))) | (refine Below.trans ?_ (Below.mono (by assumption) (by first | omega | (simp; omega) | simp)))))⟩
theorem ByAt.alloc {w : World} {B : Nat} {A : Option Addr} {n : Nat} (h : ByAt w B A n) (hB : B ≤ w.heap.size) (o : Obj) : ByAt (w.alloc o) B A n := h.below ((Below.refl _ _).alloc hB _)
theorem srcOne (B b N : Nat) (n : Int) (w : World) (h : Src w B b N) (hN : N ≤ 1000000) (hn : n ≤ 1000000) :
    Calls Tryd.prog 25 #[.pointer (some ⟨b, 0, none⟩), .int .i64 n] w fun e w' => ∃ d : Bool, e = .returned (.bool d) ∧ Src w' B b (N + 2) ∧ Below B w w' ∧ w.grownBy w' (some b) := by
  have HS := hide h
  clear h
  go_enter Tryd.func25, Tryd.ntmps25
  go_wp2_with fail
  refine (srcPick B b N n _ HS.out hN hn).mono ?_
  rintro e w1 ⟨r, rfl, -, -, hS1, hb1, hg1⟩
  have H1 := hide (And.intro hS1 (And.intro hb1 hg1))
  clear hS1 hb1 hg1
  go_wp2_with fail
  go_ret
  exact ⟨_, rfl, H1.out.1, H1.out.2.1, H1.out.2.2⟩

set_option maxRecDepth 100000 in
set_option maxHeartbeats 1000000 in
theorem specl20DrawOk (B b N : Nat) (w : World) (h : Src w B b N) (hN : N ≤ 1000) :
    Calls Tryd.prog 45 #[.pointer (some ⟨b, 0, none⟩)] w fun e w' => ∃ a0 a1 a2 : Int, e = .returned (.agg #[.int .i64 a0, .int .i64 a1, .int .i64 a2]) ∧ Src w' B b (N + 6) ∧ Below B w w' ∧ w.grownBy w' (some b) := by
  have HS := hide h
  have hl := h.lt
  have h0 := h.1
  clear h
  go_enter Tryd.func45, Tryd.ntmps45
  go_wp2_with fail
  refine (srcamong B b N (some ⟨w.heap.size + 1, 0, none⟩) _ [10, 500, 4000, 30000, 1000000] _ (HS.out.below (by repeat (first | with_reducible exact Below.refl _ _ | with_reducible assumption | (with_reducible refine Below.drew ?_) | (with_reducible refine below_drewN ?_ _) | ((with_reducible refine Below.alloc ?_ ?_ _); rotate_left; (focus (first | omega | (simp; omega) | simp))) | ((with_reducible refine Below.setCell ?_ ?_ _); rotate_left; (focus (first | omega | (simp; omega) | simp))) | (refine Below.trans ?_ (Below.mono (by assumption) (by first | omega | (simp; omega) | simp)))))) (by omega) ?_ ?_ (by decide) (by decide)).mono ?_
  · have hr := slat_new (enc := encI) (sz := 1) (fun _ => rfl) (w.alloc (.cells #[.int .i64 0, .int .i64 0, .int .i64 0] 25)) [10, 500, 4000, 30000, 1000000] #[.int .i64 10, .int .i64 500, .int .i64 4000, .int .i64 30000, .int .i64 1000000] 2 rfl
    simpa using hr
  · intro b2 off e
    injection e with e; injection e with e _; omega
  rintro e w1 ⟨r1, rfl, -, hS1, hb1, hg1⟩
  have hR1 : w1.heap[w.heap.size]? = some (.cells #[.int .i64 0, .int .i64 0, .int .i64 0] 25 (0, 0)) := (hg1.block w.heap.size (by simp; omega) (by simp; omega)).trans ((heap_alloc_old _ _ (by simp)).trans (heap_alloc_new w _))
  have hz1 := hg1.size
  simp at hz1
  have hB1 : B ≤ w1.heap.size := by omega
  have HD1 := hide (show DrawSt 25 B b w.heap.size w1.heap.size #[.int .i64 0, .int .i64 0, .int .i64 0] w (w1.alloc (.cells #[.int .i64 r1, .int .i64 0, .int .i64 0] 25)) (N + 2) #[.int .i64 r1, .int .i64 0, .int .i64 0] from
    ⟨hS1.below (by repeat (first | with_reducible exact Below.refl _ _ | with_reducible assumption | (with_reducible refine Below.drew ?_) | (with_reducible refine below_drewN ?_ _) | ((with_reducible refine Below.alloc ?_ ?_ _); rotate_left; (focus (first | omega | (simp; omega) | simp))) | ((with_reducible refine Below.setCell ?_ ?_ _); rotate_left; (focus (first | omega | (simp; omega) | simp))) | (refine Below.trans ?_ (Below.mono (by assumption) (by first | omega | (simp; omega) | simp))))), (Below.trans (show Below B w _ from (by repeat (first | with_reducible exact Below.refl _ _ | with_reducible assumption | (with_reducible refine Below.drew ?_) | (with_reducible refine below_drewN ?_ _) | ((with_reducible refine Below.alloc ?_ ?_ _); rotate_left; (focus (first | omega | (simp; omega) | simp))) | ((with_reducible refine Below.setCell ?_ ?_ _); rotate_left; (focus (first | omega | (simp; omega) | simp))) | (refine Below.trans ?_ (Below.mono (by assumption) (by first | omega | (simp; omega) | simp)))))) hb1).alloc hB1 _, (heap_alloc_old _ _ (by omega)).trans hR1, heap_alloc_new w1 _⟩)
  have GK1 := hide (show w.grownBy (w1.alloc (.cells #[.int .i64 r1, .int .i64 0, .int .i64 0] 25)) (some b) from grown_alloc (grown_trans (grown_alloc (grown_alloc (grown_refl w _) _) _) hg1) _)
  have hQ : w1.heap.size ≠ b := by have := hS1.lt; omega
  have hR : w.heap.size ≠ b := by omega
  have hRQ : w.heap.size ≠ w1.heap.size := by omega
  have hwQ : w.heap.size ≤ w1.heap.size := by omega
  clear hS1 hb1 hg1 hR1
  go_wp2_with fail
  refine (srcPick B b (N + 2) _ _ HD1.out.src (by omega) (by omega)).mono ?_
  rintro e w2 ⟨r2, rfl, p2, q2, hS, hb, hg⟩
  have q2' := q2 (by omega)
  clear q2
  have hD := HD1.out.call hR hQ hS hb hg
  have c2 := hD.cell 1 _ rfl
  have f2 := hD.froz 1
  have HD2 := hide (show DrawSt 25 B b w.heap.size w1.heap.size #[.int .i64 0, .int .i64 0, .int .i64 0] w (w2.setCell ⟨w1.heap.size, 1, none⟩ (.int .i64 (1000 + r2))) (N + 4) #[.int .i64 r1, .int .i64 (1000 + r2), .int .i64 0] from hD.set hQ hRQ hB1 1 (.int .i64 (1000 + r2)))
  have GK2 := hide (show w.grownBy (w2.setCell ⟨w1.heap.size, 1, none⟩ (.int .i64 (1000 + r2))) (some b) from grown_new (grown_trans GK1.out hg) hwQ _ _)
  clear hS hb hg hD HD1 GK1
  go_wp2_with fail
  refine (srcPick B b (N + 4) _ _ HD2.out.src (by omega) (by omega)).mono ?_
  rintro e w3 ⟨r3, rfl, p3, q3, hS, hb, hg⟩
  have q3' := q3 (by omega)
  clear q3
  have hD := HD2.out.call hR hQ hS hb hg
  have c3 := hD.cell 2 _ rfl
  have f3 := hD.froz 2
  have HD3 := hide (show DrawSt 25 B b w.heap.size w1.heap.size #[.int .i64 0, .int .i64 0, .int .i64 0] w (w3.setCell ⟨w1.heap.size, 2, none⟩ (.int .i64 (10 + r3))) (N + 6) #[.int .i64 r1, .int .i64 (1000 + r2), .int .i64 (10 + r3)] from hD.set hQ hRQ hB1 2 (.int .i64 (10 + r3)))
  have GK3 := hide (show w.grownBy (w3.setCell ⟨w1.heap.size, 2, none⟩ (.int .i64 (10 + r3))) (some b) from grown_new (grown_trans GK2.out hg) hwQ _ _)
  clear hS hb hg hD HD2 GK2
  clear c2 f2
  have e0 := HD3.out.cell 0 _ rfl
  have t0 := HD3.out.rcell 0 _ rfl
  have y0 := HD3.out.rfroz 0
  have e1 := HD3.out.cell 1 _ rfl
  have t1 := HD3.out.rcell 1 _ rfl
  have y1 := HD3.out.rfroz 1
  have e2 := HD3.out.cell 2 _ rfl
  have t2 := HD3.out.rcell 2 _ rfl
  have y2 := HD3.out.rfroz 2
  have HSE := hide (HD3.out.src.more (N' := N + 6) (by omega))
  have HBE := hide HD3.out.bel
  have hBR : B ≤ w.heap.size := by omega
  clear HD3
  go_wp2_with fail
  refine bodyPost_ret (v := .agg #[.int .i64 r1, .int .i64 (1000 + r2), .int .i64 (10 + r3)]) (by simp [results, Tryd.results45, go_sem, t0, t1, t2]) rfl ⟨_, _, _, rfl, HSE.out.kept (row := some (w.heap.size)) ?_ ?_ (by simpa using Ne.symm hR), ?_, ?_⟩
  · iterate 3 (refine grown_set ?_ _ _)
    exact grown_refl _ _
  · iterate 3 ((with_reducible refine Below.setCell ?_ ?_ _); rotate_left; (focus exact hBR))
    exact Below.refl _ _
  · iterate 3 ((with_reducible refine Below.setCell ?_ ?_ _); rotate_left; (focus exact hBR))
    exact HBE.out
  · iterate 3 (refine grown_new ?_ (Nat.le_refl _) _ _)
    exact GK3.out
set_option maxRecDepth 100000 in
set_option maxHeartbeats 2000000 in
theorem specl20Draw (B b N : Nat) (w : World) (h : Src w B b N) (hN : N ≤ 900) :
    Calls Tryd.prog 23 #[.pointer (some ⟨b, 0, none⟩)] w fun e w' => ∃ a0 a1 a2 : Int, e = .returned (.agg #[.int .i64 a0, .int .i64 a1, .int .i64 a2]) ∧ Src w' B b (N + 10) ∧ Below B w w' ∧ w.grownBy w' (some b) := by
  have HS := hide h
  have hl := h.lt
  have h0 := h.1
  clear h
  go_enter Tryd.func23, Tryd.ntmps23
  go_wp2_with fail
  refine (specl20DrawOk B b N _ (HS.out.below (by repeat (first | with_reducible exact Below.refl _ _ | with_reducible assumption | (with_reducible refine Below.drew ?_) | (with_reducible refine below_drewN ?_ _) | ((with_reducible refine Below.alloc ?_ ?_ _); rotate_left; (focus (first | omega | (simp; omega) | simp))) | ((with_reducible refine Below.setCell ?_ ?_ _); rotate_left; (focus (first | omega | (simp; omega) | simp))) | (refine Below.trans ?_ (Below.mono (by assumption) (by first | omega | (simp; omega) | simp)))))) (by omega)).mono ?_
  rintro e w1 ⟨a0, a1, a2, rfl, hS1, hb1, hg1⟩
  have hR1 : w1.heap[w.heap.size]? = some (.cells #[.int .i64 0, .int .i64 0, .int .i64 0] 25 (0, 0)) := (hg1.block w.heap.size (by simp) (by simp; omega)).trans (heap_alloc_new w _)
  have hz1 := hg1.size
  simp at hz1
  have hB1 : B ≤ w1.heap.size := by omega
  have HD1 := hide (show DrawSt 25 B b w.heap.size w1.heap.size #[.int .i64 0, .int .i64 0, .int .i64 0] w (w1.alloc (.cells #[.int .i64 a0, .int .i64 a1, .int .i64 a2] 25)) (N + 6) #[.int .i64 a0, .int .i64 a1, .int .i64 a2] from
    ⟨hS1.below (by repeat (first | with_reducible exact Below.refl _ _ | with_reducible assumption | (with_reducible refine Below.drew ?_) | (with_reducible refine below_drewN ?_ _) | ((with_reducible refine Below.alloc ?_ ?_ _); rotate_left; (focus (first | omega | (simp; omega) | simp))) | ((with_reducible refine Below.setCell ?_ ?_ _); rotate_left; (focus (first | omega | (simp; omega) | simp))) | (refine Below.trans ?_ (Below.mono (by assumption) (by first | omega | (simp; omega) | simp))))), (Below.trans (show Below B w _ from (by repeat (first | with_reducible exact Below.refl _ _ | with_reducible assumption | (with_reducible refine Below.drew ?_) | (with_reducible refine below_drewN ?_ _) | ((with_reducible refine Below.alloc ?_ ?_ _); rotate_left; (focus (first | omega | (simp; omega) | simp))) | ((with_reducible refine Below.setCell ?_ ?_ _); rotate_left; (focus (first | omega | (simp; omega) | simp))) | (refine Below.trans ?_ (Below.mono (by assumption) (by first | omega | (simp; omega) | simp)))))) hb1).alloc hB1 _, (heap_alloc_old _ _ (by omega)).trans hR1, heap_alloc_new w1 _⟩)
  have GK1 := hide (show w.grownBy (w1.alloc (.cells #[.int .i64 a0, .int .i64 a1, .int .i64 a2] 25)) (some b) from grown_alloc (grown_trans (grown_alloc (grown_refl w _) _) hg1) _)
  have hQ : w1.heap.size ≠ b := by have := hS1.lt; omega
  have hR : w.heap.size ≠ b := by omega
  have hRQ : w.heap.size ≠ w1.heap.size := by omega
  have hwQ : w.heap.size ≤ w1.heap.size := by omega
  clear hS1 hb1 hg1 hR1
  go_wp2_with fail
  refine (srcPick B b (N + 6) _ _ HD1.out.src (by omega) (by omega)).mono ?_
  rintro e w2 ⟨r, rfl, p2, -, hS, hb, hg⟩
  have HD2 := hide (HD1.out.call hR hQ hS hb hg)
  have GK2 := hide (grown_trans GK1.out hg)
  have hlb : b < w2.heap.size := hS.lt
  clear hS hb hg HD1 GK1
  by_cases hv0 : r = 0
  · subst hv0
    go_wp2_with fail
    have HA := hide (HD2.out.below (w' := w2.alloc (.cells #[.int .i64 9, .int .i64 1000001] 2)) (by repeat (first | with_reducible exact Below.refl _ _ | with_reducible assumption | (with_reducible refine Below.drew ?_) | (with_reducible refine below_drewN ?_ _) | ((with_reducible refine Below.alloc ?_ ?_ _); rotate_left; (focus (first | omega | (simp; omega) | simp))) | ((with_reducible refine Below.setCell ?_ ?_ _); rotate_left; (focus (first | omega | (simp; omega) | simp))) | (refine Below.trans ?_ (Below.mono (by assumption) (by first | omega | (simp; omega) | simp))))))
    have GA := hide (grown_alloc GK2.out (.cells #[.int .i64 9, .int .i64 1000001] 2))
    refine (srcamong B b (N + 8) (some ⟨w2.heap.size, 0, none⟩) _ [9, 1000001] _ HA.out.src (by omega) ?_ ?_ (by decide) (by decide)).mono ?_
    · exact slat_new (enc := encI) (sz := 1) (fun _ => rfl) w2 [9, 1000001] #[.int .i64 9, .int .i64 1000001] 2 rfl
    · intro b2 off e
      injection e with e; injection e with e _; omega
    rintro e w3 ⟨x, rfl, -, hS, hb, hg⟩
    have hD := HA.out.call hR hQ hS hb hg
    have cc := hD.cell 0 _ rfl
    have ff := hD.froz 0
    have HD3 := hide (show DrawSt 25 B b w.heap.size w1.heap.size #[.int .i64 0, .int .i64 0, .int .i64 0] w (w3.setCell ⟨w1.heap.size, 0, none⟩ (.int .i64 x)) (N + 10) #[.int .i64 x, .int .i64 a1, .int .i64 a2] from hD.set hQ hRQ hB1 0 (.int .i64 x))
    have GK3 := hide (show w.grownBy (w3.setCell ⟨w1.heap.size, 0, none⟩ (.int .i64 x)) (some b) from grown_new (grown_trans GA.out hg) hwQ _ _)
    clear hS hb hg hD HD2 GK2 HA GA
    have e0 := HD3.out.cell 0 _ rfl
    have t0 := HD3.out.rcell 0 _ rfl
    have y0 := HD3.out.rfroz 0
    have e1 := HD3.out.cell 1 _ rfl
    have t1 := HD3.out.rcell 1 _ rfl
    have y1 := HD3.out.rfroz 1
    have e2 := HD3.out.cell 2 _ rfl
    have t2 := HD3.out.rcell 2 _ rfl
    have y2 := HD3.out.rfroz 2
    have HSE := hide (HD3.out.src.more (N' := N + 10) (by omega))
    have HBE := hide HD3.out.bel
    have hBR : B ≤ w.heap.size := by omega
    clear HD3
    go_wp2_with fail
    refine bodyPost_ret (v := .agg #[.int .i64 x, .int .i64 a1, .int .i64 a2]) (by simp [results, Tryd.results23, go_sem, t0, t1, t2]) rfl ⟨_, _, _, rfl, HSE.out.kept (row := some (w.heap.size)) ?_ ?_ (by simpa using Ne.symm hR), ?_, ?_⟩
    · iterate 3 (refine grown_set ?_ _ _)
      exact grown_refl _ _
    · iterate 3 ((with_reducible refine Below.setCell ?_ ?_ _); rotate_left; (focus exact hBR))
      exact Below.refl _ _
    · iterate 3 ((with_reducible refine Below.setCell ?_ ?_ _); rotate_left; (focus exact hBR))
      exact HBE.out
    · iterate 3 (refine grown_new ?_ (Nat.le_refl _) _ _)
      exact GK3.out
  · have u0 : (r == 0) = false := by simpa using hv0
    by_cases hv1 : r = 1
    · subst hv1
      go_wp2_with fail
      have HA := hide (HD2.out.below (w' := w2.alloc (.cells #[.int .i64 999, .int .i64 1000, .int .i64 300000, .int .i64 300001] 2)) (by repeat (first | with_reducible exact Below.refl _ _ | with_reducible assumption | (with_reducible refine Below.drew ?_) | (with_reducible refine below_drewN ?_ _) | ((with_reducible refine Below.alloc ?_ ?_ _); rotate_left; (focus (first | omega | (simp; omega) | simp))) | ((with_reducible refine Below.setCell ?_ ?_ _); rotate_left; (focus (first | omega | (simp; omega) | simp))) | (refine Below.trans ?_ (Below.mono (by assumption) (by first | omega | (simp; omega) | simp))))))
      have GA := hide (grown_alloc GK2.out (.cells #[.int .i64 999, .int .i64 1000, .int .i64 300000, .int .i64 300001] 2))
      refine (srcamong B b (N + 8) (some ⟨w2.heap.size, 0, none⟩) _ [999, 1000, 300000, 300001] _ HA.out.src (by omega) ?_ ?_ (by decide) (by decide)).mono ?_
      · exact slat_new (enc := encI) (sz := 1) (fun _ => rfl) w2 [999, 1000, 300000, 300001] #[.int .i64 999, .int .i64 1000, .int .i64 300000, .int .i64 300001] 2 rfl
      · intro b2 off e
        injection e with e; injection e with e _; omega
      rintro e w3 ⟨x, rfl, -, hS, hb, hg⟩
      have hD := HA.out.call hR hQ hS hb hg
      have cc := hD.cell 1 _ rfl
      have ff := hD.froz 1
      have HD3 := hide (show DrawSt 25 B b w.heap.size w1.heap.size #[.int .i64 0, .int .i64 0, .int .i64 0] w (w3.setCell ⟨w1.heap.size, 1, none⟩ (.int .i64 x)) (N + 10) #[.int .i64 a0, .int .i64 x, .int .i64 a2] from hD.set hQ hRQ hB1 1 (.int .i64 x))
      have GK3 := hide (show w.grownBy (w3.setCell ⟨w1.heap.size, 1, none⟩ (.int .i64 x)) (some b) from grown_new (grown_trans GA.out hg) hwQ _ _)
      clear hS hb hg hD HD2 GK2 HA GA
      have e0 := HD3.out.cell 0 _ rfl
      have t0 := HD3.out.rcell 0 _ rfl
      have y0 := HD3.out.rfroz 0
      have e1 := HD3.out.cell 1 _ rfl
      have t1 := HD3.out.rcell 1 _ rfl
      have y1 := HD3.out.rfroz 1
      have e2 := HD3.out.cell 2 _ rfl
      have t2 := HD3.out.rcell 2 _ rfl
      have y2 := HD3.out.rfroz 2
      have HSE := hide (HD3.out.src.more (N' := N + 10) (by omega))
      have HBE := hide HD3.out.bel
      have hBR : B ≤ w.heap.size := by omega
      clear HD3
      go_wp2_with fail
      refine bodyPost_ret (v := .agg #[.int .i64 a0, .int .i64 x, .int .i64 a2]) (by simp [results, Tryd.results23, go_sem, t0, t1, t2]) rfl ⟨_, _, _, rfl, HSE.out.kept (row := some (w.heap.size)) ?_ ?_ (by simpa using Ne.symm hR), ?_, ?_⟩
      · iterate 3 (refine grown_set ?_ _ _)
        exact grown_refl _ _
      · iterate 3 ((with_reducible refine Below.setCell ?_ ?_ _); rotate_left; (focus exact hBR))
        exact Below.refl _ _
      · iterate 3 ((with_reducible refine Below.setCell ?_ ?_ _); rotate_left; (focus exact hBR))
        exact HBE.out
      · iterate 3 (refine grown_new ?_ (Nat.le_refl _) _ _)
        exact GK3.out
    · have u1 : (r == 1) = false := by simpa using hv1
      by_cases hv2 : r = 2
      · subst hv2
        go_wp2_with fail
        have HA := hide (HD2.out.below (w' := w2.alloc (.cells #[.int .i64 9, .int .i64 50000, .int .i64 50001] 2)) (by repeat (first | with_reducible exact Below.refl _ _ | with_reducible assumption | (with_reducible refine Below.drew ?_) | (with_reducible refine below_drewN ?_ _) | ((with_reducible refine Below.alloc ?_ ?_ _); rotate_left; (focus (first | omega | (simp; omega) | simp))) | ((with_reducible refine Below.setCell ?_ ?_ _); rotate_left; (focus (first | omega | (simp; omega) | simp))) | (refine Below.trans ?_ (Below.mono (by assumption) (by first | omega | (simp; omega) | simp))))))
        have GA := hide (grown_alloc GK2.out (.cells #[.int .i64 9, .int .i64 50000, .int .i64 50001] 2))
        refine (srcamong B b (N + 8) (some ⟨w2.heap.size, 0, none⟩) _ [9, 50000, 50001] _ HA.out.src (by omega) ?_ ?_ (by decide) (by decide)).mono ?_
        · exact slat_new (enc := encI) (sz := 1) (fun _ => rfl) w2 [9, 50000, 50001] #[.int .i64 9, .int .i64 50000, .int .i64 50001] 2 rfl
        · intro b2 off e
          injection e with e; injection e with e _; omega
        rintro e w3 ⟨x, rfl, -, hS, hb, hg⟩
        have hD := HA.out.call hR hQ hS hb hg
        have cc := hD.cell 2 _ rfl
        have ff := hD.froz 2
        have HD3 := hide (show DrawSt 25 B b w.heap.size w1.heap.size #[.int .i64 0, .int .i64 0, .int .i64 0] w (w3.setCell ⟨w1.heap.size, 2, none⟩ (.int .i64 x)) (N + 10) #[.int .i64 a0, .int .i64 a1, .int .i64 x] from hD.set hQ hRQ hB1 2 (.int .i64 x))
        have GK3 := hide (show w.grownBy (w3.setCell ⟨w1.heap.size, 2, none⟩ (.int .i64 x)) (some b) from grown_new (grown_trans GA.out hg) hwQ _ _)
        clear hS hb hg hD HD2 GK2 HA GA
        have e0 := HD3.out.cell 0 _ rfl
        have t0 := HD3.out.rcell 0 _ rfl
        have y0 := HD3.out.rfroz 0
        have e1 := HD3.out.cell 1 _ rfl
        have t1 := HD3.out.rcell 1 _ rfl
        have y1 := HD3.out.rfroz 1
        have e2 := HD3.out.cell 2 _ rfl
        have t2 := HD3.out.rcell 2 _ rfl
        have y2 := HD3.out.rfroz 2
        have HSE := hide (HD3.out.src.more (N' := N + 10) (by omega))
        have HBE := hide HD3.out.bel
        have hBR : B ≤ w.heap.size := by omega
        clear HD3
        go_wp2_with fail
        refine bodyPost_ret (v := .agg #[.int .i64 a0, .int .i64 a1, .int .i64 x]) (by simp [results, Tryd.results23, go_sem, t0, t1, t2]) rfl ⟨_, _, _, rfl, HSE.out.kept (row := some (w.heap.size)) ?_ ?_ (by simpa using Ne.symm hR), ?_, ?_⟩
        · iterate 3 (refine grown_set ?_ _ _)
          exact grown_refl _ _
        · iterate 3 ((with_reducible refine Below.setCell ?_ ?_ _); rotate_left; (focus exact hBR))
          exact Below.refl _ _
        · iterate 3 ((with_reducible refine Below.setCell ?_ ?_ _); rotate_left; (focus exact hBR))
          exact HBE.out
        · iterate 3 (refine grown_new ?_ (Nat.le_refl _) _ _)
          exact GK3.out
      · have u2 : (r == 2) = false := by simpa using hv2
        have e0 := HD2.out.cell 0 _ rfl
        have t0 := HD2.out.rcell 0 _ rfl
        have y0 := HD2.out.rfroz 0
        have e1 := HD2.out.cell 1 _ rfl
        have t1 := HD2.out.rcell 1 _ rfl
        have y1 := HD2.out.rfroz 1
        have e2 := HD2.out.cell 2 _ rfl
        have t2 := HD2.out.rcell 2 _ rfl
        have y2 := HD2.out.rfroz 2
        have HSE := hide (HD2.out.src.more (N' := N + 10) (by omega))
        have HBE := hide HD2.out.bel
        have hBR : B ≤ w.heap.size := by omega
        clear HD2
        go_wp2_with fail
        refine bodyPost_ret (v := .agg #[.int .i64 a0, .int .i64 a1, .int .i64 a2]) (by simp [results, Tryd.results23, go_sem, t0, t1, t2]) rfl ⟨_, _, _, rfl, HSE.out.kept (row := some (w.heap.size)) ?_ ?_ (by simpa using Ne.symm hR), ?_, ?_⟩
        · iterate 3 (refine grown_set ?_ _ _)
          exact grown_refl _ _
        · iterate 3 ((with_reducible refine Below.setCell ?_ ?_ _); rotate_left; (focus exact hBR))
          exact Below.refl _ _
        · iterate 3 ((with_reducible refine Below.setCell ?_ ?_ _); rotate_left; (focus exact hBR))
          exact HBE.out
        · iterate 3 (refine grown_new ?_ (Nat.le_refl _) _ _)
          exact GK2.out
set_option maxRecDepth 100000 in
set_option maxHeartbeats 1000000 in
theorem specDrawStrikeTimes (A : Option Addr) (n c : Nat) (w : World) (h : ByAt w w.heap.size A n) (hn : n ≤ 9223372036854775807) :
    Calls Tryd.prog 6 #[.slice A n c] w fun e w' => ∃ a0 a1 a2 x0 x1 : Int, e = .returned (.tuple #[.agg #[.int .i64 a0, .int .i64 a1, .int .i64 a2], .int .i64 x0, .int .i64 x1]) ∧ Below w.heap.size w w' := by
  have HX := hide h
  clear h
  go_enter Tryd.func6, Tryd.ntmps6
  go_wp2_with fail
  refine (specl00From_at w.heap.size A n c _ (HX.out.alloc (Nat.le_refl _) _) hn (by simp)).mono ?_
  rintro e w1 ⟨rfl, hS1, hb1⟩
  have HR1 := hide (show w1.heap[w.heap.size]? = some (.cells #[.int .i64 0, .int .i64 0, .int .i64 0] 25 (0, 0)) from (hb1.block w.heap.size (by simp)).trans (heap_alloc_new w _))
  have HS1 := hide (show Src w1 w.heap.size (w.heap.size + 1) 0 by simpa using hS1)
  have HB1 := hide (show Below w.heap.size w w1 from ((Below.refl _ _).alloc (Nat.le_refl _) _).trans (hb1.mono (by simp)))
  have hz1 := HS1.out.lt
  clear hS1 hb1
  go_wp2_with fail
  refine (specl20Draw w.heap.size (w.heap.size + 1) 0 _ HS1.out (by omega)).mono ?_
  rintro e w2 ⟨a0, a1, a2, rfl, hS2, hb2, hg2⟩
  have hz2 := hS2.lt
  have HD := hide (show DrawSt 25 w.heap.size (w.heap.size + 1) w.heap.size w2.heap.size #[.int .i64 0, .int .i64 0, .int .i64 0] w (w2.alloc (.cells #[.int .i64 a0, .int .i64 a1, .int .i64 a2] 25)) 10 #[.int .i64 a0, .int .i64 a1, .int .i64 a2] from
    ⟨hS2.below (by repeat (first | with_reducible exact Below.refl _ _ | with_reducible assumption | (with_reducible refine Below.drew ?_) | (with_reducible refine below_drewN ?_ _) | ((with_reducible refine Below.alloc ?_ ?_ _); rotate_left; (focus (first | omega | (simp; omega) | simp))) | ((with_reducible refine Below.setCell ?_ ?_ _); rotate_left; (focus (first | omega | (simp; omega) | simp))) | (refine Below.trans ?_ (Below.mono (by assumption) (by first | omega | (simp; omega) | simp))))), (HB1.out.trans hb2).alloc (by omega) _, (heap_alloc_old _ _ (by omega)).trans ((hg2.block w.heap.size (by omega) (by simp)).trans HR1.out), heap_alloc_new w2 _⟩)
  have hQ : w2.heap.size ≠ w.heap.size + 1 := by omega
  have hR : w.heap.size ≠ w.heap.size + 1 := by omega
  clear hS2 hb2 hg2 HR1 HS1 HB1 hz1
  go_wp2_with fail
  generalize w2.alloc (.cells #[.int .i64 a0, .int .i64 a1, .int .i64 a2] 25) = w3 at HD ⊢
  generalize w2.heap.size = q at *
  refine (srcPick w.heap.size (w.heap.size + 1) 10 20000 _ HD.out.src (by omega) (by omega)).mono ?_
  rintro e w4 ⟨f, rfl, pf, qf, hS, hb, hg⟩
  have qf' := qf (by omega)
  clear qf
  have HD4 := hide (HD.out.call hR hQ hS hb hg)
  clear hS hb hg HD
  go_wp2_with fail
  refine (srcPick w.heap.size (w.heap.size + 1) 12 20000 _ HD4.out.src (by omega) (by omega)).mono ?_
  rintro e w5 ⟨u, rfl, pu, qu, hS, hb, hg⟩
  have qu' := qu (by omega)
  clear qu
  have HD5 := hide (HD4.out.call hR hQ hS hb hg)
  clear hS hb hg HD4
  go_wp2_with fail
  refine (srcOne w.heap.size (w.heap.size + 1) 14 9 _ HD5.out.src (by omega) (by omega)).mono ?_
  rintro e w6 ⟨d, rfl, hS, hb, hg⟩
  have HD6 := hide (HD5.out.call hR hQ hS hb hg)
  clear hS hb hg HD5
  cases d
  · skip
    have e0 := HD6.out.cell 0 _ rfl
    have t0 := HD6.out.rcell 0 _ rfl
    have y0 := HD6.out.rfroz 0
    have e1 := HD6.out.cell 1 _ rfl
    have t1 := HD6.out.rcell 1 _ rfl
    have y1 := HD6.out.rfroz 1
    have e2 := HD6.out.cell 2 _ rfl
    have t2 := HD6.out.rcell 2 _ rfl
    have y2 := HD6.out.rfroz 2
    have HBE := hide HD6.out.bel
    clear HD6
    go_wp2_with fail
    refine bodyPost_ret (v := .tuple #[.agg #[.int .i64 a0, .int .i64 a1, .int .i64 a2], .int .i64 f, .int .i64 (f + u - 50)]) (by simp [results, Tryd.results6, go_sem, t0, t1, t2]) rfl ⟨_, _, _, _, _, rfl, ?_⟩
    iterate 3 ((with_reducible refine Below.setCell ?_ ?_ _); rotate_left; (focus exact Nat.le_refl _))
    exact HBE.out
  · go_wp2_with fail
    have HA := hide (HD6.out.below (w' := w6.alloc (.cells #[.int .i64 (-1), .int .i64 0, .int .i64 999999000] 2)) (by repeat (first | with_reducible exact Below.refl _ _ | with_reducible assumption | (with_reducible refine Below.drew ?_) | (with_reducible refine below_drewN ?_ _) | ((with_reducible refine Below.alloc ?_ ?_ _); rotate_left; (focus (first | omega | (simp; omega) | simp))) | ((with_reducible refine Below.setCell ?_ ?_ _); rotate_left; (focus (first | omega | (simp; omega) | simp))) | (refine Below.trans ?_ (Below.mono (by assumption) (by first | omega | (simp; omega) | simp))))))
    have hqA := heap_lt HD6.out.q
    have hlA := HD6.out.src.lt
    refine (srcamong w.heap.size (w.heap.size + 1) 16 (some ⟨w6.heap.size, 0, none⟩) _ [-1, 0, 999999000] _ HA.out.src (by omega) ?_ ?_ (by simp) (by simp)).mono ?_
    · exact slat_new (enc := encI) (sz := 1) (fun _ => rfl) w6 [-1, 0, 999999000] #[.int .i64 (-1), .int .i64 0, .int .i64 999999000] 2 rfl
    · intro b2 off e
      injection e with e; injection e with e _; omega
    rintro e w7 ⟨f2, rfl, -, hS, hb, hg⟩
    have HD7 := hide (HA.out.call hR hQ hS hb hg)
    clear hS hb hg HD6 HA hqA hlA
    go_wp2_with fail
    have HA := hide (HD7.out.below (w' := w7.alloc (.cells #[.int .i64 1000000000, .int .i64 1000000001, .int .i64 0, .int .i64 f2] 2)) (by repeat (first | with_reducible exact Below.refl _ _ | with_reducible assumption | (with_reducible refine Below.drew ?_) | (with_reducible refine below_drewN ?_ _) | ((with_reducible refine Below.alloc ?_ ?_ _); rotate_left; (focus (first | omega | (simp; omega) | simp))) | ((with_reducible refine Below.setCell ?_ ?_ _); rotate_left; (focus (first | omega | (simp; omega) | simp))) | (refine Below.trans ?_ (Below.mono (by assumption) (by first | omega | (simp; omega) | simp))))))
    have hqA := heap_lt HD7.out.q
    have hlA := HD7.out.src.lt
    refine (srcamong w.heap.size (w.heap.size + 1) 18 (some ⟨w7.heap.size, 0, none⟩) _ [1000000000, 1000000001, 0, f2] _ HA.out.src (by omega) ?_ ?_ (by simp) (by simp)).mono ?_
    · exact slat_new (enc := encI) (sz := 1) (fun _ => rfl) w7 [1000000000, 1000000001, 0, f2] #[.int .i64 1000000000, .int .i64 1000000001, .int .i64 0, .int .i64 f2] 2 rfl
    · intro b2 off e
      injection e with e; injection e with e _; omega
    rintro e w8 ⟨u2, rfl, -, hS, hb, hg⟩
    have HD8 := hide (HA.out.call hR hQ hS hb hg)
    clear hS hb hg HD7 HA hqA hlA
    have e0 := HD8.out.cell 0 _ rfl
    have t0 := HD8.out.rcell 0 _ rfl
    have y0 := HD8.out.rfroz 0
    have e1 := HD8.out.cell 1 _ rfl
    have t1 := HD8.out.rcell 1 _ rfl
    have y1 := HD8.out.rfroz 1
    have e2 := HD8.out.cell 2 _ rfl
    have t2 := HD8.out.rcell 2 _ rfl
    have y2 := HD8.out.rfroz 2
    have HBE := hide HD8.out.bel
    clear HD8
    go_wp2_with fail
    refine bodyPost_ret (v := .tuple #[.agg #[.int .i64 a0, .int .i64 a1, .int .i64 a2], .int .i64 f2, .int .i64 u2]) (by simp [results, Tryd.results6, go_sem, t0, t1, t2]) rfl ⟨_, _, _, _, _, rfl, ?_⟩
    iterate 3 ((with_reducible refine Below.setCell ?_ ?_ _); rotate_left; (focus exact Nat.le_refl _))
    exact HBE.out
set_option maxRecDepth 100000 in
set_option maxHeartbeats 1000000 in
theorem specDrawGapFor (A : Option Addr) (n c : Nat) (w : World) (h : ByAt w w.heap.size A n) (hn : n ≤ 9223372036854775807) :
    Calls Tryd.prog 12 #[.slice A n c] w fun e w' => ∃ a0 a1 a2 x0 : Int, e = .returned (.tuple #[.agg #[.int .i64 a0, .int .i64 a1, .int .i64 a2], .int .i64 x0]) ∧ Below w.heap.size w w' := by
  have HX := hide h
  clear h
  go_enter Tryd.func12, Tryd.ntmps12
  go_wp2_with fail
  refine (specl00From_at w.heap.size A n c _ (HX.out.alloc (Nat.le_refl _) _) hn (by simp)).mono ?_
  rintro e w1 ⟨rfl, hS1, hb1⟩
  have HR1 := hide (show w1.heap[w.heap.size]? = some (.cells #[.int .i64 0, .int .i64 0, .int .i64 0] 25 (0, 0)) from (hb1.block w.heap.size (by simp)).trans (heap_alloc_new w _))
  have HS1 := hide (show Src w1 w.heap.size (w.heap.size + 1) 0 by simpa using hS1)
  have HB1 := hide (show Below w.heap.size w w1 from ((Below.refl _ _).alloc (Nat.le_refl _) _).trans (hb1.mono (by simp)))
  have hz1 := HS1.out.lt
  clear hS1 hb1
  go_wp2_with fail
  refine (specl20Draw w.heap.size (w.heap.size + 1) 0 _ HS1.out (by omega)).mono ?_
  rintro e w2 ⟨a0, a1, a2, rfl, hS2, hb2, hg2⟩
  have hz2 := hS2.lt
  have HD := hide (show DrawSt 25 w.heap.size (w.heap.size + 1) w.heap.size w2.heap.size #[.int .i64 0, .int .i64 0, .int .i64 0] w (w2.alloc (.cells #[.int .i64 a0, .int .i64 a1, .int .i64 a2] 25)) 10 #[.int .i64 a0, .int .i64 a1, .int .i64 a2] from
    ⟨hS2.below (by repeat (first | with_reducible exact Below.refl _ _ | with_reducible assumption | (with_reducible refine Below.drew ?_) | (with_reducible refine below_drewN ?_ _) | ((with_reducible refine Below.alloc ?_ ?_ _); rotate_left; (focus (first | omega | (simp; omega) | simp))) | ((with_reducible refine Below.setCell ?_ ?_ _); rotate_left; (focus (first | omega | (simp; omega) | simp))) | (refine Below.trans ?_ (Below.mono (by assumption) (by first | omega | (simp; omega) | simp))))), (HB1.out.trans hb2).alloc (by omega) _, (heap_alloc_old _ _ (by omega)).trans ((hg2.block w.heap.size (by omega) (by simp)).trans HR1.out), heap_alloc_new w2 _⟩)
  have hQ : w2.heap.size ≠ w.heap.size + 1 := by omega
  have hR : w.heap.size ≠ w.heap.size + 1 := by omega
  clear hS2 hb2 hg2 HR1 HS1 HB1 hz1
  go_wp2_with fail
  generalize w2.alloc (.cells #[.int .i64 a0, .int .i64 a1, .int .i64 a2] 25) = w3 at HD ⊢
  generalize w2.heap.size = q at *
  refine (srcPick w.heap.size (w.heap.size + 1) 10 60000 _ HD.out.src (by omega) (by omega)).mono ?_
  rintro e w4 ⟨f, rfl, pf, qf, hS, hb, hg⟩
  have qf' := qf (by omega)
  clear qf
  have HD4 := hide (HD.out.call hR hQ hS hb hg)
  clear hS hb hg HD
  go_wp2_with fail
  refine (srcOne w.heap.size (w.heap.size + 1) 12 8 _ HD4.out.src (by omega) (by omega)).mono ?_
  rintro e w6 ⟨d, rfl, hS, hb, hg⟩
  have HD6 := hide (HD4.out.call hR hQ hS hb hg)
  clear hS hb hg HD4
  cases d
  · skip
    have e0 := HD6.out.cell 0 _ rfl
    have t0 := HD6.out.rcell 0 _ rfl
    have y0 := HD6.out.rfroz 0
    have e1 := HD6.out.cell 1 _ rfl
    have t1 := HD6.out.rcell 1 _ rfl
    have y1 := HD6.out.rfroz 1
    have e2 := HD6.out.cell 2 _ rfl
    have t2 := HD6.out.rcell 2 _ rfl
    have y2 := HD6.out.rfroz 2
    have HBE := hide HD6.out.bel
    clear HD6
    go_wp2_with fail
    refine bodyPost_ret (v := .tuple #[.agg #[.int .i64 a0, .int .i64 a1, .int .i64 a2], .int .i64 (f * 100)]) (by simp [results, Tryd.results12, go_sem, t0, t1, t2]) rfl ⟨_, _, _, _, rfl, ?_⟩
    iterate 3 ((with_reducible refine Below.setCell ?_ ?_ _); rotate_left; (focus exact Nat.le_refl _))
    exact HBE.out
  · go_wp2_with fail
    have HA := hide (HD6.out.below (w' := w6.alloc (.cells #[.int .i64 (-1), .int .i64 0, .int .i64 1000000000000, .int .i64 1000000000001] 2)) (by repeat (first | with_reducible exact Below.refl _ _ | with_reducible assumption | (with_reducible refine Below.drew ?_) | (with_reducible refine below_drewN ?_ _) | ((with_reducible refine Below.alloc ?_ ?_ _); rotate_left; (focus (first | omega | (simp; omega) | simp))) | ((with_reducible refine Below.setCell ?_ ?_ _); rotate_left; (focus (first | omega | (simp; omega) | simp))) | (refine Below.trans ?_ (Below.mono (by assumption) (by first | omega | (simp; omega) | simp))))))
    have hqA := heap_lt HD6.out.q
    have hlA := HD6.out.src.lt
    refine (srcamong w.heap.size (w.heap.size + 1) 14 (some ⟨w6.heap.size, 0, none⟩) _ [-1, 0, 1000000000000, 1000000000001] _ HA.out.src (by omega) ?_ ?_ (by simp) (by simp)).mono ?_
    · exact slat_new (enc := encI) (sz := 1) (fun _ => rfl) w6 [-1, 0, 1000000000000, 1000000000001] #[.int .i64 (-1), .int .i64 0, .int .i64 1000000000000, .int .i64 1000000000001] 2 rfl
    · intro b2 off e
      injection e with e; injection e with e _; omega
    rintro e w7 ⟨u2, rfl, -, hS, hb, hg⟩
    have HD7 := hide (HA.out.call hR hQ hS hb hg)
    clear hS hb hg HD6 HA hqA hlA
    have e0 := HD7.out.cell 0 _ rfl
    have t0 := HD7.out.rcell 0 _ rfl
    have y0 := HD7.out.rfroz 0
    have e1 := HD7.out.cell 1 _ rfl
    have t1 := HD7.out.rcell 1 _ rfl
    have y1 := HD7.out.rfroz 1
    have e2 := HD7.out.cell 2 _ rfl
    have t2 := HD7.out.rcell 2 _ rfl
    have y2 := HD7.out.rfroz 2
    have HBE := hide HD7.out.bel
    clear HD7
    go_wp2_with fail
    refine bodyPost_ret (v := .tuple #[.agg #[.int .i64 a0, .int .i64 a1, .int .i64 a2], .int .i64 u2]) (by simp [results, Tryd.results12, go_sem, t0, t1, t2]) rfl ⟨_, _, _, _, rfl, ?_⟩
    iterate 3 ((with_reducible refine Below.setCell ?_ ?_ _); rotate_left; (focus exact Nat.le_refl _))
    exact HBE.out

end Go.Proofs.YtobcjhbfkanakaaDoor
