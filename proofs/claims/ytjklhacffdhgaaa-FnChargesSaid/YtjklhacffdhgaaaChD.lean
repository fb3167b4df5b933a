/- What the law of charges draws: alloys. (Printed by genchd.py.) -/
import Derived.Test.YtjklhacffdhgaaaTow
import Derived.Test.YtjklhacffdhgaaaIng
namespace Go.Proofs.Ytjklhacffdhgaaa
open Go.RowKit

set_option maxRecDepth 100000 in
set_option maxHeartbeats 1000000 in
theorem specl13DrawAlloy (B b N : Nat) (w : World) (h : Src w B b N) (hN : N ≤ 1000) :
    Calls Try.prog 152 #[.pointer (some ⟨b, 0, none⟩)] w fun e w' => ∃ c t o : Int, e = .returned (.agg #[.int .i64 c, .int .i64 t, .int .i64 o]) ∧ vAlloy c t o = true ∧ Src w' B b (N + 4) ∧ Below B w w' ∧ w.grownBy w' (some b) := by
  have HS := hide h
  have hl := h.lt
  have h0 := h.1
  clear h
  go_enter Try.func152, Try.ntmps152
  go_wp2_with fail
  refine (srcamong B b N (some ⟨w.heap.size + 1, 0, none⟩) _ [0, 200000, 220000, 230000, 1000000, 150000] _ (HS.out.below (by repeat (first | with_reducible exact Below.refl _ _ | with_reducible assumption | (with_reducible refine Below.drew ?_) | (with_reducible refine below_drewN ?_ _) | ((with_reducible refine Below.alloc ?_ ?_ _); rotate_left; (focus (first | omega | (simp; omega) | simp))) | ((with_reducible refine Below.setCell ?_ ?_ _); rotate_left; (focus (first | omega | (simp; omega) | simp))) | (refine Below.trans ?_ (Below.mono (by assumption) (by first | omega | (simp; omega) | simp)))))) (by omega) ?_ ?_ (by decide) (by decide)).mono ?_
  · have hr := slat_new (enc := encI) (sz := 1) (fun _ => rfl) (w.alloc (.cells #[.int .i64 0, .int .i64 0, .int .i64 0] 45)) [0, 200000, 220000, 230000, 1000000, 150000] #[.int .i64 0, .int .i64 200000, .int .i64 220000, .int .i64 230000, .int .i64 1000000, .int .i64 150000] 2 rfl
    simpa using hr
  · intro b2 off e
    injection e with e; injection e with e _; omega
  rintro e w1 ⟨t, rfl, hm, hS1, hb1, hg1⟩
  have hR1 : w1.heap[w.heap.size]? = some (.cells #[.int .i64 0, .int .i64 0, .int .i64 0] 45 (0, 0)) := (hg1.block w.heap.size (by simp; omega) (by simp; omega)).trans ((heap_alloc_old _ _ (by simp)).trans (heap_alloc_new w _))
  have hz1 := hg1.size
  simp at hz1
  have hB1 : B ≤ w1.heap.size := by omega
  have HD1 := hide (show DrawSt 45 B b w.heap.size w1.heap.size #[.int .i64 0, .int .i64 0, .int .i64 0] w (w1.alloc (.cells #[.int .i64 0, .int .i64 t, .int .i64 0] 45)) (N + 2) #[.int .i64 0, .int .i64 t, .int .i64 0] from
    ⟨hS1.below (by repeat (first | with_reducible exact Below.refl _ _ | with_reducible assumption | (with_reducible refine Below.drew ?_) | (with_reducible refine below_drewN ?_ _) | ((with_reducible refine Below.alloc ?_ ?_ _); rotate_left; (focus (first | omega | (simp; omega) | simp))) | ((with_reducible refine Below.setCell ?_ ?_ _); rotate_left; (focus (first | omega | (simp; omega) | simp))) | (refine Below.trans ?_ (Below.mono (by assumption) (by first | omega | (simp; omega) | simp))))), (Below.trans (show Below B w _ from (by repeat (first | with_reducible exact Below.refl _ _ | with_reducible assumption | (with_reducible refine Below.drew ?_) | (with_reducible refine below_drewN ?_ _) | ((with_reducible refine Below.alloc ?_ ?_ _); rotate_left; (focus (first | omega | (simp; omega) | simp))) | ((with_reducible refine Below.setCell ?_ ?_ _); rotate_left; (focus (first | omega | (simp; omega) | simp))) | (refine Below.trans ?_ (Below.mono (by assumption) (by first | omega | (simp; omega) | simp)))))) hb1).alloc hB1 _, (heap_alloc_old _ _ (by omega)).trans hR1, heap_alloc_new w1 _⟩)
  have GHD1 := hide (show w.grownBy (w1.alloc (.cells #[.int .i64 0, .int .i64 t, .int .i64 0] 45)) (some b) from grown_alloc (grown_trans (grown_alloc (grown_alloc (grown_refl w _) _) _) hg1) _)
  have hQ : w1.heap.size ≠ b := by have := hS1.lt; omega
  have hR : w.heap.size ≠ b := by omega
  have hRQ : w.heap.size ≠ w1.heap.size := by omega
  have hwQ : w.heap.size ≤ w1.heap.size := by omega
  have hBR : B ≤ w.heap.size := by omega
  have ht : (0 ≤ t ∧ t ≤ 230000) ∨ t = 1000000 := by
    simp only [List.mem_cons, List.not_mem_nil, or_false] at hm
    omega
  clear hm hS1 hb1 hg1 hR1 HS
  by_cases hlt : t < 1000000
  · go_wp2_with fail
    have HA2 := hide (HD1.out.below (w' := (w1.alloc (.cells #[.int .i64 0, .int .i64 t, .int .i64 0] 45)).alloc (.cells #[.int .i64 0, .int .i64 0, .int .i64 5000, .int .i64 20000] 2)) (by repeat (first | with_reducible exact Below.refl _ _ | with_reducible assumption | (with_reducible refine Below.drew ?_) | (with_reducible refine below_drewN ?_ _) | ((with_reducible refine Below.alloc ?_ ?_ _); rotate_left; (focus (first | omega | (simp; omega) | simp))) | ((with_reducible refine Below.setCell ?_ ?_ _); rotate_left; (focus (first | omega | (simp; omega) | simp))) | (refine Below.trans ?_ (Below.mono (by assumption) (by first | omega | (simp; omega) | simp))))))
    have GA2 := hide (grown_alloc GHD1.out (.cells #[.int .i64 0, .int .i64 0, .int .i64 5000, .int .i64 20000] 2))
    have hlb : b < w1.heap.size := by omega
    refine (srcamong B b (N + 2) (some ⟨w1.heap.size + 1, 0, none⟩) _ [0, 0, 5000, 20000] _ HA2.out.src (by omega) ?_ ?_ (by decide) (by decide)).mono ?_
    · have hr := slat_new (enc := encI) (sz := 1) (fun _ => rfl) (w1.alloc (.cells #[.int .i64 0, .int .i64 t, .int .i64 0] 45)) [0, 0, 5000, 20000] #[.int .i64 0, .int .i64 0, .int .i64 5000, .int .i64 20000] 2 rfl
      simpa using hr
    · intro b2 off e
      injection e with e; injection e with e _; omega
    rintro e w2 ⟨o, rfl, hm, hS, hb, hg⟩
    have ho : 0 ≤ o ∧ o ≤ 20000 := by
      simp only [List.mem_cons, List.not_mem_nil, or_false] at hm
      omega
    have hD := HA2.out.call hR hQ hS hb hg
    have c2 := hD.cell 2 _ rfl
    have f2 := hD.froz 2
    have HD2 := hide (show DrawSt 45 B b w.heap.size w1.heap.size #[.int .i64 0, .int .i64 0, .int .i64 0] w (w2.setCell ⟨w1.heap.size, 2, none⟩ (.int .i64 o)) (N + 4) #[.int .i64 0, .int .i64 t, .int .i64 o] from hD.set hQ hRQ hB1 2 (.int .i64 o))
    have GHD2 := hide (show w.grownBy (w2.setCell ⟨w1.heap.size, 2, none⟩ (.int .i64 o)) (some b) from grown_new (grown_trans GA2.out hg) hwQ _ _)
    clear hm hS hb hg hD HD1 GHD1 HA2 GA2
    have e1 := HD2.out.cell 1 _ rfl
    have e2 := HD2.out.cell 2 _ rfl
    have e0 := HD2.out.cell 0 _ rfl
    have y0 := HD2.out.froz 0
    have u0 := HD2.out.rcell 0 _ rfl
    have u1 := HD2.out.rcell 1 _ rfl
    have u2 := HD2.out.rcell 2 _ rfl
    have z0 := HD2.out.rfroz 0
    have z1 := HD2.out.rfroz 1
    have z2 := HD2.out.rfroz 2
    have HDE := hide (HD2.out.set hQ hRQ hB1 0 (.int .i64 (1000000 - t - o)))
    have GKE := hide (grown_new GHD2.out hwQ 0 (.int .i64 (1000000 - t - o)))
    have k1 : IntKind.i64.wrap (1000000 - t) = 1000000 - t := IntWalk.i64_in _ (by omega)
    have k2 : IntKind.i64.wrap (1000000 - t - o) = 1000000 - t - o := IntWalk.i64_in _ (by omega)
    have HV := hide (show vAlloy (1000000 - t - o) t o = true from by unfold vAlloy inB; simp <;> omega)
    clear HD2 GHD2
    go_wp2_with fail
    refine bodyPost_ret (v := .agg #[.int .i64 (1000000 - t - o), .int .i64 t, .int .i64 o]) (by simp [results, Try.results152, go_sem, u0, u1, u2]) rfl ⟨_, _, _, rfl, HV.out, (HDE.out.src.kept (row := some w.heap.size) ?_ ?_ (by simpa using Ne.symm hR)).more (by omega), ?_, ?_⟩
    · iterate 3 (refine grown_set ?_ _ _)
      exact grown_refl _ _
    · iterate 3 ((with_reducible refine Below.setCell ?_ ?_ _); rotate_left; (focus exact hBR))
      exact Below.refl _ _
    · iterate 3 ((with_reducible refine Below.setCell ?_ ?_ _); rotate_left; (focus exact hBR))
      exact HDE.out.bel
    · iterate 3 (refine grown_new ?_ (Nat.le_refl _) _ _)
      exact GKE.out
  · obtain rfl : t = 1000000 := by omega
    have e1 := HD1.out.cell 1 _ rfl
    have e2 := HD1.out.cell 2 _ rfl
    have e0 := HD1.out.cell 0 _ rfl
    have y0 := HD1.out.froz 0
    have u0 := HD1.out.rcell 0 _ rfl
    have u1 := HD1.out.rcell 1 _ rfl
    have u2 := HD1.out.rcell 2 _ rfl
    have z0 := HD1.out.rfroz 0
    have z1 := HD1.out.rfroz 1
    have z2 := HD1.out.rfroz 2
    have HDE := hide HD1.out
    have GKE := hide GHD1.out
    have k1 : IntKind.i64.wrap (1000000 - 1000000) = 0 := IntWalk.i64_in _ (by omega)
    have k2 : IntKind.i64.wrap (1000000 - 1000000 - 0) = 0 := IntWalk.i64_in _ (by omega)
    have HV := hide (show vAlloy (0) 1000000 0 = true from by unfold vAlloy inB; simp <;> omega)
    clear HD1 GHD1
    go_wp2_with fail
    refine bodyPost_ret (v := .agg #[.int .i64 (0), .int .i64 1000000, .int .i64 0]) (by simp [results, Try.results152, go_sem, u0, u1, u2]) rfl ⟨_, _, _, rfl, HV.out, (HDE.out.src.kept (row := some w.heap.size) ?_ ?_ (by simpa using Ne.symm hR)).more (by omega), ?_, ?_⟩
    · iterate 3 (refine grown_set ?_ _ _)
      exact grown_refl _ _
    · iterate 3 ((with_reducible refine Below.setCell ?_ ?_ _); rotate_left; (focus exact hBR))
      exact Below.refl _ _
    · iterate 3 ((with_reducible refine Below.setCell ?_ ?_ _); rotate_left; (focus exact hBR))
      exact HDE.out.bel
    · iterate 3 (refine grown_new ?_ (Nat.le_refl _) _ _)
      exact GKE.out
end Go.Proofs.Ytjklhacffdhgaaa
