/- What the reference draws: towers and swings (printed by gentow.py). -/
import Derived.Test.YtjklhacffdhgaaaSrc2
import Derived.Outline
namespace Go.Proofs.Ytjklhacffdhgaaa
open Go.RowKit

set_option maxRecDepth 100000 in
set_option maxHeartbeats 1000000 in
theorem specl22DrawTower (B b N : Nat) (w : World) (h : Src w B b N) (hN : N ≤ 1000) :
    Calls Try.prog 113 #[.pointer (some ⟨b, 0, none⟩)] w fun e w' => ∃ (nm : ByteArray) (a1 a2 a3 a4 : Int), e = .returned (.agg #[.string nm, .int .i64 a1, .int .i64 a2, .int .i64 a3, .int .i64 a4]) ∧ nm.size ≤ 100 ∧ Src w' B b (N + 10) ∧ Below B w w' ∧ w.grownBy w' (some b) := by
  have HS := hide h
  have hl := h.lt
  have h0 := h.1
  clear h
  go_enter Try.func113, Try.ntmps113
  go_wp2_with fail
  refine (srctext B b N (some ⟨w.heap.size + 1, 0, none⟩) _ [⟨#[110, 111, 114, 116, 104]⟩, ⟨#[111, 108, 100]⟩, ⟨#[116, 49]⟩] _ (HS.out.below (by repeat (first | with_reducible exact Below.refl _ _ | with_reducible assumption | (with_reducible refine Below.drew ?_) | (with_reducible refine below_drewN ?_ _) | ((with_reducible refine Below.alloc ?_ ?_ _); rotate_left; (focus (first | omega | (simp; omega) | simp))) | ((with_reducible refine Below.setCell ?_ ?_ _); rotate_left; (focus (first | omega | (simp; omega) | simp))) | (refine Below.trans ?_ (Below.mono (by assumption) (by first | omega | (simp; omega) | simp)))))) (by omega) ?_ ?_ (by decide) (by decide)).mono ?_
  · have hr := slat_new (enc := encS) (sz := 1) (fun _ => rfl) (w.alloc (.cells #[.string ⟨#[]⟩, .int .i64 0, .int .i64 0, .int .i64 0, .int .i64 0] 56)) [⟨#[110, 111, 114, 116, 104]⟩, ⟨#[111, 108, 100]⟩, ⟨#[116, 49]⟩] #[.string ⟨#[110, 111, 114, 116, 104]⟩, .string ⟨#[111, 108, 100]⟩, .string ⟨#[116, 49]⟩] 9 rfl
    simpa using hr
  · intro b2 off e
    injection e with e; injection e with e _; omega
  rintro e w1 ⟨nm, rfl, hm, hS1, hb1, hg1⟩
  have hR1 : w1.heap[w.heap.size]? = some (.cells #[.string ⟨#[]⟩, .int .i64 0, .int .i64 0, .int .i64 0, .int .i64 0] 56 (0, 0)) := (hg1.block w.heap.size (by simp; omega) (by simp; omega)).trans ((heap_alloc_old _ _ (by simp)).trans (heap_alloc_new w _))
  have hz1 := hg1.size
  simp at hz1
  have hnm : nm.size ≤ 100 := by
    simp only [List.mem_cons, List.not_mem_nil, or_false] at hm
    rcases hm with rfl | rfl | rfl <;> decide
  have hB1 : B ≤ w1.heap.size := by omega
  have HD1 := hide (show DrawSt 56 B b w.heap.size w1.heap.size #[.string ⟨#[]⟩, .int .i64 0, .int .i64 0, .int .i64 0, .int .i64 0] w (w1.alloc (.cells #[.string nm, .int .i64 0, .int .i64 0, .int .i64 0, .int .i64 0] 56)) (N + 2) #[.string nm, .int .i64 0, .int .i64 0, .int .i64 0, .int .i64 0] from
    ⟨hS1.below (by repeat (first | with_reducible exact Below.refl _ _ | with_reducible assumption | (with_reducible refine Below.drew ?_) | (with_reducible refine below_drewN ?_ _) | ((with_reducible refine Below.alloc ?_ ?_ _); rotate_left; (focus (first | omega | (simp; omega) | simp))) | ((with_reducible refine Below.setCell ?_ ?_ _); rotate_left; (focus (first | omega | (simp; omega) | simp))) | (refine Below.trans ?_ (Below.mono (by assumption) (by first | omega | (simp; omega) | simp))))), (Below.trans (show Below B w _ from (by repeat (first | with_reducible exact Below.refl _ _ | with_reducible assumption | (with_reducible refine Below.drew ?_) | (with_reducible refine below_drewN ?_ _) | ((with_reducible refine Below.alloc ?_ ?_ _); rotate_left; (focus (first | omega | (simp; omega) | simp))) | ((with_reducible refine Below.setCell ?_ ?_ _); rotate_left; (focus (first | omega | (simp; omega) | simp))) | (refine Below.trans ?_ (Below.mono (by assumption) (by first | omega | (simp; omega) | simp)))))) hb1).alloc hB1 _, (heap_alloc_old _ _ (by omega)).trans hR1, heap_alloc_new w1 _⟩)
  have GK1 := hide (show w.grownBy (w1.alloc (.cells #[.string nm, .int .i64 0, .int .i64 0, .int .i64 0, .int .i64 0] 56)) (some b) from grown_alloc (grown_trans (grown_alloc (grown_alloc (grown_refl w _) _) _) hg1) _)
  have hQ : w1.heap.size ≠ b := by have := hS1.lt; omega
  have hR : w.heap.size ≠ b := by omega
  have hRQ : w.heap.size ≠ w1.heap.size := by omega
  have hwQ : w.heap.size ≤ w1.heap.size := by omega
  clear hm hS1 hb1 hg1 hR1
  go_wp2_with fail
  have hA2 := HD1.out.below (w' := ((w1.alloc (.cells #[.string nm, .int .i64 0, .int .i64 0, .int .i64 0, .int .i64 0] 56)).alloc (.cells #[.int .i64 100, .int .i64 800, .int .i64 1200, .int .i64 2500, .int .i64 10000] 2))) (by repeat (first | with_reducible exact Below.refl _ _ | with_reducible assumption | (with_reducible refine Below.drew ?_) | (with_reducible refine below_drewN ?_ _) | ((with_reducible refine Below.alloc ?_ ?_ _); rotate_left; (focus (first | omega | (simp; omega) | simp))) | ((with_reducible refine Below.setCell ?_ ?_ _); rotate_left; (focus (first | omega | (simp; omega) | simp))) | (refine Below.trans ?_ (Below.mono (by assumption) (by first | omega | (simp; omega) | simp)))))
  have HA2 := hide hA2
  have GA2 := hide (grown_alloc GK1.out (.cells #[.int .i64 100, .int .i64 800, .int .i64 1200, .int .i64 2500, .int .i64 10000] 2))
  have hlb2 : b < w1.heap.size + 1 := by have := HD1.out.src.lt; simpa [World.setCell] using this
  clear hA2
  refine (srcamong B b (N + 2) (some ⟨w1.heap.size + 1, 0, none⟩) _ [100, 800, 1200, 2500, 10000] _ HA2.out.src (by omega) ?_ ?_ (by decide) (by decide)).mono ?_
  · have hr := slat_new (enc := encI) (sz := 1) (fun _ => rfl) (w1.alloc (.cells #[.string nm, .int .i64 0, .int .i64 0, .int .i64 0, .int .i64 0] 56)) [100, 800, 1200, 2500, 10000] #[.int .i64 100, .int .i64 800, .int .i64 1200, .int .i64 2500, .int .i64 10000] 2 rfl
    simpa [World.setCell] using hr
  · intro b2 off e
    injection e with e; injection e with e _; omega
  rintro e w2 ⟨r2, rfl, -, hS, hb, hg⟩
  have hD := HA2.out.call hR hQ hS hb hg
  have c2 := hD.cell 1 _ rfl
  have f2 := hD.froz 1
  have HD2 := hide (show DrawSt 56 B b w.heap.size w1.heap.size #[.string ⟨#[]⟩, .int .i64 0, .int .i64 0, .int .i64 0, .int .i64 0] w (w2.setCell ⟨w1.heap.size, 1, none⟩ (.int .i64 r2)) (N + 4) #[.string nm, .int .i64 r2, .int .i64 0, .int .i64 0, .int .i64 0] from hD.set hQ hRQ hB1 1 (.int .i64 r2))
  have GK2 := hide (show w.grownBy (w2.setCell ⟨w1.heap.size, 1, none⟩ (.int .i64 r2)) (some b) from grown_new (grown_trans GA2.out hg) hwQ _ _)
  clear hS hb hg hD HD1 GK1 HA2 GA2
  go_wp2_with fail
  have hA3 := HD2.out.below (w' := ((w2.setCell ⟨w1.heap.size, 1, none⟩ (.int .i64 r2)).alloc (.cells #[.int .i64 5, .int .i64 20, .int .i64 50, .int .i64 500] 2))) (by repeat (first | with_reducible exact Below.refl _ _ | with_reducible assumption | (with_reducible refine Below.drew ?_) | (with_reducible refine below_drewN ?_ _) | ((with_reducible refine Below.alloc ?_ ?_ _); rotate_left; (focus (first | omega | (simp; omega) | simp))) | ((with_reducible refine Below.setCell ?_ ?_ _); rotate_left; (focus (first | omega | (simp; omega) | simp))) | (refine Below.trans ?_ (Below.mono (by assumption) (by first | omega | (simp; omega) | simp)))))
  have HA3 := hide hA3
  have GA3 := hide (grown_alloc GK2.out (.cells #[.int .i64 5, .int .i64 20, .int .i64 50, .int .i64 500] 2))
  have hlb3 : b < w2.heap.size := by have := HD2.out.src.lt; simpa [World.setCell] using this
  clear hA3
  refine (srcamong B b (N + 4) (some ⟨w2.heap.size, 0, none⟩) _ [5, 20, 50, 500] _ HA3.out.src (by omega) ?_ ?_ (by decide) (by decide)).mono ?_
  · have hr := slat_new (enc := encI) (sz := 1) (fun _ => rfl) (w2.setCell ⟨w1.heap.size, 1, none⟩ (.int .i64 r2)) [5, 20, 50, 500] #[.int .i64 5, .int .i64 20, .int .i64 50, .int .i64 500] 2 rfl
    simpa [World.setCell] using hr
  · intro b2 off e
    injection e with e; injection e with e _; omega
  rintro e w3 ⟨r3, rfl, -, hS, hb, hg⟩
  have hD := HA3.out.call hR hQ hS hb hg
  have c3 := hD.cell 2 _ rfl
  have f3 := hD.froz 2
  have HD3 := hide (show DrawSt 56 B b w.heap.size w1.heap.size #[.string ⟨#[]⟩, .int .i64 0, .int .i64 0, .int .i64 0, .int .i64 0] w (w3.setCell ⟨w1.heap.size, 2, none⟩ (.int .i64 r3)) (N + 6) #[.string nm, .int .i64 r2, .int .i64 r3, .int .i64 0, .int .i64 0] from hD.set hQ hRQ hB1 2 (.int .i64 r3))
  have GK3 := hide (show w.grownBy (w3.setCell ⟨w1.heap.size, 2, none⟩ (.int .i64 r3)) (some b) from grown_new (grown_trans GA3.out hg) hwQ _ _)
  clear hS hb hg hD HD2 GK2 HA3 GA3
  go_wp2_with fail
  have hA4 := HD3.out.below (w' := ((w3.setCell ⟨w1.heap.size, 2, none⟩ (.int .i64 r3)).alloc (.cells #[.int .i64 1, .int .i64 50, .int .i64 300, .int .i64 5000, .int .i64 1000000] 2))) (by repeat (first | with_reducible exact Below.refl _ _ | with_reducible assumption | (with_reducible refine Below.drew ?_) | (with_reducible refine below_drewN ?_ _) | ((with_reducible refine Below.alloc ?_ ?_ _); rotate_left; (focus (first | omega | (simp; omega) | simp))) | ((with_reducible refine Below.setCell ?_ ?_ _); rotate_left; (focus (first | omega | (simp; omega) | simp))) | (refine Below.trans ?_ (Below.mono (by assumption) (by first | omega | (simp; omega) | simp)))))
  have HA4 := hide hA4
  have GA4 := hide (grown_alloc GK3.out (.cells #[.int .i64 1, .int .i64 50, .int .i64 300, .int .i64 5000, .int .i64 1000000] 2))
  have hlb4 : b < w3.heap.size := by have := HD3.out.src.lt; simpa [World.setCell] using this
  clear hA4
  refine (srcamong B b (N + 6) (some ⟨w3.heap.size, 0, none⟩) _ [1, 50, 300, 5000, 1000000] _ HA4.out.src (by omega) ?_ ?_ (by decide) (by decide)).mono ?_
  · have hr := slat_new (enc := encI) (sz := 1) (fun _ => rfl) (w3.setCell ⟨w1.heap.size, 2, none⟩ (.int .i64 r3)) [1, 50, 300, 5000, 1000000] #[.int .i64 1, .int .i64 50, .int .i64 300, .int .i64 5000, .int .i64 1000000] 2 rfl
    simpa [World.setCell] using hr
  · intro b2 off e
    injection e with e; injection e with e _; omega
  rintro e w4 ⟨r4, rfl, -, hS, hb, hg⟩
  have hD := HA4.out.call hR hQ hS hb hg
  have c4 := hD.cell 3 _ rfl
  have f4 := hD.froz 3
  have HD4 := hide (show DrawSt 56 B b w.heap.size w1.heap.size #[.string ⟨#[]⟩, .int .i64 0, .int .i64 0, .int .i64 0, .int .i64 0] w (w4.setCell ⟨w1.heap.size, 3, none⟩ (.int .i64 r4)) (N + 8) #[.string nm, .int .i64 r2, .int .i64 r3, .int .i64 r4, .int .i64 0] from hD.set hQ hRQ hB1 3 (.int .i64 r4))
  have GK4 := hide (show w.grownBy (w4.setCell ⟨w1.heap.size, 3, none⟩ (.int .i64 r4)) (some b) from grown_new (grown_trans GA4.out hg) hwQ _ _)
  clear hS hb hg hD HD3 GK3 HA4 GA4
  go_wp2_with fail
  have hA5 := HD4.out.below (w' := ((w4.setCell ⟨w1.heap.size, 3, none⟩ (.int .i64 r4)).alloc (.cells #[.int .i64 0, .int .i64 20, .int .i64 100, .int .i64 1000, .int .i64 100000] 2))) (by repeat (first | with_reducible exact Below.refl _ _ | with_reducible assumption | (with_reducible refine Below.drew ?_) | (with_reducible refine below_drewN ?_ _) | ((with_reducible refine Below.alloc ?_ ?_ _); rotate_left; (focus (first | omega | (simp; omega) | simp))) | ((with_reducible refine Below.setCell ?_ ?_ _); rotate_left; (focus (first | omega | (simp; omega) | simp))) | (refine Below.trans ?_ (Below.mono (by assumption) (by first | omega | (simp; omega) | simp)))))
  have HA5 := hide hA5
  have GA5 := hide (grown_alloc GK4.out (.cells #[.int .i64 0, .int .i64 20, .int .i64 100, .int .i64 1000, .int .i64 100000] 2))
  have hlb5 : b < w4.heap.size := by have := HD4.out.src.lt; simpa [World.setCell] using this
  clear hA5
  refine (srcamong B b (N + 8) (some ⟨w4.heap.size, 0, none⟩) _ [0, 20, 100, 1000, 100000] _ HA5.out.src (by omega) ?_ ?_ (by decide) (by decide)).mono ?_
  · have hr := slat_new (enc := encI) (sz := 1) (fun _ => rfl) (w4.setCell ⟨w1.heap.size, 3, none⟩ (.int .i64 r4)) [0, 20, 100, 1000, 100000] #[.int .i64 0, .int .i64 20, .int .i64 100, .int .i64 1000, .int .i64 100000] 2 rfl
    simpa [World.setCell] using hr
  · intro b2 off e
    injection e with e; injection e with e _; omega
  rintro e w5 ⟨r5, rfl, -, hS, hb, hg⟩
  have hD := HA5.out.call hR hQ hS hb hg
  have c5 := hD.cell 4 _ rfl
  have f5 := hD.froz 4
  have HD5 := hide (show DrawSt 56 B b w.heap.size w1.heap.size #[.string ⟨#[]⟩, .int .i64 0, .int .i64 0, .int .i64 0, .int .i64 0] w (w5.setCell ⟨w1.heap.size, 4, none⟩ (.int .i64 r5)) (N + 10) #[.string nm, .int .i64 r2, .int .i64 r3, .int .i64 r4, .int .i64 r5] from hD.set hQ hRQ hB1 4 (.int .i64 r5))
  have GK5 := hide (show w.grownBy (w5.setCell ⟨w1.heap.size, 4, none⟩ (.int .i64 r5)) (some b) from grown_new (grown_trans GA5.out hg) hwQ _ _)
  clear hS hb hg hD HD4 GK4 HA5 GA5
  clear c2 f2 c3 f3 c4 f4
  have e0 := HD5.out.cell 0 _ rfl
  have t0 := HD5.out.rcell 0 _ rfl
  have y0 := HD5.out.rfroz 0
  have e1 := HD5.out.cell 1 _ rfl
  have t1 := HD5.out.rcell 1 _ rfl
  have y1 := HD5.out.rfroz 1
  have e2 := HD5.out.cell 2 _ rfl
  have t2 := HD5.out.rcell 2 _ rfl
  have y2 := HD5.out.rfroz 2
  have e3 := HD5.out.cell 3 _ rfl
  have t3 := HD5.out.rcell 3 _ rfl
  have y3 := HD5.out.rfroz 3
  have e4 := HD5.out.cell 4 _ rfl
  have t4 := HD5.out.rcell 4 _ rfl
  have y4 := HD5.out.rfroz 4
  have HSE := hide (HD5.out.src)
  have HBE := hide HD5.out.bel
  have hBR : B ≤ w.heap.size := by omega
  clear HD5
  go_wp2_with fail
  refine bodyPost_ret (v := .agg #[.string nm, .int .i64 r2, .int .i64 r3, .int .i64 r4, .int .i64 r5]) (by simp [results, Try.results113, go_sem, t0, t1, t2, t3, t4]) rfl ⟨nm, _, _, _, _, rfl, hnm, HSE.out.kept (row := some w.heap.size) ?_ ?_ (by simpa using Ne.symm hR), ?_, ?_⟩
  · iterate 5 (refine grown_set ?_ _ _)
    exact grown_refl _ _
  · iterate 5 ((with_reducible refine Below.setCell ?_ ?_ _); rotate_left; (focus exact hBR))
    exact Below.refl _ _
  · iterate 5 ((with_reducible refine Below.setCell ?_ ?_ _); rotate_left; (focus exact hBR))
    exact HBE.out
  · iterate 5 (refine grown_new ?_ (Nat.le_refl _) _ _)
    exact GK5.out

set_option maxRecDepth 100000 in
set_option maxHeartbeats 1000000 in
theorem specl22DrawOne (B b N : Nat) (w : World) (h : Src w B b N) (hN : N ≤ 1000) :
    Calls Try.prog 120 #[.pointer (some ⟨b, 0, none⟩)] w fun e w' => ∃ (nm : ByteArray) (a1 a2 : Int), e = .returned (.agg #[.string nm, .int .i64 a1, .int .i64 a2]) ∧ nm.size ≤ 100 ∧ Src w' B b (N + 6) ∧ Below B w w' ∧ w.grownBy w' (some b) := by
  have HS := hide h
  have hl := h.lt
  have h0 := h.1
  clear h
  go_enter Try.func120, Try.ntmps120
  go_wp2_with fail
  refine (srctext B b N (some ⟨w.heap.size + 1, 0, none⟩) _ [⟨#[99, 52]⟩, ⟨#[100, 52]⟩, ⟨#[101, 52]⟩, ⟨#[102, 52]⟩, ⟨#[103, 52]⟩, ⟨#[97, 52]⟩, ⟨#[98, 52]⟩, ⟨#[99, 53]⟩] _ (HS.out.below (by repeat (first | with_reducible exact Below.refl _ _ | with_reducible assumption | (with_reducible refine Below.drew ?_) | (with_reducible refine below_drewN ?_ _) | ((with_reducible refine Below.alloc ?_ ?_ _); rotate_left; (focus (first | omega | (simp; omega) | simp))) | ((with_reducible refine Below.setCell ?_ ?_ _); rotate_left; (focus (first | omega | (simp; omega) | simp))) | (refine Below.trans ?_ (Below.mono (by assumption) (by first | omega | (simp; omega) | simp)))))) (by omega) ?_ ?_ (by decide) (by decide)).mono ?_
  · have hr := slat_new (enc := encS) (sz := 1) (fun _ => rfl) (w.alloc (.cells #[.string ⟨#[]⟩, .int .i64 0, .int .i64 0] 77)) [⟨#[99, 52]⟩, ⟨#[100, 52]⟩, ⟨#[101, 52]⟩, ⟨#[102, 52]⟩, ⟨#[103, 52]⟩, ⟨#[97, 52]⟩, ⟨#[98, 52]⟩, ⟨#[99, 53]⟩] #[.string ⟨#[99, 52]⟩, .string ⟨#[100, 52]⟩, .string ⟨#[101, 52]⟩, .string ⟨#[102, 52]⟩, .string ⟨#[103, 52]⟩, .string ⟨#[97, 52]⟩, .string ⟨#[98, 52]⟩, .string ⟨#[99, 53]⟩] 9 rfl
    simpa using hr
  · intro b2 off e
    injection e with e; injection e with e _; omega
  rintro e w1 ⟨nm, rfl, hm, hS1, hb1, hg1⟩
  have hR1 : w1.heap[w.heap.size]? = some (.cells #[.string ⟨#[]⟩, .int .i64 0, .int .i64 0] 77 (0, 0)) := (hg1.block w.heap.size (by simp; omega) (by simp; omega)).trans ((heap_alloc_old _ _ (by simp)).trans (heap_alloc_new w _))
  have hz1 := hg1.size
  simp at hz1
  have hnm : nm.size ≤ 100 := by
    simp only [List.mem_cons, List.not_mem_nil, or_false] at hm
    rcases hm with rfl | rfl | rfl | rfl | rfl | rfl | rfl | rfl <;> decide
  have hB1 : B ≤ w1.heap.size := by omega
  have HD1 := hide (show DrawSt 77 B b w.heap.size w1.heap.size #[.string ⟨#[]⟩, .int .i64 0, .int .i64 0] w (w1.alloc (.cells #[.string nm, .int .i64 0, .int .i64 0] 77)) (N + 2) #[.string nm, .int .i64 0, .int .i64 0] from
    ⟨hS1.below (by repeat (first | with_reducible exact Below.refl _ _ | with_reducible assumption | (with_reducible refine Below.drew ?_) | (with_reducible refine below_drewN ?_ _) | ((with_reducible refine Below.alloc ?_ ?_ _); rotate_left; (focus (first | omega | (simp; omega) | simp))) | ((with_reducible refine Below.setCell ?_ ?_ _); rotate_left; (focus (first | omega | (simp; omega) | simp))) | (refine Below.trans ?_ (Below.mono (by assumption) (by first | omega | (simp; omega) | simp))))), (Below.trans (show Below B w _ from (by repeat (first | with_reducible exact Below.refl _ _ | with_reducible assumption | (with_reducible refine Below.drew ?_) | (with_reducible refine below_drewN ?_ _) | ((with_reducible refine Below.alloc ?_ ?_ _); rotate_left; (focus (first | omega | (simp; omega) | simp))) | ((with_reducible refine Below.setCell ?_ ?_ _); rotate_left; (focus (first | omega | (simp; omega) | simp))) | (refine Below.trans ?_ (Below.mono (by assumption) (by first | omega | (simp; omega) | simp)))))) hb1).alloc hB1 _, (heap_alloc_old _ _ (by omega)).trans hR1, heap_alloc_new w1 _⟩)
  have GK1 := hide (show w.grownBy (w1.alloc (.cells #[.string nm, .int .i64 0, .int .i64 0] 77)) (some b) from grown_alloc (grown_trans (grown_alloc (grown_alloc (grown_refl w _) _) _) hg1) _)
  have hQ : w1.heap.size ≠ b := by have := hS1.lt; omega
  have hR : w.heap.size ≠ b := by omega
  have hRQ : w.heap.size ≠ w1.heap.size := by omega
  have hwQ : w.heap.size ≤ w1.heap.size := by omega
  clear hm hS1 hb1 hg1 hR1
  go_wp2_with fail
  refine (srcPick B b (N + 2) _ _ HD1.out.src (by omega) (by omega)).mono ?_
  rintro e w2 ⟨r2, rfl, p2, q2, hS, hb, hg⟩
  have q2' := q2 (by omega)
  clear q2
  have hD := HD1.out.call hR hQ hS hb hg
  have c2 := hD.cell 1 _ rfl
  have f2 := hD.froz 1
  have HD2 := hide (show DrawSt 77 B b w.heap.size w1.heap.size #[.string ⟨#[]⟩, .int .i64 0, .int .i64 0] w (w2.setCell ⟨w1.heap.size, 1, none⟩ (.int .i64 (100 + r2 * 50))) (N + 4) #[.string nm, .int .i64 (100 + r2 * 50), .int .i64 0] from hD.set hQ hRQ hB1 1 (.int .i64 (100 + r2 * 50)))
  have GK2 := hide (show w.grownBy (w2.setCell ⟨w1.heap.size, 1, none⟩ (.int .i64 (100 + r2 * 50))) (some b) from grown_new (grown_trans GK1.out hg) hwQ _ _)
  clear hS hb hg hD HD1 GK1
  go_wp2_with fail
  have hA3 := HD2.out.below (w' := ((w2.setCell ⟨w1.heap.size, 1, none⟩ (.int .i64 (100 + r2 * 50))).alloc (.cells #[.int .i64 100, .int .i64 1000, .int .i64 5000, .int .i64 20000, .int .i64 1] 2))) (by repeat (first | with_reducible exact Below.refl _ _ | with_reducible assumption | (with_reducible refine Below.drew ?_) | (with_reducible refine below_drewN ?_ _) | ((with_reducible refine Below.alloc ?_ ?_ _); rotate_left; (focus (first | omega | (simp; omega) | simp))) | ((with_reducible refine Below.setCell ?_ ?_ _); rotate_left; (focus (first | omega | (simp; omega) | simp))) | (refine Below.trans ?_ (Below.mono (by assumption) (by first | omega | (simp; omega) | simp)))))
  have HA3 := hide hA3
  have GA3 := hide (grown_alloc GK2.out (.cells #[.int .i64 100, .int .i64 1000, .int .i64 5000, .int .i64 20000, .int .i64 1] 2))
  have hlb3 : b < w2.heap.size := by have := HD2.out.src.lt; simpa [World.setCell] using this
  clear hA3
  refine (srcamong B b (N + 4) (some ⟨w2.heap.size, 0, none⟩) _ [100, 1000, 5000, 20000, 1] _ HA3.out.src (by omega) ?_ ?_ (by decide) (by decide)).mono ?_
  · have hr := slat_new (enc := encI) (sz := 1) (fun _ => rfl) (w2.setCell ⟨w1.heap.size, 1, none⟩ (.int .i64 (100 + r2 * 50))) [100, 1000, 5000, 20000, 1] #[.int .i64 100, .int .i64 1000, .int .i64 5000, .int .i64 20000, .int .i64 1] 2 rfl
    simpa [World.setCell] using hr
  · intro b2 off e
    injection e with e; injection e with e _; omega
  rintro e w3 ⟨r3, rfl, -, hS, hb, hg⟩
  have hD := HA3.out.call hR hQ hS hb hg
  have c3 := hD.cell 2 _ rfl
  have f3 := hD.froz 2
  have HD3 := hide (show DrawSt 77 B b w.heap.size w1.heap.size #[.string ⟨#[]⟩, .int .i64 0, .int .i64 0] w (w3.setCell ⟨w1.heap.size, 2, none⟩ (.int .i64 r3)) (N + 6) #[.string nm, .int .i64 (100 + r2 * 50), .int .i64 r3] from hD.set hQ hRQ hB1 2 (.int .i64 r3))
  have GK3 := hide (show w.grownBy (w3.setCell ⟨w1.heap.size, 2, none⟩ (.int .i64 r3)) (some b) from grown_new (grown_trans GA3.out hg) hwQ _ _)
  clear hS hb hg hD HD2 GK2 HA3 GA3
  clear c2 f2
  have e0 := HD3.out.cell 0 _ rfl
  have t0 := HD3.out.rcell 0 _ rfl
  have y0 := HD3.out.rfroz 0
  have e1 := HD3.out.cell 1 _ rfl
  have t1 := HD3.out.rcell 1 _ rfl
  have y1 := HD3.out.rfroz 1
  have e2 := HD3.out.cell 2 _ rfl
  have t2 := HD3.out.rcell 2 _ rfl
  have y2 := HD3.out.rfroz 2
  have HSE := hide (HD3.out.src)
  have HBE := hide HD3.out.bel
  have hBR : B ≤ w.heap.size := by omega
  clear HD3
  go_wp2_with fail
  refine bodyPost_ret (v := .agg #[.string nm, .int .i64 (100 + r2 * 50), .int .i64 r3]) (by simp [results, Try.results120, go_sem, t0, t1, t2]) rfl ⟨nm, _, _, rfl, hnm, HSE.out.kept (row := some w.heap.size) ?_ ?_ (by simpa using Ne.symm hR), ?_, ?_⟩
  · iterate 3 (refine grown_set ?_ _ _)
    exact grown_refl _ _
  · iterate 3 ((with_reducible refine Below.setCell ?_ ?_ _); rotate_left; (focus exact hBR))
    exact Below.refl _ _
  · iterate 3 ((with_reducible refine Below.setCell ?_ ?_ _); rotate_left; (focus exact hBR))
    exact HBE.out
  · iterate 3 (refine grown_new ?_ (Nat.le_refl _) _ _)
    exact GK3.out

set_option maxRecDepth 100000 in
set_option maxHeartbeats 2000000 in
theorem specl22BendTower (B b N : Nat) (nm : ByteArray) (a1 a2 a3 a4 : Int) (w : World) (h : Src w B b N) (hN : N ≤ 1000) (hnm : nm.size ≤ 100) :
    Calls Try.prog 112 #[.pointer (some ⟨b, 0, none⟩), .agg #[.string nm, .int .i64 a1, .int .i64 a2, .int .i64 a3, .int .i64 a4]] w fun e w' => ∃ (nm' : ByteArray) (a1' a2' a3' a4' : Int), e = .returned (.agg #[.string nm', .int .i64 a1', .int .i64 a2', .int .i64 a3', .int .i64 a4']) ∧ nm'.size ≤ 100 ∧ Src w' B b (N + 4) ∧ Below B w w' ∧ w.grownBy w' (some b) := by
  have hl := h.lt
  have h0 := h.1
  have HD1 := hide (show DrawSt 56 B b (w.heap.size + 1) w.heap.size #[.string ⟨#[]⟩, .int .i64 0, .int .i64 0, .int .i64 0, .int .i64 0] w ((w.alloc (.cells #[.string nm, .int .i64 a1, .int .i64 a2, .int .i64 a3, .int .i64 a4] 56)).alloc (.cells #[.string ⟨#[]⟩, .int .i64 0, .int .i64 0, .int .i64 0, .int .i64 0] 56)) (N + 0) #[.string nm, .int .i64 a1, .int .i64 a2, .int .i64 a3, .int .i64 a4] from ⟨h.below (by repeat (first | with_reducible exact Below.refl _ _ | with_reducible assumption | (with_reducible refine Below.drew ?_) | (with_reducible refine below_drewN ?_ _) | ((with_reducible refine Below.alloc ?_ ?_ _); rotate_left; (focus (first | omega | (simp; omega) | simp))) | ((with_reducible refine Below.setCell ?_ ?_ _); rotate_left; (focus (first | omega | (simp; omega) | simp))) | (refine Below.trans ?_ (Below.mono (by assumption) (by first | omega | (simp; omega) | simp))))), (by repeat (first | with_reducible exact Below.refl _ _ | with_reducible assumption | (with_reducible refine Below.drew ?_) | (with_reducible refine below_drewN ?_ _) | ((with_reducible refine Below.alloc ?_ ?_ _); rotate_left; (focus (first | omega | (simp; omega) | simp))) | ((with_reducible refine Below.setCell ?_ ?_ _); rotate_left; (focus (first | omega | (simp; omega) | simp))) | (refine Below.trans ?_ (Below.mono (by assumption) (by first | omega | (simp; omega) | simp))))), by rw [show w.heap.size + 1 = (w.alloc (.cells #[.string nm, .int .i64 a1, .int .i64 a2, .int .i64 a3, .int .i64 a4] 56)).heap.size by simp]; exact heap_alloc_new _ _, (heap_alloc_old _ _ (by simp)).trans (heap_alloc_new w _)⟩)
  have GK1 := hide (show w.grownBy ((w.alloc (.cells #[.string nm, .int .i64 a1, .int .i64 a2, .int .i64 a3, .int .i64 a4] 56)).alloc (.cells #[.string ⟨#[]⟩, .int .i64 0, .int .i64 0, .int .i64 0, .int .i64 0] 56)) (some b) from grown_alloc (grown_alloc (grown_refl w _) _) _)
  have hQ : w.heap.size ≠ b := by omega
  have hR : w.heap.size + 1 ≠ b := by omega
  have hRQ : w.heap.size + 1 ≠ w.heap.size := by omega
  have hBQ : B ≤ w.heap.size := by omega
  have hBR : B ≤ w.heap.size + 1 := by omega
  clear h
  go_enter Try.func112, Try.ntmps112
  go_wp2_with fail
  refine (srcPick B b N _ _ HD1.out.src (by omega) (by omega)).mono ?_
  rintro e w2 ⟨r, rfl, p2, -, hS, hb, hg⟩
  have HD2 := hide (HD1.out.call hR hQ hS hb hg)
  have GK2 := hide (grown_trans GK1.out hg)
  clear hS hb hg HD1 GK1
  by_cases hv0 : r = 0
  · subst hv0
    go_wp2_with fail
    have HA := hide (HD2.out.below (w' := w2.alloc (.cells #[.int .i64 99, .int .i64 10001] 2)) (by repeat (first | with_reducible exact Below.refl _ _ | with_reducible assumption | (with_reducible refine Below.drew ?_) | (with_reducible refine below_drewN ?_ _) | ((with_reducible refine Below.alloc ?_ ?_ _); rotate_left; (focus (first | omega | (simp; omega) | simp))) | ((with_reducible refine Below.setCell ?_ ?_ _); rotate_left; (focus (first | omega | (simp; omega) | simp))) | (refine Below.trans ?_ (Below.mono (by assumption) (by first | omega | (simp; omega) | simp))))))
    have GA := hide (grown_alloc GK2.out (.cells #[.int .i64 99, .int .i64 10001] 2))
    have hlb : b < w2.heap.size := HD2.out.src.lt
    refine (srcamong B b (N + 2) (some ⟨w2.heap.size, 0, none⟩) _ [99, 10001] _ HA.out.src (by omega) ?_ ?_ (by decide) (by decide)).mono ?_
    · exact slat_new (enc := encI) (sz := 1) (fun _ => rfl) w2 [99, 10001] #[.int .i64 99, .int .i64 10001] 2 rfl
    · intro b2 off e
      injection e with e; injection e with e _; omega
    rintro e w3 ⟨x, rfl, -, hS, hb, hg⟩
    have hD := HA.out.call hR hQ hS hb hg
    have cc := hD.cell 1 _ rfl
    have ff := hD.froz 1
    have HD3 := hide (show DrawSt 56 B b (w.heap.size + 1) w.heap.size #[.string ⟨#[]⟩, .int .i64 0, .int .i64 0, .int .i64 0, .int .i64 0] w (w3.setCell ⟨w.heap.size, 1, none⟩ (.int .i64 x)) (N + 4) #[.string nm, .int .i64 x, .int .i64 a2, .int .i64 a3, .int .i64 a4] from hD.set hQ hRQ hBQ 1 (.int .i64 x))
    have GK3 := hide (show w.grownBy (w3.setCell ⟨w.heap.size, 1, none⟩ (.int .i64 x)) (some b) from grown_new (grown_trans GA.out hg) (Nat.le_refl _) _ _)
    clear hS hb hg hD HD2 GK2 HA GA
    have e0 := HD3.out.cell 0 _ rfl
    have t0 := HD3.out.rcell 0 _ rfl
    have y0 := HD3.out.rfroz 0
    have e1 := HD3.out.cell 1 _ rfl
    have t1 := HD3.out.rcell 1 _ rfl
    have y1 := HD3.out.rfroz 1
    have e2 := HD3.out.cell 2 _ rfl
    have t2 := HD3.out.rcell 2 _ rfl
    have y2 := HD3.out.rfroz 2
    have e3 := HD3.out.cell 3 _ rfl
    have t3 := HD3.out.rcell 3 _ rfl
    have y3 := HD3.out.rfroz 3
    have e4 := HD3.out.cell 4 _ rfl
    have t4 := HD3.out.rcell 4 _ rfl
    have y4 := HD3.out.rfroz 4
    have HSE := hide (HD3.out.src.more (N' := N + 4) (by omega))
    have HBE := hide HD3.out.bel
    clear HD3
    go_wp2_with fail
    refine bodyPost_ret (v := .agg #[.string nm, .int .i64 x, .int .i64 a2, .int .i64 a3, .int .i64 a4]) (by simp [results, Try.results112, go_sem, t0, t1, t2, t3, t4]) rfl ⟨nm, _, _, _, _, rfl, hnm, HSE.out.kept (row := some (w.heap.size + 1)) ?_ ?_ (by simpa using Ne.symm hR), ?_, ?_⟩
    · iterate 5 (refine grown_set ?_ _ _)
      exact grown_refl _ _
    · iterate 5 ((with_reducible refine Below.setCell ?_ ?_ _); rotate_left; (focus exact hBR))
      exact Below.refl _ _
    · iterate 5 ((with_reducible refine Below.setCell ?_ ?_ _); rotate_left; (focus exact hBR))
      exact HBE.out
    · iterate 5 (refine grown_new ?_ (Nat.le_succ _) _ _)
      exact GK3.out
  · have u0 : (r == 0) = false := by simpa using hv0
    by_cases hv1 : r = 1
    · subst hv1
      go_wp2_with fail
      have HA := hide (HD2.out.below (w' := w2.alloc (.cells #[.int .i64 4, .int .i64 501] 2)) (by repeat (first | with_reducible exact Below.refl _ _ | with_reducible assumption | (with_reducible refine Below.drew ?_) | (with_reducible refine below_drewN ?_ _) | ((with_reducible refine Below.alloc ?_ ?_ _); rotate_left; (focus (first | omega | (simp; omega) | simp))) | ((with_reducible refine Below.setCell ?_ ?_ _); rotate_left; (focus (first | omega | (simp; omega) | simp))) | (refine Below.trans ?_ (Below.mono (by assumption) (by first | omega | (simp; omega) | simp))))))
      have GA := hide (grown_alloc GK2.out (.cells #[.int .i64 4, .int .i64 501] 2))
      have hlb : b < w2.heap.size := HD2.out.src.lt
      refine (srcamong B b (N + 2) (some ⟨w2.heap.size, 0, none⟩) _ [4, 501] _ HA.out.src (by omega) ?_ ?_ (by decide) (by decide)).mono ?_
      · exact slat_new (enc := encI) (sz := 1) (fun _ => rfl) w2 [4, 501] #[.int .i64 4, .int .i64 501] 2 rfl
      · intro b2 off e
        injection e with e; injection e with e _; omega
      rintro e w3 ⟨x, rfl, -, hS, hb, hg⟩
      have hD := HA.out.call hR hQ hS hb hg
      have cc := hD.cell 2 _ rfl
      have ff := hD.froz 2
      have HD3 := hide (show DrawSt 56 B b (w.heap.size + 1) w.heap.size #[.string ⟨#[]⟩, .int .i64 0, .int .i64 0, .int .i64 0, .int .i64 0] w (w3.setCell ⟨w.heap.size, 2, none⟩ (.int .i64 x)) (N + 4) #[.string nm, .int .i64 a1, .int .i64 x, .int .i64 a3, .int .i64 a4] from hD.set hQ hRQ hBQ 2 (.int .i64 x))
      have GK3 := hide (show w.grownBy (w3.setCell ⟨w.heap.size, 2, none⟩ (.int .i64 x)) (some b) from grown_new (grown_trans GA.out hg) (Nat.le_refl _) _ _)
      clear hS hb hg hD HD2 GK2 HA GA
      have e0 := HD3.out.cell 0 _ rfl
      have t0 := HD3.out.rcell 0 _ rfl
      have y0 := HD3.out.rfroz 0
      have e1 := HD3.out.cell 1 _ rfl
      have t1 := HD3.out.rcell 1 _ rfl
      have y1 := HD3.out.rfroz 1
      have e2 := HD3.out.cell 2 _ rfl
      have t2 := HD3.out.rcell 2 _ rfl
      have y2 := HD3.out.rfroz 2
      have e3 := HD3.out.cell 3 _ rfl
      have t3 := HD3.out.rcell 3 _ rfl
      have y3 := HD3.out.rfroz 3
      have e4 := HD3.out.cell 4 _ rfl
      have t4 := HD3.out.rcell 4 _ rfl
      have y4 := HD3.out.rfroz 4
      have HSE := hide (HD3.out.src.more (N' := N + 4) (by omega))
      have HBE := hide HD3.out.bel
      clear HD3
      go_wp2_with fail
      refine bodyPost_ret (v := .agg #[.string nm, .int .i64 a1, .int .i64 x, .int .i64 a3, .int .i64 a4]) (by simp [results, Try.results112, go_sem, t0, t1, t2, t3, t4]) rfl ⟨nm, _, _, _, _, rfl, hnm, HSE.out.kept (row := some (w.heap.size + 1)) ?_ ?_ (by simpa using Ne.symm hR), ?_, ?_⟩
      · iterate 5 (refine grown_set ?_ _ _)
        exact grown_refl _ _
      · iterate 5 ((with_reducible refine Below.setCell ?_ ?_ _); rotate_left; (focus exact hBR))
        exact Below.refl _ _
      · iterate 5 ((with_reducible refine Below.setCell ?_ ?_ _); rotate_left; (focus exact hBR))
        exact HBE.out
      · iterate 5 (refine grown_new ?_ (Nat.le_succ _) _ _)
        exact GK3.out
    · have u1 : (r == 1) = false := by simpa using hv1
      by_cases hv2 : r = 2
      · subst hv2
        go_wp2_with fail
        have HA := hide (HD2.out.below (w' := w2.alloc (.cells #[.int .i64 (-1), .int .i64 100001] 2)) (by repeat (first | with_reducible exact Below.refl _ _ | with_reducible assumption | (with_reducible refine Below.drew ?_) | (with_reducible refine below_drewN ?_ _) | ((with_reducible refine Below.alloc ?_ ?_ _); rotate_left; (focus (first | omega | (simp; omega) | simp))) | ((with_reducible refine Below.setCell ?_ ?_ _); rotate_left; (focus (first | omega | (simp; omega) | simp))) | (refine Below.trans ?_ (Below.mono (by assumption) (by first | omega | (simp; omega) | simp))))))
        have GA := hide (grown_alloc GK2.out (.cells #[.int .i64 (-1), .int .i64 100001] 2))
        have hlb : b < w2.heap.size := HD2.out.src.lt
        refine (srcamong B b (N + 2) (some ⟨w2.heap.size, 0, none⟩) _ [-1, 100001] _ HA.out.src (by omega) ?_ ?_ (by decide) (by decide)).mono ?_
        · exact slat_new (enc := encI) (sz := 1) (fun _ => rfl) w2 [-1, 100001] #[.int .i64 (-1), .int .i64 100001] 2 rfl
        · intro b2 off e
          injection e with e; injection e with e _; omega
        rintro e w3 ⟨x, rfl, -, hS, hb, hg⟩
        have hD := HA.out.call hR hQ hS hb hg
        have cc := hD.cell 4 _ rfl
        have ff := hD.froz 4
        have HD3 := hide (show DrawSt 56 B b (w.heap.size + 1) w.heap.size #[.string ⟨#[]⟩, .int .i64 0, .int .i64 0, .int .i64 0, .int .i64 0] w (w3.setCell ⟨w.heap.size, 4, none⟩ (.int .i64 x)) (N + 4) #[.string nm, .int .i64 a1, .int .i64 a2, .int .i64 a3, .int .i64 x] from hD.set hQ hRQ hBQ 4 (.int .i64 x))
        have GK3 := hide (show w.grownBy (w3.setCell ⟨w.heap.size, 4, none⟩ (.int .i64 x)) (some b) from grown_new (grown_trans GA.out hg) (Nat.le_refl _) _ _)
        clear hS hb hg hD HD2 GK2 HA GA
        have e0 := HD3.out.cell 0 _ rfl
        have t0 := HD3.out.rcell 0 _ rfl
        have y0 := HD3.out.rfroz 0
        have e1 := HD3.out.cell 1 _ rfl
        have t1 := HD3.out.rcell 1 _ rfl
        have y1 := HD3.out.rfroz 1
        have e2 := HD3.out.cell 2 _ rfl
        have t2 := HD3.out.rcell 2 _ rfl
        have y2 := HD3.out.rfroz 2
        have e3 := HD3.out.cell 3 _ rfl
        have t3 := HD3.out.rcell 3 _ rfl
        have y3 := HD3.out.rfroz 3
        have e4 := HD3.out.cell 4 _ rfl
        have t4 := HD3.out.rcell 4 _ rfl
        have y4 := HD3.out.rfroz 4
        have HSE := hide (HD3.out.src.more (N' := N + 4) (by omega))
        have HBE := hide HD3.out.bel
        clear HD3
        go_wp2_with fail
        refine bodyPost_ret (v := .agg #[.string nm, .int .i64 a1, .int .i64 a2, .int .i64 a3, .int .i64 x]) (by simp [results, Try.results112, go_sem, t0, t1, t2, t3, t4]) rfl ⟨nm, _, _, _, _, rfl, hnm, HSE.out.kept (row := some (w.heap.size + 1)) ?_ ?_ (by simpa using Ne.symm hR), ?_, ?_⟩
        · iterate 5 (refine grown_set ?_ _ _)
          exact grown_refl _ _
        · iterate 5 ((with_reducible refine Below.setCell ?_ ?_ _); rotate_left; (focus exact hBR))
          exact Below.refl _ _
        · iterate 5 ((with_reducible refine Below.setCell ?_ ?_ _); rotate_left; (focus exact hBR))
          exact HBE.out
        · iterate 5 (refine grown_new ?_ (Nat.le_succ _) _ _)
          exact GK3.out
      · have u2 : (r == 2) = false := by simpa using hv2
        by_cases hv3 : r = 3
        · subst hv3
          go_wp2_with fail
          have HA := hide (HD2.out.below (w' := w2.alloc (.cells #[.int .i64 0, .int .i64 1000001] 2)) (by repeat (first | with_reducible exact Below.refl _ _ | with_reducible assumption | (with_reducible refine Below.drew ?_) | (with_reducible refine below_drewN ?_ _) | ((with_reducible refine Below.alloc ?_ ?_ _); rotate_left; (focus (first | omega | (simp; omega) | simp))) | ((with_reducible refine Below.setCell ?_ ?_ _); rotate_left; (focus (first | omega | (simp; omega) | simp))) | (refine Below.trans ?_ (Below.mono (by assumption) (by first | omega | (simp; omega) | simp))))))
          have GA := hide (grown_alloc GK2.out (.cells #[.int .i64 0, .int .i64 1000001] 2))
          have hlb : b < w2.heap.size := HD2.out.src.lt
          refine (srcamong B b (N + 2) (some ⟨w2.heap.size, 0, none⟩) _ [0, 1000001] _ HA.out.src (by omega) ?_ ?_ (by decide) (by decide)).mono ?_
          · exact slat_new (enc := encI) (sz := 1) (fun _ => rfl) w2 [0, 1000001] #[.int .i64 0, .int .i64 1000001] 2 rfl
          · intro b2 off e
            injection e with e; injection e with e _; omega
          rintro e w3 ⟨x, rfl, -, hS, hb, hg⟩
          have hD := HA.out.call hR hQ hS hb hg
          have cc := hD.cell 3 _ rfl
          have ff := hD.froz 3
          have HD3 := hide (show DrawSt 56 B b (w.heap.size + 1) w.heap.size #[.string ⟨#[]⟩, .int .i64 0, .int .i64 0, .int .i64 0, .int .i64 0] w (w3.setCell ⟨w.heap.size, 3, none⟩ (.int .i64 x)) (N + 4) #[.string nm, .int .i64 a1, .int .i64 a2, .int .i64 x, .int .i64 a4] from hD.set hQ hRQ hBQ 3 (.int .i64 x))
          have GK3 := hide (show w.grownBy (w3.setCell ⟨w.heap.size, 3, none⟩ (.int .i64 x)) (some b) from grown_new (grown_trans GA.out hg) (Nat.le_refl _) _ _)
          clear hS hb hg hD HD2 GK2 HA GA
          have e0 := HD3.out.cell 0 _ rfl
          have t0 := HD3.out.rcell 0 _ rfl
          have y0 := HD3.out.rfroz 0
          have e1 := HD3.out.cell 1 _ rfl
          have t1 := HD3.out.rcell 1 _ rfl
          have y1 := HD3.out.rfroz 1
          have e2 := HD3.out.cell 2 _ rfl
          have t2 := HD3.out.rcell 2 _ rfl
          have y2 := HD3.out.rfroz 2
          have e3 := HD3.out.cell 3 _ rfl
          have t3 := HD3.out.rcell 3 _ rfl
          have y3 := HD3.out.rfroz 3
          have e4 := HD3.out.cell 4 _ rfl
          have t4 := HD3.out.rcell 4 _ rfl
          have y4 := HD3.out.rfroz 4
          have HSE := hide (HD3.out.src.more (N' := N + 4) (by omega))
          have HBE := hide HD3.out.bel
          clear HD3
          go_wp2_with fail
          refine bodyPost_ret (v := .agg #[.string nm, .int .i64 a1, .int .i64 a2, .int .i64 x, .int .i64 a4]) (by simp [results, Try.results112, go_sem, t0, t1, t2, t3, t4]) rfl ⟨nm, _, _, _, _, rfl, hnm, HSE.out.kept (row := some (w.heap.size + 1)) ?_ ?_ (by simpa using Ne.symm hR), ?_, ?_⟩
          · iterate 5 (refine grown_set ?_ _ _)
            exact grown_refl _ _
          · iterate 5 ((with_reducible refine Below.setCell ?_ ?_ _); rotate_left; (focus exact hBR))
            exact Below.refl _ _
          · iterate 5 ((with_reducible refine Below.setCell ?_ ?_ _); rotate_left; (focus exact hBR))
            exact HBE.out
          · iterate 5 (refine grown_new ?_ (Nat.le_succ _) _ _)
            exact GK3.out
        · have u3 : (r == 3) = false := by simpa using hv3
          have e0 := HD2.out.cell 0 _ rfl
          have t0 := HD2.out.rcell 0 _ rfl
          have y0 := HD2.out.rfroz 0
          have e1 := HD2.out.cell 1 _ rfl
          have t1 := HD2.out.rcell 1 _ rfl
          have y1 := HD2.out.rfroz 1
          have e2 := HD2.out.cell 2 _ rfl
          have t2 := HD2.out.rcell 2 _ rfl
          have y2 := HD2.out.rfroz 2
          have e3 := HD2.out.cell 3 _ rfl
          have t3 := HD2.out.rcell 3 _ rfl
          have y3 := HD2.out.rfroz 3
          have e4 := HD2.out.cell 4 _ rfl
          have t4 := HD2.out.rcell 4 _ rfl
          have y4 := HD2.out.rfroz 4
          have HSE := hide (HD2.out.src.more (N' := N + 4) (by omega))
          have HBE := hide HD2.out.bel
          clear HD2
          go_wp2_with fail
          refine bodyPost_ret (v := .agg #[.string nm, .int .i64 a1, .int .i64 a2, .int .i64 a3, .int .i64 a4]) (by simp [results, Try.results112, go_sem, t0, t1, t2, t3, t4]) rfl ⟨nm, _, _, _, _, rfl, hnm, HSE.out.kept (row := some (w.heap.size + 1)) ?_ ?_ (by simpa using Ne.symm hR), ?_, ?_⟩
          · iterate 5 (refine grown_set ?_ _ _)
            exact grown_refl _ _
          · iterate 5 ((with_reducible refine Below.setCell ?_ ?_ _); rotate_left; (focus exact hBR))
            exact Below.refl _ _
          · iterate 5 ((with_reducible refine Below.setCell ?_ ?_ _); rotate_left; (focus exact hBR))
            exact HBE.out
          · iterate 5 (refine grown_new ?_ (Nat.le_succ _) _ _)
            exact GK2.out

set_option maxRecDepth 100000 in
set_option maxHeartbeats 2000000 in
theorem specl22Bend (B b N : Nat) (nm : ByteArray) (a1 a2 : Int) (w : World) (h : Src w B b N) (hN : N ≤ 1000) (hnm : nm.size ≤ 100) :
    Calls Try.prog 119 #[.pointer (some ⟨b, 0, none⟩), .agg #[.string nm, .int .i64 a1, .int .i64 a2]] w fun e w' => ∃ (nm' : ByteArray) (a1' a2' : Int), e = .returned (.agg #[.string nm', .int .i64 a1', .int .i64 a2']) ∧ nm'.size ≤ 100 ∧ Src w' B b (N + 4) ∧ Below B w w' ∧ w.grownBy w' (some b) := by
  have hl := h.lt
  have h0 := h.1
  have HD1 := hide (show DrawSt 77 B b (w.heap.size + 1) w.heap.size #[.string ⟨#[]⟩, .int .i64 0, .int .i64 0] w ((w.alloc (.cells #[.string nm, .int .i64 a1, .int .i64 a2] 77)).alloc (.cells #[.string ⟨#[]⟩, .int .i64 0, .int .i64 0] 77)) (N + 0) #[.string nm, .int .i64 a1, .int .i64 a2] from ⟨h.below (by repeat (first | with_reducible exact Below.refl _ _ | with_reducible assumption | (with_reducible refine Below.drew ?_) | (with_reducible refine below_drewN ?_ _) | ((with_reducible refine Below.alloc ?_ ?_ _); rotate_left; (focus (first | omega | (simp; omega) | simp))) | ((with_reducible refine Below.setCell ?_ ?_ _); rotate_left; (focus (first | omega | (simp; omega) | simp))) | (refine Below.trans ?_ (Below.mono (by assumption) (by first | omega | (simp; omega) | simp))))), (by repeat (first | with_reducible exact Below.refl _ _ | with_reducible assumption | (with_reducible refine Below.drew ?_) | (with_reducible refine below_drewN ?_ _) | ((with_reducible refine Below.alloc ?_ ?_ _); rotate_left; (focus (first | omega | (simp; omega) | simp))) | ((with_reducible refine Below.setCell ?_ ?_ _); rotate_left; (focus (first | omega | (simp; omega) | simp))) | (refine Below.trans ?_ (Below.mono (by assumption) (by first | omega | (simp; omega) | simp))))), by rw [show w.heap.size + 1 = (w.alloc (.cells #[.string nm, .int .i64 a1, .int .i64 a2] 77)).heap.size by simp]; exact heap_alloc_new _ _, (heap_alloc_old _ _ (by simp)).trans (heap_alloc_new w _)⟩)
  have GK1 := hide (show w.grownBy ((w.alloc (.cells #[.string nm, .int .i64 a1, .int .i64 a2] 77)).alloc (.cells #[.string ⟨#[]⟩, .int .i64 0, .int .i64 0] 77)) (some b) from grown_alloc (grown_alloc (grown_refl w _) _) _)
  have hQ : w.heap.size ≠ b := by omega
  have hR : w.heap.size + 1 ≠ b := by omega
  have hRQ : w.heap.size + 1 ≠ w.heap.size := by omega
  have hBQ : B ≤ w.heap.size := by omega
  have hBR : B ≤ w.heap.size + 1 := by omega
  clear h
  go_enter Try.func119, Try.ntmps119
  go_wp2_with fail
  refine (srcPick B b N _ _ HD1.out.src (by omega) (by omega)).mono ?_
  rintro e w2 ⟨r, rfl, p2, -, hS, hb, hg⟩
  have HD2 := hide (HD1.out.call hR hQ hS hb hg)
  have GK2 := hide (grown_trans GK1.out hg)
  clear hS hb hg HD1 GK1
  by_cases hv0 : r = 0
  · subst hv0
    go_wp2_with fail
    have HA := hide (HD2.out.below (w' := w2.alloc (.cells #[.string ⟨#[]⟩, .string ⟨#[67]⟩] 9)) (by repeat (first | with_reducible exact Below.refl _ _ | with_reducible assumption | (with_reducible refine Below.drew ?_) | (with_reducible refine below_drewN ?_ _) | ((with_reducible refine Below.alloc ?_ ?_ _); rotate_left; (focus (first | omega | (simp; omega) | simp))) | ((with_reducible refine Below.setCell ?_ ?_ _); rotate_left; (focus (first | omega | (simp; omega) | simp))) | (refine Below.trans ?_ (Below.mono (by assumption) (by first | omega | (simp; omega) | simp))))))
    have GA := hide (grown_alloc GK2.out (.cells #[.string ⟨#[]⟩, .string ⟨#[67]⟩] 9))
    have hlb : b < w2.heap.size := HD2.out.src.lt
    refine (srctext B b (N + 2) (some ⟨w2.heap.size, 0, none⟩) _ [⟨#[]⟩, ⟨#[67]⟩] _ HA.out.src (by omega) ?_ ?_ (by decide) (by decide)).mono ?_
    · exact slat_new (enc := encS) (sz := 1) (fun _ => rfl) w2 [⟨#[]⟩, ⟨#[67]⟩] #[.string ⟨#[]⟩, .string ⟨#[67]⟩] 9 rfl
    · intro b2 off e
      injection e with e; injection e with e _; omega
    rintro e w3 ⟨x, rfl, hm, hS, hb, hg⟩
    have hx : x.size ≤ 100 := by
      simp only [List.mem_cons, List.not_mem_nil, or_false] at hm
      rcases hm with rfl | rfl <;> decide
    clear hm
    have hD := HA.out.call hR hQ hS hb hg
    have cc := hD.cell 0 _ rfl
    have ff := hD.froz 0
    have HD3 := hide (show DrawSt 77 B b (w.heap.size + 1) w.heap.size #[.string ⟨#[]⟩, .int .i64 0, .int .i64 0] w (w3.setCell ⟨w.heap.size, 0, none⟩ (.string x)) (N + 4) #[.string x, .int .i64 a1, .int .i64 a2] from hD.set hQ hRQ hBQ 0 (.string x))
    have GK3 := hide (show w.grownBy (w3.setCell ⟨w.heap.size, 0, none⟩ (.string x)) (some b) from grown_new (grown_trans GA.out hg) (Nat.le_refl _) _ _)
    clear hS hb hg hD HD2 GK2 HA GA
    have e0 := HD3.out.cell 0 _ rfl
    have t0 := HD3.out.rcell 0 _ rfl
    have y0 := HD3.out.rfroz 0
    have e1 := HD3.out.cell 1 _ rfl
    have t1 := HD3.out.rcell 1 _ rfl
    have y1 := HD3.out.rfroz 1
    have e2 := HD3.out.cell 2 _ rfl
    have t2 := HD3.out.rcell 2 _ rfl
    have y2 := HD3.out.rfroz 2
    have HSE := hide (HD3.out.src.more (N' := N + 4) (by omega))
    have HBE := hide HD3.out.bel
    clear HD3
    go_wp2_with fail
    refine bodyPost_ret (v := .agg #[.string x, .int .i64 a1, .int .i64 a2]) (by simp [results, Try.results119, go_sem, t0, t1, t2]) rfl ⟨x, _, _, rfl, hx, HSE.out.kept (row := some (w.heap.size + 1)) ?_ ?_ (by simpa using Ne.symm hR), ?_, ?_⟩
    · iterate 3 (refine grown_set ?_ _ _)
      exact grown_refl _ _
    · iterate 3 ((with_reducible refine Below.setCell ?_ ?_ _); rotate_left; (focus exact hBR))
      exact Below.refl _ _
    · iterate 3 ((with_reducible refine Below.setCell ?_ ?_ _); rotate_left; (focus exact hBR))
      exact HBE.out
    · iterate 3 (refine grown_new ?_ (Nat.le_succ _) _ _)
      exact GK3.out
  · have u0 : (r == 0) = false := by simpa using hv0
    by_cases hv1 : r = 1
    · subst hv1
      go_wp2_with fail
      have HA := hide (HD2.out.below (w' := w2.alloc (.cells #[.int .i64 99, .int .i64 5000, .int .i64 5001] 2)) (by repeat (first | with_reducible exact Below.refl _ _ | with_reducible assumption | (with_reducible refine Below.drew ?_) | (with_reducible refine below_drewN ?_ _) | ((with_reducible refine Below.alloc ?_ ?_ _); rotate_left; (focus (first | omega | (simp; omega) | simp))) | ((with_reducible refine Below.setCell ?_ ?_ _); rotate_left; (focus (first | omega | (simp; omega) | simp))) | (refine Below.trans ?_ (Below.mono (by assumption) (by first | omega | (simp; omega) | simp))))))
      have GA := hide (grown_alloc GK2.out (.cells #[.int .i64 99, .int .i64 5000, .int .i64 5001] 2))
      have hlb : b < w2.heap.size := HD2.out.src.lt
      refine (srcamong B b (N + 2) (some ⟨w2.heap.size, 0, none⟩) _ [99, 5000, 5001] _ HA.out.src (by omega) ?_ ?_ (by decide) (by decide)).mono ?_
      · exact slat_new (enc := encI) (sz := 1) (fun _ => rfl) w2 [99, 5000, 5001] #[.int .i64 99, .int .i64 5000, .int .i64 5001] 2 rfl
      · intro b2 off e
        injection e with e; injection e with e _; omega
      rintro e w3 ⟨x, rfl, -, hS, hb, hg⟩
      have hD := HA.out.call hR hQ hS hb hg
      have cc := hD.cell 1 _ rfl
      have ff := hD.froz 1
      have HD3 := hide (show DrawSt 77 B b (w.heap.size + 1) w.heap.size #[.string ⟨#[]⟩, .int .i64 0, .int .i64 0] w (w3.setCell ⟨w.heap.size, 1, none⟩ (.int .i64 x)) (N + 4) #[.string nm, .int .i64 x, .int .i64 a2] from hD.set hQ hRQ hBQ 1 (.int .i64 x))
      have GK3 := hide (show w.grownBy (w3.setCell ⟨w.heap.size, 1, none⟩ (.int .i64 x)) (some b) from grown_new (grown_trans GA.out hg) (Nat.le_refl _) _ _)
      clear hS hb hg hD HD2 GK2 HA GA
      have e0 := HD3.out.cell 0 _ rfl
      have t0 := HD3.out.rcell 0 _ rfl
      have y0 := HD3.out.rfroz 0
      have e1 := HD3.out.cell 1 _ rfl
      have t1 := HD3.out.rcell 1 _ rfl
      have y1 := HD3.out.rfroz 1
      have e2 := HD3.out.cell 2 _ rfl
      have t2 := HD3.out.rcell 2 _ rfl
      have y2 := HD3.out.rfroz 2
      have HSE := hide (HD3.out.src.more (N' := N + 4) (by omega))
      have HBE := hide HD3.out.bel
      clear HD3
      go_wp2_with fail
      refine bodyPost_ret (v := .agg #[.string nm, .int .i64 x, .int .i64 a2]) (by simp [results, Try.results119, go_sem, t0, t1, t2]) rfl ⟨nm, _, _, rfl, hnm, HSE.out.kept (row := some (w.heap.size + 1)) ?_ ?_ (by simpa using Ne.symm hR), ?_, ?_⟩
      · iterate 3 (refine grown_set ?_ _ _)
        exact grown_refl _ _
      · iterate 3 ((with_reducible refine Below.setCell ?_ ?_ _); rotate_left; (focus exact hBR))
        exact Below.refl _ _
      · iterate 3 ((with_reducible refine Below.setCell ?_ ?_ _); rotate_left; (focus exact hBR))
        exact HBE.out
      · iterate 3 (refine grown_new ?_ (Nat.le_succ _) _ _)
        exact GK3.out
    · have u1 : (r == 1) = false := by simpa using hv1
      by_cases hv2 : r = 2
      · subst hv2
        go_wp2_with fail
        have HA := hide (HD2.out.below (w' := w2.alloc (.cells #[.int .i64 0, .int .i64 1000000, .int .i64 1000001] 2)) (by repeat (first | with_reducible exact Below.refl _ _ | with_reducible assumption | (with_reducible refine Below.drew ?_) | (with_reducible refine below_drewN ?_ _) | ((with_reducible refine Below.alloc ?_ ?_ _); rotate_left; (focus (first | omega | (simp; omega) | simp))) | ((with_reducible refine Below.setCell ?_ ?_ _); rotate_left; (focus (first | omega | (simp; omega) | simp))) | (refine Below.trans ?_ (Below.mono (by assumption) (by first | omega | (simp; omega) | simp))))))
        have GA := hide (grown_alloc GK2.out (.cells #[.int .i64 0, .int .i64 1000000, .int .i64 1000001] 2))
        have hlb : b < w2.heap.size := HD2.out.src.lt
        refine (srcamong B b (N + 2) (some ⟨w2.heap.size, 0, none⟩) _ [0, 1000000, 1000001] _ HA.out.src (by omega) ?_ ?_ (by decide) (by decide)).mono ?_
        · exact slat_new (enc := encI) (sz := 1) (fun _ => rfl) w2 [0, 1000000, 1000001] #[.int .i64 0, .int .i64 1000000, .int .i64 1000001] 2 rfl
        · intro b2 off e
          injection e with e; injection e with e _; omega
        rintro e w3 ⟨x, rfl, -, hS, hb, hg⟩
        have hD := HA.out.call hR hQ hS hb hg
        have cc := hD.cell 2 _ rfl
        have ff := hD.froz 2
        have HD3 := hide (show DrawSt 77 B b (w.heap.size + 1) w.heap.size #[.string ⟨#[]⟩, .int .i64 0, .int .i64 0] w (w3.setCell ⟨w.heap.size, 2, none⟩ (.int .i64 x)) (N + 4) #[.string nm, .int .i64 a1, .int .i64 x] from hD.set hQ hRQ hBQ 2 (.int .i64 x))
        have GK3 := hide (show w.grownBy (w3.setCell ⟨w.heap.size, 2, none⟩ (.int .i64 x)) (some b) from grown_new (grown_trans GA.out hg) (Nat.le_refl _) _ _)
        clear hS hb hg hD HD2 GK2 HA GA
        have e0 := HD3.out.cell 0 _ rfl
        have t0 := HD3.out.rcell 0 _ rfl
        have y0 := HD3.out.rfroz 0
        have e1 := HD3.out.cell 1 _ rfl
        have t1 := HD3.out.rcell 1 _ rfl
        have y1 := HD3.out.rfroz 1
        have e2 := HD3.out.cell 2 _ rfl
        have t2 := HD3.out.rcell 2 _ rfl
        have y2 := HD3.out.rfroz 2
        have HSE := hide (HD3.out.src.more (N' := N + 4) (by omega))
        have HBE := hide HD3.out.bel
        clear HD3
        go_wp2_with fail
        refine bodyPost_ret (v := .agg #[.string nm, .int .i64 a1, .int .i64 x]) (by simp [results, Try.results119, go_sem, t0, t1, t2]) rfl ⟨nm, _, _, rfl, hnm, HSE.out.kept (row := some (w.heap.size + 1)) ?_ ?_ (by simpa using Ne.symm hR), ?_, ?_⟩
        · iterate 3 (refine grown_set ?_ _ _)
          exact grown_refl _ _
        · iterate 3 ((with_reducible refine Below.setCell ?_ ?_ _); rotate_left; (focus exact hBR))
          exact Below.refl _ _
        · iterate 3 ((with_reducible refine Below.setCell ?_ ?_ _); rotate_left; (focus exact hBR))
          exact HBE.out
        · iterate 3 (refine grown_new ?_ (Nat.le_succ _) _ _)
          exact GK3.out
      · have u2 : (r == 2) = false := by simpa using hv2
        have e0 := HD2.out.cell 0 _ rfl
        have t0 := HD2.out.rcell 0 _ rfl
        have y0 := HD2.out.rfroz 0
        have e1 := HD2.out.cell 1 _ rfl
        have t1 := HD2.out.rcell 1 _ rfl
        have y1 := HD2.out.rfroz 1
        have e2 := HD2.out.cell 2 _ rfl
        have t2 := HD2.out.rcell 2 _ rfl
        have y2 := HD2.out.rfroz 2
        have HSE := hide (HD2.out.src.more (N' := N + 4) (by omega))
        have HBE := hide HD2.out.bel
        clear HD2
        go_wp2_with fail
        refine bodyPost_ret (v := .agg #[.string nm, .int .i64 a1, .int .i64 a2]) (by simp [results, Try.results119, go_sem, t0, t1, t2]) rfl ⟨nm, _, _, rfl, hnm, HSE.out.kept (row := some (w.heap.size + 1)) ?_ ?_ (by simpa using Ne.symm hR), ?_, ?_⟩
        · iterate 3 (refine grown_set ?_ _ _)
          exact grown_refl _ _
        · iterate 3 ((with_reducible refine Below.setCell ?_ ?_ _); rotate_left; (focus exact hBR))
          exact Below.refl _ _
        · iterate 3 ((with_reducible refine Below.setCell ?_ ?_ _); rotate_left; (focus exact hBR))
          exact HBE.out
        · iterate 3 (refine grown_new ?_ (Nat.le_succ _) _ _)
          exact GK2.out

end Go.Proofs.Ytjklhacffdhgaaa
