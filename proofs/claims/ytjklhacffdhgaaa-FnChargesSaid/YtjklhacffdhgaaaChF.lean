/- What the law of charges calls: drawn ingots, a drawn demand, whether a choice fits. -/
import Derived.Test.YtjklhacffdhgaaaChM
import Derived.Test.YtjklhacffdhgaaaChE
import Derived.Test.YtjklhacffdhgaaaDrawSw
namespace Go.Proofs.Ytjklhacffdhgaaa
open Go.RowKit

theorem specR8Ingots (A : Option Addr) (n c : Nat) (w : World) (h : ByAt w w.heap.size A n) (hn : n ≤ 9223372036854775807) :
    Calls Try.prog 29 #[.slice A n c] w fun e w' => ∃ (A' : Option Addr) (c' : Nat) (xs : List IngotR), e = .returned (.slice A' xs.length c') ∧ xs.length ≤ 7 ∧ rowsB vIngotR IngotR.nm 16 xs = true ∧ (∀ x ∈ xs, x.nm.size ≤ 100) ∧ (∀ x ∈ xs, 1 ≤ x.mass) ∧ SlAt encIngot 5 w' A' xs ∧ Below w.heap.size w w' := by
  have HX := hide h
  clear h
  go_enter Try.func29, Try.ntmps29
  go_wp2_with fail
  refine (specl00From_at w.heap.size A n c _ HX.out hn (Nat.le_refl _)).mono ?_
  rintro e w1 ⟨rfl, hS1, hb1⟩
  have HS1 := hide hS1
  have HB1 := hide hb1
  clear hS1 hb1
  go_wp2_with fail
  refine (specl13Draw w.heap.size w.heap.size 0 _ HS1.out (by omega)).mono ?_
  rintro e w2 ⟨A', c', xs, rfl, hl, hD, hA, hg, hS2, hb2, hg2⟩
  have HA := hide hA
  have HB2 := hide (HB1.out.trans hb2)
  have hr := hD.rows hl
  have HR := hide hr
  have HM := hide (show ∀ x ∈ xs, 1 ≤ x.mass from fun x hx => by
    obtain ⟨k, hk, rfl⟩ := List.getElem_of_mem hx
    exact (hD k hk).2.1.1)
  clear hD hA hg hS2 hb2 hg2 hr
  go_wp2_with fail
  go_ret
  exact ⟨A', c', xs, rfl, hl, HR.out.1, HR.out.2, HM.out, HA.out, HB2.out⟩
set_option maxRecDepth 100000 in
set_option maxHeartbeats 1000000 in
theorem specR8Demand (A : Option Addr) (n c : Nat) (w : World) (h : ByAt w w.heap.size A n) (hn : n ≤ 9223372036854775807) :
    Calls Try.prog 30 #[.slice A n c] w fun e w' => ∃ (d0 d1 d2 : Int), e = .returned (.agg #[.int .i64 d0, .int .i64 d1, .int .i64 d2, .int .i64 260000, .int .i64 20000]) ∧ vDem d0 d1 d2 260000 20000 = true ∧ Below w.heap.size w w' := by
  have HX := hide h
  clear h
  go_enter Try.func30, Try.ntmps30
  go_wp2_with fail
  refine (specl00From_at w.heap.size A n c _ (HX.out.alloc (Nat.le_refl _) _) hn (by simp)).mono ?_
  rintro e w1 ⟨rfl, hS1, hb1⟩
  have HR1 := hide (show w1.heap[w.heap.size]? = some (.cells #[.int .i64 0, .int .i64 0, .int .i64 0, .int .i64 0, .int .i64 0] 30 (0, 0)) from (hb1.block w.heap.size (by simp)).trans (heap_alloc_new w _))
  have HS1 := hide (show Src w1 w.heap.size (w.heap.size + 1) 0 by simpa using hS1)
  have HB1 := hide (show Below w.heap.size w w1 from ((Below.refl _ _).alloc (Nat.le_refl _) _).trans (hb1.mono (by simp)))
  have hz1 := HS1.out.lt
  clear hS1 hb1
  go_wp2_with fail
  refine (srcPick w.heap.size (w.heap.size + 1) 0 150 _ HS1.out (by omega) (by omega)).mono ?_
  rintro e w2 ⟨r, rfl, r0, r1, hS2, hb2, hg2⟩
  have r1' := r1 (by omega)
  have HR2 := hide ((hg2.block w.heap.size (by omega) (by simp)).trans HR1.out)
  have HS2 := hide hS2
  have HB2 := hide (HB1.out.trans hb2)
  have hz2 := HS2.out.lt
  clear r1 hS2 hb2 hg2 HR1 HS1 HB1
  go_wp2_with fail
  have hsl := slat_new (enc := encI) (sz := 1) (fun _ => rfl) w2 [0, 150000, 190000] #[.int .i64 0, .int .i64 150000, .int .i64 190000] 2 rfl
  have HSL := hide hsl
  clear hsl
  refine (srcamong w.heap.size (w.heap.size + 1) 2 (some ⟨w2.heap.size, 0, none⟩) _ [0, 150000, 190000] _ (HS2.out.below (by repeat (first | with_reducible exact Below.refl _ _ | with_reducible assumption | (with_reducible refine Below.drew ?_) | (with_reducible refine below_drewN ?_ _) | ((with_reducible refine Below.alloc ?_ ?_ _); rotate_left; (focus (first | omega | (simp; omega) | simp))) | ((with_reducible refine Below.setCell ?_ ?_ _); rotate_left; (focus (first | omega | (simp; omega) | simp))) | (refine Below.trans ?_ (Below.mono (by assumption) (by first | omega | (simp; omega) | simp)))))) (by omega) HSL.out ?_ (by decide) (by decide)).mono ?_
  · intro b2 off e
    injection e with e; injection e with e _; omega
  rintro e w3 ⟨t, rfl, hm, hS3, hb3, hg3⟩
  have ht : t = 0 ∨ t = 150000 ∨ t = 190000 := by simpa using hm
  have ht0 : 0 ≤ t ∧ t ≤ 190000 := by omega
  obtain ⟨t0, t1⟩ := ht0
  have HR3 := hide ((hg3.block w.heap.size (by simp; omega) (by simp)).trans ((heap_alloc_old _ _ (by omega)).trans HR2.out))
  have hz3 := hS3.lt
  have HB3 := hide (show Below w.heap.size w w3 from (HB2.out.alloc (by omega) _).trans hb3)
  have HD := hide (show DrawSt 30 w.heap.size (w.heap.size + 1) w.heap.size w3.heap.size #[.int .i64 0, .int .i64 0, .int .i64 0, .int .i64 0, .int .i64 0] w (w3.alloc (.cells #[.int .i64 (1000 * (1 + r)), .int .i64 0, .int .i64 t, .int .i64 260000, .int .i64 20000] 30)) 4 #[.int .i64 (1000 * (1 + r)), .int .i64 0, .int .i64 t, .int .i64 260000, .int .i64 20000] from
    ⟨hS3.below (by repeat (first | with_reducible exact Below.refl _ _ | with_reducible assumption | (with_reducible refine Below.drew ?_) | (with_reducible refine below_drewN ?_ _) | ((with_reducible refine Below.alloc ?_ ?_ _); rotate_left; (focus (first | omega | (simp; omega) | simp))) | ((with_reducible refine Below.setCell ?_ ?_ _); rotate_left; (focus (first | omega | (simp; omega) | simp))) | (refine Below.trans ?_ (Below.mono (by assumption) (by first | omega | (simp; omega) | simp))))), HB3.out.alloc (by omega) _, (heap_alloc_old _ _ (by omega)).trans HR3.out, heap_alloc_new w3 _⟩)
  clear hm ht hS3 hb3 hg3 HR2 HS2 HB2 HR3 HB3 HSL
  have hQb : w3.heap.size ≠ w.heap.size + 1 := by omega
  have hRb : w.heap.size ≠ w.heap.size + 1 := by omega
  have hRQ : w.heap.size ≠ w3.heap.size := by omega
  have hBQ : w.heap.size ≤ w3.heap.size := by omega
  go_upto_region 3 with fail
  go_cut [] (fun wx => ∃ d : Int, 1000 * (1 + r) ≤ d ∧ d ≤ 1000 * (1 + r) + 89000 ∧ Hid (DrawSt 30 w.heap.size (w.heap.size + 1) w.heap.size w3.heap.size #[.int .i64 0, .int .i64 0, .int .i64 0, .int .i64 0, .int .i64 0] w wx 6 #[.int .i64 (1000 * (1 + r)), .int .i64 d, .int .i64 t, .int .i64 260000, .int .i64 20000]))
  case first =>
    have c0 := HD.out.cell 0 _ rfl
    have hzq := heap_lt HD.out.q
    go_region_law (first | (go_simp; go_at_call 84; refine (srcPick w.heap.size (w.heap.size + 1) 4 90 _ (HD.out.below (by first | exact Below.refl _ _ | exact (Below.refl _ _).drew)).src (by omega) (by omega)).mono ?_; rintro e w4 ⟨s, rfl, s0, s1, hS4, hb4, hg4⟩; have s1' := s1 (by omega); have hD4 := (HD.out.below (by first | exact Below.refl _ _ | exact (Below.refl _ _).drew)).call hRb hQb hS4 hb4 hg4; have HD4 := hide hD4; have e0 := hD4.cell 0 _ rfl; have e1 := hD4.cell 1 _ rfl; have f1 := hD4.froz 1; clear hD4 hS4 hb4 hg4))
    all_goals
      have k0 : IntKind.i64.wrap (1000 * s) = 1000 * s := IntWalk.i64_in _ (by omega)
      have k2 : IntKind.i64.wrap (1000 * (1 + r) + 1000 * s) = 1000 * (1 + r) + 1000 * s := IntWalk.i64_in _ (by omega)
      try simp only [k0, k2]
      have HD5 := hide (HD4.out.set hQb hRQ hBQ 1 (.int .i64 (1000 * (1 + r) + 1000 * s)))
      go_wp2_with fail
      go_meet
      exact ⟨1000 * (1 + r) + 1000 * s, by omega, by omega, HD5⟩
  case rest =>
    obtain ⟨w5, rfl⟩ : ∃ w5, w5 = wc := ⟨_, rfl⟩
    obtain ⟨d, e0, e1, HD5⟩ := hcut
    have c0 := HD5.out.cell 0 _ rfl
    have c1 := HD5.out.cell 1 _ rfl
    have c2 := HD5.out.cell 2 _ rfl
    have c3 := HD5.out.cell 3 _ rfl
    have c4 := HD5.out.cell 4 _ rfl
    have u0 := HD5.out.rcell 0 _ rfl
    have u1 := HD5.out.rcell 1 _ rfl
    have u2 := HD5.out.rcell 2 _ rfl
    have u3 := HD5.out.rcell 3 _ rfl
    have u4 := HD5.out.rcell 4 _ rfl
    have z0 := HD5.out.rfroz 0
    have z1 := HD5.out.rfroz 1
    have z2 := HD5.out.rfroz 2
    have z3 := HD5.out.rfroz 3
    have z4 := HD5.out.rfroz 4
    have HV := hide (show vDem (1000 * (1 + r)) d t 260000 20000 = true from by unfold vDem inB; simp; omega)
    clear HD
    go_wp2_with fail
    refine bodyPost_ret (v := .agg #[.int .i64 (1000 * (1 + r)), .int .i64 d, .int .i64 t, .int .i64 260000, .int .i64 20000]) (by simp [results, Try.results30, go_sem, u0, u1, u2, u3, u4]) rfl ⟨_, _, _, rfl, HV.out, ?_⟩
    iterate 5 ((with_reducible refine Below.setCell ?_ ?_ _); rotate_left; (focus exact Nat.le_refl _))
    exact HD5.out.bel
set_option maxRecDepth 100000 in
theorem implFitsDemand_ok (A A2 : Option Addr) (c c2 : Nat) (xs : List IngotR) (ch : List Int) (d0 d1 d2 d3 d4 : Int) (w : World) (h : SlAt encIngot 5 w A xs) (h2 : SlAt encI 1 w A2 ch) (hv : rowsB vIngotR IngotR.nm 16 xs = true) (hs : ∀ x ∈ xs, x.nm.size ≤ maxLen) (hr : Ch.rising 0 xs.length ch) (hd : vDem d0 d1 d2 d3 d4 = true) (hf : fitC d0 d1 d2 d3 d4 xs ch = true) :
    Calls Try.prog 32 #[.slice A xs.length c, .slice A2 ch.length c2, .agg #[.int .i64 d0, .int .i64 d1, .int .i64 d2, .int .i64 d3, .int .i64 d4]] w fun e w' => e = .returned (.bool true) ∧ Below w.heap.size w w' := by
  obtain ⟨rv, rl⟩ := rowsB_ok hv
  have hl := rising_len hr
  have HX := hide (h.below ((Below.refl _ _).alloc (Nat.le_refl _) (.cells #[.int .i64 d0, .int .i64 d1, .int .i64 d2, .int .i64 d3, .int .i64 d4] 30)))
  have HC := hide (h2.below ((Below.refl _ _).alloc (Nat.le_refl _) (.cells #[.int .i64 d0, .int .i64 d1, .int .i64 d2, .int .i64 d3, .int .i64 d4] 30)))
  have HS := hide hs
  have HR := hide hr
  have HV := hide hv
  have HD := hide hd
  have HRV := hide rv
  have HF := hide hf
  clear h h2 hs hr rv hv hd hf
  go_enter Try.func32, Try.ntmps32
  go_wp2_with fail
  refine (implValidIngots A c xs _ HX.out (by omega) HS.out).mono ?_
  rintro e w1 ⟨rfl, hb1⟩
  rw [HV.out]
  have HB1 := hide hb1
  have q0 := hb1.cell (p := ⟨w.heap.size, 0, none⟩) (by simp)
  have q1 := hb1.cell (p := ⟨w.heap.size, 1, none⟩) (by simp)
  have q2 := hb1.cell (p := ⟨w.heap.size, 2, none⟩) (by simp)
  have q3 := hb1.cell (p := ⟨w.heap.size, 3, none⟩) (by simp)
  have q4 := hb1.cell (p := ⟨w.heap.size, 4, none⟩) (by simp)
  simp at q0 q1 q2 q3 q4
  clear hb1
  go_wp2_with fail
  refine (implValidDemand d0 d1 d2 d3 d4 _).mono ?_
  rintro e w2 ⟨rfl, hb2⟩
  rw [HD.out]
  have hz1 : w.heap.size < w1.heap.size := by have := HB1.out.size; simp at this; omega
  have HB2 := hide (HB1.out.trans (hb2.mono HB1.out.size))
  have p0 := (hb2.cell (p := ⟨w.heap.size, 0, none⟩) hz1).trans q0
  have p1 := (hb2.cell (p := ⟨w.heap.size, 1, none⟩) hz1).trans q1
  have p2 := (hb2.cell (p := ⟨w.heap.size, 2, none⟩) hz1).trans q2
  have p3 := (hb2.cell (p := ⟨w.heap.size, 3, none⟩) hz1).trans q3
  have p4 := (hb2.cell (p := ⟨w.heap.size, 4, none⟩) hz1).trans q4
  clear hb2 q0 q1 q2 q3 q4
  go_wp2_with fail
  refine (implisChoice A A2 xs.length c c2 ch _ (HC.out.below HB2.out) HR.out rl).mono ?_
  rintro e w2 ⟨rfl, rfl⟩
  go_wp2_with fail
  refine (implfits d0 d1 d2 d3 d4 A A2 c c2 xs ch _ (HX.out.below HB2.out) (HC.out.below HB2.out) HRV.out (rising_good HR.out) (by omega) HD.out).mono ?_
  rintro e w3 ⟨rfl, hb3⟩
  rw [HF.out]
  have HB3 := hide (show Below w.heap.size w w3 from (((Below.refl _ _).alloc (Nat.le_refl _) _).trans ((HB2.out.trans (hb3.mono HB2.out.size)).mono (by simp))))
  clear hb3
  go_wp2_with fail
  go_ret
  exact ⟨rfl, HB3.out⟩
end Go.Proofs.Ytjklhacffdhgaaa
