/- What the laws draw out of bytes: beams and numbers; the law of the least depth. -/
import Derived.Test.YtibdclihjipaiaaDraw
import Derived.Test.YtibdclihjipaiaaMono
namespace Go.Proofs.Ytibdclihjipaiaa
open Go.RowKit

set_option maxRecDepth 100000 in
set_option maxHeartbeats 2000000 in
theorem specR8Beam (A : Option Addr) (n c : Nat) (w : World) (h : ByAt w w.heap.size A n) (hn : n ≤ 9223372036854775807) :
    Calls Try.prog 45 #[.slice A n c] w fun e w' => ∃ (nm : ByteArray) (span wd dp wood : Int) (A : Option Addr) (c : Nat) (ls : List LoadR), e = .returned (.agg #[.string nm, .int .i64 span, .int .i64 wd, .int .i64 dp, .int .i64 wood, .slice A ls.length c]) ∧
      vBeam nm span wd dp wood ls = true ∧ nm.size ≤ maxLen ∧ 50 ≤ dp ∧ dp ≤ 449 ∧ SlAt encLoad 2 w' A ls ∧ Below w.heap.size w w' := by
  have HX := hide h
  clear h
  go_enter Try.func45, Try.ntmps45
  go_wp2_with fail
  refine (specl00From A n c (w.alloc (.cells #[.string ⟨#[]⟩, .int .i64 0, .int .i64 0, .int .i64 0, .int .i64 0, .slice none 0 0] 29)) (fun k hk => ?_) hn).mono ?_
  · obtain ⟨b, off, x, e, hl, hc, hx⟩ := HX.out k hk
    exact ⟨b, off, x, e, by simp; omega, (((Below.refl w.heap.size w).alloc (Nat.le_refl _) _).cell (p := ⟨b, off + k, none⟩) hl).trans hc, hx⟩
  rintro e w1 ⟨rfl, hS1, hb1⟩
  have HS1 := hide (show Src w1 (w.heap.size + 1) (w.heap.size + 1) 0 by simpa using hS1)
  have HB1 := hide (show Below (w.heap.size + 1) (w.alloc (.cells #[.string ⟨#[]⟩, .int .i64 0, .int .i64 0, .int .i64 0, .int .i64 0, .slice none 0 0] 29)) w1 by simpa using hb1)
  clear hS1 hb1
  go_wp2_with fail
  refine (specl21Draw (w.heap.size + 1) (w.heap.size + 1) w1 HS1.out).mono ?_
  rintro e w2 ⟨nm, span, wd, dp, wood, A', c', ls, rfl, hv, hs, d1, d2, hA, hG, hb2⟩
  have hb := HB1.out.trans hb2
  have q0 := hb.cell (p := ⟨w.heap.size, 0, none⟩) (by simp)
  have q1 := hb.cell (p := ⟨w.heap.size, 1, none⟩) (by simp)
  have q2 := hb.cell (p := ⟨w.heap.size, 2, none⟩) (by simp)
  have q3 := hb.cell (p := ⟨w.heap.size, 3, none⟩) (by simp)
  have q4 := hb.cell (p := ⟨w.heap.size, 4, none⟩) (by simp)
  have q5 := hb.cell (p := ⟨w.heap.size, 5, none⟩) (by simp)
  simp at q0 q1 q2 q3 q4 q5
  have y := fun j => hb.frozen (p := ⟨w.heap.size, j, none⟩) (by simp)
  have y0 : w2.frozen? ⟨w.heap.size, 0, none⟩ = false := (y 0).trans (by simp)
  have y1 : w2.frozen? ⟨w.heap.size, 1, none⟩ = false := (y 1).trans (by simp)
  have y2 : w2.frozen? ⟨w.heap.size, 2, none⟩ = false := (y 2).trans (by simp)
  have y3 : w2.frozen? ⟨w.heap.size, 3, none⟩ = false := (y 3).trans (by simp)
  have y4 : w2.frozen? ⟨w.heap.size, 4, none⟩ = false := (y 4).trans (by simp)
  have y5 : w2.frozen? ⟨w.heap.size, 5, none⟩ = false := (y 5).trans (by simp)
  have HV := hide hv
  have HA := hide (fun W (hg : w2.grownBy W (some w.heap.size)) => SlAt.grown hA hg (fun g o e q => by
    injection q with q
    have := hG g o e
    omega))
  have HBB := hide (Below.trans ((Below.refl w.heap.size w).alloc (Nat.le_refl _) _) (hb.mono (Nat.le_succ _)))
  clear hv hA hG hb2 hb y
  go_wp2_with fail
  refine bodyPost_ret (v := .agg #[.string nm, .int .i64 span, .int .i64 wd, .int .i64 dp, .int .i64 wood, .slice A' ls.length c']) (by simp [results, Try.results45, go_sem, q0, q1, q2, q3, q4, q5]) rfl ⟨nm, _, _, _, _, A', c', ls, rfl, HV.out, hs, d1, d2, HA.out _ ?_, ?_⟩
  · iterate 6 (refine grown_set ?_ _ _)
    exact grown_refl _ _
  · iterate 6 ((with_reducible refine Below.setCell ?_ ?_ _); rotate_left; (focus exact Nat.le_refl _))
    exact HBB.out
theorem lawsr8Long (A A' : Option Addr) (n c n' c' : Nat) (w : World) : Calls Try.prog 44 #[.slice A n c, .slice A' n' c'] w fun e w' => e = .returned (.bool (decide ((1048576 : Int) < n) || decide ((1048576 : Int) < n'))) ∧ w = w' := by
  by_cases h : (1048576 : Int) < n <;> by_cases h' : (1048576 : Int) < n'
  all_goals
    have e : Hid (decide ((1048576 : Int) < n) || decide ((1048576 : Int) < n')) = (decide ((1048576 : Int) < n) || decide ((1048576 : Int) < n')) := rfl
    go_enter Try.func44, Try.ntmps44
    go_wp2
    go_ret
    exact ⟨by simp [*], rfl⟩
theorem lawsr8At (B : Nat) (A : Option Addr) (n c k : Nat) (w : World) (h : ByAt w B A n) (_hk : k ≤ 1000) (_hn : n ≤ 9223372036854775807) :
    Calls Try.prog 86 #[.slice A n c, .int .i64 k, .int .i64 256] w fun e w' => ∃ r : Int, e = .returned (.int .i64 r) ∧ 0 ≤ r ∧ r ≤ 255 ∧ w = w' := by
  by_cases hl : k < n
  · obtain ⟨b, off, x, rfl, _, hx, x0, x1⟩ := h k hl
    clear h
    go_enter Try.func86, Try.ntmps86
    go_wp2
    go_ret
    exact ⟨_, rfl, Int.emod_nonneg _ (by omega), by have := Int.emod_lt_of_pos x (show (0 : Int) < 256 by omega); omega, rfl⟩
  · clear h
    go_enter Try.func86, Try.ntmps86
    go_wp2
    go_ret
    exact ⟨0, rfl, by omega, by omega, rfl⟩
theorem lawsr8Wide (B : Nat) (A : Option Addr) (n c k : Nat) (m : Int) (w : World) (h : ByAt w B A n) (hk : k ≤ 999) (hn : n ≤ 9223372036854775807) (m0 : 1 ≤ m) (m1 : m ≤ 1000000) :
    Calls Try.prog 46 #[.slice A n c, .int .i64 k, .int .i64 m] w fun e w' => ∃ r : Int, e = .returned (.int .i64 r) ∧ 0 ≤ r ∧ r < m ∧ w = w' := by
  have HX := hide h
  clear h
  go_enter Try.func46, Try.ntmps46
  go_wp2_with fail
  refine (lawsr8At B A n c k _ HX.out (by omega) hn).mono ?_
  rintro e w1 ⟨r, rfl, r0, r1, rfl⟩
  go_wp2_with fail
  refine (lawsr8At B A n c (k + 1) _ HX.out (by omega) hn).mono ?_
  rintro e w1 ⟨r', rfl, r0', r1', rfl⟩
  go_wp2_with fail
  go_ret
  exact ⟨_, rfl, Int.emod_nonneg _ (by omega), Int.emod_lt_of_pos _ (by omega), rfl⟩
set_option maxRecDepth 100000 in
set_option maxHeartbeats 1000000 in
theorem lawFnDepths (A A' : Option Addr) (n c n' c' : Nat) (w : World) (h : ByAt w w.heap.size A n) (h' : ByAt w w.heap.size A' n') (hn : n ≤ 9223372036854775807) (hn' : n' ≤ 9223372036854775807) :
    Calls Try.prog 13 #[.slice A n c, .slice A' n' c'] w fun e w' => e = .returned (.bool true) ∧ Below w.heap.size w w' := by
  have HX := hide h
  have HY := hide h'
  clear h h'
  go_enter Try.func13, Try.ntmps13
  go_wp2_with fail
  refine (lawsr8Long A A' n c n' c' w).mono ?_
  rintro e w0 ⟨rfl, rfl⟩
  cases hq : (decide ((1048576 : Int) < n) || decide ((1048576 : Int) < n'))
  · clear hq
    go_wp2_with fail
    refine (specR8Beam A n c w HX.out hn).mono ?_
    rintro e w1 ⟨nm, span, wd, dp, wood, A1, c1, ls, rfl, hv, hs, d1, d2, hA, hb1⟩
    have hl8 : ls.length ≤ 1048576 := by have := (good_of hv).n; omega
    have HV := hide hv
    have HA := hide hA
    have HY1 := hide (HY.out.below hb1)
    have z1 := hb1.size
    have HB1 := hide hb1
    clear hv hA hb1
    go_wp2_with fail
    refine (lawsr8Wide w.heap.size A' n' c' 0 20000 _ (HY1.out.below ((Below.refl _ _).alloc (by omega) _)) (by omega) hn' (by omega) (by omega)).mono ?_
    rintro e w2 ⟨st, rfl, s0, s1, rfl⟩
    go_wp2_with fail
    refine (lawsr8Wide w.heap.size A' n' c' 2 20000 _ (HY1.out.below ((Below.refl _ _).alloc (by omega) _)) (by omega) hn' (by omega) (by omega)).mono ?_
    rintro e w2 ⟨be, rfl, b0, b1, rfl⟩
    have HAW := hide (HA.out.below (w' := w1.alloc (.cells #[.string nm, .int .i64 span, .int .i64 wd, .int .i64 dp, .int .i64 wood, .slice A1 ls.length c1] 29)) (by repeat (first | with_reducible exact Below.refl _ _ | with_reducible assumption | (with_reducible refine Below.drew ?_) | (with_reducible refine below_drewN ?_ _) | ((with_reducible refine Below.alloc ?_ ?_ _); rotate_left; (focus (first | omega | (simp; omega) | simp))) | ((with_reducible refine Below.setCell ?_ ?_ _); rotate_left; (focus (first | omega | (simp; omega) | simp))) | (refine Below.trans ?_ (Below.mono (by assumption) (by first | omega | (simp; omega) | simp))))))
    have HBW := hide (HB1.out.alloc z1 (.cells #[.string nm, .int .i64 span, .int .i64 wd, .int .i64 dp, .int .i64 wood, .slice A1 ls.length c1] 29))
    go_wp2_with fail
    refine (implLeastDepth nm span wd dp wood A1 c1 ls _ HAW.out hl8 hs st be).mono ?_
    rintro e w3 ⟨rfl, hb3⟩
    have q3_0 : w3.cell? ⟨w1.heap.size, 0, none⟩ = some (.string nm) := (hb3.cell (p := ⟨w1.heap.size, 0, none⟩) (by first | assumption | (simp; done) | (simp [World.setCell]; omega))).trans (by go_simp)
    have q3_1 : w3.cell? ⟨w1.heap.size, 1, none⟩ = some (.int .i64 span) := (hb3.cell (p := ⟨w1.heap.size, 1, none⟩) (by first | assumption | (simp; done) | (simp [World.setCell]; omega))).trans (by go_simp)
    have q3_2 : w3.cell? ⟨w1.heap.size, 2, none⟩ = some (.int .i64 wd) := (hb3.cell (p := ⟨w1.heap.size, 2, none⟩) (by first | assumption | (simp; done) | (simp [World.setCell]; omega))).trans (by go_simp)
    have q3_3 : w3.cell? ⟨w1.heap.size, 3, none⟩ = some (.int .i64 dp) := (hb3.cell (p := ⟨w1.heap.size, 3, none⟩) (by first | assumption | (simp; done) | (simp [World.setCell]; omega))).trans (by go_simp)
    have q3_4 : w3.cell? ⟨w1.heap.size, 4, none⟩ = some (.int .i64 wood) := (hb3.cell (p := ⟨w1.heap.size, 4, none⟩) (by first | assumption | (simp; done) | (simp [World.setCell]; omega))).trans (by go_simp)
    have q3_5 : w3.cell? ⟨w1.heap.size, 5, none⟩ = some (.slice A1 ls.length c1) := (hb3.cell (p := ⟨w1.heap.size, 5, none⟩) (by first | assumption | (simp; done) | (simp [World.setCell]; omega))).trans (by go_simp)
    have y3 : w3.frozen? ⟨w1.heap.size, 3, none⟩ = false := (hb3.frozen (p := ⟨w1.heap.size, 3, none⟩) (by first | assumption | (simp; done) | (simp [World.setCell]; omega))).trans (by go_simp)
    have z3 : w1.heap.size < w3.heap.size := by have := hb3.size; simp at this; omega
    have BQ3 := hide (show Below w1.heap.size w1 w3 from ((Below.refl _ _).alloc (Nat.le_refl _) _).trans (hb3.mono (by simp)))
    clear hb3 HAW HBW
    rcases depthR_says (st := st) (be := be) HV.out with ⟨x, e, x0, x1, cx, cd, cm⟩ | ⟨e, cn⟩
    · rw [e]
      have CX := hide cx
      have CD := hide cd
      have CM := hide cm
      clear e cx cd cm
      have A3 := hide (HA.out.below BQ3.out)
      go_wp2_with fail
      refine (implCarriesLoads nm span wd dp wood A1 c1 ls _ A3.out hl8 hs st be).mono ?_
      rintro e w4 ⟨rfl, hb4⟩
      rw [CD.out]
      have q4_0 : w4.cell? ⟨w1.heap.size, 0, none⟩ = some (.string nm) := (hb4.cell (p := ⟨w1.heap.size, 0, none⟩) (by first | assumption | (simp; done) | (simp [World.setCell]; omega))).trans (by go_simp)
      have q4_1 : w4.cell? ⟨w1.heap.size, 1, none⟩ = some (.int .i64 span) := (hb4.cell (p := ⟨w1.heap.size, 1, none⟩) (by first | assumption | (simp; done) | (simp [World.setCell]; omega))).trans (by go_simp)
      have q4_2 : w4.cell? ⟨w1.heap.size, 2, none⟩ = some (.int .i64 wd) := (hb4.cell (p := ⟨w1.heap.size, 2, none⟩) (by first | assumption | (simp; done) | (simp [World.setCell]; omega))).trans (by go_simp)
      have q4_3 : w4.cell? ⟨w1.heap.size, 3, none⟩ = some (.int .i64 dp) := (hb4.cell (p := ⟨w1.heap.size, 3, none⟩) (by first | assumption | (simp; done) | (simp [World.setCell]; omega))).trans (by go_simp)
      have q4_4 : w4.cell? ⟨w1.heap.size, 4, none⟩ = some (.int .i64 wood) := (hb4.cell (p := ⟨w1.heap.size, 4, none⟩) (by first | assumption | (simp; done) | (simp [World.setCell]; omega))).trans (by go_simp)
      have q4_5 : w4.cell? ⟨w1.heap.size, 5, none⟩ = some (.slice A1 ls.length c1) := (hb4.cell (p := ⟨w1.heap.size, 5, none⟩) (by first | assumption | (simp; done) | (simp [World.setCell]; omega))).trans (by go_simp)
      have y4 : w4.frozen? ⟨w1.heap.size, 3, none⟩ = false := (hb4.frozen (p := ⟨w1.heap.size, 3, none⟩) (by first | assumption | (simp; done) | (simp [World.setCell]; omega))).trans (by go_simp)
      have z4 : w1.heap.size < w4.heap.size := Nat.lt_of_lt_of_le z3 hb4.size
      have BQ4 := hide (BQ3.out.trans (hb4.mono (Nat.le_of_lt z3)))
      clear hb4
      clear q3_0 q3_1 q3_2 q3_3 q3_4 q3_5 y3
      have A4 := hide (HA.out.below (w' := w4.setCell ⟨w1.heap.size, 3, none⟩ (.int .i64 x)) (BQ4.out.setCell (Nat.le_refl _) _))
      by_cases hd : x ≤ dp
      · have hd2 : decide (x ≤ dp) = true := by simp [hd]
        rw [hd2]
        go_wp2_with fail
        refine (implCarriesLoads nm span wd x wood A1 c1 ls _ A4.out hl8 hs st be).mono ?_
        rintro e w5 ⟨rfl, hb5⟩
        rw [CX.out]
        have q5_0 : w5.cell? ⟨w1.heap.size, 0, none⟩ = some (.string nm) := (hb5.cell (p := ⟨w1.heap.size, 0, none⟩) (by first | assumption | (simp; done) | (simp [World.setCell]; omega))).trans (by go_simp)
        have q5_1 : w5.cell? ⟨w1.heap.size, 1, none⟩ = some (.int .i64 span) := (hb5.cell (p := ⟨w1.heap.size, 1, none⟩) (by first | assumption | (simp; done) | (simp [World.setCell]; omega))).trans (by go_simp)
        have q5_2 : w5.cell? ⟨w1.heap.size, 2, none⟩ = some (.int .i64 wd) := (hb5.cell (p := ⟨w1.heap.size, 2, none⟩) (by first | assumption | (simp; done) | (simp [World.setCell]; omega))).trans (by go_simp)
        have q5_3 : w5.cell? ⟨w1.heap.size, 3, none⟩ = some (.int .i64 x) := (hb5.cell (p := ⟨w1.heap.size, 3, none⟩) (by first | assumption | (simp; done) | (simp [World.setCell]; omega))).trans (by go_simp)
        have q5_4 : w5.cell? ⟨w1.heap.size, 4, none⟩ = some (.int .i64 wood) := (hb5.cell (p := ⟨w1.heap.size, 4, none⟩) (by first | assumption | (simp; done) | (simp [World.setCell]; omega))).trans (by go_simp)
        have q5_5 : w5.cell? ⟨w1.heap.size, 5, none⟩ = some (.slice A1 ls.length c1) := (hb5.cell (p := ⟨w1.heap.size, 5, none⟩) (by first | assumption | (simp; done) | (simp [World.setCell]; omega))).trans (by go_simp)
        have y5 : w5.frozen? ⟨w1.heap.size, 3, none⟩ = false := (hb5.frozen (p := ⟨w1.heap.size, 3, none⟩) (by first | assumption | (simp; done) | (simp [World.setCell]; omega))).trans (by go_simp)
        have z5 : w1.heap.size < w5.heap.size := by have := hb5.size; simp [World.setCell] at this; omega
        have BQ5 := hide ((BQ4.out.setCell (Nat.le_refl _) (.int .i64 x)).trans (hb5.mono (by simp [World.setCell]; omega)))
        clear hb5 A4 q4_0 q4_1 q4_2 q4_3 q4_4 q4_5 y4
        have A5 := hide (HA.out.below (w' := w5.setCell ⟨w1.heap.size, 3, none⟩ (.int .i64 (x - 1))) (BQ5.out.setCell (Nat.le_refl _) _))
        have BB5 := hide (show Below w.heap.size w (w5.setCell ⟨w1.heap.size, 3, none⟩ (.int .i64 (x - 1))) from HB1.out.trans (Below.mono (BQ5.out.setCell (Nat.le_refl _) (.int .i64 (x - 1))) z1))
        by_cases h20 : x = 20
        · have t20 : (x == 20) = true := by simpa using h20
          go_wp2_with fail
          go_ret
          exact ⟨rfl, by have := BB5.out; simpa [h20] using this⟩
        · have t20 : (x == 20) = false := by simpa using h20
          have CN := hide (CM.out h20)
          go_wp2_with fail
          refine (implCarriesLoads nm span wd (x - 1) wood A1 c1 ls _ A5.out hl8 hs st be).mono ?_
          rintro e w6 ⟨rfl, hb6⟩
          rw [CN.out]
          have BB6 := hide (BB5.out.trans (hb6.mono (by simp [World.setCell]; omega)))
          clear hb6
          go_wp2_with fail
          go_ret
          exact ⟨rfl, BB6.out⟩
      · have hd2 : decide (x ≤ dp) = false := by simp [hd]
        rw [hd2]
        go_wp2_with fail
        refine (implCarriesLoads nm span wd x wood A1 c1 ls _ A4.out hl8 hs st be).mono ?_
        rintro e w5 ⟨rfl, hb5⟩
        rw [CX.out]
        have q5_0 : w5.cell? ⟨w1.heap.size, 0, none⟩ = some (.string nm) := (hb5.cell (p := ⟨w1.heap.size, 0, none⟩) (by first | assumption | (simp; done) | (simp [World.setCell]; omega))).trans (by go_simp)
        have q5_1 : w5.cell? ⟨w1.heap.size, 1, none⟩ = some (.int .i64 span) := (hb5.cell (p := ⟨w1.heap.size, 1, none⟩) (by first | assumption | (simp; done) | (simp [World.setCell]; omega))).trans (by go_simp)
        have q5_2 : w5.cell? ⟨w1.heap.size, 2, none⟩ = some (.int .i64 wd) := (hb5.cell (p := ⟨w1.heap.size, 2, none⟩) (by first | assumption | (simp; done) | (simp [World.setCell]; omega))).trans (by go_simp)
        have q5_3 : w5.cell? ⟨w1.heap.size, 3, none⟩ = some (.int .i64 x) := (hb5.cell (p := ⟨w1.heap.size, 3, none⟩) (by first | assumption | (simp; done) | (simp [World.setCell]; omega))).trans (by go_simp)
        have q5_4 : w5.cell? ⟨w1.heap.size, 4, none⟩ = some (.int .i64 wood) := (hb5.cell (p := ⟨w1.heap.size, 4, none⟩) (by first | assumption | (simp; done) | (simp [World.setCell]; omega))).trans (by go_simp)
        have q5_5 : w5.cell? ⟨w1.heap.size, 5, none⟩ = some (.slice A1 ls.length c1) := (hb5.cell (p := ⟨w1.heap.size, 5, none⟩) (by first | assumption | (simp; done) | (simp [World.setCell]; omega))).trans (by go_simp)
        have y5 : w5.frozen? ⟨w1.heap.size, 3, none⟩ = false := (hb5.frozen (p := ⟨w1.heap.size, 3, none⟩) (by first | assumption | (simp; done) | (simp [World.setCell]; omega))).trans (by go_simp)
        have z5 : w1.heap.size < w5.heap.size := by have := hb5.size; simp [World.setCell] at this; omega
        have BQ5 := hide ((BQ4.out.setCell (Nat.le_refl _) (.int .i64 x)).trans (hb5.mono (by simp [World.setCell]; omega)))
        clear hb5 A4 q4_0 q4_1 q4_2 q4_3 q4_4 q4_5 y4
        have A5 := hide (HA.out.below (w' := w5.setCell ⟨w1.heap.size, 3, none⟩ (.int .i64 (x - 1))) (BQ5.out.setCell (Nat.le_refl _) _))
        have BB5 := hide (show Below w.heap.size w (w5.setCell ⟨w1.heap.size, 3, none⟩ (.int .i64 (x - 1))) from HB1.out.trans (Below.mono (BQ5.out.setCell (Nat.le_refl _) (.int .i64 (x - 1))) z1))
        by_cases h20 : x = 20
        · exfalso; omega
        · have t20 : (x == 20) = false := by simpa using h20
          have CN := hide (CM.out h20)
          go_wp2_with fail
          refine (implCarriesLoads nm span wd (x - 1) wood A1 c1 ls _ A5.out hl8 hs st be).mono ?_
          rintro e w6 ⟨rfl, hb6⟩
          rw [CN.out]
          have BB6 := hide (BB5.out.trans (hb6.mono (by simp [World.setCell]; omega)))
          clear hb6
          go_wp2_with fail
          go_ret
          exact ⟨rfl, BB6.out⟩
    · rw [e]
      have E := hide e
      have CN := hide cn
      clear e cn
      have AS := hide (HA.out.below (w' := (w3.setCell ⟨w1.heap.size, 3, none⟩ (.int .i64 1000))) (BQ3.out.setCell (Nat.le_refl _) _))
      go_wp2_with fail
      refine (implCarriesLoads nm span wd 1000 wood A1 c1 ls _ AS.out hl8 hs st be).mono ?_
      rintro e w4 ⟨rfl, hb4⟩
      rw [CN.out]
      have BB := hide (HB1.out.trans (((BQ3.out.setCell (Nat.le_refl _) (.int .i64 1000)).trans (hb4.mono (by simp [World.setCell]; omega))).mono z1))
      clear hb4
      go_wp2_with fail
      go_ret
      exact ⟨rfl, BB.out⟩
  · go_wp2_with fail
    go_ret
    exact ⟨rfl, (by repeat (first | with_reducible exact Below.refl _ _ | with_reducible assumption | (with_reducible refine Below.drew ?_) | (with_reducible refine below_drewN ?_ _) | ((with_reducible refine Below.alloc ?_ ?_ _); rotate_left; (focus (first | omega | (simp; omega) | simp))) | ((with_reducible refine Below.setCell ?_ ?_ _); rotate_left; (focus (first | omega | (simp; omega) | simp))) | (refine Below.trans ?_ (Below.mono (by assumption) (by first | omega | (simp; omega) | simp)))))⟩
end Go.Proofs.Ytibdclihjipaiaa
