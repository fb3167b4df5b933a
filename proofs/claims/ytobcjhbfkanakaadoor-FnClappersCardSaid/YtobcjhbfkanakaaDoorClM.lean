/- The walk of laws.FnClappers out of contracts. Condition: the library's variables are laid. -/
import Derived.Test.YtobcjhbfkanakaaDoorClQ
import Derived.Test.YtobcjhbfkanakaaDoorClD
import Derived.Test.YtobcjhbfkanakaaDoorClapper3
import Derived.Deep.DeepCutAuto
namespace Go.Proofs.YtobcjhbfkanakaaDoor
open Go.RowKit Go.Lib

theorem ByAt.more {w : World} {B B' : Nat} {A : Option Addr} {n : Nat} (h : ByAt w B A n) (hB : B ≤ B') : ByAt w B' A n := fun k hk => by
  obtain ⟨b, off, x, e, hl, hc⟩ := h k hk
  exact ⟨b, off, x, e, by omega, hc⟩
theorem lawsb10Long (A : Option Addr) (n c : Nat) (w : World) : Calls Tryd.prog 5 #[.slice A n c] w fun e w' => e = .returned (.bool (decide ((1048576 : Int) < n))) ∧ w = w' := by
  by_cases h : (1048576 : Int) < n
  all_goals
    go_enter Tryd.func5, Tryd.ntmps5
    go_wp2
    go_ret
    exact ⟨by simp [*], rfl⟩
theorem lawsb10Abs (x : Int) (w : World) (h0 : -9000000000 ≤ x) (h1 : x ≤ 9000000000) : Calls Tryd.prog 11 #[.int .i64 x] w fun e w' => e = .returned (.int .i64 (if x < 0 then -x else x)) ∧ w = w' := by
  by_cases h : x < 0
  · rw [if_pos h]
    go_enter Tryd.func11, Tryd.ntmps11
    go_wp2
    go_ret
    exact ⟨rfl, rfl⟩
  · rw [if_neg h]
    go_enter Tryd.func11, Tryd.ntmps11
    go_wp2
    go_ret
    exact ⟨rfl, rfl⟩
theorem lawsb10At (A : Option Addr) (n c : Nat) (k : Nat) (B : Nat) (w : World) (h : ByAt w B A n) (hk : k ≤ 1) : Calls Tryd.prog 35 #[.slice A n c, .int .i64 (k : Int), .int .i64 256] w fun e w' => ∃ r : Int, e = .returned (.int .i64 r) ∧ 0 ≤ r ∧ r ≤ 255 ∧ w = w' := by
  by_cases hn : k < n
  · obtain ⟨b, off, x, rfl, hb, hx, x0, x1⟩ := h k hn
    clear h
    have hn2 : (k : Int) < n := by omega
    go_enter Tryd.func35, Tryd.ntmps35
    go_wp2_with fail
    go_ret
    exact ⟨_, rfl, by omega, by omega, rfl⟩
  · have hn2 : ¬ (k : Int) < n := by omega
    clear h
    go_enter Tryd.func35, Tryd.ntmps35
    go_wp2_with fail
    go_ret
    exact ⟨_, rfl, by omega, by omega, rfl⟩
theorem lawsb10Wide (A : Option Addr) (n c : Nat) (B : Nat) (w : World) (h : ByAt w B A n) : Calls Tryd.prog 15 #[.slice A n c, .int .i64 0, .int .i64 10000] w fun e w' => ∃ r : Int, e = .returned (.int .i64 r) ∧ 0 ≤ r ∧ r < 10000 ∧ w = w' := by
  have HX := hide h
  clear h
  go_enter Tryd.func15, Tryd.ntmps15
  go_wp2_with fail
  refine (lawsb10At A n c 0 B w HX.out (by omega)).mono ?_
  rintro e w0 ⟨p, rfl, p0, p1, rfl⟩
  go_wp2_with fail
  refine (lawsb10At A n c 1 B w HX.out (by omega)).mono ?_
  rintro e w0 ⟨q, rfl, q0, q1, rfl⟩
  go_wp2_with fail
  go_ret
  exact ⟨_, rfl, by omega, by omega, rfl⟩
theorem implEnergyOf (m l g : Int) (w : World) (hv : vClap m l g = true) : Calls Tryd.prog 14 #[.agg #[.int .i64 m, .int .i64 l, .int .i64 g]] w fun e w' =>
    e = .returned (.tuple #[.int .i64 (cEn m l g), .int .i64 0]) ∧ Below w.heap.size w w' := by
  obtain ⟨v1, v2, v3, v4⟩ := vClap_true hv
  go_enter Tryd.func14, Tryd.ntmps14
  go_wp2_with fail
  refine (implValidClapper m l g _).mono ?_
  rintro e w1 ⟨rfl, rfl⟩
  rw [hv]
  clear hv
  go_wp2_with fail
  refine (implenergy m l g _ (by omega) (by omega) (by omega) (by omega) (by omega) (by omega)).mono ?_
  rintro e w2 ⟨rfl, hb2⟩
  go_wp2_with fail
  go_ret2
  exact ⟨rfl, Below.trans (show Below w.heap.size w _ from (by repeat (first | with_reducible exact Below.refl _ _ | with_reducible assumption | (with_reducible refine Below.drew ?_) | (with_reducible refine below_drewN ?_ _) | ((with_reducible refine Below.alloc ?_ ?_ _); rotate_left; (focus (first | omega | (simp; omega) | simp))) | ((with_reducible refine Below.setCell ?_ ?_ _); rotate_left; (focus (first | omega | (simp; omega) | simp))) | (refine Below.trans ?_ (Below.mono (by assumption) (by first | omega | (simp; omega) | simp)))))) (hb2.mono (by simp; omega))⟩
theorem txClapper_len {m l g : Int} (h : vClap m l g = true) : (txClapper m l g).size ≤ 1048576 := by
  have q := rowText_len (xs := [m, l, g]) (by simp) (fun x hx => by have := vClap_vals h x hx; omega)
  unfold txClapper
  rw [if_pos h]
  simp [ByteArray.size] at q ⊢
  omega
theorem pendT_ok {l : Int} (h1 : 1 ≤ l) (h2 : l ≤ 300000) : pendT l = (cT l, 0) := by
  unfold pendT
  rw [if_pos (inB_mk h1 h2)]
theorem PendulumTime_is {l t k : Int} (h : pendT l = (t, k)) (w : World) : Calls Tryd.prog 8 #[.int .i64 l] w fun e w' => e = .returned (.tuple #[.int .i64 t, .int .i64 k]) ∧ Below w.heap.size w w' := by
  refine (implPendulumTime_any l w).mono ?_
  rintro e w' ⟨rfl, m, rfl⟩
  rw [h]
  exact ⟨rfl, below_drewN (Below.refl _ _) _⟩
theorem LengthFor_is {l t k : Int} (h : lenFor l = (t, k)) (w : World) : Calls Tryd.prog 16 #[.int .i64 l] w fun e w' => e = .returned (.tuple #[.int .i64 t, .int .i64 k]) ∧ Below w.heap.size w w' := by
  refine (implLengthFor_any l w).mono ?_
  rintro e w' ⟨rfl, m, rfl⟩
  rw [h]
  exact ⟨rfl, below_drewN (Below.refl _ _) _⟩
theorem GapFor_is {m l g t r k : Int} (h : gapFor m l g t = (r, k)) (w : World) : Calls Tryd.prog 13 #[.agg #[.int .i64 m, .int .i64 l, .int .i64 g], .int .i64 t] w fun e w' => e = .returned (.tuple #[.int .i64 r, .int .i64 k]) ∧ Below w.heap.size w w' := by
  have q := implGapFor m l g t w
  rw [h] at q
  exact q
set_option maxRecDepth 100000 in
set_option maxHeartbeats 4000000 in
theorem lawFnClappers (A A' : Option Addr) (n c n' c' : Nat) (w : World) (hE : Env w) (h : ByAt w w.heap.size A n) (h' : ByAt w w.heap.size A' n') (hn : n ≤ 9223372036854775807) (hn' : n' ≤ 9223372036854775807) :
    Calls Tryd.prog 3 #[.slice A n c, .slice A' n' c'] w fun e w' => e = .returned (.bool true) ∧ Below w.heap.size w w' := by
  have HX := hide h
  have HY := hide h'
  have HE := hide hE
  clear h h' hE
  by_cases k1 : (1048576 : Int) < n
  · have q1 : decide ((1048576 : Int) < n) = true := by simp [k1]
    clear k1
    go_enter Tryd.func3, Tryd.ntmps3
    go_wp2_with (go_at_call 5; refine (lawsb10Long _ _ _ _).mono ?_; rintro e w0 ⟨rfl, rfl⟩)
    go_ret
    exact ⟨rfl, Below.refl _ _⟩
  have q1 : decide ((1048576 : Int) < n) = false := by simp; omega
  by_cases k2 : (1048576 : Int) < n'
  · have q2 : decide ((1048576 : Int) < n') = true := by simp [k2]
    clear k1 k2
    go_enter Tryd.func3, Tryd.ntmps3
    go_wp2_with (go_at_call 5; refine (lawsb10Long _ _ _ _).mono ?_; rintro e w0 ⟨rfl, rfl⟩)
    go_ret
    exact ⟨rfl, Below.refl _ _⟩
  have q2 : decide ((1048576 : Int) < n') = false := by simp; omega
  clear k1 k2
  go_enter Tryd.func3, Tryd.ntmps3
  go_wp2_with fail
  refine (lawsb10Long _ _ _ _).mono ?_
  rintro e w0 ⟨rfl, rfl⟩
  go_wp2_with fail
  refine (lawsb10Long _ _ _ _).mono ?_
  rintro e w0 ⟨rfl, rfl⟩
  clear q1
  go_wp2_with fail
  clear q2
  refine (specDrawStrikeTimes A n c _ HX.out hn).mono ?_
  rintro e w1 ⟨a0, a1, a2, f, u, rfl, hb1⟩
  have HB1 := hide hb1
  have hz1 := hb1.size
  clear hb1
  go_wp2_with fail
  refine (implStrikeTimes a0 a1 a2 f u _).mono ?_
  rintro e w2 ⟨A1, c1, xs, code, rfl, hR, hxl, ho, hb2⟩
  have HB2 := hide ((HB1.out.alloc hz1 (.cells #[.int .i64 a0, .int .i64 a1, .int .i64 a2] 25)).trans (hb2.mono (by simp; omega)))
  have HK2 := hide (show w2.heap[w1.heap.size]? = some (.cells #[.int .i64 a0, .int .i64 a1, .int .i64 a2] 25 (0, 0)) from (hb2.block w1.heap.size (by simp)).trans (heap_alloc_new w1 _))
  have HO2 := hide (Own.at_ (enc := encI) (sz := 1) (fun _ => rfl) ho)
  have HR := hide hR
  have hz2 : w1.heap.size < w2.heap.size := heap_lt HK2.out
  clear hb2 ho hR HB1
  go_upto_if 50 with fail
  go_cut [] (fun wx => Hid (Below w.heap.size w wx))
  case first =>
    by_cases hc : code = 0
    · subst hc
      obtain ⟨hv, he⟩ := strike_say HR.out
      have HV := hide hv
      obtain ⟨v1, v2, v3, v4⟩ := vClap_true hv
      have HEV := hide he
      have hct := cT_bd v2.1 v2.2
      have HPT := hide (pendT_ok (l := a1) (by omega) (by omega))
      have HRB := hide (read_back hv)
      have HTL := hide (txClapper_len hv)
      have hfu : 0 ≤ f ∧ u ≤ 1000000000 := by
        rcases HR.out with ⟨q, _⟩ | ⟨_, _, _, q⟩ | ⟨_, q1, _, q2, _⟩
        · rw [hv] at q; simp at q
        · omega
        · omega
      have k0 : w2.cell? ⟨w1.heap.size, 0, none⟩ = some (.int .i64 a0) := by simp [World.cell?, HK2.out]
      have k1 : w2.cell? ⟨w1.heap.size, 1, none⟩ = some (.int .i64 a1) := by simp [World.cell?, HK2.out]
      have k2 : w2.cell? ⟨w1.heap.size, 2, none⟩ = some (.int .i64 a2) := by simp [World.cell?, HK2.out]
      clear hv he HR v1 v2 v3 v4
      go_wp2_with fail
      refine (PendulumTime_is HPT.out _).mono ?_
      rintro e w3 ⟨rfl, hb3⟩
      have HK3 := hide ((hb3.block w1.heap.size hz2).trans HK2.out)
      have HB3 := hide (HB2.out.trans (hb3.mono (by omega)))
      have HO3 := hide (HO2.out.below hb3)
      have hz3 : w1.heap.size < w3.heap.size := heap_lt HK3.out
      have k30 : w3.cell? ⟨w1.heap.size, 0, none⟩ = some (.int .i64 a0) := by simp [World.cell?, HK3.out]
      have k31 : w3.cell? ⟨w1.heap.size, 1, none⟩ = some (.int .i64 a1) := by simp [World.cell?, HK3.out]
      have k32 : w3.cell? ⟨w1.heap.size, 2, none⟩ = some (.int .i64 a2) := by simp [World.cell?, HK3.out]
      clear hb3 HK2 HB2 HO2 HPT k0 k1 k2
      go_wp2_with fail
      refine (implClapperText a0 a1 a2 _ (HE.out.below (HB3.out)).t).mono ?_
      rintro e w4 ⟨rfl, hb4⟩
      have HK4 := hide ((hb4.block w1.heap.size hz3).trans HK3.out)
      have HB4 := hide (HB3.out.trans (hb4.mono (by omega)))
      have HO4 := hide (HO3.out.below hb4)
      have hz4 : w1.heap.size < w4.heap.size := heap_lt HK4.out
      clear hb4 HK3 HB3 HO3 k30 k31 k32
      go_wp2_with fail
      refine (implReadClapper (txClapper a0 a1 a2) _ (HE.out.below HB4.out) HTL.out).mono ?_
      rintro e w5 ⟨rfl, hb5⟩
      rw [show rvClapper (txClapper a0 a1 a2).data.toList = .agg #[.int .i64 a0, .int .i64 a1, .int .i64 a2] from by unfold rvClapper; rw [HRB.out], show rbClapper (txClapper a0 a1 a2).data.toList = true from by unfold rbClapper; rw [HRB.out]; rfl]
      have HK5 := hide ((hb5.block w1.heap.size hz4).trans HK4.out)
      have HB5 := hide (HB4.out.trans (hb5.mono (by omega)))
      have HO5 := hide (HO4.out.below hb5)
      have hz5 : w1.heap.size < w5.heap.size := heap_lt HK5.out
      have k50 : w5.cell? ⟨w1.heap.size, 0, none⟩ = some (.int .i64 a0) := by simp [World.cell?, HK5.out]
      have k51 : w5.cell? ⟨w1.heap.size, 1, none⟩ = some (.int .i64 a1) := by simp [World.cell?, HK5.out]
      have k52 : w5.cell? ⟨w1.heap.size, 2, none⟩ = some (.int .i64 a2) := by simp [World.cell?, HK5.out]
      clear hb5 HK4 HB4 HO4 HRB HTL
      go_wp2_with fail
      have HB6 := hide (HB5.out.alloc (by omega) (.cells #[.int .i64 a0, .int .i64 a1, .int .i64 a2] 25))
      have HO6 := hide (HO5.out.below (w' := w5.alloc (.cells #[.int .i64 a0, .int .i64 a1, .int .i64 a2] 25)) (by repeat (first | with_reducible exact Below.refl _ _ | with_reducible assumption | (with_reducible refine Below.drew ?_) | (with_reducible refine below_drewN ?_ _) | ((with_reducible refine Below.alloc ?_ ?_ _); rotate_left; (focus (first | omega | (simp; omega) | simp))) | ((with_reducible refine Below.setCell ?_ ?_ _); rotate_left; (focus (first | omega | (simp; omega) | simp))) | (refine Below.trans ?_ (Below.mono (by assumption) (by first | omega | (simp; omega) | simp))))))
      generalize w5.alloc (.cells #[.int .i64 a0, .int .i64 a1, .int .i64 a2] 25) = w6 at HB6 HO6 ⊢
      have hz6 := HB6.out.size
      clear HB5 HO5 HK5 k50 k51 k52
      go_loopw [14] (fun v wr => ∃ k : Nat, v = .int .i64 k ∧ k ≤ xs.length ∧ Hid (Below w6.heap.size w6 wr)) (fun v _ => xs.length - (intOf v).toNat)
      case atStart => exact ⟨0, rfl, by omega, hide (Below.refl _ _)⟩
      case round =>
        obtain ⟨k, rfl, hk, HBr⟩ := hrel
        by_cases hlt : k < xs.length
        · obtain ⟨g, off, rfl, hgl, hc⟩ := (HO6.out.below HBr.out) k hlt
          have hc0 := hc 0 _ rfl
          simp only [Nat.mul_one, Nat.add_zero] at hc0
          obtain ⟨e1, e2⟩ := HEV.out.1 k hlt
          have hlt2 : (k : Int) < (xs.length : Int) := by omega
          clear hc
          generalize hxk : xs[k] = x at *
          have hd1 : decide (x < f) = false := by simp; omega
          have hd2 : decide (u ≤ x) = false := by simp; omega
          have hgr : g < wr.heap.size := World.block_lt_of_cell? _ _ hc0
          by_cases hk0 : k = 0
          · subst hk0
            simp only [Nat.add_zero] at hc0
            clear HEV HO6 hfu hxk
            go_wp2_with fail
            refine wp_region_kept (by kernel_rfl) (by kernel_rfl) ?_
            intro gc gf gz
            repeat (go_big_quiet_step (fail))
            refine wpQuiet_nil ?_
            intro w7 hw'
            obtain ⟨⟨_, hb7⟩, rfl⟩ := hw'
            clear gc gf gz
            try dsimp only
            have fs7 := hb7.size
            try simp at fs7 hb7
            have HB7r := hide (HBr.out.trans (hb7.mono HBr.out.size))
            clear hb7 hc0 HBr
            go_wp2_with fail
            go_roundw
            case rel => exact ⟨1, by go_num, by omega, HB7r⟩
            case measure => simp [intOf]; omega
          · have hj : k - 1 < xs.length := by omega
            obtain ⟨g', off', eA, hgl', hcp⟩ := (HO6.out.below HBr.out) (k - 1) hj
            have hcp0 := hcp 0 _ rfl
            injection eA with eA; injection eA with eg eo _
            subst eg; subst eo
            simp only [Nat.mul_one, Nat.add_zero] at hcp0
            have e3 := HEV.out.2 (k - 1) (by omega)
            simp only [show k - 1 + 1 = k by omega] at e3
            rw [hxk] at e3
            obtain ⟨e4, e5⟩ := HEV.out.1 (k - 1) hj
            have hk1 : 0 ≤ (k : Int) - 1 := by omega
            have hk2 : (k : Int) - 1 < (xs.length : Int) := by omega
            have hkp : decide ((0 : Int) < k) = true := by simp; omega
            have hkq : (0 : Int) < k := by omega
            have hkr : decide (0 < k) = true := by simp; omega
            have hks : 0 < k := by omega
            generalize xs[k - 1] = y at *
            clear hcp HEV HO6 hxk
            have hd3 : decide (2 < (if 2 * (x - y) - cT a1 < 0 then -(2 * (x - y) - cT a1) else 2 * (x - y) - cT a1)) = false := by simp; split <;> omega
            generalize hcta : cT a1 = ct at *
            have hctb : 0 ≤ ct ∧ ct ≤ 1000000000 := by omega
            clear hct hcta e3
            go_wp2_with fail
            refine wp_region_kept (by kernel_rfl) (by kernel_rfl) ?_
            intro gc gf gz
            repeat (go_big_quiet_step ((go_at_call 11; exact Calls.kept_same (lawsb10Abs (2 * (x - y) - ct) _ (by omega) (by omega)))))
            refine wpQuiet_nil ?_
            intro w7 hw'
            obtain ⟨⟨_, hb7⟩, rfl⟩ := hw'
            clear gc gf gz
            try dsimp only
            have fs7 := hb7.size
            try simp at fs7 hb7
            have HB7r := hide (HBr.out.trans (hb7.mono HBr.out.size))
            clear hb7 hc0 HBr
            go_wp2_with fail
            go_roundw
            case rel => exact ⟨k + 1, by go_num, by omega, HB7r⟩
            case measure => simp [intOf]; omega
        · obtain rfl : k = xs.length := by omega
          have HBx := hide (HB6.out.trans (HBr.out.mono hz6))
          clear HB6 HO6 HBr HEV
          go_wp2_with fail
          go_meet
          exact HBx
    · have hc1 : (code == 0) = false := by simpa using hc
      clear hc
      go_wp2_with fail
      go_meet
      exact HB2
  case rest =>
    obtain ⟨w8, rfl⟩ : ∃ w8, w8 = wc := ⟨_, rfl⟩
    have HB8 := hcut
    have hz8 := HB8.out.size
    clear HX HK2 HB2 HO2 HR HE hcut
    go_wp2_with fail
    refine (specDrawGapFor A' n' c' _ ((HY.out.below HB8.out).more hz8) hn').mono ?_
    rintro e w9 ⟨g0, g1, g2, en, rfl, hb9⟩
    have HB9 := hide (HB8.out.trans (hb9.mono hz8))
    have hz9 := HB9.out.size
    clear hb9 HB8
    go_wp2_with fail
    obtain ⟨gr, gc, hgp⟩ : ∃ r c, gapFor g0 g1 g2 en = (r, c) := ⟨_, _, rfl⟩
    have hsay := gapFor_say (m := g0) (l := g1) (g := g2) (t := en)
    rw [hgp] at hsay
    have HG := hide hgp
    have HS := hide hsay
    clear hgp hsay
    refine (GapFor_is HG.out _).mono ?_
    rintro e w10 ⟨rfl, hb10⟩
    have HB10 := hide ((HB9.out.alloc hz9 (.cells #[.int .i64 g0, .int .i64 g1, .int .i64 g2] 25)).trans (hb10.mono (by simp; omega)))
    have HK10 := hide (show w10.heap[w9.heap.size]? = some (.cells #[.int .i64 g0, .int .i64 g1, .int .i64 g2] 25 (0, 0)) from (hb10.block w9.heap.size (by simp)).trans (heap_alloc_new w9 _))
    have hz10 : w9.heap.size < w10.heap.size := heap_lt HK10.out
    clear hb10 HB9
    go_upto_if 127 with fail
    go_cut [] (fun wx => Hid (Below w.heap.size w wx))
    case first =>
      rcases HS.out with ⟨c2, hq, hne⟩ | ⟨r, hq, hv, hle, hlt⟩
      · injection hq with _ hq
        have hc1 : (gc == 0) = false := by rw [hq]; simpa using hne
        clear hq hne HS HG
        go_wp2_with fail
        go_meet
        exact HB10
      · injection hq with q1 q2
        subst q1; subst q2
        have HV := hide hv
        have HLT := hide hlt
        have hle2 : decide (cEn g0 g1 gr < en) = false := by simp; omega
        have k0 : w10.cell? ⟨w9.heap.size, 0, none⟩ = some (.int .i64 g0) := by simp [World.cell?, HK10.out]
        have k1 : w10.cell? ⟨w9.heap.size, 1, none⟩ = some (.int .i64 g1) := by simp [World.cell?, HK10.out]
        have k2 : w10.cell? ⟨w9.heap.size, 2, none⟩ = some (.int .i64 g2) := by simp [World.cell?, HK10.out]
        have kf : w10.frozen? ⟨w9.heap.size, 2, none⟩ = false := by simp [World.frozen?, HK10.out]
        have hrg := (vClap_true hv).2.2
        clear HS HG hv hle hlt
        go_wp2_with fail
        refine (implEnergyOf g0 g1 gr _ HV.out).mono ?_
        rintro e w11 ⟨rfl, hb11⟩
        have HK11 := hide (show w11.heap[w9.heap.size]? = some (.cells #[.int .i64 g0, .int .i64 g1, .int .i64 gr] 25 (0, 0)) from (hb11.block w9.heap.size (by simpa [World.setCell] using hz10)).trans (by simp [World.setCell, Array.getElem?_modify, HK10.out]))
        have HB11 := hide ((HB10.out.setCell (p := ⟨w9.heap.size, 2, none⟩) hz9 (.int .i64 gr)).trans (hb11.mono (by simp [World.setCell]; omega)))
        have hz11 : w9.heap.size < w11.heap.size := heap_lt HK11.out
        clear hb11 HB10 HK10 k0 k1 k2 kf
        generalize hen : cEn g0 g1 gr = eg at *
        clear hen
        by_cases h10 : 10 < gr
        · obtain ⟨hv2, hlt2⟩ := HLT.out h10
          have HV2 := hide hv2
          have hlt3 : decide (en ≤ cEn g0 g1 (gr - 1)) = false := by simp; omega
          have k0 : w11.cell? ⟨w9.heap.size, 0, none⟩ = some (.int .i64 g0) := by simp [World.cell?, HK11.out]
          have k1 : w11.cell? ⟨w9.heap.size, 1, none⟩ = some (.int .i64 g1) := by simp [World.cell?, HK11.out]
          have k2 : w11.cell? ⟨w9.heap.size, 2, none⟩ = some (.int .i64 gr) := by simp [World.cell?, HK11.out]
          have kf : w11.frozen? ⟨w9.heap.size, 2, none⟩ = false := by simp [World.frozen?, HK11.out]
          clear hv2 hlt2 HLT
          go_wp2_with fail
          refine (implEnergyOf g0 g1 (gr - 1) _ HV2.out).mono ?_
          rintro e w12 ⟨rfl, hb12⟩
          have HB12 := hide ((HB11.out.setCell (p := ⟨w9.heap.size, 2, none⟩) hz9 (.int .i64 (gr - 1))).trans (hb12.mono (by simp [World.setCell]; omega)))
          clear hb12 HB11 HK11 k0 k1 k2 kf
          generalize cEn g0 g1 (gr - 1) = el at *
          go_wp2_with fail
          go_meet
          exact HB12
        · clear HLT
          go_wp2_with fail
          go_meet
          exact HB11
    case rest =>
      obtain ⟨v0, rfl⟩ : ∃ v0, v0 = wc := ⟨_, rfl⟩
      have HB0 := hcut
      have hz0 := HB0.out.size
      clear HK10 HB10 HS HG hcut hz10
      go_wp2_with fail
      refine (lawsb10Wide A' n' c' w.heap.size _ (HY.out.below HB0.out)).mono ?_
      rintro e v1 ⟨r, rfl, r0, r1, rfl⟩
      go_wp2_with fail
      rcases lenFor_say (t := 1 + r) (inB_mk (by omega) (by omega)) with ⟨hq, hl⟩ | ⟨l, hq, l1, l2, hl, hl2⟩
      · have HQ := hide hq
        have hl3 : decide (3475 < 1 + r) = true := by simp; omega
        clear hq
        refine (LengthFor_is HQ.out _).mono ?_
        rintro e v2 ⟨rfl, hb2⟩
        have HB2 := hide (HB0.out.trans (hb2.mono hz0))
        go_wp2_with fail
        go_ret
        exact ⟨rfl, HB2.out⟩
      · have HQ := hide hq
        have HP := hide (pendT_ok l1 l2)
        have hl3 : decide (cT l < 1 + r) = false := by simp; omega
        have HL2 := hide hl2
        clear hq hl2 hl
        refine (LengthFor_is HQ.out _).mono ?_
        rintro e v2 ⟨rfl, hb2⟩
        have HB2 := hide (HB0.out.trans (hb2.mono hz0))
        have hz2 := HB2.out.size
        clear hb2 HB0
        go_wp2_with fail
        refine (PendulumTime_is HP.out _).mono ?_
        rintro e v3 ⟨rfl, hb3⟩
        have HB3 := hide (HB2.out.trans (hb3.mono hz2))
        have hz3 := HB3.out.size
        clear hb3 HB2
        by_cases hl1 : l = 1
        · subst hl1
          go_wp2_with fail
          go_ret
          exact ⟨rfl, HB3.out⟩
        · have hl1' : (l == 1) = false := by simpa using hl1
          have HP2 := hide (pendT_ok (l := l - 1) (by omega) (by omega))
          have hl4 : decide (cT (l - 1) < 1 + r) = true := by have := HL2.out (by omega); simp; omega
          clear HL2 hl1
          go_wp2_with fail
          refine (PendulumTime_is HP2.out _).mono ?_
          rintro e v4 ⟨rfl, hb4⟩
          have HB4 := hide (HB3.out.trans (hb4.mono hz3))
          go_wp2_with fail
          go_ret
          exact ⟨rfl, HB4.out⟩
end Go.Proofs.YtobcjhbfkanakaaDoor
