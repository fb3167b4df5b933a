/- What the law of charges asks besides: choices that rise, sums, mixtures, whether a choice fits. -/
import Derived.Test.YtjklhacffdhgaaaChRI
import Derived.Test.YtjklhacffdhgaaaChQ2
namespace Go.Proofs.Ytjklhacffdhgaaa
open Go.RowKit

theorem rising_get {n : Int} : ∀ (ch : List Int) (lo : Int), Ch.rising lo n ch → ∀ (i : Nat) (h : i < ch.length), lo + i ≤ ch[i] ∧ ch[i] < n := by
  intro ch
  induction ch with
  | nil => intro lo _ i h; simp at h
  | cons x ch ih =>
    intro lo ⟨a, b, c⟩ i h
    cases i with
    | zero => simp; omega
    | succ i =>
      have := ih _ c i (by simpa using h)
      simp only [List.getElem_cons_succ]
      omega
theorem rising_lt {n : Int} : ∀ (ch : List Int) (lo : Int), Ch.rising lo n ch → ∀ (i : Nat) (h : i + 1 < ch.length), ch[i] < ch[i + 1] := by
  intro ch
  induction ch with
  | nil => intro lo _ i h; simp at h
  | cons x ch ih =>
    intro lo ⟨a, b, c⟩ i h
    cases i with
    | zero =>
      have := (rising_get ch _ c 0 (by simpa using h)).1
      simp only [List.getElem_cons_zero, List.getElem_cons_succ]
      omega
    | succ i =>
      have := ih _ c i (by simpa using h)
      simpa only [List.getElem_cons_succ] using this
theorem rising_good {n : Nat} {ch : List Int} (h : Ch.rising 0 n ch) : GoodCh n ch := fun i hi => by
  obtain ⟨k, hk, rfl⟩ := List.getElem_of_mem hi
  have := rising_get ch 0 h k hk
  omega
theorem rising_len {n : Nat} {ch : List Int} (h : Ch.rising 0 n ch) : ch.length ≤ n := by
  by_cases h0 : ch.length = 0
  · omega
  · have := rising_get ch 0 h (ch.length - 1) (by omega)
    omega
/-- The number ahead of a place. -/
def lastAt (ch : List Int) (k : Nat) : Int := if k = 0 then -1 else ch.getD (k - 1) 0
theorem lastAt_succ {ch : List Int} {k : Nat} (h : k < ch.length) : lastAt ch (k + 1) = ch[k] := by
  unfold lastAt
  rw [if_neg (by omega), List.getD_eq_getElem?_getD, Nat.add_sub_cancel, List.getElem?_eq_getElem h]
  rfl
theorem lastAt_in {n : Nat} {ch : List Int} (h : Ch.rising 0 n ch) {k : Nat} (hk : k < ch.length) : -1 ≤ lastAt ch k ∧ lastAt ch k + 1 ≤ ch[k] ∧ ch[k] ≤ (n : Int) - 1 := by
  have a := rising_get ch 0 h k hk
  unfold lastAt
  split
  · subst_vars; omega
  · rename_i h0
    have b := rising_lt ch 0 h (k - 1) (by omega)
    have c := rising_get ch 0 h (k - 1) (by omega)
    have e : ch.getD (k - 1) 0 = ch[k - 1] := by rw [List.getD_eq_getElem?_getD, List.getElem?_eq_getElem (by omega)]; rfl
    rw [e]
    have e2 : k - 1 + 1 = k := by omega
    simp only [e2] at b
    omega
set_option maxRecDepth 100000 in
theorem implisChoice (A A2 : Option Addr) (n c c2 : Nat) (ch : List Int) (w : World) (h2 : SlAt encI 1 w A2 ch) (hr : Ch.rising 0 n ch) (hn : n ≤ 16) :
    Calls Try.prog 91 #[.slice A n c, .slice A2 ch.length c2] w fun e w' => e = .returned (.bool true) ∧ w = w' := by
  have HC := hide h2
  have HR := hide hr
  have hl := rising_len hr
  clear h2 hr
  go_enter Try.func91, Try.ntmps91
  go_wp2_with fail
  go_loop [10, 5] (fun v a => ∃ (k : Nat) (l : Int), v = .int .i64 k ∧ a = .int .i64 l ∧ k ≤ ch.length ∧ Hid (l = lastAt ch k)) (fun v _ => ch.length - (intOf v).toNat)
  case atStart => exact ⟨0, -1, rfl, rfl, by omega, rfl⟩
  case round =>
    obtain ⟨k, l, rfl, rfl, hk, hl2⟩ := hrel
    by_cases hlt : k < ch.length
    · obtain ⟨b, off, rfl, hbl, hc⟩ := HC.out k hlt
      have hc0 := hc 0 _ rfl
      simp only [Nat.add_zero, Nat.mul_one] at hc0
      have hla := lastAt_in HR.out hlt
      have hls := lastAt_succ hlt
      rw [← hl2.out] at hla
      have HLS := hide hls.symm
      clear hc hls
      generalize ch[k] = x at *
      have hin : inB x (l + 1) ((n : Int) - 1) = true := inB_mk hla.2.1 hla.2.2
      obtain ⟨b1, b2, b3⟩ := hla
      go_wp2_with (first | (go_at_call 158; refine (sizeIngot _ _ _ _).mono ?_; rintro e w4 ⟨rfl, rfl⟩) | (go_at_call 122; refine (implwithin_is _ _ _ _ (by assumption) _).mono ?_; rintro e w4 ⟨rfl, rfl⟩))
      go_round
      case rel => exact ⟨k + 1, x, by go_num, rfl, by omega, HLS⟩
      case measure => simp [intOf]; omega
    · go_wp2_with fail
      go_ret
      exact ⟨rfl, rfl⟩
set_option maxRecDepth 100000 in
theorem specl00Rises (A2 : Option Addr) (n c2 : Nat) (ch : List Int) (w : World) (h2 : SlAt encI 1 w A2 ch) (hr : Ch.rising 0 n ch) (hn : n ≤ 16) :
    Calls Try.prog 155 #[.slice A2 ch.length c2, .int .i64 0, .int .i64 ((n : Int) - 1)] w fun e w' => e = .returned (.bool true) ∧ Below w.heap.size w w' := by
  have HC := hide h2
  have HR := hide hr
  have hl := rising_len hr
  clear h2 hr
  go_enter Try.func155, Try.ntmps155
  go_wp2_with fail
  go_loopw [7] (fun v wr => ∃ k : Nat, v = .int .i64 k ∧ k ≤ ch.length ∧ Hid (Below w.heap.size w wr)) (fun v _ => ch.length - (intOf v).toNat)
  case atStart => exact ⟨0, rfl, by omega, hide (Below.refl _ _)⟩
  case round =>
    obtain ⟨k, rfl, hk, HB⟩ := hrel
    by_cases hlt : k < ch.length
    · obtain ⟨b, off, rfl, hbl, hc⟩ := (HC.out.below HB.out) k hlt
      have hc0 := hc 0 _ rfl
      simp only [Nat.add_zero, Nat.mul_one] at hc0
      have hla := rising_get ch 0 HR.out k hlt
      have hin : inB ch[k] 0 ((n : Int) - 1) = true := inB_mk (by omega) (by omega)
      by_cases h0 : k = 0
      · have d0 : decide (0 < k) = false := by simp; omega
        have d1 : decide ((0 : Int) < (k : Int)) = false := by simp; omega
        generalize ch[k] = x at *
        clear hc h0
        go_wp2_with fail
        refine wp_region_kept (by kernel_rfl) (by kernel_rfl) ?_
        intro gc gf gz
        repeat (go_big_quiet_step ((go_at_call 96; exact Calls.kept_same (specl00In_is _ _ _ _ (by assumption) _))))
        refine wpQuiet_nil ?_
        intro w1 hw'
        obtain ⟨⟨_, hb1⟩, rfl⟩ := hw'
        clear gc gf gz
        try dsimp only
        have fs1 := hb1.size
        try simp at fs1 hb1
        have HB1 := hide (HB.out.trans (hb1.mono HB.out.size))
        clear hb1
        go_wp2_with fail
        go_roundw
        case rel => exact ⟨k + 1, by go_num, by omega, HB1⟩
        case measure => simp [intOf]; omega
      · obtain ⟨b2, off2, e2, -, hc2⟩ := (HC.out.below HB.out) (k - 1) (by omega)
        injection e2 with e2
        injection e2 with e3 e4
        subst e3; subst e4
        have hc1 := hc2 0 _ rfl
        simp only [Nat.add_zero, Nat.mul_one] at hc1
        have hlt2 : ch[k - 1] < ch[k] := by
          have q := rising_lt ch 0 HR.out (k - 1) (by omega)
          simpa only [show k - 1 + 1 = k by omega] using q
        have hk0 : (0 : Int) < (k : Int) := by omega
        have hge : decide (ch[k] ≤ ch[k - 1]) = false := by simp; omega
        have hk1 : IntKind.i64.wrap ((k : Int) - 1) = (k : Int) - 1 := IntWalk.i64_in _ (by omega)
        have hk2 : ((k : Int) - 1).toNat = k - 1 := by omega
        have hk3 : (0 : Int) ≤ (k : Int) - 1 := by omega
        have hk4 : (k : Int) - 1 < ch.length := by omega
        have d0 : decide ((0 : Int) < (k : Int)) = true := by simp; omega
        have d1 : decide (0 < k) = true := by simp; omega
        clear hc hc2
        generalize ch[k] = x at *
        generalize ch[k - 1] = y at *
        go_wp2_with fail
        refine wp_region_kept (by kernel_rfl) (by kernel_rfl) ?_
        intro gc gf gz
        repeat (go_big_quiet_step ((go_at_call 96; exact Calls.kept_same (specl00In_is _ _ _ _ (by assumption) _))))
        refine wpQuiet_nil ?_
        intro w1 hw'
        obtain ⟨⟨_, hb1⟩, rfl⟩ := hw'
        clear gc gf gz
        try dsimp only
        have fs1 := hb1.size
        try simp at fs1 hb1
        have HB1 := hide (HB.out.trans (hb1.mono HB.out.size))
        clear hb1 hk1 hk2
        go_wp2_with fail
        go_roundw
        case rel => exact ⟨k + 1, by go_num, by omega, HB1⟩
        case measure => simp [intOf]; omega
    · go_wp2_with fail
      go_ret
      exact ⟨rfl, HB.out⟩
theorem specl13Chosen (A A2 : Option Addr) (n c c2 : Nat) (ch : List Int) (w : World) (h2 : SlAt encI 1 w A2 ch) (hr : Ch.rising 0 n ch) (hn : n ≤ 16) :
    Calls Try.prog 87 #[.slice A n c, .slice A2 ch.length c2] w fun e w' => e = .returned (.bool true) ∧ Below w.heap.size w w' := by
  have H := hide (specl00Rises A2 n c2 ch w h2 hr hn)
  clear h2 hr
  go_enter Try.func87, Try.ntmps87
  go_wp2_with fail
  refine H.out.mono ?_
  rintro e w1 ⟨rfl, hb1⟩
  go_wp2_with fail
  go_ret
  exact ⟨rfl, hb1⟩
theorem lawsr8Same (A A' : Option Addr) (c c' : Nat) (xs : List Int) (w : World) (h : SlAt encI 1 w A xs) (h' : SlAt encI 1 w A' xs) (hn : xs.length ≤ 1048576) :
    Calls Try.prog 33 #[.slice A xs.length c, .slice A' xs.length c'] w fun e w' => e = .returned (.bool true) ∧ Below w.heap.size w w' := by
  have HX := hide h
  have HY := hide h'
  clear h h'
  go_enter Try.func33, Try.ntmps33
  go_wp2_with fail
  go_loopw [5] (fun v wr => ∃ k : Nat, v = .int .i64 k ∧ k ≤ xs.length ∧ Below w.heap.size w wr) (fun v _ => xs.length - (intOf v).toNat)
  case atStart => exact ⟨0, rfl, by omega, (by repeat (first | with_reducible exact Below.refl _ _ | with_reducible assumption | (with_reducible refine Below.drew ?_) | (with_reducible refine below_drewN ?_ _) | ((with_reducible refine Below.alloc ?_ ?_ _); rotate_left; (focus (first | omega | (simp; omega) | simp))) | ((with_reducible refine Below.setCell ?_ ?_ _); rotate_left; (focus (first | omega | (simp; omega) | simp))) | (refine Below.trans ?_ (Below.mono (by assumption) (by first | omega | (simp; omega) | simp)))))⟩
  case round =>
    obtain ⟨k, rfl, hk, hb⟩ := hrel
    by_cases hlt : k < xs.length
    · obtain ⟨b, off, rfl, hbl, hc⟩ := HX.out.below hb k hlt
      obtain ⟨b2, off2, rfl, hbl2, hd⟩ := HY.out.below hb k hlt
      have hc0 := hc 0 _ rfl
      have hd0 := hd 0 _ rfl
      simp only [Nat.add_zero, Nat.mul_one] at hc0 hd0
      have HB := hide hb
      clear hc hd hb
      generalize xs[k] = x at *
      go_wp2_with fail
      go_quiet (fail)
      go_wp2_with fail
      go_roundw
      case rel => exact ⟨k + 1, by go_num, by omega, by first | exact below_drewN HB.out _ | exact HB.out⟩
      case measure => simp [intOf]; omega
    · go_wp2_with fail
      go_ret
      exact ⟨rfl, hb⟩
set_option maxRecDepth 100000 in
theorem specl13Sum (A A2 : Option Addr) (c c2 : Nat) (xs : List IngotR) (ch : List Int) (w : World) (h : SlAt encIngot 5 w A xs) (h2 : SlAt encI 1 w A2 ch) (hv : ∀ x ∈ xs, vIngotX x = true) (hg : GoodCh xs.length ch) (hl : ch.length ≤ 16) :
    Calls Try.prog 88 #[.slice A xs.length c, .slice A2 ch.length c2] w fun e w' => e = .returned (.tuple #[.int .i64 (sumB fM xs ch), .int .i64 (sumB fT xs ch), .int .i64 (sumB fO xs ch)]) ∧ Below w.heap.size w w' := by
  have HX := hide h
  have HC := hide h2
  have HV := hide hv
  have HG := hide hg
  clear h h2 hv hg
  go_enter Try.func88, Try.ntmps88
  go_wp2_with fail
  go_loopw [10, 7, 8, 9] (fun v a b d wr => ∃ (k : Nat) (m t o : Int), v = .int .i64 k ∧ a = .int .i64 m ∧ b = .int .i64 t ∧ d = .int .i64 o ∧ k ≤ ch.length ∧ Hid (m = sumB fM xs (ch.take k)) ∧ Hid (t = sumB fT xs (ch.take k)) ∧ Hid (o = sumB fO xs (ch.take k)) ∧ Hid (Below w.heap.size w wr)) (fun v _ _ _ _ => ch.length - (intOf v).toNat)
  case atStart => exact ⟨0, 0, 0, 0, rfl, rfl, rfl, rfl, by omega, rfl, rfl, rfl, hide (Below.refl _ _)⟩
  case round =>
    obtain ⟨k, m, t, o, rfl, rfl, rfl, rfl, hk, hm, ht, ho, HB⟩ := hrel
    have hz := HB.out.size
    have hbd := sums_bd (ch := ch.take k) HV.out HG.out.take (by rw [List.length_take]; omega)
    rw [← hm.out, ← ht.out, ← ho.out] at hbd
    obtain ⟨⟨m0, m1⟩, ⟨t0, t1⟩, ⟨o0, o1⟩⟩ := hbd
    by_cases hlt : k < ch.length
    · obtain ⟨b, off, rfl, hbl, hc⟩ := (HC.out.below HB.out) k hlt
      have hc0 := hc 0 _ rfl
      simp only [Nat.add_zero, Nat.mul_one] at hc0
      have hgk := HG.out _ (List.getElem_mem hlt)
      have sm := sumB_take (f := fM) (xs := xs) hlt
      have st := sumB_take (f := fT) (xs := xs) hlt
      have so := sumB_take (f := fO) (xs := xs) hlt
      rw [← hm.out] at sm
      rw [← ht.out] at st
      rw [← ho.out] at so
      generalize ch[k] = i at *
      obtain ⟨j, rfl⟩ := Int.eq_ofNat_of_zero_le hgk.1
      have hj : j < xs.length := by omega
      have hpk : pickI xs (j : Int) = xs[j] := pickI_get hj rfl
      obtain ⟨b2, off2, rfl, hbl2, hd⟩ := (HX.out.below HB.out) j hj
      have hd0 := hd 0 _ rfl
      have hd1 := hd 1 _ rfl
      have hd2 := hd 2 _ rfl
      have hd3 := hd 3 _ rfl
      have hd4 := hd 4 _ rfl
      simp only [Nat.add_zero] at hd0
      have hvj := vIngot_true (HV.out xs[j] (List.getElem_mem hj))
      rw [hpk] at sm st so
      clear hc hd hpk hgk
      generalize xs[j] = x at *
      obtain ⟨x0, x1, x2, x3, x4⟩ := x
      simp only at hd0 hd1 hd2 hd3 hd4 hvj sm st so
      obtain ⟨⟨v1, v2⟩, -, ⟨v3, v4⟩, v5, v6⟩ := hvj
      have p1 := prod_bd (M := 20000000) (N := 1000000) (show 0 ≤ x1 by omega) v2 v3 v4
      have p2 := prod_bd (M := 20000000) (N := 1000000) (show 0 ≤ x1 by omega) v2 v5 v6
      obtain ⟨p10, p11⟩ := p1
      obtain ⟨p20, p21⟩ := p2
      have SM := hide sm.symm
      have ST := hide st.symm
      have SO := hide so.symm
      clear sm st so
      go_wp2_with fail
      go_roundw
      case rel => exact ⟨k + 1, m + x1, t + x1 * x3, o + x1 * x4, by go_num, rfl, rfl, rfl, by omega, SM, ST, SO, hide (by have hb := HB.out; exact (by repeat (first | with_reducible exact Below.refl _ _ | with_reducible assumption | (with_reducible refine Below.drew ?_) | (with_reducible refine below_drewN ?_ _) | ((with_reducible refine Below.alloc ?_ ?_ _); rotate_left; (focus (first | omega | (simp; omega) | simp))) | ((with_reducible refine Below.setCell ?_ ?_ _); rotate_left; (focus (first | omega | (simp; omega) | simp))) | (refine Below.trans ?_ (Below.mono (by assumption) (by first | omega | (simp; omega) | simp))))))⟩
      case measure => simp [intOf]; omega
    · obtain rfl : k = ch.length := by omega
      have EM : Hid (m = sumB fM xs ch) := hide (by rw [hm.out, List.take_length])
      have ET : Hid (t = sumB fT xs ch) := hide (by rw [ht.out, List.take_length])
      have EO : Hid (o = sumB fO xs ch) := hide (by rw [ho.out, List.take_length])
      clear hm ht ho
      go_wp2_with fail
      go_ret3
      exact ⟨ret_three' EM.out ET.out EO.out, HB.out⟩
set_option maxRecDepth 100000 in
theorem specMixOf_ok (A A2 : Option Addr) (c c2 : Nat) (xs : List IngotR) (ch : List Int) (w : World) (h : SlAt encIngot 5 w A xs) (h2 : SlAt encI 1 w A2 ch) (hv : rowsB vIngotR IngotR.nm 16 xs = true) (hs : ∀ x ∈ xs, x.nm.size ≤ maxLen) (hr : Ch.rising 0 xs.length ch) (hm : 1 ≤ sumB fM xs ch) :
    Calls Try.prog 31 #[.slice A xs.length c, .slice A2 ch.length c2] w fun e w' => ∃ a b d : Int, e = .returned (.tuple #[.agg #[.int .i64 a, .int .i64 b, .int .i64 d], .int .i64 (sumB fM xs ch), .int .i64 0]) ∧ Below w.heap.size w w' := by
  obtain ⟨rv, rl⟩ := rowsB_ok hv
  have hl := rising_len hr
  have hpos : ch.length ≠ 0 := fun e => by
    have : ch = [] := List.eq_nil_of_length_eq_zero e
    subst this
    simp [sumB] at hm
  have hp1 : ((ch.length : Int) == 0) = false := by simpa using hpos
  obtain ⟨⟨m0, m1⟩, ⟨t0, t1⟩, o0, o1⟩ := sums_bd rv (rising_good hr) (by omega)
  have HX := hide (h.below ((Below.refl _ _).alloc (Nat.le_refl _) (.cells #[.int .i64 0, .int .i64 0, .int .i64 0] 45)))
  have HC := hide (h2.below ((Below.refl _ _).alloc (Nat.le_refl _) (.cells #[.int .i64 0, .int .i64 0, .int .i64 0] 45)))
  have HS := hide hs
  have HR := hide hr
  have HV := hide hv
  have HRV := hide rv
  clear h h2 hs hr rv
  go_enter Try.func31, Try.ntmps31
  go_wp2_with fail
  refine (specl13Ok A c xs _ HX.out (by omega) HS.out).mono ?_
  rintro e w1 ⟨rfl, hb1⟩
  have HB1 := hide hb1
  clear hb1
  rw [HV.out]
  go_wp2_with fail
  refine (specl13Chosen A A2 xs.length c c2 ch _ (HC.out.below HB1.out) HR.out rl).mono ?_
  rintro e w2 ⟨rfl, hb2⟩
  have HB2 := hide (HB1.out.trans (hb2.mono HB1.out.size))
  clear hb2
  go_wp2_with fail
  refine (specl13Sum A A2 c c2 xs ch _ (HX.out.below HB2.out) (HC.out.below HB2.out) HRV.out (rising_good HR.out) (by omega)).mono ?_
  rintro e w3 ⟨rfl, hb3⟩
  have hb := HB2.out.trans (hb3.mono HB2.out.size)
  have r0 := hb.cell (p := ⟨w.heap.size, 0, none⟩) (by simp)
  have r1 := hb.cell (p := ⟨w.heap.size, 1, none⟩) (by simp)
  have r2 := hb.cell (p := ⟨w.heap.size, 2, none⟩) (by simp)
  have y0 := hb.frozen (p := ⟨w.heap.size, 0, none⟩) (by simp)
  have y1 := hb.frozen (p := ⟨w.heap.size, 1, none⟩) (by simp)
  have y2 := hb.frozen (p := ⟨w.heap.size, 2, none⟩) (by simp)
  simp at r0 r1 r2 y0 y1 y2
  have hz : w.heap.size < w3.heap.size := by have := hb.size; simp at this; omega
  have HB := hide (show Below w.heap.size w w3 from ((Below.refl _ _).alloc (Nat.le_refl _) _).trans (hb.mono (by simp)))
  clear hb3 hb HB1 HB2 HC HX HR HRV HS
  generalize hme : sumB fM xs ch = m at *
  have HM := hide hme
  clear hme
  generalize sumB fT xs ch = t at *
  generalize sumB fO xs ch = o at *
  have hm0 : m ≠ 0 := by omega
  have hq1 : 0 ≤ t / m := Int.ediv_nonneg t0 m0
  have hq2 : 0 ≤ o / m := Int.ediv_nonneg o0 m0
  have hq3 : t / m ≤ t := Int.ediv_le_self _ t0
  have hq4 : o / m ≤ o := Int.ediv_le_self _ o0
  have k0 : IntKind.i64.wrap (t / m) = t / m := IntWalk.i64_in _ (by omega)
  have k1 : IntKind.i64.wrap (o / m) = o / m := IntWalk.i64_in _ (by omega)
  have k2 : IntKind.i64.wrap (1000000 - t / m) = 1000000 - t / m := IntWalk.i64_in _ (by omega)
  have k3 : IntKind.i64.wrap (1000000 - t / m - o / m) = 1000000 - t / m - o / m := IntWalk.i64_in _ (by omega)
  go_wp2_with fail
  go_region
  go_wp2_with fail
  refine bodyPost_ret (v := .tuple #[.agg #[.int .i64 (1000000 - t / m - o / m), .int .i64 (t / m), .int .i64 (o / m)], .int .i64 m, .int .i64 0]) (by simp [results, Try.results31, go_sem, r0, r1, r2, hz]) rfl ⟨_, _, _, by rw [HM.out], ?_⟩
  have hb := HB.out
  exact (by repeat (first | with_reducible exact Below.refl _ _ | with_reducible assumption | (with_reducible refine Below.drew ?_) | (with_reducible refine below_drewN ?_ _) | ((with_reducible refine Below.alloc ?_ ?_ _); rotate_left; (focus (first | omega | (simp; omega) | simp))) | ((with_reducible refine Below.setCell ?_ ?_ _); rotate_left; (focus (first | omega | (simp; omega) | simp))) | (refine Below.trans ?_ (Below.mono (by assumption) (by first | omega | (simp; omega) | simp)))))
end Go.Proofs.Ytjklhacffdhgaaa
