/- The walk of laws.FnSway out of contracts (printed by gensway.py). -/
import Derived.Test.YtjklhacffdhgaaaDrawSw
import Derived.Test.YtjklhacffdhgaaaSwLaw
namespace Go.Proofs.Ytjklhacffdhgaaa
open Go.RowKit

theorem ByAt.more {w : World} {B B' : Nat} {A : Option Addr} {n : Nat} (h : ByAt w B A n) (hB : B ≤ B') : ByAt w B' A n := fun k hk => by
  obtain ⟨b, off, x, e, hl, hc⟩ := h k hk
  exact ⟨b, off, x, e, by omega, hc⟩
theorem lawsb10Long (A : Option Addr) (n c : Nat) (w : World) : Calls Try.prog 44 #[.slice A n c] w fun e w' => e = .returned (.bool (decide ((1048576 : Int) < n))) ∧ w = w' := by
  by_cases h : (1048576 : Int) < n
  all_goals
    go_enter Try.func44, Try.ntmps44
    go_wp2
    go_ret
    exact ⟨by simp [*], rfl⟩
theorem implAmplitudeOf_ok {nm bell : ByteArray} {sw dp sf lim rate force : Int} (w : World) (hs : nm.size ≤ maxLen) (hs' : bell.size ≤ maxLen) (h : vTower nm sw dp sf lim = true) (h' : vSwing bell rate force = true) :
    Calls Try.prog 52 #[.agg #[.string nm, .int .i64 sw, .int .i64 dp, .int .i64 sf, .int .i64 lim], .agg #[.string bell, .int .i64 rate, .int .i64 force]] w fun e w' =>
    e = .returned (.tuple #[.int .i64 (amp sw dp sf rate force), .int .i64 0]) ∧ Below w.heap.size w w' := by
  have q := implAmplitudeOf nm bell sw dp sf lim rate force w hs hs'
  have e : ampOf nm bell sw dp sf lim rate force = (amp sw dp sf rate force, 0) := by unfold ampOf; simp [h, h']
  rw [e] at q
  exact q
theorem implIsPermitted_ok {nm : ByteArray} {sw dp sf lim : Int} {A : Option Addr} {c : Nat} {xs : List SwingR} {S : Int} (w : World) (hs : nm.size ≤ maxLen) (h : SlAt encSwing 3 w A xs) (hn : xs.length ≤ 1048576) (hx : ∀ x ∈ xs, x.nm.size ≤ maxLen) (e : totR nm sw dp sf lim xs = (S, 0)) :
    Calls Try.prog 47 #[.agg #[.string nm, .int .i64 sw, .int .i64 dp, .int .i64 sf, .int .i64 lim], .slice A xs.length c] w fun e w' => e = .returned (.bool (decide (S ≤ lim))) ∧ Below w.heap.size w w' := by
  have q := implIsPermitted nm sw dp sf lim A c xs w hs h hn hx
  rw [e] at q
  simpa using q
set_option maxRecDepth 100000 in
set_option maxHeartbeats 4000000 in
theorem lawFnSway (A A' : Option Addr) (n c n' c' : Nat) (w : World) (h : ByAt w w.heap.size A n) (h' : ByAt w w.heap.size A' n') (hn : n ≤ 9223372036854775807) (hn' : n' ≤ 9223372036854775807) :
    Calls Try.prog 10 #[.slice A n c, .slice A' n' c'] w fun e w' => e = .returned (.bool true) ∧ Below w.heap.size w w' := by
  have HX := hide h
  have HY := hide h'
  clear h h'
  by_cases k1 : (1048576 : Int) < n
  · have q1 : decide ((1048576 : Int) < n) = true := by simp [k1]
    clear k1
    go_enter Try.func10, Try.ntmps10
    go_wp2_with (go_at_call 44; refine (lawsb10Long _ _ _ _).mono ?_; rintro e w0 ⟨rfl, rfl⟩)
    go_ret
    exact ⟨rfl, Below.refl _ _⟩
  have q1 : decide ((1048576 : Int) < n) = false := by simp; omega
  by_cases k2 : (1048576 : Int) < n'
  · have q2 : decide ((1048576 : Int) < n') = true := by simp [k2]
    clear k1 k2
    go_enter Try.func10, Try.ntmps10
    go_wp2_with (go_at_call 44; refine (lawsb10Long _ _ _ _).mono ?_; rintro e w0 ⟨rfl, rfl⟩)
    go_ret
    exact ⟨rfl, Below.refl _ _⟩
  have q2 : decide ((1048576 : Int) < n') = false := by simp; omega
  clear k1 k2
  go_enter Try.func10, Try.ntmps10
  go_wp2_with fail
  refine (lawsb10Long _ _ _ _).mono ?_
  rintro e w0 ⟨rfl, rfl⟩
  go_wp2_with fail
  refine (lawsb10Long _ _ _ _).mono ?_
  rintro e w0 ⟨rfl, rfl⟩
  clear q1
  go_wp2_with fail
  clear q2
  refine (specDrawTotalSway A n c _ HX.out hn).mono ?_
  rintro e w1 ⟨nm, a1, a2, a3, a4, A1, c1, xs, rfl, hnm, hA, hxl, hsm, hb1⟩
  have hsn : nm.size ≤ maxLen := by unfold maxLen; omega
  have hx8 : xs.length ≤ 1048576 := by omega
  have HSZ := hide (show ∀ x ∈ xs, x.nm.size ≤ maxLen from fun x hx => by have := hsm x hx; unfold maxLen; omega)
  have HB1 := hide hb1
  have HA := hide (hA.below (w' := w1.alloc (.cells #[.string nm, .int .i64 a1, .int .i64 a2, .int .i64 a3, .int .i64 a4] 56)) (by repeat (first | with_reducible exact Below.refl _ _ | with_reducible assumption | (with_reducible refine Below.drew ?_) | (with_reducible refine below_drewN ?_ _) | ((with_reducible refine Below.alloc ?_ ?_ _); rotate_left; (focus (first | omega | (simp; omega) | simp))) | ((with_reducible refine Below.setCell ?_ ?_ _); rotate_left; (focus (first | omega | (simp; omega) | simp))) | (refine Below.trans ?_ (Below.mono (by assumption) (by first | omega | (simp; omega) | simp))))))
  have hz1 := hb1.size
  clear hA hsm hb1
  go_wp2_with fail
  refine (implTotalSway nm a1 a2 a3 a4 A1 c1 xs _ hsn HA.out hx8 HSZ.out).mono ?_
  rintro e w2 ⟨rfl, hb2⟩
  have HB2 := hide hb2
  have b0 : w2.cell? ⟨w1.heap.size, 0, none⟩ = some (.string nm) := (hb2.cell (p := ⟨w1.heap.size, 0, none⟩) (by simp)).trans (by first | assumption | simp | go_simp)
  have b1 : w2.cell? ⟨w1.heap.size, 1, none⟩ = some (.int .i64 a1) := (hb2.cell (p := ⟨w1.heap.size, 1, none⟩) (by simp)).trans (by first | assumption | simp | go_simp)
  have b2 : w2.cell? ⟨w1.heap.size, 2, none⟩ = some (.int .i64 a2) := (hb2.cell (p := ⟨w1.heap.size, 2, none⟩) (by simp)).trans (by first | assumption | simp | go_simp)
  have b3 : w2.cell? ⟨w1.heap.size, 3, none⟩ = some (.int .i64 a3) := (hb2.cell (p := ⟨w1.heap.size, 3, none⟩) (by simp)).trans (by first | assumption | simp | go_simp)
  have b4 : w2.cell? ⟨w1.heap.size, 4, none⟩ = some (.int .i64 a4) := (hb2.cell (p := ⟨w1.heap.size, 4, none⟩) (by simp)).trans (by first | assumption | simp | go_simp)
  have hz2 : w1.heap.size < w2.heap.size := by have := hb2.size; simp at this; omega
  have HW2 := hide (show Below w.heap.size w w2 from (HB1.out.alloc hz1 _).trans (hb2.mono (by simp; omega)))
  have HA2 := hide (HA.out.below hb2)
  clear hb2
  by_cases h0 : (totR nm a1 a2 a3 a4 xs).2 = 0
  · obtain ⟨hv, hr, he⟩ := totR_says h0
    have HST := hide (fun h' => totR_stiff (nm := nm) (sw := a1) (dp := a2) (sf := a3) (lim := a4) (xs := xs) h0 h')
    rw [he]
    have HE := hide he
    have HV := hide hv
    obtain ⟨-, ⟨s1, s2⟩, ⟨s3, s4⟩, ⟨s5, s6⟩, -⟩ := vTower_true _ _ _ _ _ hv
    obtain ⟨r1, r2, -⟩ := rowsB_true hr
    have HVX := hide r1
    have HAV := hide (amps_val (sf := a3) s1 s2 s3 s4 s5 r1)
    have hal := amps_len a1 a2 a3 xs
    have hal' : (amps a1 a2 a3 xs).length ≤ 1000 := by omega
    have HAL := hide hal
    clear h0 he hv hr r1 hal
    go_wp2_with fail
    clear b0 b1 b2 b3 b4
    go_loopw [10, 9] (fun v t wr => ∃ (k : Nat) (s : Int), v = .int .i64 k ∧ t = .int .i64 s ∧ k ≤ xs.length ∧ Hid (s = sumI ((amps a1 a2 a3 xs).take k)) ∧ Hid (Below w2.heap.size w2 wr)) (fun v _ _ => xs.length - (intOf v).toNat)
    case atStart => exact ⟨0, _, rfl, rfl, by omega, by simp [Hid, sumI], hide (Below.refl _ _)⟩
    case round =>
      obtain ⟨k, s, rfl, rfl, hk, hs, HBr⟩ := hrel
      have hzr := HBr.out.size
      have hzr1 : w1.heap.size < wr.heap.size := by omega
      have HB2r := hide (HB2.out.trans (HBr.out.mono (by simp; omega)))
      have d0 : wr.cell? ⟨w1.heap.size, 0, none⟩ = some (.string nm) := (HB2r.out.cell (p := ⟨w1.heap.size, 0, none⟩) (by simp)).trans (by first | assumption | simp | go_simp)
      have d1 : wr.cell? ⟨w1.heap.size, 1, none⟩ = some (.int .i64 a1) := (HB2r.out.cell (p := ⟨w1.heap.size, 1, none⟩) (by simp)).trans (by first | assumption | simp | go_simp)
      have d2 : wr.cell? ⟨w1.heap.size, 2, none⟩ = some (.int .i64 a2) := (HB2r.out.cell (p := ⟨w1.heap.size, 2, none⟩) (by simp)).trans (by first | assumption | simp | go_simp)
      have d3 : wr.cell? ⟨w1.heap.size, 3, none⟩ = some (.int .i64 a3) := (HB2r.out.cell (p := ⟨w1.heap.size, 3, none⟩) (by simp)).trans (by first | assumption | simp | go_simp)
      have d4 : wr.cell? ⟨w1.heap.size, 4, none⟩ = some (.int .i64 a4) := (HB2r.out.cell (p := ⟨w1.heap.size, 4, none⟩) (by simp)).trans (by first | assumption | simp | go_simp)
      by_cases hlt : k < xs.length
      · obtain ⟨g, off, rfl, hgl, hc⟩ := (HA2.out.below HBr.out) k hlt
        have hc0 := hc 0 _ rfl
        have hc1 := hc 1 _ rfl
        have hc2 := hc 2 _ rfl
        simp only [Nat.add_zero] at hc0
        have HVk := hide (HVX.out xs[k] (List.getElem_mem hlt))
        have HSk := hide (HSZ.out xs[k] (List.getElem_mem hlt))
        have hlt2 : k < (amps a1 a2 a3 xs).length := by rw [HAL.out]; exact hlt
        have hs2 := sumI_take hlt2
        have hak : (amps a1 a2 a3 xs)[k] = amp a1 a2 a3 xs[k].rate xs[k].force := by simp [amps]
        have hav := HAV.out _ (List.getElem_mem hlt2)
        have hb1' := sumI_take_bd k HAV.out hal' (by omega)
        rw [← hs.out] at hb1' hs2
        rw [hak] at hs2 hav
        have HS2 := hide hs2
        clear hc hs2 hak hlt2
        generalize hx : xs[k] = x at *
        clear hx
        obtain ⟨x0, x1, x2⟩ := x
        simp only at hc0 hc1 hc2
        have HS3 : Hid (s + amp a1 a2 a3 x1 x2 = sumI ((amps a1 a2 a3 xs).take (k + 1))) := hide HS2.out.symm
        have hav0 : 0 ≤ amp a1 a2 a3 x1 x2 := hav.1
        have hav1 : amp a1 a2 a3 x1 x2 ≤ 1000000000000 := hav.2
        clear HS2 hav
        generalize hamp : amp a1 a2 a3 x1 x2 = am at *
        have HAM := hide hamp
        clear hamp
        go_wp2_with fail
        refine wp_region_kept (by kernel_rfl) (by kernel_rfl) ?_
        intro gc gf gz
        repeat (go_big_quiet_step ((go_at_call 52; exact Calls.kept ((HAM.out ▸ implAmplitudeOf_ok (sw := a1) (dp := a2) (sf := a3) (rate := x1) (force := x2) _ hsn HSk.out HV.out HVk.out)))))
        refine wpQuiet_nil ?_
        intro w1 hw'
        obtain ⟨⟨_, hb1⟩, rfl⟩ := hw'
        clear gc gf gz
        try dsimp only
        have fs1 := hb1.size
        try simp at fs1 hb1
        have HB1r := hide (HBr.out.trans (hb1.mono hzr))
        clear hb1
        go_wp2_with fail
        go_roundw
        case rel => exact ⟨k + 1, s + am, by go_num, rfl, by omega, HS3, HB1r⟩
        case measure => simp [intOf]; omega
      · obtain rfl : k = xs.length := by omega
        have hs' : s = sumI (amps a1 a2 a3 xs) := by rw [hs.out, List.take_of_length_le (by rw [HAL.out]; exact Nat.le_refl _)]
        subst hs'
        generalize hS : sumI (amps a1 a2 a3 xs) = S at *
        clear hS
        have HWr := hide (HW2.out.trans (HBr.out.mono (by omega)))
        have HAr := hide (HA2.out.below HBr.out)
        clear HA HA2 HB2r HB2 HBr HVX HAV HAL hs
        go_wp2_with fail
        refine (implTotalSway nm a1 a2 (a3 * 2) a4 A1 c1 xs _ hsn (HAr.out.below (by repeat (first | with_reducible exact Below.refl _ _ | with_reducible assumption | (with_reducible refine Below.drew ?_) | (with_reducible refine below_drewN ?_ _) | ((with_reducible refine Below.alloc ?_ ?_ _); rotate_left; (focus (first | omega | (simp; omega) | simp))) | ((with_reducible refine Below.setCell ?_ ?_ _); rotate_left; (focus (first | omega | (simp; omega) | simp))) | (refine Below.trans ?_ (Below.mono (by assumption) (by first | omega | (simp; omega) | simp)))))) hx8 HSZ.out).mono ?_
        rintro e w3 ⟨rfl, hb3⟩
        have HB3 := hide ((HWr.out.trans (show Below w.heap.size wr _ from (by repeat (first | with_reducible exact Below.refl _ _ | with_reducible assumption | (with_reducible refine Below.drew ?_) | (with_reducible refine below_drewN ?_ _) | ((with_reducible refine Below.alloc ?_ ?_ _); rotate_left; (focus (first | omega | (simp; omega) | simp))) | ((with_reducible refine Below.setCell ?_ ?_ _); rotate_left; (focus (first | omega | (simp; omega) | simp))) | (refine Below.trans ?_ (Below.mono (by assumption) (by first | omega | (simp; omega) | simp))))))).trans (hb3.mono (by simp; omega)))
        have b0 : w3.cell? ⟨w1.heap.size, 0, none⟩ = some (.string nm) := (hb3.cell (p := ⟨w1.heap.size, 0, none⟩) (by simp; omega)).trans (by go_simp)
        have b1 : w3.cell? ⟨w1.heap.size, 1, none⟩ = some (.int .i64 a1) := (hb3.cell (p := ⟨w1.heap.size, 1, none⟩) (by simp; omega)).trans (by go_simp)
        have b2 : w3.cell? ⟨w1.heap.size, 2, none⟩ = some (.int .i64 a2) := (hb3.cell (p := ⟨w1.heap.size, 2, none⟩) (by simp; omega)).trans (by go_simp)
        have b3 : w3.cell? ⟨w1.heap.size, 3, none⟩ = some (.int .i64 a3) := (hb3.cell (p := ⟨w1.heap.size, 3, none⟩) (by simp; omega)).trans (by go_simp)
        have b4 : w3.cell? ⟨w1.heap.size, 4, none⟩ = some (.int .i64 a4) := (hb3.cell (p := ⟨w1.heap.size, 4, none⟩) (by simp; omega)).trans (by go_simp)
        have hz3 : w1.heap.size < w3.heap.size := by have := hb3.size; simp at this; omega
        have HA3 := hide (HAr.out.below ((show Below wr.heap.size wr _ from (by repeat (first | with_reducible exact Below.refl _ _ | with_reducible assumption | (with_reducible refine Below.drew ?_) | (with_reducible refine below_drewN ?_ _) | ((with_reducible refine Below.alloc ?_ ?_ _); rotate_left; (focus (first | omega | (simp; omega) | simp))) | ((with_reducible refine Below.setCell ?_ ?_ _); rotate_left; (focus (first | omega | (simp; omega) | simp))) | (refine Below.trans ?_ (Below.mono (by assumption) (by first | omega | (simp; omega) | simp)))))).trans (hb3.mono (by simp))))
        clear hb3 HWr HAr HW2 d0 d1 d2 d3 d4
        have HT := hide (show (totR nm a1 a2 (a3 * 2) a4 xs).2 = 0 → (totR nm a1 a2 (a3 * 2) a4 xs).1 ≤ S from fun q => by have := HST.out q; rw [HE.out] at this; exact this)
        clear HST
        generalize totR nm a1 a2 (a3 * 2) a4 xs = p3 at *
        obtain ⟨l3, t3⟩ := p3
        simp only at HT
        by_cases ht : t3 = 0
        · subst ht
          have hl3 : decide (S < l3) = false := by have := HT.out rfl; simp; omega
          clear HT
          go_wp2_with fail
          refine wp_region_kept (by kernel_rfl) (by kernel_rfl) ?_
          intro gc gf gz
          repeat (go_big_quiet_step ((go_at_call 47; exact Calls.kept (implIsPermitted_ok (S := S) _ hsn (HA3.out.below (Kept.h _)) hx8 HSZ.out HE.out))))
          refine wpQuiet_nil ?_
          intro w4 hw'
          obtain ⟨⟨_, hb4⟩, rfl⟩ := hw'
          clear gc gf gz
          try dsimp only
          have fs4 := hb4.size
          try simp at fs4 hb4
          have HB4 := hide (HB3.out.trans (hb4.mono (by omega)))
          clear hb4 b0 b1 b2 b3 b4
          have HBw := hide (HB4.out)
          go_wp2_with fail
          refine (specDrawSafeRate A' n' c' _ ((HY.out.below HBw.out).more HBw.out.size) hn').mono ?_
          rintro e v6 ⟨nm, a1, a2, a3, a4, bell, rt, fo, aw, rfl, hnm, hbell, hb6⟩
          have hsn : nm.size ≤ maxLen := by unfold maxLen; omega
          have hsb : bell.size ≤ maxLen := by unfold maxLen; omega
          have HB6 := hide (HBw.out.trans (hb6.mono HBw.out.size))
          have hz6 := HB6.out.size
          clear hb6 HBw
          go_wp2_with fail
          refine (implSafeRate nm bell a1 a2 a3 a4 rt fo aw _ hsn hsb).mono ?_
          rintro e v7 ⟨rfl, hb7⟩
          have HB7 := hide ((((HB6.out.alloc hz6 (.cells #[.string nm, .int .i64 a1, .int .i64 a2, .int .i64 a3, .int .i64 a4] 56)).alloc (by simp; omega) (.cells #[.string bell, .int .i64 rt, .int .i64 fo] 77))).trans (hb7.mono (by simp; omega)))
          have c7_00 : v7.cell? ⟨v6.heap.size, 0, none⟩ = some (.string nm) := (hb7.cell (p := ⟨v6.heap.size, 0, none⟩) (by first | (simp; done) | (simp; omega))).trans (by simp)
          have c7_01 : v7.cell? ⟨v6.heap.size, 1, none⟩ = some (.int .i64 a1) := (hb7.cell (p := ⟨v6.heap.size, 1, none⟩) (by first | (simp; done) | (simp; omega))).trans (by simp)
          have c7_02 : v7.cell? ⟨v6.heap.size, 2, none⟩ = some (.int .i64 a2) := (hb7.cell (p := ⟨v6.heap.size, 2, none⟩) (by first | (simp; done) | (simp; omega))).trans (by simp)
          have c7_03 : v7.cell? ⟨v6.heap.size, 3, none⟩ = some (.int .i64 a3) := (hb7.cell (p := ⟨v6.heap.size, 3, none⟩) (by first | (simp; done) | (simp; omega))).trans (by simp)
          have c7_04 : v7.cell? ⟨v6.heap.size, 4, none⟩ = some (.int .i64 a4) := (hb7.cell (p := ⟨v6.heap.size, 4, none⟩) (by first | (simp; done) | (simp; omega))).trans (by simp)
          have c7_10 : v7.cell? ⟨v6.heap.size + 1, 0, none⟩ = some (.string bell) := (hb7.cell (p := ⟨v6.heap.size + 1, 0, none⟩) (by first | (simp; done) | (simp; omega))).trans (by simp)
          have c7_11 : v7.cell? ⟨v6.heap.size + 1, 1, none⟩ = some (.int .i64 rt) := (hb7.cell (p := ⟨v6.heap.size + 1, 1, none⟩) (by first | (simp; done) | (simp; omega))).trans (by simp)
          have c7_12 : v7.cell? ⟨v6.heap.size + 1, 2, none⟩ = some (.int .i64 fo) := (hb7.cell (p := ⟨v6.heap.size + 1, 2, none⟩) (by first | (simp; done) | (simp; omega))).trans (by simp)
          have z7 : v6.heap.size + 1 < v7.heap.size := by have := hb7.size; simp at this; omega
          have z7a : v6.heap.size < v7.heap.size := by omega
          have z7w : w.heap.size ≤ v7.heap.size := by omega
          clear hb7 HB6
          rcases safeOf_says (nm := nm) (bell := bell) (sw := a1) (dp := a2) (sf := a3) (lim := a4) (rate := rt) (force := fo) (away := aw) with ⟨g2, g1⟩ | ⟨r, a, b, ge, ga, gl, gb, gx⟩
          · generalize safeOf nm bell a1 a2 a3 a4 rt fo aw = p at *
            obtain ⟨p1, p2⟩ := p
            simp only at g1 g2
            subst g1
            have g3 : (p2 == 0) = false := by simpa using g2
            have g4 : (p2 != 0) = true := by simpa using g2
            clear g2
            go_wp2_with fail
            go_ret
            exact ⟨rfl, HB7.out⟩
          · rw [ge]
            have GA := hide ga
            have GB := hide gb
            have GX := hide gx
            clear ge ga gb gx
            go_wp2_with fail
            refine (implAmplitudeOf nm bell a1 a2 a3 a4 r fo _ hsn hsb).mono ?_
            rintro e v8 ⟨rfl, hb8⟩
            rw [GA.out]
            have c8_00 : v8.cell? ⟨v6.heap.size, 0, none⟩ = some (.string nm) := (hb8.cell (p := ⟨v6.heap.size, 0, none⟩) (by simp; omega)).trans (by go_simp)
            have c8_01 : v8.cell? ⟨v6.heap.size, 1, none⟩ = some (.int .i64 a1) := (hb8.cell (p := ⟨v6.heap.size, 1, none⟩) (by simp; omega)).trans (by go_simp)
            have c8_02 : v8.cell? ⟨v6.heap.size, 2, none⟩ = some (.int .i64 a2) := (hb8.cell (p := ⟨v6.heap.size, 2, none⟩) (by simp; omega)).trans (by go_simp)
            have c8_03 : v8.cell? ⟨v6.heap.size, 3, none⟩ = some (.int .i64 a3) := (hb8.cell (p := ⟨v6.heap.size, 3, none⟩) (by simp; omega)).trans (by go_simp)
            have c8_04 : v8.cell? ⟨v6.heap.size, 4, none⟩ = some (.int .i64 a4) := (hb8.cell (p := ⟨v6.heap.size, 4, none⟩) (by simp; omega)).trans (by go_simp)
            have c8_10 : v8.cell? ⟨v6.heap.size + 1, 0, none⟩ = some (.string bell) := (hb8.cell (p := ⟨v6.heap.size + 1, 0, none⟩) (by simp; omega)).trans (by go_simp)
            have c8_11 : v8.cell? ⟨v6.heap.size + 1, 1, none⟩ = some (.int .i64 rt) := (hb8.cell (p := ⟨v6.heap.size + 1, 1, none⟩) (by simp; omega)).trans (by go_simp)
            have c8_12 : v8.cell? ⟨v6.heap.size + 1, 2, none⟩ = some (.int .i64 fo) := (hb8.cell (p := ⟨v6.heap.size + 1, 2, none⟩) (by simp; omega)).trans (by go_simp)
            have z8 : v7.heap.size < v8.heap.size := by have := hb8.size; simp at this; omega
            clear c7_00 c7_01 c7_02 c7_03 c7_04 c7_10 c7_11 c7_12
            have HB8 := hide ((HB7.out.alloc (by omega) (.cells #[.string bell, .int .i64 r, .int .i64 fo] 77)).trans (hb8.mono (by simp; omega)))
            clear hb8 HB7
            go_wp2_with fail
            refine (implAmplitudeOf nm bell a1 a2 a3 a4 rt fo _ hsn hsb).mono ?_
            rintro e v9 ⟨rfl, hb9⟩
            rw [GB.out]
            have c9_00 : v9.cell? ⟨v6.heap.size, 0, none⟩ = some (.string nm) := (hb9.cell (p := ⟨v6.heap.size, 0, none⟩) (by simp; omega)).trans (by go_simp)
            have c9_01 : v9.cell? ⟨v6.heap.size, 1, none⟩ = some (.int .i64 a1) := (hb9.cell (p := ⟨v6.heap.size, 1, none⟩) (by simp; omega)).trans (by go_simp)
            have c9_02 : v9.cell? ⟨v6.heap.size, 2, none⟩ = some (.int .i64 a2) := (hb9.cell (p := ⟨v6.heap.size, 2, none⟩) (by simp; omega)).trans (by go_simp)
            have c9_03 : v9.cell? ⟨v6.heap.size, 3, none⟩ = some (.int .i64 a3) := (hb9.cell (p := ⟨v6.heap.size, 3, none⟩) (by simp; omega)).trans (by go_simp)
            have c9_04 : v9.cell? ⟨v6.heap.size, 4, none⟩ = some (.int .i64 a4) := (hb9.cell (p := ⟨v6.heap.size, 4, none⟩) (by simp; omega)).trans (by go_simp)
            have c9_10 : v9.cell? ⟨v6.heap.size + 1, 0, none⟩ = some (.string bell) := (hb9.cell (p := ⟨v6.heap.size + 1, 0, none⟩) (by simp; omega)).trans (by go_simp)
            have c9_11 : v9.cell? ⟨v6.heap.size + 1, 1, none⟩ = some (.int .i64 rt) := (hb9.cell (p := ⟨v6.heap.size + 1, 1, none⟩) (by simp; omega)).trans (by go_simp)
            have c9_12 : v9.cell? ⟨v6.heap.size + 1, 2, none⟩ = some (.int .i64 fo) := (hb9.cell (p := ⟨v6.heap.size + 1, 2, none⟩) (by simp; omega)).trans (by go_simp)
            clear c8_00 c8_01 c8_02 c8_03 c8_04 c8_10 c8_11 c8_12
            have HB9 := hide (HB8.out.trans (hb9.mono (by omega)))
            clear hb9 HB8
            rcases GX.out with gx | gx
            · have d1 : decide (aw < b) = true := by simp [gx]
              go_wp2_with fail
              go_ret
              exact ⟨rfl, HB9.out⟩
            · subst gx
              by_cases d0 : aw < b
              · go_wp2_with fail
                go_ret
                exact ⟨rfl, HB9.out⟩
              · have d1 : decide (aw < b) = false := by simp; omega
                go_wp2_with fail
                go_ret
                exact ⟨rfl, HB9.out⟩
        · have ht2 : (t3 == 0) = false := by simpa using ht
          clear HT ht
          go_wp2_with fail
          refine wp_region_kept (by kernel_rfl) (by kernel_rfl) ?_
          intro gc gf gz
          repeat (go_big_quiet_step ((go_at_call 47; exact Calls.kept (implIsPermitted_ok (S := S) _ hsn (HA3.out.below (Kept.h _)) hx8 HSZ.out HE.out))))
          refine wpQuiet_nil ?_
          intro w4 hw'
          obtain ⟨⟨_, hb4⟩, rfl⟩ := hw'
          clear gc gf gz
          try dsimp only
          have fs4 := hb4.size
          try simp at fs4 hb4
          have HB4 := hide (HB3.out.trans (hb4.mono (by omega)))
          clear hb4 b0 b1 b2 b3 b4
          have HBw := hide (HB4.out)
          go_wp2_with fail
          refine (specDrawSafeRate A' n' c' _ ((HY.out.below HBw.out).more HBw.out.size) hn').mono ?_
          rintro e v6 ⟨nm, a1, a2, a3, a4, bell, rt, fo, aw, rfl, hnm, hbell, hb6⟩
          have hsn : nm.size ≤ maxLen := by unfold maxLen; omega
          have hsb : bell.size ≤ maxLen := by unfold maxLen; omega
          have HB6 := hide (HBw.out.trans (hb6.mono HBw.out.size))
          have hz6 := HB6.out.size
          clear hb6 HBw
          go_wp2_with fail
          refine (implSafeRate nm bell a1 a2 a3 a4 rt fo aw _ hsn hsb).mono ?_
          rintro e v7 ⟨rfl, hb7⟩
          have HB7 := hide ((((HB6.out.alloc hz6 (.cells #[.string nm, .int .i64 a1, .int .i64 a2, .int .i64 a3, .int .i64 a4] 56)).alloc (by simp; omega) (.cells #[.string bell, .int .i64 rt, .int .i64 fo] 77))).trans (hb7.mono (by simp; omega)))
          have c7_00 : v7.cell? ⟨v6.heap.size, 0, none⟩ = some (.string nm) := (hb7.cell (p := ⟨v6.heap.size, 0, none⟩) (by first | (simp; done) | (simp; omega))).trans (by simp)
          have c7_01 : v7.cell? ⟨v6.heap.size, 1, none⟩ = some (.int .i64 a1) := (hb7.cell (p := ⟨v6.heap.size, 1, none⟩) (by first | (simp; done) | (simp; omega))).trans (by simp)
          have c7_02 : v7.cell? ⟨v6.heap.size, 2, none⟩ = some (.int .i64 a2) := (hb7.cell (p := ⟨v6.heap.size, 2, none⟩) (by first | (simp; done) | (simp; omega))).trans (by simp)
          have c7_03 : v7.cell? ⟨v6.heap.size, 3, none⟩ = some (.int .i64 a3) := (hb7.cell (p := ⟨v6.heap.size, 3, none⟩) (by first | (simp; done) | (simp; omega))).trans (by simp)
          have c7_04 : v7.cell? ⟨v6.heap.size, 4, none⟩ = some (.int .i64 a4) := (hb7.cell (p := ⟨v6.heap.size, 4, none⟩) (by first | (simp; done) | (simp; omega))).trans (by simp)
          have c7_10 : v7.cell? ⟨v6.heap.size + 1, 0, none⟩ = some (.string bell) := (hb7.cell (p := ⟨v6.heap.size + 1, 0, none⟩) (by first | (simp; done) | (simp; omega))).trans (by simp)
          have c7_11 : v7.cell? ⟨v6.heap.size + 1, 1, none⟩ = some (.int .i64 rt) := (hb7.cell (p := ⟨v6.heap.size + 1, 1, none⟩) (by first | (simp; done) | (simp; omega))).trans (by simp)
          have c7_12 : v7.cell? ⟨v6.heap.size + 1, 2, none⟩ = some (.int .i64 fo) := (hb7.cell (p := ⟨v6.heap.size + 1, 2, none⟩) (by first | (simp; done) | (simp; omega))).trans (by simp)
          have z7 : v6.heap.size + 1 < v7.heap.size := by have := hb7.size; simp at this; omega
          have z7a : v6.heap.size < v7.heap.size := by omega
          have z7w : w.heap.size ≤ v7.heap.size := by omega
          clear hb7 HB6
          rcases safeOf_says (nm := nm) (bell := bell) (sw := a1) (dp := a2) (sf := a3) (lim := a4) (rate := rt) (force := fo) (away := aw) with ⟨g2, g1⟩ | ⟨r, a, b, ge, ga, gl, gb, gx⟩
          · generalize safeOf nm bell a1 a2 a3 a4 rt fo aw = p at *
            obtain ⟨p1, p2⟩ := p
            simp only at g1 g2
            subst g1
            have g3 : (p2 == 0) = false := by simpa using g2
            have g4 : (p2 != 0) = true := by simpa using g2
            clear g2
            go_wp2_with fail
            go_ret
            exact ⟨rfl, HB7.out⟩
          · rw [ge]
            have GA := hide ga
            have GB := hide gb
            have GX := hide gx
            clear ge ga gb gx
            go_wp2_with fail
            refine (implAmplitudeOf nm bell a1 a2 a3 a4 r fo _ hsn hsb).mono ?_
            rintro e v8 ⟨rfl, hb8⟩
            rw [GA.out]
            have c8_00 : v8.cell? ⟨v6.heap.size, 0, none⟩ = some (.string nm) := (hb8.cell (p := ⟨v6.heap.size, 0, none⟩) (by simp; omega)).trans (by go_simp)
            have c8_01 : v8.cell? ⟨v6.heap.size, 1, none⟩ = some (.int .i64 a1) := (hb8.cell (p := ⟨v6.heap.size, 1, none⟩) (by simp; omega)).trans (by go_simp)
            have c8_02 : v8.cell? ⟨v6.heap.size, 2, none⟩ = some (.int .i64 a2) := (hb8.cell (p := ⟨v6.heap.size, 2, none⟩) (by simp; omega)).trans (by go_simp)
            have c8_03 : v8.cell? ⟨v6.heap.size, 3, none⟩ = some (.int .i64 a3) := (hb8.cell (p := ⟨v6.heap.size, 3, none⟩) (by simp; omega)).trans (by go_simp)
            have c8_04 : v8.cell? ⟨v6.heap.size, 4, none⟩ = some (.int .i64 a4) := (hb8.cell (p := ⟨v6.heap.size, 4, none⟩) (by simp; omega)).trans (by go_simp)
            have c8_10 : v8.cell? ⟨v6.heap.size + 1, 0, none⟩ = some (.string bell) := (hb8.cell (p := ⟨v6.heap.size + 1, 0, none⟩) (by simp; omega)).trans (by go_simp)
            have c8_11 : v8.cell? ⟨v6.heap.size + 1, 1, none⟩ = some (.int .i64 rt) := (hb8.cell (p := ⟨v6.heap.size + 1, 1, none⟩) (by simp; omega)).trans (by go_simp)
            have c8_12 : v8.cell? ⟨v6.heap.size + 1, 2, none⟩ = some (.int .i64 fo) := (hb8.cell (p := ⟨v6.heap.size + 1, 2, none⟩) (by simp; omega)).trans (by go_simp)
            have z8 : v7.heap.size < v8.heap.size := by have := hb8.size; simp at this; omega
            clear c7_00 c7_01 c7_02 c7_03 c7_04 c7_10 c7_11 c7_12
            have HB8 := hide ((HB7.out.alloc (by omega) (.cells #[.string bell, .int .i64 r, .int .i64 fo] 77)).trans (hb8.mono (by simp; omega)))
            clear hb8 HB7
            go_wp2_with fail
            refine (implAmplitudeOf nm bell a1 a2 a3 a4 rt fo _ hsn hsb).mono ?_
            rintro e v9 ⟨rfl, hb9⟩
            rw [GB.out]
            have c9_00 : v9.cell? ⟨v6.heap.size, 0, none⟩ = some (.string nm) := (hb9.cell (p := ⟨v6.heap.size, 0, none⟩) (by simp; omega)).trans (by go_simp)
            have c9_01 : v9.cell? ⟨v6.heap.size, 1, none⟩ = some (.int .i64 a1) := (hb9.cell (p := ⟨v6.heap.size, 1, none⟩) (by simp; omega)).trans (by go_simp)
            have c9_02 : v9.cell? ⟨v6.heap.size, 2, none⟩ = some (.int .i64 a2) := (hb9.cell (p := ⟨v6.heap.size, 2, none⟩) (by simp; omega)).trans (by go_simp)
            have c9_03 : v9.cell? ⟨v6.heap.size, 3, none⟩ = some (.int .i64 a3) := (hb9.cell (p := ⟨v6.heap.size, 3, none⟩) (by simp; omega)).trans (by go_simp)
            have c9_04 : v9.cell? ⟨v6.heap.size, 4, none⟩ = some (.int .i64 a4) := (hb9.cell (p := ⟨v6.heap.size, 4, none⟩) (by simp; omega)).trans (by go_simp)
            have c9_10 : v9.cell? ⟨v6.heap.size + 1, 0, none⟩ = some (.string bell) := (hb9.cell (p := ⟨v6.heap.size + 1, 0, none⟩) (by simp; omega)).trans (by go_simp)
            have c9_11 : v9.cell? ⟨v6.heap.size + 1, 1, none⟩ = some (.int .i64 rt) := (hb9.cell (p := ⟨v6.heap.size + 1, 1, none⟩) (by simp; omega)).trans (by go_simp)
            have c9_12 : v9.cell? ⟨v6.heap.size + 1, 2, none⟩ = some (.int .i64 fo) := (hb9.cell (p := ⟨v6.heap.size + 1, 2, none⟩) (by simp; omega)).trans (by go_simp)
            clear c8_00 c8_01 c8_02 c8_03 c8_04 c8_10 c8_11 c8_12
            have HB9 := hide (HB8.out.trans (hb9.mono (by omega)))
            clear hb9 HB8
            rcases GX.out with gx | gx
            · have d1 : decide (aw < b) = true := by simp [gx]
              go_wp2_with fail
              go_ret
              exact ⟨rfl, HB9.out⟩
            · subst gx
              by_cases d0 : aw < b
              · go_wp2_with fail
                go_ret
                exact ⟨rfl, HB9.out⟩
              · have d1 : decide (aw < b) = false := by simp; omega
                go_wp2_with fail
                go_ret
                exact ⟨rfl, HB9.out⟩
  · generalize totR nm a1 a2 a3 a4 xs = p2 at *
    obtain ⟨l2, t2⟩ := p2
    simp only at h0
    have ht2 : (t2 == 0) = false := by simpa using h0
    clear h0 b0 b1 b2 b3 b4
    have HBw := hide (HW2.out)
    go_wp2_with fail
    refine (specDrawSafeRate A' n' c' _ ((HY.out.below HBw.out).more HBw.out.size) hn').mono ?_
    rintro e v6 ⟨nm, a1, a2, a3, a4, bell, rt, fo, aw, rfl, hnm, hbell, hb6⟩
    have hsn : nm.size ≤ maxLen := by unfold maxLen; omega
    have hsb : bell.size ≤ maxLen := by unfold maxLen; omega
    have HB6 := hide (HBw.out.trans (hb6.mono HBw.out.size))
    have hz6 := HB6.out.size
    clear hb6 HBw
    go_wp2_with fail
    refine (implSafeRate nm bell a1 a2 a3 a4 rt fo aw _ hsn hsb).mono ?_
    rintro e v7 ⟨rfl, hb7⟩
    have HB7 := hide ((((HB6.out.alloc hz6 (.cells #[.string nm, .int .i64 a1, .int .i64 a2, .int .i64 a3, .int .i64 a4] 56)).alloc (by simp; omega) (.cells #[.string bell, .int .i64 rt, .int .i64 fo] 77))).trans (hb7.mono (by simp; omega)))
    have c7_00 : v7.cell? ⟨v6.heap.size, 0, none⟩ = some (.string nm) := (hb7.cell (p := ⟨v6.heap.size, 0, none⟩) (by first | (simp; done) | (simp; omega))).trans (by simp)
    have c7_01 : v7.cell? ⟨v6.heap.size, 1, none⟩ = some (.int .i64 a1) := (hb7.cell (p := ⟨v6.heap.size, 1, none⟩) (by first | (simp; done) | (simp; omega))).trans (by simp)
    have c7_02 : v7.cell? ⟨v6.heap.size, 2, none⟩ = some (.int .i64 a2) := (hb7.cell (p := ⟨v6.heap.size, 2, none⟩) (by first | (simp; done) | (simp; omega))).trans (by simp)
    have c7_03 : v7.cell? ⟨v6.heap.size, 3, none⟩ = some (.int .i64 a3) := (hb7.cell (p := ⟨v6.heap.size, 3, none⟩) (by first | (simp; done) | (simp; omega))).trans (by simp)
    have c7_04 : v7.cell? ⟨v6.heap.size, 4, none⟩ = some (.int .i64 a4) := (hb7.cell (p := ⟨v6.heap.size, 4, none⟩) (by first | (simp; done) | (simp; omega))).trans (by simp)
    have c7_10 : v7.cell? ⟨v6.heap.size + 1, 0, none⟩ = some (.string bell) := (hb7.cell (p := ⟨v6.heap.size + 1, 0, none⟩) (by first | (simp; done) | (simp; omega))).trans (by simp)
    have c7_11 : v7.cell? ⟨v6.heap.size + 1, 1, none⟩ = some (.int .i64 rt) := (hb7.cell (p := ⟨v6.heap.size + 1, 1, none⟩) (by first | (simp; done) | (simp; omega))).trans (by simp)
    have c7_12 : v7.cell? ⟨v6.heap.size + 1, 2, none⟩ = some (.int .i64 fo) := (hb7.cell (p := ⟨v6.heap.size + 1, 2, none⟩) (by first | (simp; done) | (simp; omega))).trans (by simp)
    have z7 : v6.heap.size + 1 < v7.heap.size := by have := hb7.size; simp at this; omega
    have z7a : v6.heap.size < v7.heap.size := by omega
    have z7w : w.heap.size ≤ v7.heap.size := by omega
    clear hb7 HB6
    rcases safeOf_says (nm := nm) (bell := bell) (sw := a1) (dp := a2) (sf := a3) (lim := a4) (rate := rt) (force := fo) (away := aw) with ⟨g2, g1⟩ | ⟨r, a, b, ge, ga, gl, gb, gx⟩
    · generalize safeOf nm bell a1 a2 a3 a4 rt fo aw = p at *
      obtain ⟨p1, p2⟩ := p
      simp only at g1 g2
      subst g1
      have g3 : (p2 == 0) = false := by simpa using g2
      have g4 : (p2 != 0) = true := by simpa using g2
      clear g2
      go_wp2_with fail
      go_ret
      exact ⟨rfl, HB7.out⟩
    · rw [ge]
      have GA := hide ga
      have GB := hide gb
      have GX := hide gx
      clear ge ga gb gx
      go_wp2_with fail
      refine (implAmplitudeOf nm bell a1 a2 a3 a4 r fo _ hsn hsb).mono ?_
      rintro e v8 ⟨rfl, hb8⟩
      rw [GA.out]
      have c8_00 : v8.cell? ⟨v6.heap.size, 0, none⟩ = some (.string nm) := (hb8.cell (p := ⟨v6.heap.size, 0, none⟩) (by simp; omega)).trans (by go_simp)
      have c8_01 : v8.cell? ⟨v6.heap.size, 1, none⟩ = some (.int .i64 a1) := (hb8.cell (p := ⟨v6.heap.size, 1, none⟩) (by simp; omega)).trans (by go_simp)
      have c8_02 : v8.cell? ⟨v6.heap.size, 2, none⟩ = some (.int .i64 a2) := (hb8.cell (p := ⟨v6.heap.size, 2, none⟩) (by simp; omega)).trans (by go_simp)
      have c8_03 : v8.cell? ⟨v6.heap.size, 3, none⟩ = some (.int .i64 a3) := (hb8.cell (p := ⟨v6.heap.size, 3, none⟩) (by simp; omega)).trans (by go_simp)
      have c8_04 : v8.cell? ⟨v6.heap.size, 4, none⟩ = some (.int .i64 a4) := (hb8.cell (p := ⟨v6.heap.size, 4, none⟩) (by simp; omega)).trans (by go_simp)
      have c8_10 : v8.cell? ⟨v6.heap.size + 1, 0, none⟩ = some (.string bell) := (hb8.cell (p := ⟨v6.heap.size + 1, 0, none⟩) (by simp; omega)).trans (by go_simp)
      have c8_11 : v8.cell? ⟨v6.heap.size + 1, 1, none⟩ = some (.int .i64 rt) := (hb8.cell (p := ⟨v6.heap.size + 1, 1, none⟩) (by simp; omega)).trans (by go_simp)
      have c8_12 : v8.cell? ⟨v6.heap.size + 1, 2, none⟩ = some (.int .i64 fo) := (hb8.cell (p := ⟨v6.heap.size + 1, 2, none⟩) (by simp; omega)).trans (by go_simp)
      have z8 : v7.heap.size < v8.heap.size := by have := hb8.size; simp at this; omega
      clear c7_00 c7_01 c7_02 c7_03 c7_04 c7_10 c7_11 c7_12
      have HB8 := hide ((HB7.out.alloc (by omega) (.cells #[.string bell, .int .i64 r, .int .i64 fo] 77)).trans (hb8.mono (by simp; omega)))
      clear hb8 HB7
      go_wp2_with fail
      refine (implAmplitudeOf nm bell a1 a2 a3 a4 rt fo _ hsn hsb).mono ?_
      rintro e v9 ⟨rfl, hb9⟩
      rw [GB.out]
      have c9_00 : v9.cell? ⟨v6.heap.size, 0, none⟩ = some (.string nm) := (hb9.cell (p := ⟨v6.heap.size, 0, none⟩) (by simp; omega)).trans (by go_simp)
      have c9_01 : v9.cell? ⟨v6.heap.size, 1, none⟩ = some (.int .i64 a1) := (hb9.cell (p := ⟨v6.heap.size, 1, none⟩) (by simp; omega)).trans (by go_simp)
      have c9_02 : v9.cell? ⟨v6.heap.size, 2, none⟩ = some (.int .i64 a2) := (hb9.cell (p := ⟨v6.heap.size, 2, none⟩) (by simp; omega)).trans (by go_simp)
      have c9_03 : v9.cell? ⟨v6.heap.size, 3, none⟩ = some (.int .i64 a3) := (hb9.cell (p := ⟨v6.heap.size, 3, none⟩) (by simp; omega)).trans (by go_simp)
      have c9_04 : v9.cell? ⟨v6.heap.size, 4, none⟩ = some (.int .i64 a4) := (hb9.cell (p := ⟨v6.heap.size, 4, none⟩) (by simp; omega)).trans (by go_simp)
      have c9_10 : v9.cell? ⟨v6.heap.size + 1, 0, none⟩ = some (.string bell) := (hb9.cell (p := ⟨v6.heap.size + 1, 0, none⟩) (by simp; omega)).trans (by go_simp)
      have c9_11 : v9.cell? ⟨v6.heap.size + 1, 1, none⟩ = some (.int .i64 rt) := (hb9.cell (p := ⟨v6.heap.size + 1, 1, none⟩) (by simp; omega)).trans (by go_simp)
      have c9_12 : v9.cell? ⟨v6.heap.size + 1, 2, none⟩ = some (.int .i64 fo) := (hb9.cell (p := ⟨v6.heap.size + 1, 2, none⟩) (by simp; omega)).trans (by go_simp)
      clear c8_00 c8_01 c8_02 c8_03 c8_04 c8_10 c8_11 c8_12
      have HB9 := hide (HB8.out.trans (hb9.mono (by omega)))
      clear hb9 HB8
      rcases GX.out with gx | gx
      · have d1 : decide (aw < b) = true := by simp [gx]
        go_wp2_with fail
        go_ret
        exact ⟨rfl, HB9.out⟩
      · subst gx
        by_cases d0 : aw < b
        · go_wp2_with fail
          go_ret
          exact ⟨rfl, HB9.out⟩
        · have d1 : decide (aw < b) = false := by simp; omega
          go_wp2_with fail
          go_ret
          exact ⟨rfl, HB9.out⟩
end Go.Proofs.Ytjklhacffdhgaaa
