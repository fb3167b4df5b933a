/- Reactions, moments, stresses and bendings of beams: the reference's entry points, and the laws' walks. -/
import Derived.Test.YtibdclihjipaiaaMom4
namespace Go.Proofs.Ytibdclihjipaiaa
open Go.RowKit

set_option maxRecDepth 100000 in
theorem specReactionsOf (nm : ByteArray) (span wd dp wood : Int) (A : Option Addr) (c : Nat) (ls : List LoadR) (w : World) (h : SlAt encLoad 2 w A ls) (hn : ls.length ≤ 1048576) (hs : nm.size ≤ maxLen) :
    Calls Try.prog 25 #[.agg #[.string nm, .int .i64 span, .int .i64 wd, .int .i64 dp, .int .i64 wood, .slice A ls.length c]] w fun e w' => e = .returned (three (reactB nm span wd dp wood ls)) ∧ Below w.heap.size w w' := by
  have HX := hide (h.below ((Below.refl _ _).alloc (Nat.le_refl _) (.cells #[.string nm, .int .i64 span, .int .i64 wd, .int .i64 dp, .int .i64 wood, .slice A ls.length c] 29)))
  clear h
  cases hv : vBeam nm span wd dp wood ls
  · have e : Hid (reactB nm span wd dp wood ls = (0, 0, 1)) := by unfold Hid reactB; simp [hv]
    go_enter Try.func25, Try.ntmps25
    go_wp2_with fail
    refine (specl21Ok nm span wd dp wood A c ls _ _ HX.out hn hs (by simp) (by simp) (by simp) (by simp) (by simp) (by simp)).mono ?_
    rintro e w1 ⟨rfl, hb1⟩
    obtain ⟨fcb1, ffb1, fzb1⟩ := bfacts hb1 (by first | exact Nat.le_refl _ | omega | (simp; omega) | simp); have fsb1 := hb1.size; try simp at fcb1 ffb1 fzb1 fsb1 hb1
    go_wp2_with fail
    go_ret3
    exact ⟨ret_three e.out, (by repeat (first | with_reducible exact Below.refl _ _ | with_reducible assumption | (with_reducible refine Below.drew ?_) | (with_reducible refine below_drewN ?_ _) | ((with_reducible refine Below.alloc ?_ ?_ _); rotate_left; (focus (first | omega | (simp; omega) | simp))) | ((with_reducible refine Below.setCell ?_ ?_ _); rotate_left; (focus (first | omega | (simp; omega) | simp))) | (refine Below.trans ?_ (Below.mono (by assumption) (by first | omega | (simp; omega) | simp)))))⟩
  · have e : Hid (reactB nm span wd dp wood ls = (sumB (·.wt) ls - Pl.nr (sumB (fun l => l.wt * l.at_) ls) span, Pl.nr (sumB (fun l => l.wt * l.at_) ls) span, 0)) := by unfold Hid reactB; simp [hv]
    have HG := hide (good_of hv)
    have s1 := HG.out.s1
    have s2 := HG.out.s2
    have hn8 := HG.out.n
    go_enter Try.func25, Try.ntmps25
    go_wp2_with fail
    refine (specl21Ok nm span wd dp wood A c ls _ _ HX.out hn hs (by simp) (by simp) (by simp) (by simp) (by simp) (by simp)).mono ?_
    rintro e w1 ⟨rfl, hb1⟩
    obtain ⟨fcb1, ffb1, fzb1⟩ := bfacts hb1 (by first | exact Nat.le_refl _ | omega | (simp; omega) | simp); have fsb1 := hb1.size; try simp at fcb1 ffb1 fzb1 fsb1 hb1
    have HB1 : Hid (Below (w.heap.size + 1) (w.alloc (.cells #[.string nm, .int .i64 span, .int .i64 wd, .int .i64 dp, .int .i64 wood, .slice A ls.length c] 29)) w1) := hide hb1
    go_wp2_with fail
    clear hb1 fcb1 ffb1 fzb1 hv
    go_loopw [7, 6, 5] (fun v a t wr => ∃ (k : Nat) (p q : Int), v = .int .i64 k ∧ a = .int .i64 p ∧ t = .int .i64 q ∧ k ≤ ls.length ∧ Hid (p = sumB (fun l => l.wt * l.at_) (ls.take k)) ∧ Hid (q = sumB (·.wt) (ls.take k)) ∧ Below (w.heap.size + 1) (w.alloc (.cells #[.string nm, .int .i64 span, .int .i64 wd, .int .i64 dp, .int .i64 wood, .slice A ls.length c] 29)) wr) (fun v _ _ _ => ls.length - (intOf v).toNat)
    case atStart => exact ⟨0, 0, 0, rfl, rfl, rfl, by omega, by simp [Hid, sumB], by simp [Hid, sumB], HB1.out⟩
    case round =>
      obtain ⟨k, p, q, rfl, rfl, rfl, hk, hp, hq, hb⟩ := hrel
      have bp := sumB_take_bd (f := fun l => l.wt * l.at_) k (fun l hl => wa_bd s2 (HG.out.l l hl)) (by omega) hn8
      have bq := sumB_take_bd (f := (·.wt)) (M := 200000) k (fun l hl => by have := HG.out.l l hl; omega) (by omega) hn8
      rw [← hp.out] at bp
      rw [← hq.out] at bq
      have q0_0 := hb.cell (p := ⟨w.heap.size, 0, none⟩) (by simp)
      have q0_1 := hb.cell (p := ⟨w.heap.size, 1, none⟩) (by simp)
      have q0_2 := hb.cell (p := ⟨w.heap.size, 2, none⟩) (by simp)
      have q0_3 := hb.cell (p := ⟨w.heap.size, 3, none⟩) (by simp)
      have q0_4 := hb.cell (p := ⟨w.heap.size, 4, none⟩) (by simp)
      have q0_5 := hb.cell (p := ⟨w.heap.size, 5, none⟩) (by simp)
      simp at q0_0 q0_1 q0_2 q0_3 q0_4 q0_5
      have hz := hb.size
      simp at hz
      have hz_0 : w.heap.size < wr.heap.size := by omega
      have HB := hide hb
      by_cases hlt : k < ls.length
      · obtain ⟨b, off, rfl, hbl, hc⟩ := HX.out.below (by simpa using hb) k hlt
        have hki : (k : Int) < (ls.length : Int) := by omega
        have c0 := hc 0 _ rfl
        have c1 := hc 1 _ rfl
        simp only [Nat.add_zero] at c0
        have hl := HG.out.l ls[k] (List.getElem_mem hlt)
        have hw := wa_bd s2 hl
        have hp2 := hide (sumB_take (f := fun l => l.wt * l.at_) hlt)
        have hq2 := hide (sumB_take (f := (·.wt)) hlt)
        clear hc hb
        generalize ls[k] = y at *
        obtain ⟨a, t⟩ := y
        simp only at c0 c1 hl hw hp2 hq2
        have hp3 : Hid (p + t * a = sumB (fun l => l.wt * l.at_) (ls.take (k + 1))) := hide (by rw [hp2.out, hp.out])
        have hq3 : Hid (q + t = sumB (·.wt) (ls.take (k + 1))) := hide (by rw [hq2.out, hq.out])
        clear hp2 hq2
        go_wp2_with fail
        have k1 : IntKind.i64.wrap (t * a) = t * a := IntWalk.i64_in _ (by omega)
        have k2 : IntKind.i64.wrap (p + t * a) = p + t * a := IntWalk.i64_in _ (by omega)
        go_quiet (fail)
        go_wp2_with fail
        go_roundw
        case rel => exact ⟨k + 1, _, _, by go_num, rfl, rfl, by omega, hp3, hq3, below_drewN HB.out _⟩
        case measure => simp [intOf]; omega
      · obtain rfl : k = ls.length := by omega
        have hp' := hp.out
        have hq' := hq.out
        rw [List.take_length] at hp' hq'
        rw [← hp', ← hq'] at e
        have b3 : 0 ≤ Pl.nr p span := Pl.nr_nonneg bp.1 (by omega)
        have b4 : Pl.nr p span ≤ 9600000000 := Pl.nr_le (by omega) (by have := Int.mul_le_mul_of_nonneg_right (a := 1) (b := span) (c := 9600000000) s1 (by omega); rw [Int.mul_assoc]; omega) (by omega)
        clear hp hq hp' hq'
        go_wp2_with fail
        refine (l01Div_any p span _ (by omega) (by omega) (by omega) (by omega)).mono ?_
        rintro e5 w5 ⟨rfl, rfl⟩
        go_wp2_with fail
        go_ret3
        exact ⟨ret_three e.out, Below.trans ((Below.refl _ _).alloc (Nat.le_refl _) _) (hb.mono (by omega))⟩
set_option maxRecDepth 100000 in
theorem specMomentAt (nm : ByteArray) (span wd dp wood : Int) (A : Option Addr) (c : Nat) (ls : List LoadR) (w : World) (h : SlAt encLoad 2 w A ls) (hn : ls.length ≤ 1048576) (hs : nm.size ≤ maxLen) (x : Int) :
    Calls Try.prog 29 #[.agg #[.string nm, .int .i64 span, .int .i64 wd, .int .i64 dp, .int .i64 wood, .slice A ls.length c], .int .i64 x] w fun e w' => e = .returned (two (momAtB nm span wd dp wood ls x)) ∧ Below w.heap.size w w' := by
  have HX := hide (h.below ((Below.refl _ _).alloc (Nat.le_refl _) (.cells #[.string nm, .int .i64 span, .int .i64 wd, .int .i64 dp, .int .i64 wood, .slice A ls.length c] 29)))
  clear h
  cases hv : vBeam nm span wd dp wood ls
  · have e : Hid (momAtB nm span wd dp wood ls x = (0, 1)) := by unfold Hid momAtB; simp [hv]
    go_enter Try.func29, Try.ntmps29
    go_wp2_with fail
    refine (specl21Ok nm span wd dp wood A c ls _ _ HX.out hn hs (by simp) (by simp) (by simp) (by simp) (by simp) (by simp)).mono ?_
    rintro e w1 ⟨rfl, hb1⟩
    obtain ⟨fcb1, ffb1, fzb1⟩ := bfacts hb1 (by first | exact Nat.le_refl _ | omega | (simp; omega) | simp); have fsb1 := hb1.size; try simp at fcb1 ffb1 fzb1 fsb1 hb1
    go_wp2_with fail
    go_ret2
    exact ⟨ret_two e.out, (by repeat (first | with_reducible exact Below.refl _ _ | with_reducible assumption | (with_reducible refine Below.drew ?_) | (with_reducible refine below_drewN ?_ _) | ((with_reducible refine Below.alloc ?_ ?_ _); rotate_left; (focus (first | omega | (simp; omega) | simp))) | ((with_reducible refine Below.setCell ?_ ?_ _); rotate_left; (focus (first | omega | (simp; omega) | simp))) | (refine Below.trans ?_ (Below.mono (by assumption) (by first | omega | (simp; omega) | simp)))))⟩
  · cases hx : inB x 0 span
    · have e : Hid (momAtB nm span wd dp wood ls x = (0, 2)) := by unfold Hid momAtB; simp [hv, hx]
      go_enter Try.func29, Try.ntmps29
      go_wp2_with fail
      refine (specl21Ok nm span wd dp wood A c ls _ _ HX.out hn hs (by simp) (by simp) (by simp) (by simp) (by simp) (by simp)).mono ?_
      rintro e w1 ⟨rfl, hb1⟩
      obtain ⟨fcb1, ffb1, fzb1⟩ := bfacts hb1 (by first | exact Nat.le_refl _ | omega | (simp; omega) | simp); have fsb1 := hb1.size; try simp at fcb1 ffb1 fzb1 fsb1 hb1
      go_wp2_with fail
      refine (specl00In_any _ _ _ _).mono ?_; rintro e2 w3 ⟨rfl, rfl⟩
      go_wp2_with fail
      go_ret2
      exact ⟨ret_two e.out, (by repeat (first | with_reducible exact Below.refl _ _ | with_reducible assumption | (with_reducible refine Below.drew ?_) | (with_reducible refine below_drewN ?_ _) | ((with_reducible refine Below.alloc ?_ ?_ _); rotate_left; (focus (first | omega | (simp; omega) | simp))) | ((with_reducible refine Below.setCell ?_ ?_ _); rotate_left; (focus (first | omega | (simp; omega) | simp))) | (refine Below.trans ?_ (Below.mono (by assumption) (by first | omega | (simp; omega) | simp)))))⟩
    · have e : Hid (momAtB nm span wd dp wood ls x = (Pl.nr (momB span x ls) span, 0)) := by unfold Hid momAtB; simp [hv, hx]
      have HG := hide (good_of hv)
      have s1 := HG.out.s1
      have s2 := HG.out.s2
      obtain ⟨x0, x1⟩ := inB_true hx
      have bm := momB_bd s2 x0 x1 HG.out.l HG.out.n
      go_enter Try.func29, Try.ntmps29
      go_wp2_with fail
      refine (specl21Ok nm span wd dp wood A c ls _ _ HX.out hn hs (by simp) (by simp) (by simp) (by simp) (by simp) (by simp)).mono ?_
      rintro e w1 ⟨rfl, hb1⟩
      obtain ⟨fcb1, ffb1, fzb1⟩ := bfacts hb1 (by first | exact Nat.le_refl _ | omega | (simp; omega) | simp); have fsb1 := hb1.size; try simp at fcb1 ffb1 fzb1 fsb1 hb1
      have H1 := hide (HX.out.below (by simpa using hb1))
      have C1 := hide (CellsB.box hb1)
      go_wp2_with fail
      refine (specl00In_any _ _ _ _).mono ?_; rintro e2 w3 ⟨rfl, rfl⟩
      go_wp2_with fail
      have hz0 : w.heap.size < w1.heap.size := by omega
      refine wp_region_kept (by kernel_rfl) (by kernel_rfl) ?_
      intro gc gf gz
      repeat (go_big_quiet_step ((first | (go_at_call 68; exact Calls.kept (specl21Moment _ span wd dp wood _ c ls _ (H1.out.below (Kept.h _)) (C1.out.below (Kept.h _)) HG.out x x0 x1)) | (go_at_call 63; exact Calls.kept_same (l01Div_any _ _ _ (by omega) (by omega) (by omega) (by omega))))))
      refine wpQuiet_nil ?_
      intro w2 hw'
      obtain ⟨⟨_, hb2⟩, rfl⟩ := hw'
      clear gc gf gz
      try dsimp only
      have fs2 := hb2.size
      try simp at fs2 hb2
      go_wp2_with fail
      go_ret2
      exact ⟨ret_two e.out, (by repeat (first | with_reducible exact Below.refl _ _ | with_reducible assumption | (with_reducible refine Below.drew ?_) | (with_reducible refine below_drewN ?_ _) | ((with_reducible refine Below.alloc ?_ ?_ _); rotate_left; (focus (first | omega | (simp; omega) | simp))) | ((with_reducible refine Below.setCell ?_ ?_ _); rotate_left; (focus (first | omega | (simp; omega) | simp))) | (refine Below.trans ?_ (Below.mono (by assumption) (by first | omega | (simp; omega) | simp)))))⟩
set_option maxRecDepth 100000 in
theorem specGreatestMoment (nm : ByteArray) (span wd dp wood : Int) (A : Option Addr) (c : Nat) (ls : List LoadR) (w : World) (h : SlAt encLoad 2 w A ls) (hn : ls.length ≤ 1048576) (hs : nm.size ≤ maxLen) :
    Calls Try.prog 31 #[.agg #[.string nm, .int .i64 span, .int .i64 wd, .int .i64 dp, .int .i64 wood, .slice A ls.length c]] w fun e w' => e = .returned (three (greatB nm span wd dp wood ls)) ∧ Below w.heap.size w w' := by
  have HX := hide (h.below ((Below.refl _ _).alloc (Nat.le_refl _) (.cells #[.string nm, .int .i64 span, .int .i64 wd, .int .i64 dp, .int .i64 wood, .slice A ls.length c] 29)))
  clear h
  cases hv : vBeam nm span wd dp wood ls
  · have e : Hid (greatB nm span wd dp wood ls = (0, 0, 1)) := by unfold Hid greatB; simp [hv]
    go_enter Try.func31, Try.ntmps31
    go_wp2_with fail
    refine (specl21Ok nm span wd dp wood A c ls _ _ HX.out hn hs (by simp) (by simp) (by simp) (by simp) (by simp) (by simp)).mono ?_
    rintro e w1 ⟨rfl, hb1⟩
    obtain ⟨fcb1, ffb1, fzb1⟩ := bfacts hb1 (by first | exact Nat.le_refl _ | omega | (simp; omega) | simp); have fsb1 := hb1.size; try simp at fcb1 ffb1 fzb1 fsb1 hb1
    go_wp2_with fail
    go_ret3
    exact ⟨ret_three e.out, (by repeat (first | with_reducible exact Below.refl _ _ | with_reducible assumption | (with_reducible refine Below.drew ?_) | (with_reducible refine below_drewN ?_ _) | ((with_reducible refine Below.alloc ?_ ?_ _); rotate_left; (focus (first | omega | (simp; omega) | simp))) | ((with_reducible refine Below.setCell ?_ ?_ _); rotate_left; (focus (first | omega | (simp; omega) | simp))) | (refine Below.trans ?_ (Below.mono (by assumption) (by first | omega | (simp; omega) | simp)))))⟩
  · have e : Hid (greatB nm span wd dp wood ls = ((gmB span ls ls).1, Pl.nr (gmB span ls ls).2 span, 0)) := by unfold Hid greatB; simp [hv]
    have HG := hide (good_of hv)
    have s1 := HG.out.s1
    have s2 := HG.out.s2
    obtain ⟨-, x5, x6⟩ := gmB_bd' HG.out
    go_enter Try.func31, Try.ntmps31
    go_wp2_with fail
    refine (specl21Ok nm span wd dp wood A c ls _ _ HX.out hn hs (by simp) (by simp) (by simp) (by simp) (by simp) (by simp)).mono ?_
    rintro e w1 ⟨rfl, hb1⟩
    obtain ⟨fcb1, ffb1, fzb1⟩ := bfacts hb1 (by first | exact Nat.le_refl _ | omega | (simp; omega) | simp); have fsb1 := hb1.size; try simp at fcb1 ffb1 fzb1 fsb1 hb1
    have H1 := hide (HX.out.below (by simpa using hb1))
    have C1 := hide (CellsB.box hb1)
    go_wp2_with fail
    refine (specl21Most _ span wd dp wood _ c ls _ H1.out C1.out HG.out).mono ?_
    rintro e w2 ⟨rfl, hb2⟩
    have hbn := Below.trans (by first | exact hb1 | exact below_drewN hb1 _) (Below.mono hb2 (by first | omega | (simp; omega) | simp))
    clear hb2 fcb1 ffb1 fzb1 fsb1
    clear hb1
    have hb2 := hbn
    clear hbn
    obtain ⟨fcb2, ffb2, fzb2⟩ := bfacts hb2 (by first | exact Nat.le_refl _ | omega | (simp; omega) | simp); have fsb2 := hb2.size; try simp at fcb2 ffb2 fzb2 fsb2 hb2
    have g1 := (CellsB.box hb2).c1
    go_wp2_with fail
    refine (l01Div_any _ span _ (by omega) (by omega) (by omega) (by omega)).mono ?_
    rintro e5 w5 ⟨rfl, rfl⟩
    go_wp2_with fail
    go_ret3
    exact ⟨ret_three e.out, (by repeat (first | with_reducible exact Below.refl _ _ | with_reducible assumption | (with_reducible refine Below.drew ?_) | (with_reducible refine below_drewN ?_ _) | ((with_reducible refine Below.alloc ?_ ?_ _); rotate_left; (focus (first | omega | (simp; omega) | simp))) | ((with_reducible refine Below.setCell ?_ ?_ _); rotate_left; (focus (first | omega | (simp; omega) | simp))) | (refine Below.trans ?_ (Below.mono (by assumption) (by first | omega | (simp; omega) | simp)))))⟩
set_option maxRecDepth 100000 in
theorem specStressOf (nm : ByteArray) (span wd dp wood : Int) (A : Option Addr) (c : Nat) (ls : List LoadR) (w : World) (h : SlAt encLoad 2 w A ls) (hn : ls.length ≤ 1048576) (hs : nm.size ≤ maxLen) :
    Calls Try.prog 33 #[.agg #[.string nm, .int .i64 span, .int .i64 wd, .int .i64 dp, .int .i64 wood, .slice A ls.length c]] w fun e w' => e = .returned (two (stressR nm span wd dp wood ls)) ∧ Below w.heap.size w w' := by
  have HX := hide (h.below ((Below.refl _ _).alloc (Nat.le_refl _) (.cells #[.string nm, .int .i64 span, .int .i64 wd, .int .i64 dp, .int .i64 wood, .slice A ls.length c] 29)))
  clear h
  cases hv : vBeam nm span wd dp wood ls
  · have e : Hid (stressR nm span wd dp wood ls = (0, 1)) := by unfold Hid stressR; simp [hv]
    go_enter Try.func33, Try.ntmps33
    go_wp2_with fail
    refine (specl21Ok nm span wd dp wood A c ls _ _ HX.out hn hs (by simp) (by simp) (by simp) (by simp) (by simp) (by simp)).mono ?_
    rintro e w1 ⟨rfl, hb1⟩
    obtain ⟨fcb1, ffb1, fzb1⟩ := bfacts hb1 (by first | exact Nat.le_refl _ | omega | (simp; omega) | simp); have fsb1 := hb1.size; try simp at fcb1 ffb1 fzb1 fsb1 hb1
    go_wp2_with fail
    go_ret2
    exact ⟨ret_two e.out, (by repeat (first | with_reducible exact Below.refl _ _ | with_reducible assumption | (with_reducible refine Below.drew ?_) | (with_reducible refine below_drewN ?_ _) | ((with_reducible refine Below.alloc ?_ ?_ _); rotate_left; (focus (first | omega | (simp; omega) | simp))) | ((with_reducible refine Below.setCell ?_ ?_ _); rotate_left; (focus (first | omega | (simp; omega) | simp))) | (refine Below.trans ?_ (Below.mono (by assumption) (by first | omega | (simp; omega) | simp)))))⟩
  · have e : Hid (stressR nm span wd dp wood ls = (stressB span wd dp ls, 0)) := by unfold Hid stressR; simp [hv]
    have HG := hide (good_of hv)
    go_enter Try.func33, Try.ntmps33
    go_wp2_with fail
    refine (specl21Ok nm span wd dp wood A c ls _ _ HX.out hn hs (by simp) (by simp) (by simp) (by simp) (by simp) (by simp)).mono ?_
    rintro e w1 ⟨rfl, hb1⟩
    obtain ⟨fcb1, ffb1, fzb1⟩ := bfacts hb1 (by first | exact Nat.le_refl _ | omega | (simp; omega) | simp); have fsb1 := hb1.size; try simp at fcb1 ffb1 fzb1 fsb1 hb1
    have H1 := hide (HX.out.below (by simpa using hb1))
    have C1 := hide (CellsB.box hb1)
    go_wp2_with fail
    refine (specl21Stress _ span wd dp wood _ c ls _ H1.out C1.out HG.out).mono ?_
    rintro e w2 ⟨rfl, hb2⟩
    have hbn := Below.trans (by first | exact hb1 | exact below_drewN hb1 _) (Below.mono hb2 (by first | omega | (simp; omega) | simp))
    clear hb2 fcb1 ffb1 fzb1 fsb1
    clear hb1
    have hb2 := hbn
    clear hbn
    obtain ⟨fcb2, ffb2, fzb2⟩ := bfacts hb2 (by first | exact Nat.le_refl _ | omega | (simp; omega) | simp); have fsb2 := hb2.size; try simp at fcb2 ffb2 fzb2 fsb2 hb2
    go_wp2_with fail
    go_ret2
    exact ⟨ret_two e.out, (by repeat (first | with_reducible exact Below.refl _ _ | with_reducible assumption | (with_reducible refine Below.drew ?_) | (with_reducible refine below_drewN ?_ _) | ((with_reducible refine Below.alloc ?_ ?_ _); rotate_left; (focus (first | omega | (simp; omega) | simp))) | ((with_reducible refine Below.setCell ?_ ?_ _); rotate_left; (focus (first | omega | (simp; omega) | simp))) | (refine Below.trans ?_ (Below.mono (by assumption) (by first | omega | (simp; omega) | simp)))))⟩
set_option maxRecDepth 100000 in
theorem specBendingOf (nm : ByteArray) (span wd dp wood : Int) (A : Option Addr) (c : Nat) (ls : List LoadR) (w : World) (h : SlAt encLoad 2 w A ls) (hn : ls.length ≤ 1048576) (hs : nm.size ≤ maxLen) :
    Calls Try.prog 27 #[.agg #[.string nm, .int .i64 span, .int .i64 wd, .int .i64 dp, .int .i64 wood, .slice A ls.length c]] w fun e w' => e = .returned (two (bendR nm span wd dp wood ls)) ∧ Below w.heap.size w w' := by
  have HX := hide (h.below ((Below.refl _ _).alloc (Nat.le_refl _) (.cells #[.string nm, .int .i64 span, .int .i64 wd, .int .i64 dp, .int .i64 wood, .slice A ls.length c] 29)))
  clear h
  cases hv : vBeam nm span wd dp wood ls
  · have e : Hid (bendR nm span wd dp wood ls = (0, 1)) := by unfold Hid bendR; simp [hv]
    go_enter Try.func27, Try.ntmps27
    go_wp2_with fail
    refine (specl21Ok nm span wd dp wood A c ls _ _ HX.out hn hs (by simp) (by simp) (by simp) (by simp) (by simp) (by simp)).mono ?_
    rintro e w1 ⟨rfl, hb1⟩
    obtain ⟨fcb1, ffb1, fzb1⟩ := bfacts hb1 (by first | exact Nat.le_refl _ | omega | (simp; omega) | simp); have fsb1 := hb1.size; try simp at fcb1 ffb1 fzb1 fsb1 hb1
    go_wp2_with fail
    go_ret2
    exact ⟨ret_two e.out, (by repeat (first | with_reducible exact Below.refl _ _ | with_reducible assumption | (with_reducible refine Below.drew ?_) | (with_reducible refine below_drewN ?_ _) | ((with_reducible refine Below.alloc ?_ ?_ _); rotate_left; (focus (first | omega | (simp; omega) | simp))) | ((with_reducible refine Below.setCell ?_ ?_ _); rotate_left; (focus (first | omega | (simp; omega) | simp))) | (refine Below.trans ?_ (Below.mono (by assumption) (by first | omega | (simp; omega) | simp)))))⟩
  · have e : Hid (bendR nm span wd dp wood ls = (bendB span wd dp wood ls, 0)) := by unfold Hid bendR; simp [hv]
    have HG := hide (good_of hv)
    go_enter Try.func27, Try.ntmps27
    go_wp2_with fail
    refine (specl21Ok nm span wd dp wood A c ls _ _ HX.out hn hs (by simp) (by simp) (by simp) (by simp) (by simp) (by simp)).mono ?_
    rintro e w1 ⟨rfl, hb1⟩
    obtain ⟨fcb1, ffb1, fzb1⟩ := bfacts hb1 (by first | exact Nat.le_refl _ | omega | (simp; omega) | simp); have fsb1 := hb1.size; try simp at fcb1 ffb1 fzb1 fsb1 hb1
    have H1 := hide (HX.out.below (by simpa using hb1))
    have C1 := hide (CellsB.box hb1)
    go_wp2_with fail
    refine (specl21Bending _ span wd dp wood _ c ls _ H1.out C1.out HG.out).mono ?_
    rintro e w2 ⟨rfl, hb2⟩
    have hbn := Below.trans (by first | exact hb1 | exact below_drewN hb1 _) (Below.mono hb2 (by first | omega | (simp; omega) | simp))
    clear hb2 fcb1 ffb1 fzb1 fsb1
    clear hb1
    have hb2 := hbn
    clear hbn
    obtain ⟨fcb2, ffb2, fzb2⟩ := bfacts hb2 (by first | exact Nat.le_refl _ | omega | (simp; omega) | simp); have fsb2 := hb2.size; try simp at fcb2 ffb2 fzb2 fsb2 hb2
    go_wp2_with fail
    go_ret2
    exact ⟨ret_two e.out, (by repeat (first | with_reducible exact Below.refl _ _ | with_reducible assumption | (with_reducible refine Below.drew ?_) | (with_reducible refine below_drewN ?_ _) | ((with_reducible refine Below.alloc ?_ ?_ _); rotate_left; (focus (first | omega | (simp; omega) | simp))) | ((with_reducible refine Below.setCell ?_ ?_ _); rotate_left; (focus (first | omega | (simp; omega) | simp))) | (refine Below.trans ?_ (Below.mono (by assumption) (by first | omega | (simp; omega) | simp)))))⟩
set_option maxRecDepth 100000 in
theorem specl21Carries (bl : Nat) (span wd dp wood : Int) (A : Option Addr) (c : Nat) (ls : List LoadR) (w : World) (h : SlAt encLoad 2 w A ls) (hc : CellsB w bl span wd dp wood A ls.length c) (hg : GoodB span wd dp wood ls) (st be : Int) :
    Calls Try.prog 75 #[.pointer (some ⟨bl, 0, none⟩), .int .i64 st, .int .i64 be] w fun e w' => e = .returned (.bool (carB span wd dp wood ls st be)) ∧ Below w.heap.size w w' := by
  have HX := hide h
  have HC := hide hc
  have HG := hide hg
  clear h hc hg
  have e : Hid (carB span wd dp wood ls st be = (decide (stressB span wd dp ls ≤ st) && decide (bendB span wd dp wood ls ≤ be))) := hide rfl
  by_cases h1 : stressB span wd dp ls ≤ st
  · have h1' : decide (stressB span wd dp ls ≤ st) = true := by simpa using h1
    go_enter Try.func75, Try.ntmps75
    go_wp2_with fail
    refine (specl21Stress _ span wd dp wood _ c ls _ HX.out HC.out HG.out).mono ?_
    rintro e w1 ⟨rfl, hb1⟩
    obtain ⟨fcb1, ffb1, fzb1⟩ := bfacts hb1 (by first | exact Nat.le_refl _ | omega | (simp; omega) | simp); have fsb1 := hb1.size; try simp at fcb1 ffb1 fzb1 fsb1 hb1
    have H1 := hide (HX.out.below hb1)
    have C1 := hide (HC.out.below hb1)
    go_wp2_with fail
    refine (specl21Bending _ span wd dp wood _ c ls _ H1.out C1.out HG.out).mono ?_
    rintro e w2 ⟨rfl, hb2⟩
    have hbn := Below.trans (by first | exact hb1 | exact below_drewN hb1 _) (Below.mono hb2 (by first | omega | (simp; omega) | simp))
    clear hb2 fcb1 ffb1 fzb1 fsb1
    clear hb1
    have hb2 := hbn
    clear hbn
    obtain ⟨fcb2, ffb2, fzb2⟩ := bfacts hb2 (by first | exact Nat.le_refl _ | omega | (simp; omega) | simp); have fsb2 := hb2.size; try simp at fcb2 ffb2 fzb2 fsb2 hb2
    go_wp2_with fail
    go_ret
    exact ⟨ret_bool (by rw [e.out]; simp [h1]), (by repeat (first | with_reducible exact Below.refl _ _ | with_reducible assumption | (with_reducible refine Below.drew ?_) | (with_reducible refine below_drewN ?_ _) | ((with_reducible refine Below.alloc ?_ ?_ _); rotate_left; (focus (first | omega | (simp; omega) | simp))) | ((with_reducible refine Below.setCell ?_ ?_ _); rotate_left; (focus (first | omega | (simp; omega) | simp))) | (refine Below.trans ?_ (Below.mono (by assumption) (by first | omega | (simp; omega) | simp)))))⟩
  · have h1' : decide (stressB span wd dp ls ≤ st) = false := by simpa using h1
    go_enter Try.func75, Try.ntmps75
    go_wp2_with fail
    refine (specl21Stress _ span wd dp wood _ c ls _ HX.out HC.out HG.out).mono ?_
    rintro e w1 ⟨rfl, hb1⟩
    obtain ⟨fcb1, ffb1, fzb1⟩ := bfacts hb1 (by first | exact Nat.le_refl _ | omega | (simp; omega) | simp); have fsb1 := hb1.size; try simp at fcb1 ffb1 fzb1 fsb1 hb1
    go_wp2_with fail
    go_ret
    exact ⟨ret_bool (by rw [e.out, h1']; rfl), (by repeat (first | with_reducible exact Below.refl _ _ | with_reducible assumption | (with_reducible refine Below.drew ?_) | (with_reducible refine below_drewN ?_ _) | ((with_reducible refine Below.alloc ?_ ?_ _); rotate_left; (focus (first | omega | (simp; omega) | simp))) | ((with_reducible refine Below.setCell ?_ ?_ _); rotate_left; (focus (first | omega | (simp; omega) | simp))) | (refine Below.trans ?_ (Below.mono (by assumption) (by first | omega | (simp; omega) | simp)))))⟩
set_option maxRecDepth 100000 in
theorem specCarriesLoads (nm : ByteArray) (span wd dp wood : Int) (A : Option Addr) (c : Nat) (ls : List LoadR) (w : World) (h : SlAt encLoad 2 w A ls) (hn : ls.length ≤ 1048576) (hs : nm.size ≤ maxLen) (st be : Int) :
    Calls Try.prog 35 #[.agg #[.string nm, .int .i64 span, .int .i64 wd, .int .i64 dp, .int .i64 wood, .slice A ls.length c], .int .i64 st, .int .i64 be] w fun e w' => e = .returned (.bool (carR nm span wd dp wood ls st be)) ∧ Below w.heap.size w w' := by
  have HX := hide (h.below ((Below.refl _ _).alloc (Nat.le_refl _) (.cells #[.string nm, .int .i64 span, .int .i64 wd, .int .i64 dp, .int .i64 wood, .slice A ls.length c] 29)))
  clear h
  cases hv : vBeam nm span wd dp wood ls
  · have e : Hid (carR nm span wd dp wood ls st be = false) := by unfold Hid carR; simp [hv]
    go_enter Try.func35, Try.ntmps35
    go_wp2_with fail
    refine (specl21Ok nm span wd dp wood A c ls _ _ HX.out hn hs (by simp) (by simp) (by simp) (by simp) (by simp) (by simp)).mono ?_
    rintro e w1 ⟨rfl, hb1⟩
    obtain ⟨fcb1, ffb1, fzb1⟩ := bfacts hb1 (by first | exact Nat.le_refl _ | omega | (simp; omega) | simp); have fsb1 := hb1.size; try simp at fcb1 ffb1 fzb1 fsb1 hb1
    go_wp2_with fail
    go_ret
    exact ⟨ret_bool e.out.symm, (by repeat (first | with_reducible exact Below.refl _ _ | with_reducible assumption | (with_reducible refine Below.drew ?_) | (with_reducible refine below_drewN ?_ _) | ((with_reducible refine Below.alloc ?_ ?_ _); rotate_left; (focus (first | omega | (simp; omega) | simp))) | ((with_reducible refine Below.setCell ?_ ?_ _); rotate_left; (focus (first | omega | (simp; omega) | simp))) | (refine Below.trans ?_ (Below.mono (by assumption) (by first | omega | (simp; omega) | simp)))))⟩
  · have e : Hid (carR nm span wd dp wood ls st be = carB span wd dp wood ls st be) := by unfold Hid carR; simp [hv]
    have HG := hide (good_of hv)
    go_enter Try.func35, Try.ntmps35
    go_wp2_with fail
    refine (specl21Ok nm span wd dp wood A c ls _ _ HX.out hn hs (by simp) (by simp) (by simp) (by simp) (by simp) (by simp)).mono ?_
    rintro e w1 ⟨rfl, hb1⟩
    obtain ⟨fcb1, ffb1, fzb1⟩ := bfacts hb1 (by first | exact Nat.le_refl _ | omega | (simp; omega) | simp); have fsb1 := hb1.size; try simp at fcb1 ffb1 fzb1 fsb1 hb1
    have H1 := hide (HX.out.below (by simpa using hb1))
    have C1 := hide (CellsB.box hb1)
    go_wp2_with fail
    refine (specl21Carries _ span wd dp wood _ c ls _ H1.out C1.out HG.out st be).mono ?_
    rintro e w2 ⟨rfl, hb2⟩
    have hbn := Below.trans (by first | exact hb1 | exact below_drewN hb1 _) (Below.mono hb2 (by first | omega | (simp; omega) | simp))
    clear hb2 fcb1 ffb1 fzb1 fsb1
    clear hb1
    have hb2 := hbn
    clear hbn
    obtain ⟨fcb2, ffb2, fzb2⟩ := bfacts hb2 (by first | exact Nat.le_refl _ | omega | (simp; omega) | simp); have fsb2 := hb2.size; try simp at fcb2 ffb2 fzb2 fsb2 hb2
    go_wp2_with fail
    go_ret
    exact ⟨ret_bool e.out.symm, (by repeat (first | with_reducible exact Below.refl _ _ | with_reducible assumption | (with_reducible refine Below.drew ?_) | (with_reducible refine below_drewN ?_ _) | ((with_reducible refine Below.alloc ?_ ?_ _); rotate_left; (focus (first | omega | (simp; omega) | simp))) | ((with_reducible refine Below.setCell ?_ ?_ _); rotate_left; (focus (first | omega | (simp; omega) | simp))) | (refine Below.trans ?_ (Below.mono (by assumption) (by first | omega | (simp; omega) | simp)))))⟩
set_option maxRecDepth 100000 in
set_option maxHeartbeats 1000000 in
theorem specLeastDepth (nm : ByteArray) (span wd dp wood : Int) (A : Option Addr) (c : Nat) (ls : List LoadR) (w : World) (h : SlAt encLoad 2 w A ls) (hn : ls.length ≤ 1048576) (hs : nm.size ≤ maxLen) (st be : Int) :
    Calls Try.prog 37 #[.agg #[.string nm, .int .i64 span, .int .i64 wd, .int .i64 dp, .int .i64 wood, .slice A ls.length c], .int .i64 st, .int .i64 be] w fun e w' => e = .returned (two (depthR nm span wd dp wood ls st be)) ∧ Below w.heap.size w w' := by
  have HX := hide (h.below ((Below.refl _ _).alloc (Nat.le_refl _) (.cells #[.string nm, .int .i64 span, .int .i64 wd, .int .i64 dp, .int .i64 wood, .slice A ls.length c] 29)))
  have HXW := hide h
  clear h
  cases hv : vBeam nm span wd dp wood ls
  · have e : Hid (depthR nm span wd dp wood ls st be = (0, 1)) := by unfold Hid depthR; simp [hv]
    go_enter Try.func37, Try.ntmps37
    go_wp2_with fail
    refine (specl21Ok nm span wd dp wood A c ls _ _ HX.out hn hs (by simp) (by simp) (by simp) (by simp) (by simp) (by simp)).mono ?_
    rintro e w1 ⟨rfl, hb1⟩
    obtain ⟨fcb1, ffb1, fzb1⟩ := bfacts hb1 (by first | exact Nat.le_refl _ | omega | (simp; omega) | simp); have fsb1 := hb1.size; try simp at fcb1 ffb1 fzb1 fsb1 hb1
    go_wp2_with fail
    go_ret2
    exact ⟨ret_two e.out, (by repeat (first | with_reducible exact Below.refl _ _ | with_reducible assumption | (with_reducible refine Below.drew ?_) | (with_reducible refine below_drewN ?_ _) | ((with_reducible refine Below.alloc ?_ ?_ _); rotate_left; (focus (first | omega | (simp; omega) | simp))) | ((with_reducible refine Below.setCell ?_ ?_ _); rotate_left; (focus (first | omega | (simp; omega) | simp))) | (refine Below.trans ?_ (Below.mono (by assumption) (by first | omega | (simp; omega) | simp)))))⟩
  · have SOME := hide fun r => depthR_some (st := st) (be := be) (r := r) hv
    have NONE := hide (depthR_none (st := st) (be := be) hv)
    have HG := hide (good_of hv)
    have hbW : Below w.heap.size w (w.alloc (.cells #[.string nm, .int .i64 span, .int .i64 wd, .int .i64 dp, .int .i64 wood, .slice A ls.length c] 29)) := (by repeat (first | with_reducible exact Below.refl _ _ | with_reducible assumption | (with_reducible refine Below.drew ?_) | (with_reducible refine below_drewN ?_ _) | ((with_reducible refine Below.alloc ?_ ?_ _); rotate_left; (focus (first | omega | (simp; omega) | simp))) | ((with_reducible refine Below.setCell ?_ ?_ _); rotate_left; (focus (first | omega | (simp; omega) | simp))) | (refine Below.trans ?_ (Below.mono (by assumption) (by first | omega | (simp; omega) | simp)))))
    have HBW := hide hbW
    clear hbW
    go_enter Try.func37, Try.ntmps37
    go_wp2_with fail
    refine (specl21Ok nm span wd dp wood A c ls _ _ HX.out hn hs (by simp) (by simp) (by simp) (by simp) (by simp) (by simp)).mono ?_
    rintro e w1 ⟨rfl, hb1⟩
    obtain ⟨fcb1, ffb1, fzb1⟩ := bfacts hb1 (by first | exact Nat.le_refl _ | omega | (simp; omega) | simp); have fsb1 := hb1.size; try simp at fcb1 ffb1 fzb1 fsb1 hb1
    have hbq : Below (w.heap.size + 1) (w.alloc (.cells #[.string nm, .int .i64 span, .int .i64 wd, .int .i64 dp, .int .i64 wood, .slice A ls.length c] 29)) w1 := hb1
    have q0_0 := hbq.cell (p := ⟨w.heap.size, 0, none⟩) (by simp)
    have q0_1 := hbq.cell (p := ⟨w.heap.size, 1, none⟩) (by simp)
    have q0_2 := hbq.cell (p := ⟨w.heap.size, 2, none⟩) (by simp)
    have q0_3 := hbq.cell (p := ⟨w.heap.size, 3, none⟩) (by simp)
    have q0_4 := hbq.cell (p := ⟨w.heap.size, 4, none⟩) (by simp)
    have q0_5 := hbq.cell (p := ⟨w.heap.size, 5, none⟩) (by simp)
    simp at q0_0 q0_1 q0_2 q0_3 q0_4 q0_5
    have hz := hbq.size
    simp at hz
    have hz_0 : w.heap.size < w1.heap.size := by omega
    have f3 : w1.frozen? ⟨w.heap.size, 3, none⟩ = false := (hbq.frozen (p := ⟨w.heap.size, 3, none⟩) (by simp)).trans (by simp)
    have HB1 := hide (HBW.out.trans (hbq.mono (by omega)))
    clear hb1 hbq fcb1 ffb1 fzb1
    go_wp2_with fail
    clear hv
    go_loopw [8] (fun v wr => ∃ x y : Int, v = .int .i64 x ∧ 20 ≤ x ∧ x ≤ 1001 ∧ wr.cell? ⟨w.heap.size, 1, none⟩ = some (.int .i64 span) ∧ wr.cell? ⟨w.heap.size, 2, none⟩ = some (.int .i64 wd) ∧ wr.cell? ⟨w.heap.size, 3, none⟩ = some (.int .i64 y) ∧ wr.cell? ⟨w.heap.size, 4, none⟩ = some (.int .i64 wood) ∧ wr.cell? ⟨w.heap.size, 5, none⟩ = some (.slice A ls.length c) ∧
        wr.frozen? ⟨w.heap.size, 3, none⟩ = false ∧ w.heap.size < wr.heap.size ∧ Hid (∀ j, 20 ≤ j → j < x → carB span wd j wood ls st be = false) ∧ Below w.heap.size w wr) (fun v _ => (1001 - intOf v).toNat)
    case atStart => exact ⟨20, dp, rfl, by omega, by omega, q0_1, q0_2, q0_3, q0_4, q0_5, f3, hz_0, hide fun j a b => by omega, HB1.out⟩
    case round =>
      obtain ⟨x, y, rfl, hx, hx2, c1, c2, c3, c4, c5, fr, hz, hj, hb⟩ := hrel
      have HB := hide hb
      by_cases hl : x ≤ 1000
      · have H1 := hide (HXW.out.below (HB.out.setCell (by simp) (.int .i64 x) : Below w.heap.size w (wr.setCell ⟨w.heap.size, 3, none⟩ (.int .i64 x))))
        clear hb
        go_wp2_with fail
        refine (specl21Carries w.heap.size span wd x wood A c ls _ H1.out ⟨by go_simp, by go_simp, by go_simp, by go_simp, by go_simp⟩ (HG.out.depth hx hl) st be).mono ?_
        rintro e1 w2 ⟨rfl, hb2⟩
        have hz2 : w.heap.size < (wr.setCell ⟨w.heap.size, 3, none⟩ (.int .i64 x)).heap.size := by simpa [World.setCell] using hz
        have g1 := (hb2.cell (p := ⟨w.heap.size, 1, none⟩) hz2).trans (by go_simp : _ = some (Value.int .i64 span))
        have g2 := (hb2.cell (p := ⟨w.heap.size, 2, none⟩) hz2).trans (by go_simp : _ = some (Value.int .i64 wd))
        have g3 := (hb2.cell (p := ⟨w.heap.size, 3, none⟩) hz2).trans (by go_simp : _ = some (Value.int .i64 x))
        have g4 := (hb2.cell (p := ⟨w.heap.size, 4, none⟩) hz2).trans (by go_simp : _ = some (Value.int .i64 wood))
        have g5 := (hb2.cell (p := ⟨w.heap.size, 5, none⟩) hz2).trans (by go_simp : _ = some (Value.slice A ls.length c))
        have gf := (hb2.frozen (p := ⟨w.heap.size, 3, none⟩) hz2).trans (by go_simp : _ = false)
        have gz : w.heap.size < w2.heap.size := Nat.lt_of_lt_of_le hz2 hb2.size
        have HB2 := hide ((HB.out.setCell (by simp) (.int .i64 x) : Below w.heap.size w (wr.setCell ⟨w.heap.size, 3, none⟩ (.int .i64 x))).trans (hb2.mono (Nat.le_of_lt hz2)))
        clear hb2
        cases ht : carB span wd x wood ls st be
        · have hj' : Hid (∀ j, 20 ≤ j → j < x + 1 → carB span wd j wood ls st be = false) := fun j a b => by
            by_cases e : j = x
            · subst e; exact ht
            · exact hj.out j a (by omega)
          go_wp2_with fail
          go_roundw
          case measure => simp [intOf]; omega
          case rel => exact ⟨x + 1, x, rfl, by omega, by omega, g1, g2, g3, g4, g5, gf, gz, hj', HB2.out⟩
        · have e : Hid (depthR nm span wd dp wood ls st be = (x, 0)) := hide (SOME.out x hx hl ht hj.out)
          go_wp2_with fail
          go_ret2
          exact ⟨ret_two e.out, HB2.out⟩
      · have e : Hid (depthR nm span wd dp wood ls st be = (0, 3)) := hide (NONE.out fun j a b => hj.out j a (by omega))
        go_wp2_with fail
        go_ret2
        exact ⟨ret_two e.out, hb⟩
end Go.Proofs.Ytibdclihjipaiaa
