/- Reactions, moments, stresses and bendings of beams: the program's entry points. -/
import Derived.Test.YtajodbhbmfjmjaaGreatDoorMom2
namespace Go.Proofs.YtajodbhbmfjmjaaGreatDoor
open Go.RowKit

@[irreducible] noncomputable def reactB (nm : ByteArray) (span wd dp wood : Int) (ls : List LoadR) : Int × Int × Int := if vBeam nm span wd dp wood ls then (sumB (·.wt) ls - Pl.nr (sumB (fun l => l.wt * l.at_) ls) span, Pl.nr (sumB (fun l => l.wt * l.at_) ls) span, 0) else (0, 0, 1)
@[irreducible] noncomputable def momAtB (nm : ByteArray) (span wd dp wood : Int) (ls : List LoadR) (x : Int) : Int × Int := if vBeam nm span wd dp wood ls then (if inB x 0 span then (Pl.nr (momB span x ls) span, 0) else (0, 2)) else (0, 1)
@[irreducible] noncomputable def greatB (nm : ByteArray) (span wd dp wood : Int) (ls : List LoadR) : Int × Int × Int := if vBeam nm span wd dp wood ls then ((gmB span ls ls).1, Pl.nr (gmB span ls ls).2 span, 0) else (0, 0, 1)
@[irreducible] noncomputable def stressR (nm : ByteArray) (span wd dp wood : Int) (ls : List LoadR) : Int × Int := if vBeam nm span wd dp wood ls then (stressB span wd dp ls, 0) else (0, 1)
@[irreducible] noncomputable def bendR (nm : ByteArray) (span wd dp wood : Int) (ls : List LoadR) : Int × Int := if vBeam nm span wd dp wood ls then (bendB span wd dp wood ls, 0) else (0, 1)
def carB (span wd dp wood : Int) (ls : List LoadR) (st be : Int) : Bool := decide (stressB span wd dp ls ≤ st) && decide (bendB span wd dp wood ls ≤ be)
noncomputable def carR (nm : ByteArray) (span wd dp wood : Int) (ls : List LoadR) (st be : Int) : Bool := vBeam nm span wd dp wood ls && carB span wd dp wood ls st be
@[irreducible] noncomputable def depthR (nm : ByteArray) (span wd dp wood : Int) (ls : List LoadR) (st be : Int) : Int × Int := if vBeam nm span wd dp wood ls then (match Pl.firstFrom (fun d => carB span wd d wood ls st be) 20 981 with | some d => (d, 0) | none => (0, 3)) else (0, 1)
theorem depthR_some {nm : ByteArray} {span wd dp wood : Int} {ls : List LoadR} {st be r : Int} (h : vBeam nm span wd dp wood ls = true) (a : 20 ≤ r) (b : r ≤ 1000) (hr : carB span wd r wood ls st be = true) (hj : ∀ j, 20 ≤ j → j < r → carB span wd j wood ls st be = false) : depthR nm span wd dp wood ls st be = (r, 0) := by
  unfold depthR
  rw [if_pos h, Pl.firstFrom_some (r := r) a (by omega) hr hj]
theorem depthR_none {nm : ByteArray} {span wd dp wood : Int} {ls : List LoadR} {st be : Int} (h : vBeam nm span wd dp wood ls = true) (hj : ∀ j, 20 ≤ j → j ≤ 1000 → carB span wd j wood ls st be = false) : depthR nm span wd dp wood ls st be = (0, 3) := by
  unfold depthR
  rw [if_pos h, Pl.firstFrom_none (fun j a b => hj j a (by omega))]
theorem GoodB.depth {span wd dp wood : Int} {ls : List LoadR} (h : GoodB span wd dp wood ls) {d : Int} (d1 : 20 ≤ d) (d2 : d ≤ 1000) : GoodB span wd d wood ls := ⟨h.s1, h.s2, h.w1, h.w2, d1, d2, h.o1, h.o2, h.l, h.n⟩
theorem wa_bd {l : LoadR} {span : Int} (s2 : span ≤ 6000) (h : (0 ≤ l.at_ ∧ l.at_ ≤ span) ∧ 1 ≤ l.wt ∧ l.wt ≤ 200000) : 0 ≤ l.wt * l.at_ ∧ l.wt * l.at_ ≤ 1200000000 := by
  have := mul_bd (a := l.wt) (b := l.at_) (A := 200000) (B := 6000) (by omega) h.2.2 h.1.1 (by omega)
  omega

set_option maxRecDepth 100000 in
theorem implReactionsOf (nm : ByteArray) (span wd dp wood : Int) (A : Option Addr) (c : Nat) (ls : List LoadR) (w : World) (h : SlAt encLoad 2 w A ls) (hn : ls.length ≤ 1048576) (hs : nm.size ≤ maxLen) :
    Calls Tryz.prog 6 #[.agg #[.string nm, .int .i64 span, .int .i64 wd, .int .i64 dp, .int .i64 wood, .slice A ls.length c]] w fun e w' => e = .returned (three (reactB nm span wd dp wood ls)) ∧ Below w.heap.size w w' := by
  have HX := hide (h.below ((Below.refl _ _).alloc (Nat.le_refl _) (.cells #[.string nm, .int .i64 span, .int .i64 wd, .int .i64 dp, .int .i64 wood, .slice A ls.length c] 26)))
  clear h
  cases hv : vBeam nm span wd dp wood ls
  · have e : Hid (reactB nm span wd dp wood ls = (0, 0, 1)) := by unfold Hid reactB; simp [hv]
    go_enter Tryz.func6, Tryz.ntmps6
    go_wp2_with fail
    refine (implValidBeam nm span wd dp wood _ c ls _ HX.out hn hs).mono ?_
    rintro e w1 ⟨rfl, hb1⟩
    obtain ⟨fcb1, ffb1, fzb1⟩ := bfacts hb1 (by first | exact Nat.le_refl _ | omega | (simp; omega) | simp); have fsb1 := hb1.size; try simp at fcb1 ffb1 fzb1 fsb1 hb1
    go_wp2_with fail
    go_ret3
    exact ⟨ret_three e.out, (by repeat (first | with_reducible exact Below.refl _ _ | with_reducible assumption | (with_reducible refine Below.drew ?_) | (with_reducible refine below_drewN ?_ _) | ((with_reducible refine Below.alloc ?_ ?_ _); rotate_left; (focus (first | omega | (simp; omega) | simp))) | ((with_reducible refine Below.setCell ?_ ?_ _); rotate_left; (focus (first | omega | (simp; omega) | simp))) | (refine Below.trans ?_ (Below.mono (by assumption) (by first | omega | (simp; omega) | simp)))))⟩
  · have e : Hid (reactB nm span wd dp wood ls = (sumB (·.wt) ls - Pl.nr (sumB (fun l => l.wt * l.at_) ls) span, Pl.nr (sumB (fun l => l.wt * l.at_) ls) span, 0)) := by unfold Hid reactB; simp [hv]
    have HG := hide (good_of hv)
    have s1 := HG.out.s1
    have s2 := HG.out.s2
    have hn8 := HG.out.n
    go_enter Tryz.func6, Tryz.ntmps6
    go_wp2_with fail
    refine (implValidBeam nm span wd dp wood _ c ls _ HX.out hn hs).mono ?_
    rintro e w1 ⟨rfl, hb1⟩
    obtain ⟨fcb1, ffb1, fzb1⟩ := bfacts hb1 (by first | exact Nat.le_refl _ | omega | (simp; omega) | simp); have fsb1 := hb1.size; try simp at fcb1 ffb1 fzb1 fsb1 hb1
    have HB1 : Hid (Below (w.heap.size + 1) (w.alloc (.cells #[.string nm, .int .i64 span, .int .i64 wd, .int .i64 dp, .int .i64 wood, .slice A ls.length c] 26)) w1) := hide hb1
    go_wp2_with fail
    clear hb1 fcb1 ffb1 fzb1 hv
    go_loopw [16, 5, 6] (fun v a t wr => ∃ (k : Nat) (p q : Int), v = .int .i64 k ∧ a = .int .i64 p ∧ t = .int .i64 q ∧ k ≤ ls.length ∧ Hid (p = sumB (fun l => l.wt * l.at_) (ls.take k)) ∧ Hid (q = sumB (·.wt) (ls.take k)) ∧ Below (w.heap.size + 1) (w.alloc (.cells #[.string nm, .int .i64 span, .int .i64 wd, .int .i64 dp, .int .i64 wood, .slice A ls.length c] 26)) wr) (fun v _ _ _ => ls.length - (intOf v).toNat)
    case atStart => exact ⟨0, 0, 0, rfl, rfl, rfl, by omega, by simp [Hid, sumB], by simp [Hid, sumB], HB1.out⟩
    case round =>
      obtain ⟨k, p, q, rfl, rfl, rfl, hk, hp, hq, hb⟩ := hrel
      have bp := sumB_take_bd (f := fun l => l.wt * l.at_) k (fun l hl => wa_bd s2 (HG.out.l l hl)) (by omega) hn8
      have bq := sumB_take_bd (f := (·.wt)) (M := 200000) k (fun l hl => by have := HG.out.l l hl; omega) (by omega) hn8
      rw [← hp.out] at bp
      rw [← hq.out] at bq
      have q0_0 := hb.cell (p := ⟨w.heap.size, 0, none⟩) (by simp)
      have q0_1 := hb.cell (p := ⟨w.heap.size, 1, none⟩) (by simp)
      have q0_2 := hb.cell (p := ⟨w.heap.size, 2, none⟩) (by simp)
      have q0_3 := hb.cell (p := ⟨w.heap.size, 3, none⟩) (by simp)
      have q0_4 := hb.cell (p := ⟨w.heap.size, 4, none⟩) (by simp)
      have q0_5 := hb.cell (p := ⟨w.heap.size, 5, none⟩) (by simp)
      simp at q0_0 q0_1 q0_2 q0_3 q0_4 q0_5
      have hz := hb.size
      simp at hz
      have hz_0 : w.heap.size < wr.heap.size := by omega
      have HB := hide hb
      by_cases hlt : k < ls.length
      · obtain ⟨b, off, rfl, hbl, hc⟩ := HX.out.below (by simpa using hb) k hlt
        have c0 := hc 0 _ rfl
        have c1 := hc 1 _ rfl
        simp only [Nat.add_zero] at c0
        have hl := HG.out.l ls[k] (List.getElem_mem hlt)
        have hw := wa_bd s2 hl
        have hp2 := hide (sumB_take (f := fun l => l.wt * l.at_) hlt)
        have hq2 := hide (sumB_take (f := (·.wt)) hlt)
        clear hc hb
        generalize ls[k] = y at *
        obtain ⟨a, t⟩ := y
        simp only at c0 c1 hl hw hp2 hq2
        have hp3 : Hid (p + t * a = sumB (fun l => l.wt * l.at_) (ls.take (k + 1))) := hide (by rw [hp2.out, hp.out])
        have hq3 : Hid (q + t = sumB (·.wt) (ls.take (k + 1))) := hide (by rw [hq2.out, hq.out])
        clear hp2 hq2
        go_wp2_with fail
        go_roundw
        case rel => exact ⟨k + 1, _, _, by go_num, rfl, rfl, by omega, hp3, hq3, HB.out.alloc (by omega) _⟩
        case measure => simp [intOf]; omega
      · obtain rfl : k = ls.length := by omega
        have hp' := hp.out
        have hq' := hq.out
        rw [List.take_length] at hp' hq'
        rw [← hp', ← hq'] at e
        have b3 : 0 ≤ Pl.nr p span := Pl.nr_nonneg bp.1 (by omega)
        have b4 : Pl.nr p span ≤ 9600000000 := Pl.nr_le (by omega) (by have := Int.mul_le_mul_of_nonneg_right (a := 1) (b := span) (c := 9600000000) s1 (by omega); rw [Int.mul_assoc]; omega) (by omega)
        clear hp hq hp' hq'
        go_wp2_with fail
        refine (nearest_any p span _ (by omega) (by omega) (by omega) (by omega)).mono ?_
        rintro e5 w5 ⟨rfl, n5, rfl⟩
        go_wp2_with fail
        go_ret3
        exact ⟨ret_three e.out, below_drewN (Below.trans ((Below.refl _ _).alloc (Nat.le_refl _) _) (hb.mono (by omega))) _⟩
set_option maxRecDepth 100000 in
theorem implMomentAt (nm : ByteArray) (span wd dp wood : Int) (A : Option Addr) (c : Nat) (ls : List LoadR) (w : World) (h : SlAt encLoad 2 w A ls) (hn : ls.length ≤ 1048576) (hs : nm.size ≤ maxLen) (x : Int) :
    Calls Tryz.prog 8 #[.agg #[.string nm, .int .i64 span, .int .i64 wd, .int .i64 dp, .int .i64 wood, .slice A ls.length c], .int .i64 x] w fun e w' => e = .returned (two (momAtB nm span wd dp wood ls x)) ∧ Below w.heap.size w w' := by
  have HX := hide (h.below ((Below.refl _ _).alloc (Nat.le_refl _) (.cells #[.string nm, .int .i64 span, .int .i64 wd, .int .i64 dp, .int .i64 wood, .slice A ls.length c] 26)))
  clear h
  cases hv : vBeam nm span wd dp wood ls
  · have e : Hid (momAtB nm span wd dp wood ls x = (0, 1)) := by unfold Hid momAtB; simp [hv]
    go_enter Tryz.func8, Tryz.ntmps8
    go_wp2_with fail
    refine (implValidBeam nm span wd dp wood _ c ls _ HX.out hn hs).mono ?_
    rintro e w1 ⟨rfl, hb1⟩
    obtain ⟨fcb1, ffb1, fzb1⟩ := bfacts hb1 (by first | exact Nat.le_refl _ | omega | (simp; omega) | simp); have fsb1 := hb1.size; try simp at fcb1 ffb1 fzb1 fsb1 hb1
    go_wp2_with fail
    go_ret2
    exact ⟨ret_two e.out, (by repeat (first | with_reducible exact Below.refl _ _ | with_reducible assumption | (with_reducible refine Below.drew ?_) | (with_reducible refine below_drewN ?_ _) | ((with_reducible refine Below.alloc ?_ ?_ _); rotate_left; (focus (first | omega | (simp; omega) | simp))) | ((with_reducible refine Below.setCell ?_ ?_ _); rotate_left; (focus (first | omega | (simp; omega) | simp))) | (refine Below.trans ?_ (Below.mono (by assumption) (by first | omega | (simp; omega) | simp)))))⟩
  · cases hx : inB x 0 span
    · have e : Hid (momAtB nm span wd dp wood ls x = (0, 2)) := by unfold Hid momAtB; simp [hv, hx]
      go_enter Tryz.func8, Tryz.ntmps8
      go_wp2_with fail
      refine (implValidBeam nm span wd dp wood _ c ls _ HX.out hn hs).mono ?_
      rintro e w1 ⟨rfl, hb1⟩
      obtain ⟨fcb1, ffb1, fzb1⟩ := bfacts hb1 (by first | exact Nat.le_refl _ | omega | (simp; omega) | simp); have fsb1 := hb1.size; try simp at fcb1 ffb1 fzb1 fsb1 hb1
      go_wp2_with fail
      refine (implwithin_any _ _ _ _).mono ?_; rintro e2 w3 ⟨rfl, rfl⟩
      go_wp2_with fail
      go_ret2
      exact ⟨ret_two e.out, (by repeat (first | with_reducible exact Below.refl _ _ | with_reducible assumption | (with_reducible refine Below.drew ?_) | (with_reducible refine below_drewN ?_ _) | ((with_reducible refine Below.alloc ?_ ?_ _); rotate_left; (focus (first | omega | (simp; omega) | simp))) | ((with_reducible refine Below.setCell ?_ ?_ _); rotate_left; (focus (first | omega | (simp; omega) | simp))) | (refine Below.trans ?_ (Below.mono (by assumption) (by first | omega | (simp; omega) | simp)))))⟩
    · have e : Hid (momAtB nm span wd dp wood ls x = (Pl.nr (momB span x ls) span, 0)) := by unfold Hid momAtB; simp [hv, hx]
      have HG := hide (good_of hv)
      have s1 := HG.out.s1
      have s2 := HG.out.s2
      obtain ⟨x0, x1⟩ := inB_true hx
      have bm := momB_bd s2 x0 x1 HG.out.l HG.out.n
      go_enter Tryz.func8, Tryz.ntmps8
      go_wp2_with fail
      refine (implValidBeam nm span wd dp wood _ c ls _ HX.out hn hs).mono ?_
      rintro e w1 ⟨rfl, hb1⟩
      obtain ⟨fcb1, ffb1, fzb1⟩ := bfacts hb1 (by first | exact Nat.le_refl _ | omega | (simp; omega) | simp); have fsb1 := hb1.size; try simp at fcb1 ffb1 fzb1 fsb1 hb1
      have H1 := hide (HX.out.below (by simpa using hb1))
      go_wp2_with fail
      refine (implwithin_any _ _ _ _).mono ?_; rintro e2 w3 ⟨rfl, rfl⟩
      go_wp2_with fail
      have hz0 : w.heap.size < w1.heap.size := by omega
      refine wp_region_kept (by kernel_rfl) (by kernel_rfl) ?_
      intro gc gf gz
      repeat (go_big_quiet_step ((first | (go_at_call 23; exact Calls.kept (implspanMoment nm span wd dp wood _ c ls _ (H1.out.below (Kept.h _)) HG.out x x0 x1)) | (go_at_call 20; exact Calls.kept_drew (nearest_any _ _ _ (by omega) (by omega) (by omega) (by omega))))))
      refine wpQuiet_nil ?_
      intro w2 hw'
      obtain ⟨⟨_, hb2⟩, rfl⟩ := hw'
      clear gc gf gz
      try dsimp only
      have fs2 := hb2.size
      try simp at fs2 hb2
      go_wp2_with fail
      go_ret2
      exact ⟨ret_two e.out, (by repeat (first | with_reducible exact Below.refl _ _ | with_reducible assumption | (with_reducible refine Below.drew ?_) | (with_reducible refine below_drewN ?_ _) | ((with_reducible refine Below.alloc ?_ ?_ _); rotate_left; (focus (first | omega | (simp; omega) | simp))) | ((with_reducible refine Below.setCell ?_ ?_ _); rotate_left; (focus (first | omega | (simp; omega) | simp))) | (refine Below.trans ?_ (Below.mono (by assumption) (by first | omega | (simp; omega) | simp)))))⟩
set_option maxRecDepth 100000 in
theorem implGreatestMoment (nm : ByteArray) (span wd dp wood : Int) (A : Option Addr) (c : Nat) (ls : List LoadR) (w : World) (h : SlAt encLoad 2 w A ls) (hn : ls.length ≤ 1048576) (hs : nm.size ≤ maxLen) :
    Calls Tryz.prog 9 #[.agg #[.string nm, .int .i64 span, .int .i64 wd, .int .i64 dp, .int .i64 wood, .slice A ls.length c]] w fun e w' => e = .returned (three (greatB nm span wd dp wood ls)) ∧ Below w.heap.size w w' := by
  have HX := hide (h.below ((Below.refl _ _).alloc (Nat.le_refl _) (.cells #[.string nm, .int .i64 span, .int .i64 wd, .int .i64 dp, .int .i64 wood, .slice A ls.length c] 26)))
  clear h
  cases hv : vBeam nm span wd dp wood ls
  · have e : Hid (greatB nm span wd dp wood ls = (0, 0, 1)) := by unfold Hid greatB; simp [hv]
    go_enter Tryz.func9, Tryz.ntmps9
    go_wp2_with fail
    refine (implValidBeam nm span wd dp wood _ c ls _ HX.out hn hs).mono ?_
    rintro e w1 ⟨rfl, hb1⟩
    obtain ⟨fcb1, ffb1, fzb1⟩ := bfacts hb1 (by first | exact Nat.le_refl _ | omega | (simp; omega) | simp); have fsb1 := hb1.size; try simp at fcb1 ffb1 fzb1 fsb1 hb1
    go_wp2_with fail
    go_ret3
    exact ⟨ret_three e.out, (by repeat (first | with_reducible exact Below.refl _ _ | with_reducible assumption | (with_reducible refine Below.drew ?_) | (with_reducible refine below_drewN ?_ _) | ((with_reducible refine Below.alloc ?_ ?_ _); rotate_left; (focus (first | omega | (simp; omega) | simp))) | ((with_reducible refine Below.setCell ?_ ?_ _); rotate_left; (focus (first | omega | (simp; omega) | simp))) | (refine Below.trans ?_ (Below.mono (by assumption) (by first | omega | (simp; omega) | simp)))))⟩
  · have e : Hid (greatB nm span wd dp wood ls = ((gmB span ls ls).1, Pl.nr (gmB span ls ls).2 span, 0)) := by unfold Hid greatB; simp [hv]
    have HG := hide (good_of hv)
    go_enter Tryz.func9, Tryz.ntmps9
    go_wp2_with fail
    refine (implValidBeam nm span wd dp wood _ c ls _ HX.out hn hs).mono ?_
    rintro e w1 ⟨rfl, hb1⟩
    obtain ⟨fcb1, ffb1, fzb1⟩ := bfacts hb1 (by first | exact Nat.le_refl _ | omega | (simp; omega) | simp); have fsb1 := hb1.size; try simp at fcb1 ffb1 fzb1 fsb1 hb1
    have H1 := hide (HX.out.below (by simpa using hb1))
    go_wp2_with fail
    refine (implgreatestMoment nm span wd dp wood _ c ls _ H1.out HG.out).mono ?_
    rintro e w2 ⟨rfl, hb2⟩
    have hbn := Below.trans (by first | exact hb1 | exact below_drewN hb1 _) (Below.mono hb2 (by first | omega | (simp; omega) | simp))
    clear hb2 fcb1 ffb1 fzb1 fsb1
    clear hb1
    have hb2 := hbn
    clear hbn
    obtain ⟨fcb2, ffb2, fzb2⟩ := bfacts hb2 (by first | exact Nat.le_refl _ | omega | (simp; omega) | simp); have fsb2 := hb2.size; try simp at fcb2 ffb2 fzb2 fsb2 hb2
    go_wp2_with fail
    go_ret3
    exact ⟨ret_three e.out, (by repeat (first | with_reducible exact Below.refl _ _ | with_reducible assumption | (with_reducible refine Below.drew ?_) | (with_reducible refine below_drewN ?_ _) | ((with_reducible refine Below.alloc ?_ ?_ _); rotate_left; (focus (first | omega | (simp; omega) | simp))) | ((with_reducible refine Below.setCell ?_ ?_ _); rotate_left; (focus (first | omega | (simp; omega) | simp))) | (refine Below.trans ?_ (Below.mono (by assumption) (by first | omega | (simp; omega) | simp)))))⟩
set_option maxRecDepth 100000 in
theorem implStressOf (nm : ByteArray) (span wd dp wood : Int) (A : Option Addr) (c : Nat) (ls : List LoadR) (w : World) (h : SlAt encLoad 2 w A ls) (hn : ls.length ≤ 1048576) (hs : nm.size ≤ maxLen) :
    Calls Tryz.prog 14 #[.agg #[.string nm, .int .i64 span, .int .i64 wd, .int .i64 dp, .int .i64 wood, .slice A ls.length c]] w fun e w' => e = .returned (two (stressR nm span wd dp wood ls)) ∧ Below w.heap.size w w' := by
  have HX := hide (h.below ((Below.refl _ _).alloc (Nat.le_refl _) (.cells #[.string nm, .int .i64 span, .int .i64 wd, .int .i64 dp, .int .i64 wood, .slice A ls.length c] 26)))
  clear h
  cases hv : vBeam nm span wd dp wood ls
  · have e : Hid (stressR nm span wd dp wood ls = (0, 1)) := by unfold Hid stressR; simp [hv]
    go_enter Tryz.func14, Tryz.ntmps14
    go_wp2_with fail
    refine (implValidBeam nm span wd dp wood _ c ls _ HX.out hn hs).mono ?_
    rintro e w1 ⟨rfl, hb1⟩
    obtain ⟨fcb1, ffb1, fzb1⟩ := bfacts hb1 (by first | exact Nat.le_refl _ | omega | (simp; omega) | simp); have fsb1 := hb1.size; try simp at fcb1 ffb1 fzb1 fsb1 hb1
    go_wp2_with fail
    go_ret2
    exact ⟨ret_two e.out, (by repeat (first | with_reducible exact Below.refl _ _ | with_reducible assumption | (with_reducible refine Below.drew ?_) | (with_reducible refine below_drewN ?_ _) | ((with_reducible refine Below.alloc ?_ ?_ _); rotate_left; (focus (first | omega | (simp; omega) | simp))) | ((with_reducible refine Below.setCell ?_ ?_ _); rotate_left; (focus (first | omega | (simp; omega) | simp))) | (refine Below.trans ?_ (Below.mono (by assumption) (by first | omega | (simp; omega) | simp)))))⟩
  · have e : Hid (stressR nm span wd dp wood ls = (stressB span wd dp ls, 0)) := by unfold Hid stressR; simp [hv]
    have HG := hide (good_of hv)
    go_enter Tryz.func14, Tryz.ntmps14
    go_wp2_with fail
    refine (implValidBeam nm span wd dp wood _ c ls _ HX.out hn hs).mono ?_
    rintro e w1 ⟨rfl, hb1⟩
    obtain ⟨fcb1, ffb1, fzb1⟩ := bfacts hb1 (by first | exact Nat.le_refl _ | omega | (simp; omega) | simp); have fsb1 := hb1.size; try simp at fcb1 ffb1 fzb1 fsb1 hb1
    have H1 := hide (HX.out.below (by simpa using hb1))
    go_wp2_with fail
    refine (implstressOf nm span wd dp wood _ c ls _ H1.out HG.out).mono ?_
    rintro e w2 ⟨rfl, hb2⟩
    have hbn := Below.trans (by first | exact hb1 | exact below_drewN hb1 _) (Below.mono hb2 (by first | omega | (simp; omega) | simp))
    clear hb2 fcb1 ffb1 fzb1 fsb1
    clear hb1
    have hb2 := hbn
    clear hbn
    obtain ⟨fcb2, ffb2, fzb2⟩ := bfacts hb2 (by first | exact Nat.le_refl _ | omega | (simp; omega) | simp); have fsb2 := hb2.size; try simp at fcb2 ffb2 fzb2 fsb2 hb2
    go_wp2_with fail
    go_ret2
    exact ⟨ret_two e.out, (by repeat (first | with_reducible exact Below.refl _ _ | with_reducible assumption | (with_reducible refine Below.drew ?_) | (with_reducible refine below_drewN ?_ _) | ((with_reducible refine Below.alloc ?_ ?_ _); rotate_left; (focus (first | omega | (simp; omega) | simp))) | ((with_reducible refine Below.setCell ?_ ?_ _); rotate_left; (focus (first | omega | (simp; omega) | simp))) | (refine Below.trans ?_ (Below.mono (by assumption) (by first | omega | (simp; omega) | simp)))))⟩
set_option maxRecDepth 100000 in
theorem implBendingOf (nm : ByteArray) (span wd dp wood : Int) (A : Option Addr) (c : Nat) (ls : List LoadR) (w : World) (h : SlAt encLoad 2 w A ls) (hn : ls.length ≤ 1048576) (hs : nm.size ≤ maxLen) :
    Calls Tryz.prog 15 #[.agg #[.string nm, .int .i64 span, .int .i64 wd, .int .i64 dp, .int .i64 wood, .slice A ls.length c]] w fun e w' => e = .returned (two (bendR nm span wd dp wood ls)) ∧ Below w.heap.size w w' := by
  have HX := hide (h.below ((Below.refl _ _).alloc (Nat.le_refl _) (.cells #[.string nm, .int .i64 span, .int .i64 wd, .int .i64 dp, .int .i64 wood, .slice A ls.length c] 26)))
  clear h
  cases hv : vBeam nm span wd dp wood ls
  · have e : Hid (bendR nm span wd dp wood ls = (0, 1)) := by unfold Hid bendR; simp [hv]
    go_enter Tryz.func15, Tryz.ntmps15
    go_wp2_with fail
    refine (implValidBeam nm span wd dp wood _ c ls _ HX.out hn hs).mono ?_
    rintro e w1 ⟨rfl, hb1⟩
    obtain ⟨fcb1, ffb1, fzb1⟩ := bfacts hb1 (by first | exact Nat.le_refl _ | omega | (simp; omega) | simp); have fsb1 := hb1.size; try simp at fcb1 ffb1 fzb1 fsb1 hb1
    go_wp2_with fail
    go_ret2
    exact ⟨ret_two e.out, (by repeat (first | with_reducible exact Below.refl _ _ | with_reducible assumption | (with_reducible refine Below.drew ?_) | (with_reducible refine below_drewN ?_ _) | ((with_reducible refine Below.alloc ?_ ?_ _); rotate_left; (focus (first | omega | (simp; omega) | simp))) | ((with_reducible refine Below.setCell ?_ ?_ _); rotate_left; (focus (first | omega | (simp; omega) | simp))) | (refine Below.trans ?_ (Below.mono (by assumption) (by first | omega | (simp; omega) | simp)))))⟩
  · have e : Hid (bendR nm span wd dp wood ls = (bendB span wd dp wood ls, 0)) := by unfold Hid bendR; simp [hv]
    have HG := hide (good_of hv)
    go_enter Tryz.func15, Tryz.ntmps15
    go_wp2_with fail
    refine (implValidBeam nm span wd dp wood _ c ls _ HX.out hn hs).mono ?_
    rintro e w1 ⟨rfl, hb1⟩
    obtain ⟨fcb1, ffb1, fzb1⟩ := bfacts hb1 (by first | exact Nat.le_refl _ | omega | (simp; omega) | simp); have fsb1 := hb1.size; try simp at fcb1 ffb1 fzb1 fsb1 hb1
    have H1 := hide (HX.out.below (by simpa using hb1))
    go_wp2_with fail
    refine (implbendingOf nm span wd dp wood _ c ls _ H1.out HG.out).mono ?_
    rintro e w2 ⟨rfl, hb2⟩
    have hbn := Below.trans (by first | exact hb1 | exact below_drewN hb1 _) (Below.mono hb2 (by first | omega | (simp; omega) | simp))
    clear hb2 fcb1 ffb1 fzb1 fsb1
    clear hb1
    have hb2 := hbn
    clear hbn
    obtain ⟨fcb2, ffb2, fzb2⟩ := bfacts hb2 (by first | exact Nat.le_refl _ | omega | (simp; omega) | simp); have fsb2 := hb2.size; try simp at fcb2 ffb2 fzb2 fsb2 hb2
    go_wp2_with fail
    go_ret2
    exact ⟨ret_two e.out, (by repeat (first | with_reducible exact Below.refl _ _ | with_reducible assumption | (with_reducible refine Below.drew ?_) | (with_reducible refine below_drewN ?_ _) | ((with_reducible refine Below.alloc ?_ ?_ _); rotate_left; (focus (first | omega | (simp; omega) | simp))) | ((with_reducible refine Below.setCell ?_ ?_ _); rotate_left; (focus (first | omega | (simp; omega) | simp))) | (refine Below.trans ?_ (Below.mono (by assumption) (by first | omega | (simp; omega) | simp)))))⟩
end Go.Proofs.YtajodbhbmfjmjaaGreatDoor
