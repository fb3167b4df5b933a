/- The reference's greatest force: the row of what stands behind, and the whole search. -/
import Derived.Test.YtjklhacffdhgaaaPuZ
import Derived.Test.YtjklhacffdhgaaaTotal
namespace Go.Proofs.Ytjklhacffdhgaaa
open Go.RowKit

theorem run_any (w0 : World) (b : Nat) (lA : Option Addr) (lc : Nat) (aA : Option Addr) (ac : Nat) (rA : Option Addr) (rc : Nat) (lim bud : Int) (xs : List SwingR) (am rl : List Int) (HL : Hid (SlAt encSwing 3 w0 lA xs)) (HA : Hid (SlAt encI 1 w0 aA am)) (HR : Hid (SlAt encI 1 w0 rA rl))
    (HLN : Hid (0 < xs.length → ∀ g o, lA = some ⟨g, o, none⟩ → g ≠ b)) (HAN : Hid (0 < xs.length → ∀ g o, aA = some ⟨g, o, none⟩ → g ≠ b)) (HRN : Hid (∀ g o, rA = some ⟨g, o, none⟩ → g ≠ b)) (hal : am.length = xs.length) (hrl : rl.length = xs.length + 1) (HRL : Hid (∀ k (h : k + 1 < rl.length), rl[k + 1] = Pu.rest (frcs xs) k))
    (HFV : Hid (∀ x ∈ frcs xs, 0 ≤ x ∧ x ≤ 1000000)) (HAV : Hid (∀ x ∈ am, 0 ≤ x ∧ x ≤ 1000000000000)) (hn : xs.length ≤ 16) (hl0 : lim ≤ 100000) (f : Nat) : RunOK w0 b lA lc aA ac rA rc lim bud (frcs xs) am f := by
  have hfl := frcs_len xs
  induction f with
  | zero => intro k taken force sway s w tv tc bv bc h1 h2; omega
  | succ f ih =>
    intro k taken force sway s w tv tc bv bc h1 h2 h3 h4 h5 h6 h7 HS
    by_cases hk : k = (frcs xs).length
    · subst hk
      exact run_last w0 b lA lc aA ac rA rc lim bud (frcs xs) am (by omega) f taken force sway s w tv tc bv bc h3 h4 (by omega) HS
    · exact run_goes w0 b lA lc aA ac rA rc lim bud xs am rl HL HA HR (hide (HLN.out (by omega))) (hide (HAN.out (by omega))) HRN hal hrl HRL HFV HAV hn hl0 f ih k (by omega) (by omega) taken h3 force sway h4 h5 h6 h7 s w tv tc bv bc HS
theorem sumF_drop {fs : List Int} {k : Nat} (h : k < fs.length) : Pu.sumF (fs.drop k) = Pu.sumF (fs.drop (k + 1)) + fs[k] := by
  rw [List.drop_eq_getElem_cons h]
  simp only [Pu.sumF]
  omega
/-- A row of numbers that is filled from its end: what stands behind each place. -/
def RestAt (w : World) (B n : Nat) (fs : List Int) (i : Nat) : Prop := ∃ cs : Array Value, w.heap[B]? = some (.cells cs 2 (0, 0)) ∧ cs.size = n + 1 ∧ ∀ j, i ≤ j → j ≤ n → cs[j]? = some (.int .i64 (Pu.sumF (fs.drop j)))
section
variable {w : World} {B n : Nat} {fs : List Int} {i : Nat}
theorem RestAt.below {w' : World} {B' : Nat} (h : RestAt w B n fs i) (hb : Below B' w w') (hB : B < B') : RestAt w' B n fs i := by
  obtain ⟨cs, e, h1, h2⟩ := h
  exact ⟨cs, (hb.block B hB).trans e, h1, h2⟩
theorem RestAt.cell (h : RestAt w B n fs i) {j : Nat} (hj : j ≤ n) : ∃ u, w.cell? ⟨B, j, none⟩ = some u := by
  obtain ⟨cs, e, h1, h2⟩ := h
  refine ⟨cs[j]'(by omega), ?_⟩
  simp [World.cell?, e]
theorem RestAt.val (h : RestAt w B n fs i) {j : Nat} (hi : i ≤ j) (hj : j ≤ n) : w.cell? ⟨B, j, none⟩ = some (.int .i64 (Pu.sumF (fs.drop j))) := by
  obtain ⟨cs, e, h1, h2⟩ := h
  simp [World.cell?, e, h2 j hi hj]
theorem RestAt.frozen (h : RestAt w B n fs i) (j : Nat) : w.frozen? ⟨B, j, none⟩ = false := by
  obtain ⟨cs, e, h1, h2⟩ := h
  simp [World.frozen?, e]
theorem RestAt.lt (h : RestAt w B n fs i) : B < w.heap.size := by
  obtain ⟨cs, e, h1, h2⟩ := h
  exact heap_lt e
theorem RestAt.push (h : RestAt w B n fs (i + 1)) (hi : i ≤ n) {v : Int} (hv : v = Pu.sumF (fs.drop i)) : RestAt (w.setCell ⟨B, i, none⟩ (.int .i64 v)) B n fs i := by
  obtain ⟨cs, e, h1, h2⟩ := h
  refine ⟨cs.setIfInBounds i (.int .i64 v), ?_, by simpa using h1, fun j hj hn => ?_⟩
  · simp [World.setCell, Array.getElem?_modify, e]
  · by_cases q : j = i
    · subst q
      rw [Array.getElem?_setIfInBounds_self_of_lt (by omega), hv]
    · rw [Array.getElem?_setIfInBounds_ne (by omega)]
      exact h2 j (by omega) hn
theorem RestAt.fin (h : RestAt w B n fs 0) : SlAt encI 1 w (some ⟨B, 0, none⟩) ((List.range (n + 1)).map fun j => Pu.sumF (fs.drop j)) := by
  intro k hk
  simp at hk
  refine ⟨B, 0, rfl, h.lt, fun j v hv => ?_⟩
  match j, hv with
  | 0, hv =>
    simp [encI] at hv
    subst hv
    have q := h.val (j := k) (by omega) (by omega)
    simpa using q
theorem RestAt.start {cs : Array Value} (hs : cs.size = n + 1) (h0 : cs[n]? = some (.int .i64 0)) (hl : fs.length = n) : RestAt (w.alloc (.cells cs 2)) w.heap.size n fs n := by
  refine ⟨cs, heap_alloc_new _ _, hs, fun j hi hj => ?_⟩
  obtain rfl : j = n := by omega
  rw [h0, List.drop_of_length_le (by omega)]
  rfl
end
theorem made_at (n : Nat) : (madeCells (Value.int .i64 0).cells ((n + 1) * 1))[n]? = some (.int .i64 0) := by
  simp [madeCells, Value.cells, Nat.mod_one]
set_option maxRecDepth 100000 in
set_option maxHeartbeats 2000000 in
theorem specGreatestForce (nm : ByteArray) (sw dp sf lim : Int) (A : Option Addr) (c : Nat) (xs : List SwingR) (bud : Int) (w : World) (hs : nm.size ≤ maxLen) (h : SlAt encSwing 3 w A xs) (hn : xs.length ≤ 1048576) (hx : ∀ x ∈ xs, x.nm.size ≤ maxLen) :
    Calls Try.prog 36 #[.agg #[.string nm, .int .i64 sw, .int .i64 dp, .int .i64 sf, .int .i64 lim], .slice A xs.length c, .int .i64 bud] w (SlRes3 (fun ys v code => frcR nm sw dp sf lim xs bud = (ys, v, code)) w) := by
  have HX := hide (h.below ((Below.refl _ _).alloc (Nat.le_refl _) (.cells #[.string nm, .int .i64 sw, .int .i64 dp, .int .i64 sf, .int .i64 lim] 56)))
  have HS := hide hx
  clear h hx
  cases hv : vTower nm sw dp sf lim
  · have e : Hid (frcR nm sw dp sf lim xs bud = ([], 0, 1)) := frcR_1 hv
    go_enter Try.func36, Try.ntmps36
    go_wp2_with fail
    refine (specl22Tower _ 0 nm sw dp sf lim _ hs (by simp) (by simp) (by simp) (by simp) (by simp)).mono ?_; rintro e w1 ⟨rfl, rfl⟩
    go_wp2_with fail
    go_ret3
    exact slRes3_nil e.out (by repeat (first | with_reducible exact Below.refl _ _ | with_reducible assumption | (with_reducible refine Below.drew ?_) | (with_reducible refine below_drewN ?_ _) | ((with_reducible refine Below.alloc ?_ ?_ _); rotate_left; (focus (first | omega | (simp; omega) | simp))) | ((with_reducible refine Below.setCell ?_ ?_ _); rotate_left; (focus (first | omega | (simp; omega) | simp))) | (refine Below.trans ?_ (Below.mono (by assumption) (by first | omega | (simp; omega) | simp)))))
  · cases hr : rowsB vSwingR SwingR.nm 16 xs
    · have e : Hid (frcR nm sw dp sf lim xs bud = ([], 0, 1)) := frcR_2 hr
      go_enter Try.func36, Try.ntmps36
      go_wp2_with fail
      refine (specl22Tower _ 0 nm sw dp sf lim _ hs (by simp) (by simp) (by simp) (by simp) (by simp)).mono ?_; rintro e w1 ⟨rfl, rfl⟩
      go_wp2_with fail
      refine (specl22Ok A c xs _ HX.out hn HS.out).mono ?_
      rintro e w2 ⟨rfl, hb2⟩
      obtain ⟨fcb2, ffb2, fzb2⟩ := bfacts hb2 (by first | exact Nat.le_refl _ | omega | (simp; omega) | simp); have fsb2 := hb2.size; try simp at fcb2 ffb2 fzb2 fsb2 hb2
      go_wp2_with fail
      go_ret3
      exact slRes3_nil e.out (by repeat (first | with_reducible exact Below.refl _ _ | with_reducible assumption | (with_reducible refine Below.drew ?_) | (with_reducible refine below_drewN ?_ _) | ((with_reducible refine Below.alloc ?_ ?_ _); rotate_left; (focus (first | omega | (simp; omega) | simp))) | ((with_reducible refine Below.setCell ?_ ?_ _); rotate_left; (focus (first | omega | (simp; omega) | simp))) | (refine Below.trans ?_ (Below.mono (by assumption) (by first | omega | (simp; omega) | simp)))))
    · cases hbg : inB bud 1 20000
      · have e : Hid (frcR nm sw dp sf lim xs bud = ([], 0, 2)) := frcR_3 hv hr hbg
        go_enter Try.func36, Try.ntmps36
        go_wp2_with fail
        refine (specl22Tower _ 0 nm sw dp sf lim _ hs (by simp) (by simp) (by simp) (by simp) (by simp)).mono ?_; rintro e w1 ⟨rfl, rfl⟩
        go_wp2_with fail
        refine (specl22Ok A c xs _ HX.out hn HS.out).mono ?_
        rintro e w2 ⟨rfl, hb2⟩
        obtain ⟨fcb2, ffb2, fzb2⟩ := bfacts hb2 (by first | exact Nat.le_refl _ | omega | (simp; omega) | simp); have fsb2 := hb2.size; try simp at fcb2 ffb2 fzb2 fsb2 hb2
        go_wp2_with fail
        refine (specl00In_any _ _ _ _).mono ?_; rintro e2 w3 ⟨rfl, rfl⟩
        go_wp2_with fail
        go_ret3
        exact slRes3_nil e.out (by repeat (first | with_reducible exact Below.refl _ _ | with_reducible assumption | (with_reducible refine Below.drew ?_) | (with_reducible refine below_drewN ?_ _) | ((with_reducible refine Below.alloc ?_ ?_ _); rotate_left; (focus (first | omega | (simp; omega) | simp))) | ((with_reducible refine Below.setCell ?_ ?_ _); rotate_left; (focus (first | omega | (simp; omega) | simp))) | (refine Below.trans ?_ (Below.mono (by assumption) (by first | omega | (simp; omega) | simp)))))
      · have e := hide (frcR_4 hv hr hbg)
        obtain ⟨-, ⟨a1, a2⟩, ⟨a3, a4⟩, ⟨a5, a6⟩, a7, a8⟩ := vTower_true _ _ _ _ _ hv
        obtain ⟨r1, r2, -⟩ := rowsB_true hr
        obtain ⟨p1, p2⟩ := inB_true hbg
        have HR1 := hide r1
        have HBG := hide hbg
        clear r1
        go_enter Try.func36, Try.ntmps36
        go_wp2_with fail
        refine (specl22Tower _ 0 nm sw dp sf lim _ hs (by simp) (by simp) (by simp) (by simp) (by simp)).mono ?_; rintro e w1 ⟨rfl, rfl⟩
        go_wp2_with fail
        refine (specl22Ok A c xs _ HX.out hn HS.out).mono ?_
        rintro e w2 ⟨rfl, hb2⟩
        obtain ⟨fcb2, ffb2, fzb2⟩ := bfacts hb2 (by first | exact Nat.le_refl _ | omega | (simp; omega) | simp); have fsb2 := hb2.size; try simp at fcb2 ffb2 fzb2 fsb2 hb2
        have HX2 := hide (HX.out.below (by simpa using hb2))
        have HB2 := hide (show Below (w.heap.size + 1) (w.alloc (.cells #[.string nm, .int .i64 sw, .int .i64 dp, .int .i64 sf, .int .i64 lim] 56)) w2 by simpa using hb2)
        go_wp2_with fail
        refine (specl00In_any _ _ _ _).mono ?_; rintro e2 w3 ⟨rfl, rfl⟩
        clear hbg hv hr
        have hbg := HBG.out
        obtain ⟨i0, hi, hz0, hz1, hz2⟩ := info_parts info_i64
        have hmk := fun W => run_make_rowN (P := Try.prog) 34 2 i0 _ Try.underlying34 hi hz0 .i64 .i64 (xs.length + 1) (xs.length + 1) (Nat.le_refl _) (by rw [hz2]; omega) (by omega) W
        rw [hz1] at hmk
        rw [show ((xs.length + 1 : Nat) : Int) = (xs.length : Int) + 1 by omega] at hmk
        have hcz := made_at xs.length
        generalize hcs : madeCells (Value.int .i64 0).cells ((xs.length + 1) * 1) = cs at hmk hcz
        have hcs' : cs.size = xs.length + 1 := by rw [← hcs, size_madeCells]; omega
        have HF := hide (RestAt.start (w := w2) hcs' hcz (frcs_len xs))
        have kk : IntKind.i64.wrap ((xs.length : Int) + 1) = ((xs.length + 1 : Nat) : Int) := by rw [IntWalk.i64_in _ (by omega)]; rfl
        have kk1 : IntKind.i64.wrap ((xs.length : Int) - 1) = (xs.length : Int) - 1 := IntWalk.i64_in _ (by omega)
        have q0 := HB2.out.cell (p := ⟨w.heap.size, 0, none⟩) (by simp)
        have q1 := HB2.out.cell (p := ⟨w.heap.size, 1, none⟩) (by simp)
        have q2 := HB2.out.cell (p := ⟨w.heap.size, 2, none⟩) (by simp)
        have q3 := HB2.out.cell (p := ⟨w.heap.size, 3, none⟩) (by simp)
        have q4 := HB2.out.cell (p := ⟨w.heap.size, 4, none⟩) (by simp)
        have hwz := HB2.out.size
        simp at q0 q1 q2 q3 q4 hwz
        have HFV := hide (show ∀ x ∈ frcs xs, 0 ≤ x ∧ x ≤ 1000000 from fun x hx => by
          unfold frcs at hx
          rw [List.mem_map] at hx
          obtain ⟨y, hy, rfl⟩ := hx
          have := vSwing_true _ _ _ (HR1.out y hy)
          omega)
        have HQ := hide (And.intro q1 (And.intro q2 (And.intro q3 q4)))
        clear hi hz0 hz1 hz2 hcs hcs' hcz q0 q1 q2 q3 q4 hb2 fcb2 ffb2 fzb2
        go_wp2_with fail
        clear hmk
        obtain ⟨B, hB⟩ : ∃ B, B = w2.heap.size := ⟨_, rfl⟩
        rw [← hB] at HF ⊢
        have hBge : w2.heap.size ≤ B := by omega
        clear hB
        have BF := hide (show Below w2.heap.size w2 (w2.alloc (.cells cs 2)) from (Below.refl _ _).alloc (Nat.le_refl _) _)
        generalize w2.alloc (.cells cs 2) = w3 at *
        go_loopw [10] (fun v wr => ∃ (k : Nat) (i : Int), v = .int .i64 i ∧ Hid (i + 1 = k) ∧ k ≤ xs.length ∧ Hid (RestAt wr B xs.length (frcs xs) k) ∧ Hid (Below w2.heap.size w2 wr)) (fun v _ => (intOf v + 1).toNat)
        case atStart => exact ⟨xs.length, _, rfl, hide (by omega), Nat.le_refl _, HF, BF⟩
        case round =>
          clear HF BF
          obtain ⟨k, i, rfl, hik, hk, HF, BF⟩ := hrel
          match k with
          | k + 1 =>
            obtain rfl : i = (k : Int) := by have := hik.out; omega
            obtain ⟨bl, ol, rfl, hbl, hc⟩ := (HX2.out.below BF.out) k (by omega)
            have hc2 := hc 2 _ rfl
            have hfd := sumF_drop (fs := frcs xs) (k := k) (by rw [frcs_len]; omega)
            have hfk : (frcs xs)[k]'(by rw [frcs_len]; omega) = xs[k].force := by simp [frcs]
            rw [hfk] at hfd
            have hbd := rest_bd (k := k) (fs := frcs xs) HFV.out (by rw [frcs_len]; omega)
            have hvk : 0 ≤ xs[k].force ∧ xs[k].force ≤ 1000000 := HFV.out _ (by unfold frcs; rw [List.mem_map]; exact ⟨xs[k], List.getElem_mem _, rfl⟩)
            unfold Pu.rest at hbd
            have y1 := HF.out.val (j := k + 1) (Nat.le_refl _) hk
            obtain ⟨u0, y0⟩ := HF.out.cell (j := k) (by omega)
            have fz := HF.out.frozen k
            have hBl := HF.out.lt
            have HFD := hide hfd
            clear hfd hfk hc
            generalize xs[k].force = fk at *
            generalize Pu.sumF ((frcs xs).drop (k + 1)) = rs at *
            have kA : IntKind.i64.wrap (rs + fk) = rs + fk := IntWalk.i64_in _ (by omega)
            have kK : IntKind.i64.wrap ((k : Int) + 1) = ((k + 1 : Nat) : Int) := by rw [IntWalk.i64_in _ (by omega)]; rfl
            go_wp2_with fail
            go_region
            all_goals
              go_wp2_with fail
              go_roundw
              case rel => exact ⟨k, _, rfl, hide (by omega), by omega, hide (by first | exact RestAt.push HF.out (by omega) HFD.out.symm | exact RestAt.push (w := wr.drew) HF.out (by omega) HFD.out.symm), hide (by first | exact Below.setCell BF.out (by omega) _ | exact (BF.out.drew).setCell (by omega) _)⟩
              case measure => simp [intOf]
          | 0 =>
            obtain rfl : i = -1 := by have := hik.out; omega
            clear hik
            have HK := hide (fun (W : World) (h : Below w2.heap.size w2 W) => And.intro ((h.cell (p := ⟨w.heap.size, 1, none⟩) (by show w.heap.size < w2.heap.size; omega)).trans HQ.out.1) (And.intro ((h.cell (p := ⟨w.heap.size, 2, none⟩) (by show w.heap.size < w2.heap.size; omega)).trans HQ.out.2.1) (And.intro ((h.cell (p := ⟨w.heap.size, 3, none⟩) (by show w.heap.size < w2.heap.size; omega)).trans HQ.out.2.2.1) (And.intro ((h.cell (p := ⟨w.heap.size, 4, none⟩) (by show w.heap.size < w2.heap.size; omega)).trans HQ.out.2.2.2) h))))
            have hBl := HF.out.lt
            have hz2r := BF.out.size
            go_upto_region 10 with fail
            go_cut [11] (fun v wx => ∃ (b : Nat) (aA : Option Addr) (ac : Nat), v = .pointer (some ⟨b, 0, none⟩) ∧ wr.heap.size ≤ b ∧ Hid (OwnI wx wr.heap.size (.slice aA (amps sw dp sf xs).length ac) (amps sw dp sf xs)) ∧ Hid (∀ g o, aA = some ⟨g, o, none⟩ → 0 < xs.length → g ≠ b) ∧ Hid (Below wr.heap.size wr wx) ∧
              Hid (PuX wx b A c aA ac (some ⟨B, 0, none⟩) (xs.length + 1) xs.length lim bud wx none 0 [] 0 0 none 0 ⟨bud, false, -1, []⟩))
            case first =>
              obtain ⟨t1, t2, t3, t4, -⟩ := HK.out _ BF.out
              have HK4 := hide (fun (W : World) (h : Below wr.heap.size wr W) => (show W.cell? ⟨w.heap.size, 1, none⟩ = some (.int .i64 sw) ∧ W.cell? ⟨w.heap.size, 2, none⟩ = some (.int .i64 dp) ∧ W.cell? ⟨w.heap.size, 3, none⟩ = some (.int .i64 sf) ∧ W.cell? ⟨w.heap.size, 4, none⟩ = some (.int .i64 lim) ∧ Below wr.heap.size wr W from by obtain ⟨v1, v2, v3, v4, -⟩ := HK.out _ (BF.out.trans (h.mono hz2r)); exact ⟨v1, v2, v3, v4, h⟩))
              go_region_held3 (fun w' => w'.cell? ⟨w.heap.size, 1, none⟩ = some (.int .i64 sw) ∧ w'.cell? ⟨w.heap.size, 2, none⟩ = some (.int .i64 dp) ∧ w'.cell? ⟨w.heap.size, 3, none⟩ = some (.int .i64 sf) ∧ w'.cell? ⟨w.heap.size, 4, none⟩ = some (.int .i64 lim) ∧ Below wr.heap.size wr w')
                (exact HK4.out _ (by repeat (first | with_reducible exact Below.refl _ _ | with_reducible assumption | (with_reducible refine Below.drew ?_) | (with_reducible refine below_drewN ?_ _) | ((with_reducible refine Below.alloc ?_ ?_ _); rotate_left; (focus (first | omega | (simp; omega) | simp))) | ((with_reducible refine Below.setCell ?_ ?_ _); rotate_left; (focus (first | omega | (simp; omega) | simp))) | (refine Below.trans ?_ (Below.mono (by assumption) (by first | omega | (simp; omega) | simp))))))
                (first | (go_at_call 97; refine (specl22All _ sw dp sf A c xs _ (HX2.out.below (BF.out.trans ((show Below wr.heap.size wr _ from (by repeat (first | with_reducible exact Below.refl _ _ | with_reducible assumption | (with_reducible refine Below.drew ?_) | (with_reducible refine below_drewN ?_ _) | ((with_reducible refine Below.alloc ?_ ?_ _); rotate_left; (focus (first | omega | (simp; omega) | simp))) | ((with_reducible refine Below.setCell ?_ ?_ _); rotate_left; (focus (first | omega | (simp; omega) | simp))) | (refine Below.trans ?_ (Below.mono (by assumption) (by first | omega | (simp; omega) | simp)))))).mono hz2r))) HR1.out r2 a1 a2 a3 a4 a5 a6 (by assumption) (by assumption) (by assumption)).mono ?_; rintro e2 wK ⟨A3, c3, rfl, ho3, hbK⟩; have hbW : Below wr.heap.size wr wK := Below.trans (show Below wr.heap.size wr _ from (by repeat (first | with_reducible exact Below.refl _ _ | with_reducible assumption | (with_reducible refine Below.drew ?_) | (with_reducible refine below_drewN ?_ _) | ((with_reducible refine Below.alloc ?_ ?_ _); rotate_left; (focus (first | omega | (simp; omega) | simp))) | ((with_reducible refine Below.setCell ?_ ?_ _); rotate_left; (focus (first | omega | (simp; omega) | simp))) | (refine Below.trans ?_ (Below.mono (by assumption) (by first | omega | (simp; omega) | simp)))))) (hbK.mono (by first | exact Nat.le_refl _ | (simp; done) | (simp; omega))); have hzW := hbW.size; have HO3 := hide (show OwnI wK wr.heap.size (.slice A3 (amps sw dp sf xs).length c3) (amps sw dp sf xs) from ho3.mono (by first | exact Nat.le_refl _ | (simp; done))); clear ho3))
              all_goals
                go_wp2_with fail
                go_meet
                exact ⟨wK.heap.size, A3, c3, rfl, hzW, hide (HO3.out.below ((Below.refl _ _).alloc (Nat.le_refl _) _)), hide (fun g o q _ => by subst q; have := (HO3.out.lt g rfl).2; omega), hide (hbW.alloc hzW _),
                  hide ⟨(heap_alloc_new _ _).trans (by simp [puCellsX, amps_len]), Own.nil, Own.nil, fun g h => by simp [Value.ownBlock] at h, ⟨by simp only; omega, by simp only; omega, by simp only; omega, by simp only; omega, by simp⟩, fun q => by simp at q, ⟨Int.le_refl _, p2⟩, grown_refl _ _, by simp⟩⟩
            case rest =>
              obtain ⟨w5, rfl⟩ : ∃ w5, w5 = wc := ⟨_, rfl⟩
              obtain ⟨b, aA, ac, rfl, hrb, HO, HAN, BX, HP⟩ := hcut
              have BW := hide (show Below w.heap.size w w2 from ((Below.refl _ _).alloc (Nat.le_refl _) _).trans (HB2.out.mono (by omega)))
              have hww := BW.out.size
              have B5 := hide (BF.out.trans (BX.out.mono hz2r))
              have hfl := frcs_len xs
              have hal := amps_len sw dp sf xs
              have HL := hide (HX2.out.below B5.out)
              have HA := hide (Own.at_ (enc := encI) (sz := 1) (fun _ => rfl) HO.out)
              have HR := hide (HF.out.below BX.out hBl).fin
              have HLN := hide (show 0 < xs.length → ∀ g o, A = some ⟨g, o, none⟩ → g ≠ b from fun h0 g o q => by
                obtain ⟨b2, o2, q2, hb2, _⟩ := HX2.out 0 h0
                rw [q] at q2
                injection q2 with q2
                injection q2 with q2
                omega)
              have HAN2 := hide (show 0 < xs.length → ∀ g o, aA = some ⟨g, o, none⟩ → g ≠ b from fun h0 g o q => HAN.out g o q h0)
              have HRN := hide (show ∀ g o, (some ⟨B, 0, none⟩ : Option Addr) = some ⟨g, o, none⟩ → g ≠ b from fun g o q => by
                injection q with q
                injection q with q
                omega)
              have HAV := hide (amps_val (sf := sf) a1 a2 a3 a4 a5 HR1.out)
              have hs := run_any w5 b A c aA ac (some ⟨B, 0, none⟩) (xs.length + 1) lim bud xs (amps sw dp sf xs) _ HL HA HR HLN HAN2 HRN hal (by simp) (hide (fun k h => by simp [Pu.rest])) HFV HAV r2 a8 (xs.length + 1) 0 [] 0 0 ⟨bud, false, -1, []⟩ w5 none 0 none 0 (by omega) (by omega) (by simp) (by omega) (by omega) (by omega) a7 (by rw [hfl]; exact HP)
              have HSS := hide hs
              have HRZ := hide (show lastP sw dp sf lim xs bud = Pu.pull (frcs xs) (amps sw dp sf xs) lim (xs.length + 1) 0 [] 0 0 ⟨bud, false, -1, []⟩ from rfl)
              clear hs HL HA HR HLN HAN HAN2 HRN HAV HO
              go_wp2_with fail
              refine HSS.out.mono ?_
              rintro e3 w6 ⟨rfl, tv, tc, bv, bc, hP⟩
              rw [← HRZ.out, hfl] at hP
              clear HP
              have HP := hide hP
              have hst := hP.st
              have g11 : w6.cell? ⟨b, 11, none⟩ = some (.bool (lastP sw dp sf lim xs bud).spent) := by simp [World.cell?, hst, puCellsX]
              have g7 : w6.cell? ⟨b, 7, none⟩ = some (.slice bv (lastP sw dp sf lim xs bud).best.length bc) := by simp [World.cell?, hst, puCellsX]
              have g8 : w6.cell? ⟨b, 8, none⟩ = some (.int .i64 (lastP sw dp sf lim xs bud).most) := by simp [World.cell?, hst, puCellsX]
              have hbl := hP.lt
              have B6 := hide (BW.out.trans ((Below.grown B5.out hP.gr B5.out.size (fun k q => by injection q with q; omega)).mono hww))
              have hbest := hP.inv.2.2.2.2
              have hz5 := B5.out.size
              clear hP hst HSS HRZ hfl hal
              generalize lastP sw dp sf lim xs bud = sF at *
              obtain ⟨left, spent, most, best⟩ := sF
              simp only at g11 g7 g8 hbest
              cases spent
              · have e2 := hide (show frcR nm sw dp sf lim xs bud = (best, most, 0) from by rw [e.out]; rfl)
                go_wp2_with fail
                refine wp_region_kept (by kernel_rfl) (by kernel_rfl) ?_
                intro gc gf gz
                repeat (go_big_quiet_step (fail))
                refine wpQuiet_nil ?_
                intro w7 hw'
                obtain ⟨⟨_, hb7⟩, rfl⟩ := hw'
                clear gc gf gz
                try dsimp only
                have fs7 := hb7.size
                try simp at fs7 hb7
                have HP7 := hide (HP.out.below hb7)
                have B7 := hide (B6.out.trans (hb7.mono B6.out.size))
                clear hb7 HP
                go_wp2_with fail
                go_ret3
                exact ⟨bv, bc, best, most, 0, rfl, e2.out, by omega, HP7.out.ob.mono (by omega), B7.out⟩
              · have e2 := hide (show frcR nm sw dp sf lim xs bud = ([], 0, 5) from by rw [e.out]; rfl)
                go_wp2_with fail
                go_ret3
                exact slRes3_nil e2.out B6.out
end Go.Proofs.Ytjklhacffdhgaaa
