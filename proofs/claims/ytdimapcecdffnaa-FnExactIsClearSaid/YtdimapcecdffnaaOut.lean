/- The places that are not within a chamber, on both sides; the law of OutsideOf. -/
import Derived.Test.YtdimapcecdffnaaLeast
import Derived.Test.YtdimapcecdffnaaMarks
namespace Go.Proofs.Ytdimapcecdffnaa
open Go.RowKit

theorem pair_det {α : Type} {p : α × Int} {x x' : α} {c c' : Int} (h : p = (x, c)) (h' : p = (x', c')) : x = x' ∧ c = c' := by
  have := h.symm.trans h'
  injection this with h1 h2
  exact ⟨h1, h2⟩
/-- A slice of the call's own and a code. -/
def SlRes {α : Type} (enc : α → List Value) (sz : Nat) (T : TypeId) (P : List α → Int → Prop) (w : World) (e : Ending) (w' : World) : Prop :=
  ∃ (A : Option Addr) (c : Nat) (xs : List α) (code : Int), e = .returned (.tuple #[.slice A xs.length c, .int .i64 code]) ∧ P xs code ∧ xs.length ≤ 1048576 ∧ Own enc sz T w' w.heap.size (.slice A xs.length c) xs ∧ Below w.heap.size w w'
theorem slRes_nil {α : Type} {enc : α → List Value} {sz : Nat} {T : TypeId} {P : List α → Int → Prop} {w w' : World} {code : Int} (h : P [] code) (hb : Below w.heap.size w w') : SlRes enc sz T P w (.returned (.tuple #[.slice none 0 0, .int .i64 code])) w' :=
  ⟨none, 0, [], code, rfl, h, by simp, Own.nil, hb⟩
/-- A slice of numbers of the call's own. -/
def IntsOf (ys : List Int) (w : World) (e : Ending) (w' : World) : Prop := ∃ (A : Option Addr) (c : Nat), e = .returned (.slice A ys.length c) ∧ OwnI w' w.heap.size (.slice A ys.length c) ys ∧ Below w.heap.size w w'
/-- The places that are not within a chamber. -/
def outsN (a b c g : Int) : Nat → List PlaceR → List Int
  | _, [] => []
  | k, x :: xs => if fits a b c x.x x.y x.z x.r g then outsN a b c g (k + 1) xs else (k : Int) :: outsN a b c g (k + 1) xs
theorem outsN_snoc (a b c g : Int) (x : PlaceR) : ∀ (xs : List PlaceR) (k : Nat), outsN a b c g k (xs ++ [x]) = outsN a b c g k xs ++ if fits a b c x.x x.y x.z x.r g then [] else [((k + xs.length : Nat) : Int)] := by
  intro xs
  induction xs with
  | nil => intro k; simp only [List.nil_append, outsN, List.length_nil, Nat.add_zero]
  | cons y xs ih =>
    intro k
    simp only [List.cons_append, outsN, ih]
    rw [show k + 1 + xs.length = k + (y :: xs).length by simp; omega]
    split <;> simp
theorem outsN_take {a b c g : Int} {xs : List PlaceR} {k : Nat} (h : k < xs.length) : outsN a b c g 0 (xs.take (k + 1)) = outsN a b c g 0 (xs.take k) ++ if fits a b c xs[k].x xs[k].y xs[k].z xs[k].r g then [] else [(k : Int)] := by
  rw [List.take_succ_eq_append_getElem h, outsN_snoc]
  simp [Nat.min_eq_left (Nat.le_of_lt h)]
@[irreducible] noncomputable def outOf (a b c g : Int) (xs : List PlaceR) : List Int × Int := if vCh a b c && rowsB vPlaceR PlaceR.nm 24 xs then (if inB g 0 5000 then (outsN a b c g 0 xs, 0) else ([], 2)) else ([], 1)
theorem outOf_1 {a b c g : Int} {xs : List PlaceR} (h : vCh a b c = false) : outOf a b c g xs = ([], 1) := by unfold outOf; simp [h]
theorem outOf_2 {a b c g : Int} {xs : List PlaceR} (h : rowsB vPlaceR PlaceR.nm 24 xs = false) : outOf a b c g xs = ([], 1) := by unfold outOf; simp [h]
theorem outOf_3 {a b c g : Int} {xs : List PlaceR} (h : vCh a b c = true) (h2 : rowsB vPlaceR PlaceR.nm 24 xs = true) (h3 : inB g 0 5000 = false) : outOf a b c g xs = ([], 2) := by unfold outOf; simp [h, h2, h3]
theorem outOf_4 {a b c g : Int} {xs : List PlaceR} (h : vCh a b c = true) (h2 : rowsB vPlaceR PlaceR.nm 24 xs = true) (h3 : inB g 0 5000 = true) : outOf a b c g xs = (outsN a b c g 0 xs, 0) := by unfold outOf; simp [h, h2, h3]

set_option maxRecDepth 100000 in
theorem implOutsideOf (a b c : Int) (A : Option Addr) (cp : Nat) (xs : List PlaceR) (g : Int) (w : World) (h : SlAt encPlace 5 w A xs) (hn : xs.length ≤ 1048576) (hx : ∀ x ∈ xs, x.nm.size ≤ maxLen) :
    Calls Try.prog 46 #[.agg #[.int .i64 a, .int .i64 b, .int .i64 c], .slice A xs.length cp, .int .i64 g] w (SlRes encI 1 2 (fun ys code => outOf a b c g xs = (ys, code)) w) := by
  have HX := hide (h.below ((Below.refl _ _).alloc (Nat.le_refl _) (.cells #[.int .i64 a, .int .i64 b, .int .i64 c] 70)))
  have HS := hide hx
  clear h hx
  cases hv : vCh a b c
  · have e : Hid (outOf a b c g xs = ([], 1)) := outOf_1 hv
    go_enter Try.func46, Try.ntmps46
    go_wp2_with fail
    refine (implValidChamber a b c _).mono ?_
    rintro e w1 ⟨rfl, hb1⟩
    obtain ⟨fcb1, ffb1, fzb1⟩ := bfacts hb1 (by first | exact Nat.le_refl _ | omega | (simp; omega) | simp); have fsb1 := hb1.size; try simp at fcb1 ffb1 fzb1 fsb1 hb1
    go_wp2_with fail
    go_ret2
    exact slRes_nil e.out (by repeat (first | with_reducible exact Below.refl _ _ | with_reducible assumption | (with_reducible refine Below.drew ?_) | (with_reducible refine below_drewN ?_ _) | ((with_reducible refine Below.alloc ?_ ?_ _); rotate_left; (focus (first | omega | (simp; omega) | simp))) | ((with_reducible refine Below.setCell ?_ ?_ _); rotate_left; (focus (first | omega | (simp; omega) | simp))) | (refine Below.trans ?_ (Below.mono (by assumption) (by first | omega | (simp; omega) | simp)))))
  · cases hr : rowsB vPlaceR PlaceR.nm 24 xs
    · have e : Hid (outOf a b c g xs = ([], 1)) := outOf_2 hr
      go_enter Try.func46, Try.ntmps46
      go_wp2_with fail
      refine (implValidChamber a b c _).mono ?_
      rintro e w1 ⟨rfl, hb1⟩
      obtain ⟨fcb1, ffb1, fzb1⟩ := bfacts hb1 (by first | exact Nat.le_refl _ | omega | (simp; omega) | simp); have fsb1 := hb1.size; try simp at fcb1 ffb1 fzb1 fsb1 hb1
      go_wp2_with fail
      refine (implValidPlaces A cp xs _ (HX.out.below (by simpa using hb1)) hn HS.out).mono ?_
      rintro e w2 ⟨rfl, hb2⟩
      have hbn := Below.trans (by first | exact hb1 | exact below_drewN hb1 _) (Below.mono hb2 (by first | omega | (simp; omega) | simp))
      clear hb2 fcb1 ffb1 fzb1 fsb1
      clear hb1
      have hb2 := hbn
      clear hbn
      obtain ⟨fcb2, ffb2, fzb2⟩ := bfacts hb2 (by first | exact Nat.le_refl _ | omega | (simp; omega) | simp); have fsb2 := hb2.size; try simp at fcb2 ffb2 fzb2 fsb2 hb2
      go_wp2_with fail
      go_ret2
      exact slRes_nil e.out (by repeat (first | with_reducible exact Below.refl _ _ | with_reducible assumption | (with_reducible refine Below.drew ?_) | (with_reducible refine below_drewN ?_ _) | ((with_reducible refine Below.alloc ?_ ?_ _); rotate_left; (focus (first | omega | (simp; omega) | simp))) | ((with_reducible refine Below.setCell ?_ ?_ _); rotate_left; (focus (first | omega | (simp; omega) | simp))) | (refine Below.trans ?_ (Below.mono (by assumption) (by first | omega | (simp; omega) | simp)))))
    · cases hg : inB g 0 5000
      · have e : Hid (outOf a b c g xs = ([], 2)) := outOf_3 hv hr hg
        go_enter Try.func46, Try.ntmps46
        go_wp2_with fail
        refine (implValidChamber a b c _).mono ?_
        rintro e w1 ⟨rfl, hb1⟩
        obtain ⟨fcb1, ffb1, fzb1⟩ := bfacts hb1 (by first | exact Nat.le_refl _ | omega | (simp; omega) | simp); have fsb1 := hb1.size; try simp at fcb1 ffb1 fzb1 fsb1 hb1
        go_wp2_with fail
        refine (implValidPlaces A cp xs _ (HX.out.below (by simpa using hb1)) hn HS.out).mono ?_
        rintro e w2 ⟨rfl, hb2⟩
        have hbn := Below.trans (by first | exact hb1 | exact below_drewN hb1 _) (Below.mono hb2 (by first | omega | (simp; omega) | simp))
        clear hb2 fcb1 ffb1 fzb1 fsb1
        clear hb1
        have hb2 := hbn
        clear hbn
        obtain ⟨fcb2, ffb2, fzb2⟩ := bfacts hb2 (by first | exact Nat.le_refl _ | omega | (simp; omega) | simp); have fsb2 := hb2.size; try simp at fcb2 ffb2 fzb2 fsb2 hb2
        go_wp2_with fail
        refine (implisSpace_any _ _).mono ?_; rintro e2 w3 ⟨rfl, rfl⟩
        go_wp2_with fail
        go_ret2
        exact slRes_nil e.out (by repeat (first | with_reducible exact Below.refl _ _ | with_reducible assumption | (with_reducible refine Below.drew ?_) | (with_reducible refine below_drewN ?_ _) | ((with_reducible refine Below.alloc ?_ ?_ _); rotate_left; (focus (first | omega | (simp; omega) | simp))) | ((with_reducible refine Below.setCell ?_ ?_ _); rotate_left; (focus (first | omega | (simp; omega) | simp))) | (refine Below.trans ?_ (Below.mono (by assumption) (by first | omega | (simp; omega) | simp)))))
      · have e : Hid (outOf a b c g xs = (outsN a b c g 0 xs, 0)) := outOf_4 hv hr hg
        obtain ⟨rv, rl, -⟩ := rowsB_all hr
        have RV := hide rv
        clear rv
        go_enter Try.func46, Try.ntmps46
        go_wp2_with fail
        refine (implValidChamber a b c _).mono ?_
        rintro e w1 ⟨rfl, hb1⟩
        obtain ⟨fcb1, ffb1, fzb1⟩ := bfacts hb1 (by first | exact Nat.le_refl _ | omega | (simp; omega) | simp); have fsb1 := hb1.size; try simp at fcb1 ffb1 fzb1 fsb1 hb1
        go_wp2_with fail
        refine (implValidPlaces A cp xs _ (HX.out.below (by simpa using hb1)) hn HS.out).mono ?_
        rintro e w2 ⟨rfl, hb2⟩
        have hbn := Below.trans (by first | exact hb1 | exact below_drewN hb1 _) (Below.mono hb2 (by first | omega | (simp; omega) | simp))
        clear hb2 fcb1 ffb1 fzb1 fsb1
        clear hb1
        have hb2 := hbn
        clear hbn
        obtain ⟨fcb2, ffb2, fzb2⟩ := bfacts hb2 (by first | exact Nat.le_refl _ | omega | (simp; omega) | simp); have fsb2 := hb2.size; try simp at fcb2 ffb2 fzb2 fsb2 hb2
        go_wp2_with fail
        refine (implisSpace_any _ _).mono ?_; rintro e2 w3 ⟨rfl, rfl⟩
        have HB2 : Hid (Below (w.heap.size + 1) (w.alloc (.cells #[.int .i64 a, .int .i64 b, .int .i64 c] 70)) w2) := hide hb2
        have HV := hide hv
        have HG := hide hg
        clear hb2 fcb2 ffb2 fzb2
        go_wp2_with fail
        clear hv hg hr
        go_loopw [26, 8] (fun v t wr => ∃ (k : Nat) (A' : Option Addr) (c' : Nat) (ys : List Int), v = .int .i64 k ∧ t = .slice A' ys.length c' ∧ k ≤ xs.length ∧ Hid (ys = outsN a b c g 0 (xs.take k)) ∧ ys.length ≤ k ∧
            Hid (OwnI wr (w.heap.size + 1) (.slice A' ys.length c') ys) ∧ Below (w.heap.size + 1) (w.alloc (.cells #[.int .i64 a, .int .i64 b, .int .i64 c] 70)) wr) (fun v _ _ => xs.length - (intOf v).toNat)
        case atStart => exact ⟨0, none, 0, [], rfl, rfl, by omega, rfl, by simp, hide Own.nil, HB2.out⟩
        case round =>
          obtain ⟨k, A', c', ys, rfl, rfl, hk, hy, hyl, HO, hb⟩ := hrel
          have q0_0 := hb.cell (p := ⟨w.heap.size, 0, none⟩) (by simp)
          have q0_1 := hb.cell (p := ⟨w.heap.size, 1, none⟩) (by simp)
          have q0_2 := hb.cell (p := ⟨w.heap.size, 2, none⟩) (by simp)
          simp at q0_0 q0_1 q0_2
          have hz := hb.size
          simp at hz
          have hz_0 : w.heap.size < wr.heap.size := by omega
          have HB := hide hb
          by_cases hlt : k < xs.length
          · obtain ⟨bb, off, rfl, hbl, hc⟩ := HX.out.below (by simpa using hb) k hlt
            have hc0 := hc 0 _ rfl
            have hc1 := hc 1 _ rfl
            have hc2 := hc 2 _ rfl
            have hc3 := hc 3 _ rfl
            have hc4 := hc 4 _ rfl
            simp only [Nat.add_zero] at hc0
            have hvx := hide (RV.out xs[k] (List.getElem_mem hlt))
            have ha := hide (outsN_take (a := a) (b := b) (c := c) (g := g) hlt)
            clear hc hb
            generalize hx : xs[k] = x at *
            clear hx
            obtain ⟨x0, x1, x2, x3, x4⟩ := x
            simp only at hc0 hc1 hc2 hc3 hc4 ha
            go_wp2_with fail
            refine (implfitsChamber a b c x0 x1 x2 x3 x4 g _ HV.out hvx.out HG.out).mono ?_
            rintro e' w5 ⟨rfl, hb5⟩
            have hz5 := hb5.size
            simp at hz5
            have hbr : Below wr.heap.size wr w5 := ((Below.refl _ _).alloc (Nat.le_refl _) _).trans (hb5.mono (by simp))
            have ho1 := HO.out.below hbr
            have HBR := hide hbr
            clear hb5 hbr
            cases hf : fits a b c x1 x2 x3 x4 g
            · have ha2 : Hid (ys ++ [(k : Int)] = outsN a b c g 0 (xs.take (k + 1))) := hide (by rw [ha.out, hf, ← hy.out]; rfl)
              clear hc0 hc1 hc2 hc3 hc4 ha
              go_wp2_with (at_builtin; refine wpList_appI rfl _ _ rfl (w.heap.size + 1) rfl ho1 rfl (by omega) ?_ ?_; (focus omega); intro A1 c1 w6 ho2 hb6 _hg6)
              go_roundw
              case rel => exact ⟨k + 1, A1, c1, ys ++ [(k : Int)], by go_num, by simp, by omega, ha2, by simp; omega, by simpa using hide ho2, (HB.out.trans (HBR.out.mono (by omega))).trans hb6⟩
              case measure => simp [intOf]; omega
            · have ha2 : Hid (ys = outsN a b c g 0 (xs.take (k + 1))) := hide (by rw [ha.out, hf, ← hy.out]; simp)
              clear hc0 hc1 hc2 hc3 hc4 ha
              go_wp2_with fail
              go_roundw
              case rel => exact ⟨k + 1, A', c', ys, by go_num, rfl, by omega, ha2, by omega, hide ho1, HB.out.trans (HBR.out.mono (by omega))⟩
              case measure => simp [intOf]; omega
          · obtain rfl : k = xs.length := by omega
            have e2 := hy.out
            rw [List.take_length] at e2
            have e3 : Hid (outOf a b c g xs = (ys, 0)) := hide (by rw [e.out, e2])
            clear e2
            go_wp2_with fail
            go_ret2
            exact ⟨A', c', ys, 0, rfl, e3.out, by omega, HO.out.mono (by omega), Below.trans ((Below.refl _ _).alloc (Nat.le_refl _) _) (hb.mono (by omega))⟩
set_option maxRecDepth 100000 in
theorem specl23Outside (bc : Nat) (a b c : Int) (A : Option Addr) (cp : Nat) (xs : List PlaceR) (g : Int) (w : World) (h : SlAt encPlace 5 w A xs) (hn : xs.length ≤ 1048576) (hv : vCh a b c = true) (rv : ∀ x ∈ xs, vPlaceR x = true) (hg : inB g 0 5000 = true)
    (e0 : w.cell? ⟨bc, 0, none⟩ = some (.int .i64 a)) (e1 : w.cell? ⟨bc, 1, none⟩ = some (.int .i64 b)) (e2 : w.cell? ⟨bc, 2, none⟩ = some (.int .i64 c)) :
    Calls Try.prog 99 #[.pointer (some ⟨bc, 0, none⟩), .slice A xs.length cp, .int .i64 g] w (IntsOf (outsN a b c g 0 xs) w) := by
  have hbc : bc < w.heap.size := World.block_lt_of_cell? w _ e0
  have HX := hide h
  have RV := hide rv
  have HV := hide hv
  have HG := hide hg
  have HE := hide (And.intro e0 (And.intro e1 e2))
  clear h rv hv hg e0 e1 e2
  go_enter Try.func99, Try.ntmps99
  go_wp2_with fail
  go_loopw [8, 7] (fun v t wr => ∃ (k : Nat) (A' : Option Addr) (c' : Nat) (ys : List Int), v = .int .i64 k ∧ t = .slice A' ys.length c' ∧ k ≤ xs.length ∧ Hid (ys = outsN a b c g 0 (xs.take k)) ∧ ys.length ≤ k ∧
      Hid (OwnI wr w.heap.size (.slice A' ys.length c') ys) ∧ Below w.heap.size w wr) (fun v _ _ => xs.length - (intOf v).toNat)
  case atStart => exact ⟨0, some ⟨w.heap.size, 0, none⟩, 0, [], rfl, by simp, by omega, rfl, by simp, hide (own_made _ rfl (by simp)), (by repeat (first | with_reducible exact Below.refl _ _ | with_reducible assumption | (with_reducible refine Below.drew ?_) | (with_reducible refine below_drewN ?_ _) | ((with_reducible refine Below.alloc ?_ ?_ _); rotate_left; (focus (first | omega | (simp; omega) | simp))) | ((with_reducible refine Below.setCell ?_ ?_ _); rotate_left; (focus (first | omega | (simp; omega) | simp))) | (refine Below.trans ?_ (Below.mono (by assumption) (by first | omega | (simp; omega) | simp)))))⟩
  case round =>
    obtain ⟨k, A', c', ys, rfl, rfl, hk, hy, hyl, HO, hb⟩ := hrel
    have hz := hb.size
    have HB := hide hb
    by_cases hlt : k < xs.length
    · obtain ⟨bb, off, rfl, hbl, hc⟩ := HX.out.below hb k hlt
      have hc1 := hc 1 _ rfl
      have hc2 := hc 2 _ rfl
      have hc3 := hc 3 _ rfl
      have hc4 := hc 4 _ rfl
      have q0 := (hb.cell (p := ⟨bc, 0, none⟩) hbc).trans HE.out.1
      have q1 := (hb.cell (p := ⟨bc, 1, none⟩) hbc).trans HE.out.2.1
      have q2 := (hb.cell (p := ⟨bc, 2, none⟩) hbc).trans HE.out.2.2
      have hvx := hide (RV.out xs[k] (List.getElem_mem hlt))
      have ha := hide (outsN_take (a := a) (b := b) (c := c) (g := g) hlt)
      clear hc hb
      generalize hx : xs[k] = x at *
      clear hx
      obtain ⟨x0, x1, x2, x3, x4⟩ := x
      simp only at hc1 hc2 hc3 hc4 ha
      go_wp2_with fail
      refine (specl23Within bc bb (off + k * 5) a b c x0 x1 x2 x3 x4 g wr HV.out hvx.out HG.out q0 q1 q2 hc1 hc2 hc3 hc4).mono ?_
      rintro e' w5 ⟨rfl, n5, rfl⟩
      have ho1 : OwnI (wr.drewN n5) w.heap.size (.slice A' ys.length c') ys := HO.out.below (below_drewN (Below.refl _ _) _)
      cases hf : fits a b c x1 x2 x3 x4 g
      · have ha2 : Hid (ys ++ [(k : Int)] = outsN a b c g 0 (xs.take (k + 1))) := hide (by rw [ha.out, hf, ← hy.out]; rfl)
        clear hc1 hc2 hc3 hc4 ha q0 q1 q2
        go_wp2_with (at_builtin; refine wpList_appI rfl _ _ rfl w.heap.size rfl ho1 rfl (by omega) ?_ ?_; (focus (simpa using hz)); intro A1 c1 w6 ho2 hb6 _hg6)
        go_roundw
        case rel => exact ⟨k + 1, A1, c1, ys ++ [(k : Int)], by go_num, by simp, by omega, ha2, by simp; omega, by simpa using hide ho2, (below_drewN HB.out n5).trans hb6⟩
        case measure => simp [intOf]; omega
      · have ha2 : Hid (ys = outsN a b c g 0 (xs.take (k + 1))) := hide (by rw [ha.out, hf, ← hy.out]; simp)
        clear hc1 hc2 hc3 hc4 ha q0 q1 q2
        go_wp2_with fail
        go_roundw
        case rel => exact ⟨k + 1, A', c', ys, by go_num, rfl, by omega, ha2, by omega, hide ho1, below_drewN HB.out n5⟩
        case measure => simp [intOf]; omega
    · obtain rfl : k = xs.length := by omega
      have e2 := hy.out
      rw [List.take_length] at e2
      subst e2
      go_wp2_with fail
      go_ret
      exact ⟨A', c', rfl, HO.out, hb⟩
theorem outsN_len (a b c g : Int) (xs : List PlaceR) : ∀ k, (outsN a b c g k xs).length ≤ xs.length := by
  induction xs with
  | nil => intro k; simp [outsN]
  | cons x xs ih =>
    intro k
    have := ih (k + 1)
    unfold outsN
    split <;> simp <;> omega
set_option maxRecDepth 100000 in
theorem specOutsideOf (a b c : Int) (A : Option Addr) (cp : Nat) (xs : List PlaceR) (g : Int) (w : World) (h : SlAt encPlace 5 w A xs) (hn : xs.length ≤ 1048576) (hx : ∀ x ∈ xs, x.nm.size ≤ maxLen) :
    Calls Try.prog 44 #[.agg #[.int .i64 a, .int .i64 b, .int .i64 c], .slice A xs.length cp, .int .i64 g] w (SlRes encI 1 2 (fun ys code => outOf a b c g xs = (ys, code)) w) := by
  have HX := hide (h.below ((Below.refl _ _).alloc (Nat.le_refl _) (.cells #[.int .i64 a, .int .i64 b, .int .i64 c] 70)))
  have HS := hide hx
  clear h hx
  cases hv : vCh a b c
  · have e : Hid (outOf a b c g xs = ([], 1)) := outOf_1 hv
    go_enter Try.func44, Try.ntmps44
    go_wp2_with fail
    refine (specl23Chamber _ 0 a b c _ (by simp) (by simp) (by simp)).mono ?_; rintro e1 w1 ⟨rfl, rfl⟩
    go_wp2_with fail
    go_ret2
    exact slRes_nil e.out (by repeat (first | with_reducible exact Below.refl _ _ | with_reducible assumption | (with_reducible refine Below.drew ?_) | (with_reducible refine below_drewN ?_ _) | ((with_reducible refine Below.alloc ?_ ?_ _); rotate_left; (focus (first | omega | (simp; omega) | simp))) | ((with_reducible refine Below.setCell ?_ ?_ _); rotate_left; (focus (first | omega | (simp; omega) | simp))) | (refine Below.trans ?_ (Below.mono (by assumption) (by first | omega | (simp; omega) | simp)))))
  · cases hr : rowsB vPlaceR PlaceR.nm 24 xs
    · have e : Hid (outOf a b c g xs = ([], 1)) := outOf_2 hr
      go_enter Try.func44, Try.ntmps44
      go_wp2_with fail
      refine (specl23Chamber _ 0 a b c _ (by simp) (by simp) (by simp)).mono ?_; rintro e1 w1 ⟨rfl, rfl⟩
      go_wp2_with fail
      refine (specl23Ok A cp xs _ HX.out hn HS.out).mono ?_
      rintro e w2 ⟨rfl, hb2⟩
      obtain ⟨fcb2, ffb2, fzb2⟩ := bfacts hb2 (by first | exact Nat.le_refl _ | omega | (simp; omega) | simp); have fsb2 := hb2.size; try simp at fcb2 ffb2 fzb2 fsb2 hb2
      go_wp2_with fail
      go_ret2
      exact slRes_nil e.out (by repeat (first | with_reducible exact Below.refl _ _ | with_reducible assumption | (with_reducible refine Below.drew ?_) | (with_reducible refine below_drewN ?_ _) | ((with_reducible refine Below.alloc ?_ ?_ _); rotate_left; (focus (first | omega | (simp; omega) | simp))) | ((with_reducible refine Below.setCell ?_ ?_ _); rotate_left; (focus (first | omega | (simp; omega) | simp))) | (refine Below.trans ?_ (Below.mono (by assumption) (by first | omega | (simp; omega) | simp)))))
    · cases hg : inB g 0 5000
      · have e : Hid (outOf a b c g xs = ([], 2)) := outOf_3 hv hr hg
        go_enter Try.func44, Try.ntmps44
        go_wp2_with fail
        refine (specl23Chamber _ 0 a b c _ (by simp) (by simp) (by simp)).mono ?_; rintro e1 w1 ⟨rfl, rfl⟩
        go_wp2_with fail
        refine (specl23Ok A cp xs _ HX.out hn HS.out).mono ?_
        rintro e w2 ⟨rfl, hb2⟩
        obtain ⟨fcb2, ffb2, fzb2⟩ := bfacts hb2 (by first | exact Nat.le_refl _ | omega | (simp; omega) | simp); have fsb2 := hb2.size; try simp at fcb2 ffb2 fzb2 fsb2 hb2
        go_wp2_with fail
        refine (specl23Gap_any _ _).mono ?_; rintro e2 w3 ⟨rfl, rfl⟩
        go_wp2_with fail
        go_ret2
        exact slRes_nil e.out (by repeat (first | with_reducible exact Below.refl _ _ | with_reducible assumption | (with_reducible refine Below.drew ?_) | (with_reducible refine below_drewN ?_ _) | ((with_reducible refine Below.alloc ?_ ?_ _); rotate_left; (focus (first | omega | (simp; omega) | simp))) | ((with_reducible refine Below.setCell ?_ ?_ _); rotate_left; (focus (first | omega | (simp; omega) | simp))) | (refine Below.trans ?_ (Below.mono (by assumption) (by first | omega | (simp; omega) | simp)))))
      · have e : Hid (outOf a b c g xs = (outsN a b c g 0 xs, 0)) := outOf_4 hv hr hg
        obtain ⟨rv, rl, -⟩ := rowsB_all hr
        have RV := hide rv
        clear rv
        go_enter Try.func44, Try.ntmps44
        go_wp2_with fail
        refine (specl23Chamber _ 0 a b c _ (by simp) (by simp) (by simp)).mono ?_; rintro e1 w1 ⟨rfl, rfl⟩
        go_wp2_with fail
        refine (specl23Ok A cp xs _ HX.out hn HS.out).mono ?_
        rintro e w2 ⟨rfl, hb2⟩
        obtain ⟨fcb2, ffb2, fzb2⟩ := bfacts hb2 (by first | exact Nat.le_refl _ | omega | (simp; omega) | simp); have fsb2 := hb2.size; try simp at fcb2 ffb2 fzb2 fsb2 hb2
        go_wp2_with fail
        refine (specl23Gap_any _ _).mono ?_; rintro e2 w3 ⟨rfl, rfl⟩
        go_wp2_with fail
        refine (specl23Outside _ a b c A cp xs g _ (HX.out.below (by simpa using hb2)) hn hv RV.out hg (by rw [fcb2 _ _ (by omega)]; simp) (by rw [fcb2 _ _ (by omega)]; simp) (by rw [fcb2 _ _ (by omega)]; simp)).mono ?_
        rintro e3 w4 ⟨A4, c4, rfl, ho4, hb4⟩
        have hl := outsN_len a b c g xs 0
        have HO := hide (ho4.mono (show w.heap.size ≤ w2.heap.size by omega))
        have hbE : Below w.heap.size w w4 := (by repeat (first | with_reducible exact Below.refl _ _ | with_reducible assumption | (with_reducible refine Below.drew ?_) | (with_reducible refine below_drewN ?_ _) | ((with_reducible refine Below.alloc ?_ ?_ _); rotate_left; (focus (first | omega | (simp; omega) | simp))) | ((with_reducible refine Below.setCell ?_ ?_ _); rotate_left; (focus (first | omega | (simp; omega) | simp))) | (refine Below.trans ?_ (Below.mono (by assumption) (by first | omega | (simp; omega) | simp)))))
        have HBE := hide hbE
        clear ho4 hbE hb2 hb4 fcb2 ffb2 fzb2
        go_wp2_with fail
        go_ret2
        exact ⟨A4, c4, _, 0, rfl, e.out, by omega, HO.out, HBE.out⟩
set_option maxRecDepth 100000 in
set_option maxHeartbeats 2000000 in
theorem lawOutsideOf (a b cc : Int) (A : Option Addr) (c : Nat) (xs : List PlaceR) (g : Int) (w : World) (hx : SlAt encPlace 5 w A xs) (hl : xs.length ≤ 9223372036854775807) (hxs : ∀ x ∈ xs, x.nm.size ≤ maxLen) :
    Calls Try.prog 11 #[.agg #[.int .i64 a, .int .i64 b, .int .i64 cc], .slice A xs.length c, .int .i64 g] w fun e w' => e = .returned (.bool true) ∧ Below w.heap.size w w' := by
  have hbW : Below w.heap.size w (w.alloc (.cells #[.int .i64 a, .int .i64 b, .int .i64 cc] 66)) := (by repeat (first | with_reducible exact Below.refl _ _ | with_reducible assumption | (with_reducible refine Below.drew ?_) | (with_reducible refine below_drewN ?_ _) | ((with_reducible refine Below.alloc ?_ ?_ _); rotate_left; (focus (first | omega | (simp; omega) | simp))) | ((with_reducible refine Below.setCell ?_ ?_ _); rotate_left; (focus (first | omega | (simp; omega) | simp))) | (refine Below.trans ?_ (Below.mono (by assumption) (by first | omega | (simp; omega) | simp)))))
  have HBW := hide hbW
  have HX := hide (hx.below hbW)
  have HS := hide hxs
  clear hxs
  clear hbW hx
  go_enter Try.func11, Try.ntmps11
  go_wp2_with fail
  refine (lawsszPlaceS_any A c xs _ _ HX.out hl HS.out (by omega) (by omega)).mono ?_
  rintro e w1 ⟨r2, rfl, ra2, rb2, hr2, hb1⟩
  have z1 := hb1.size
  have B1 : Hid (Below (w.alloc (.cells #[.int .i64 a, .int .i64 b, .int .i64 cc] 66)).heap.size (w.alloc (.cells #[.int .i64 a, .int .i64 b, .int .i64 cc] 66)) w1) := hide hb1
  clear hb1
  by_cases hq2 : 0 ≤ r2
  · have _hq := hq2
    have hn : xs.length ≤ 1048576 := by have := hr2 hq2; omega
    clear hr2
    have p0_0 := B1.out.cell (p := ⟨w.heap.size, 0, none⟩) (by simp)
    have p0_1 := B1.out.cell (p := ⟨w.heap.size, 1, none⟩) (by simp)
    have p0_2 := B1.out.cell (p := ⟨w.heap.size, 2, none⟩) (by simp)
    simp at p0_0 p0_1 p0_2
    go_wp2_with fail
    refine (lawstoChamber a b cc _).mono ?_
    rintro e w2 ⟨rfl, hb2⟩
    clear p0_0 p0_1 p0_2
    have z2 : (w.alloc (.cells #[.int .i64 a, .int .i64 b, .int .i64 cc] 66)).heap.size ≤ w2.heap.size := Nat.le_trans z1 hb2.size
    have y2 : w1.heap.size ≤ w2.heap.size := hb2.size
    have B2 : Hid (Below (w.alloc (.cells #[.int .i64 a, .int .i64 b, .int .i64 cc] 66)).heap.size (w.alloc (.cells #[.int .i64 a, .int .i64 b, .int .i64 cc] 66)) w2) := hide (B1.out.trans (hb2.mono z1))
    clear B1 hb2
    go_wp2_with fail
    refine (lawstoPlaceS_o A c xs _ (HX.out.below B2.out) hn).mono ?_
    rintro e w3 ⟨bY, rfl, hOY, hb3⟩
    have z3 : (w.alloc (.cells #[.int .i64 a, .int .i64 b, .int .i64 cc] 66)).heap.size ≤ w3.heap.size := Nat.le_trans z2 hb3.size
    have y3 : w2.heap.size ≤ w3.heap.size := hb3.size
    have B3 : Hid (Below (w.alloc (.cells #[.int .i64 a, .int .i64 b, .int .i64 cc] 66)).heap.size (w.alloc (.cells #[.int .i64 a, .int .i64 b, .int .i64 cc] 66)) w3) := hide (B2.out.trans (hb3.mono z2))
    clear B2 hb3
    have Y_3 := hide hOY
    have Y_lt := hide (fun k hk => ((hOY).lt k hk).2)
    clear hOY
    go_wp2_with fail
    refine (specOutsideOf a b cc _ _ xs g _ ((Y_3.out).at_ (fun _ => rfl)) hn HS.out).mono ?_
    rintro e w4 ⟨A0, c0, xs0, code0, rfl, hR0, hn0, hO0, hb4⟩
    have z4 : (w.alloc (.cells #[.int .i64 a, .int .i64 b, .int .i64 cc] 66)).heap.size ≤ w4.heap.size := Nat.le_trans z3 hb4.size
    have y4 : w3.heap.size ≤ w4.heap.size := hb4.size
    have B4 : Hid (Below (w.alloc (.cells #[.int .i64 a, .int .i64 b, .int .i64 cc] 66)).heap.size (w.alloc (.cells #[.int .i64 a, .int .i64 b, .int .i64 cc] 66)) w4) := hide (B3.out.trans (hb4.mono z3))
    have Y_4 := hide (Y_3.out.below hb4)
    clear Y_3 B3 hb4
    have S0_4 := hide hO0
    have S0_lt := hide (fun k hk => ((hO0).lt k hk).2)
    clear hO0
    go_wp2_with fail
    refine (lawstoPlaceS_o A c xs _ (HX.out.below B4.out) hn).mono ?_
    rintro e w5 ⟨bX, rfl, hOX, hb5⟩
    have z5 : (w.alloc (.cells #[.int .i64 a, .int .i64 b, .int .i64 cc] 66)).heap.size ≤ w5.heap.size := Nat.le_trans z4 hb5.size
    have y5 : w4.heap.size ≤ w5.heap.size := hb5.size
    have B5 : Hid (Below (w.alloc (.cells #[.int .i64 a, .int .i64 b, .int .i64 cc] 66)).heap.size (w.alloc (.cells #[.int .i64 a, .int .i64 b, .int .i64 cc] 66)) w5) := hide (B4.out.trans (hb5.mono z4))
    have Y_5 := hide (Y_4.out.below hb5)
    have S0_5 := hide (S0_4.out.below hb5)
    clear Y_4 S0_4 B4 hb5
    have X_5 := hide hOX
    have X_lt := hide (fun k hk => ((hOX).lt k hk).2)
    clear hOX
    have p0_0 := B5.out.cell (p := ⟨w.heap.size, 0, none⟩) (by simp)
    have p0_1 := B5.out.cell (p := ⟨w.heap.size, 1, none⟩) (by simp)
    have p0_2 := B5.out.cell (p := ⟨w.heap.size, 2, none⟩) (by simp)
    simp at p0_0 p0_1 p0_2
    go_wp2_with fail
    refine (lawstoChamber a b cc _).mono ?_
    rintro e w6 ⟨rfl, hb6⟩
    clear p0_0 p0_1 p0_2
    have z6 : (w.alloc (.cells #[.int .i64 a, .int .i64 b, .int .i64 cc] 66)).heap.size ≤ w6.heap.size := Nat.le_trans z5 hb6.size
    have y6 : w5.heap.size ≤ w6.heap.size := hb6.size
    have B6 : Hid (Below (w.alloc (.cells #[.int .i64 a, .int .i64 b, .int .i64 cc] 66)).heap.size (w.alloc (.cells #[.int .i64 a, .int .i64 b, .int .i64 cc] 66)) w6) := hide (B5.out.trans (hb6.mono z5))
    have Y_6 := hide (Y_5.out.below hb6)
    have S0_6 := hide (S0_5.out.below hb6)
    have X_6 := hide (X_5.out.below hb6)
    clear Y_5 S0_5 X_5 B5 hb6
    go_wp2_with fail
    refine (implOutsideOf a b cc _ _ xs g _ ((X_6.out).at_ (fun _ => rfl)) hn HS.out).mono ?_
    rintro e w7 ⟨A1, c1, xs1, code1, rfl, hR1, hn1, hO1, hb7⟩
    have z7 : (w.alloc (.cells #[.int .i64 a, .int .i64 b, .int .i64 cc] 66)).heap.size ≤ w7.heap.size := Nat.le_trans z6 hb7.size
    have y7 : w6.heap.size ≤ w7.heap.size := hb7.size
    have B7 : Hid (Below (w.alloc (.cells #[.int .i64 a, .int .i64 b, .int .i64 cc] 66)).heap.size (w.alloc (.cells #[.int .i64 a, .int .i64 b, .int .i64 cc] 66)) w7) := hide (B6.out.trans (hb7.mono z6))
    have Y_7 := hide (Y_6.out.below hb7)
    have S0_7 := hide (S0_6.out.below hb7)
    have X_7 := hide (X_6.out.below hb7)
    clear Y_6 S0_6 X_6 B6 hb7
    have G0_7 := hide hO1
    have G0_lt := hide (fun k hk => ((hO1).lt k hk).2)
    clear hO1
    obtain ⟨rfl, rfl⟩ := pair_det hR0 hR1
    clear hR1 hn1
    have hR0 := hide hR0
    go_wp2_with fail
    refine (lawseqInt64S_same _ _ _ _ xs0 _ ((G0_7.out).at_ (fun _ => rfl)) ((S0_7.out).at_ (fun _ => rfl)) hn0).mono ?_
    rintro e w8 ⟨rfl, hb8⟩
    have z8 : (w.alloc (.cells #[.int .i64 a, .int .i64 b, .int .i64 cc] 66)).heap.size ≤ w8.heap.size := Nat.le_trans z7 hb8.size
    have y8 : w7.heap.size ≤ w8.heap.size := hb8.size
    have B8 : Hid (Below (w.alloc (.cells #[.int .i64 a, .int .i64 b, .int .i64 cc] 66)).heap.size (w.alloc (.cells #[.int .i64 a, .int .i64 b, .int .i64 cc] 66)) w8) := hide (B7.out.trans (hb8.mono z7))
    have Y_8 := hide (Y_7.out.below hb8)
    have S0_8 := hide (S0_7.out.below hb8)
    have X_8 := hide (X_7.out.below hb8)
    have G0_8 := hide (G0_7.out.below hb8)
    clear Y_7 S0_7 X_7 G0_7 B7 hb8
    go_wp2_with fail
    refine (lawstoPlaceS_o A c xs _ (HX.out.below B8.out) hn).mono ?_
    rintro e w9 ⟨bXe, rfl, hOXe, hb9⟩
    have z9 : (w.alloc (.cells #[.int .i64 a, .int .i64 b, .int .i64 cc] 66)).heap.size ≤ w9.heap.size := Nat.le_trans z8 hb9.size
    have y9 : w8.heap.size ≤ w9.heap.size := hb9.size
    have B9 : Hid (Below (w.alloc (.cells #[.int .i64 a, .int .i64 b, .int .i64 cc] 66)).heap.size (w.alloc (.cells #[.int .i64 a, .int .i64 b, .int .i64 cc] 66)) w9) := hide (B8.out.trans (hb9.mono z8))
    have Y_9 := hide (Y_8.out.below hb9)
    have S0_9 := hide (S0_8.out.below hb9)
    have X_9 := hide (X_8.out.below hb9)
    have G0_9 := hide (G0_8.out.below hb9)
    clear Y_8 S0_8 X_8 G0_8 B8 hb9
    have Xe_9 := hide hOXe
    have Xe_lt := hide (fun k hk => ((hOXe).lt k hk).2)
    clear hOXe
    go_wp2_with fail
    refine (lawseqPlaceS_same _ _ _ _ xs _ ((X_9.out).at_ (fun _ => rfl)) ((Xe_9.out).at_ (fun _ => rfl)) hn).mono ?_
    rintro e w10 ⟨rfl, hb10⟩
    have z10 : (w.alloc (.cells #[.int .i64 a, .int .i64 b, .int .i64 cc] 66)).heap.size ≤ w10.heap.size := Nat.le_trans z9 hb10.size
    have y10 : w9.heap.size ≤ w10.heap.size := hb10.size
    have B10 : Hid (Below (w.alloc (.cells #[.int .i64 a, .int .i64 b, .int .i64 cc] 66)).heap.size (w.alloc (.cells #[.int .i64 a, .int .i64 b, .int .i64 cc] 66)) w10) := hide (B9.out.trans (hb10.mono z9))
    have Y_10 := hide (Y_9.out.below hb10)
    have S0_10 := hide (S0_9.out.below hb10)
    have X_10 := hide (X_9.out.below hb10)
    have G0_10 := hide (G0_9.out.below hb10)
    have Xe_10 := hide (Xe_9.out.below hb10)
    clear Y_9 S0_9 X_9 G0_9 Xe_9 B9 hb10
    clear Xe_10 Xe_lt
    go_wp2_with fail
    refine (lawsmarkPlaceS _ _ _ xs _ _ X_10.out hn (by omega) (by omega)).mono ?_
    rintro e w11 ⟨rfl, hO, hg⟩
    have hge := fun k hk => (X_10.out.lt k hk).1
    have y11 := hg.size
    have z11 : (w.alloc (.cells #[.int .i64 a, .int .i64 b, .int .i64 cc] 66)).heap.size ≤ w11.heap.size := Nat.le_trans z10 y11
    have B11 : Hid (Below (w.alloc (.cells #[.int .i64 a, .int .i64 b, .int .i64 cc] 66)).heap.size (w.alloc (.cells #[.int .i64 a, .int .i64 b, .int .i64 cc] 66)) w11) := hide (Below.grown B10.out hg z10 fun k hk => Nat.le_trans z4 (hge k hk))
    have Y_11 := hide (kept_older Y_10.out Y_lt.out hg hge (by omega))
    have S0_11 := hide (kept_older S0_10.out S0_lt.out hg hge (by omega))
    have X_11 := hide hO
    have G0_11 := hide (kept_newer G0_10.out hg X_lt.out (by omega))
    clear Y_10 S0_10 X_10 G0_10 B10 hO hg hge
    clear X_11 X_lt
    go_wp2_with fail
    refine (lawseqInt64S_same _ _ _ _ xs0 _ ((G0_11.out).at_ (fun _ => rfl)) ((S0_11.out).at_ (fun _ => rfl)) hn0).mono ?_
    rintro e w12 ⟨rfl, hb12⟩
    have z12 : (w.alloc (.cells #[.int .i64 a, .int .i64 b, .int .i64 cc] 66)).heap.size ≤ w12.heap.size := Nat.le_trans z11 hb12.size
    have y12 : w11.heap.size ≤ w12.heap.size := hb12.size
    have B12 : Hid (Below (w.alloc (.cells #[.int .i64 a, .int .i64 b, .int .i64 cc] 66)).heap.size (w.alloc (.cells #[.int .i64 a, .int .i64 b, .int .i64 cc] 66)) w12) := hide (B11.out.trans (hb12.mono z11))
    have Y_12 := hide (Y_11.out.below hb12)
    have S0_12 := hide (S0_11.out.below hb12)
    have G0_12 := hide (G0_11.out.below hb12)
    clear Y_11 S0_11 G0_11 B11 hb12
    go_wp2_with fail
    refine (lawsmarkInt64S _ _ _ xs0 _ _ G0_12.out hn0 (by omega) (by omega)).mono ?_
    rintro e w13 ⟨rfl, hO, hg⟩
    have hge := fun k hk => (G0_12.out.lt k hk).1
    have y13 := hg.size
    have z13 : (w.alloc (.cells #[.int .i64 a, .int .i64 b, .int .i64 cc] 66)).heap.size ≤ w13.heap.size := Nat.le_trans z12 y13
    have B13 : Hid (Below (w.alloc (.cells #[.int .i64 a, .int .i64 b, .int .i64 cc] 66)).heap.size (w.alloc (.cells #[.int .i64 a, .int .i64 b, .int .i64 cc] 66)) w13) := hide (Below.grown B12.out hg z12 fun k hk => Nat.le_trans z6 (hge k hk))
    have Y_13 := hide (kept_older Y_12.out Y_lt.out hg hge (by omega))
    have S0_13 := hide (kept_older S0_12.out S0_lt.out hg hge (by omega))
    have G0_13 := hide hO
    clear Y_12 S0_12 G0_12 B12 hO hg hge
    go_wp2_with fail
    refine (held_own_I G0_13.out hn0 (by omega) (by omega)).mono ?_
    rintro e w14 ⟨rfl, hb14⟩
    have z14 : (w.alloc (.cells #[.int .i64 a, .int .i64 b, .int .i64 cc] 66)).heap.size ≤ w14.heap.size := Nat.le_trans z13 hb14.size
    have y14 : w13.heap.size ≤ w14.heap.size := hb14.size
    have B14 : Hid (Below (w.alloc (.cells #[.int .i64 a, .int .i64 b, .int .i64 cc] 66)).heap.size (w.alloc (.cells #[.int .i64 a, .int .i64 b, .int .i64 cc] 66)) w14) := hide (B13.out.trans (hb14.mono z13))
    have Y_14 := hide (Y_13.out.below hb14)
    have S0_14 := hide (S0_13.out.below hb14)
    have G0_14 := hide (G0_13.out.below hb14)
    clear Y_13 S0_13 G0_13 B13 hb14
    have p0_0 := B14.out.cell (p := ⟨w.heap.size, 0, none⟩) (by simp)
    have p0_1 := B14.out.cell (p := ⟨w.heap.size, 1, none⟩) (by simp)
    have p0_2 := B14.out.cell (p := ⟨w.heap.size, 2, none⟩) (by simp)
    simp at p0_0 p0_1 p0_2
    go_wp2_with fail
    refine (lawstoChamber a b cc _).mono ?_
    rintro e w15 ⟨rfl, hb15⟩
    clear p0_0 p0_1 p0_2
    have z15 : (w.alloc (.cells #[.int .i64 a, .int .i64 b, .int .i64 cc] 66)).heap.size ≤ w15.heap.size := Nat.le_trans z14 hb15.size
    have y15 : w14.heap.size ≤ w15.heap.size := hb15.size
    have B15 : Hid (Below (w.alloc (.cells #[.int .i64 a, .int .i64 b, .int .i64 cc] 66)).heap.size (w.alloc (.cells #[.int .i64 a, .int .i64 b, .int .i64 cc] 66)) w15) := hide (B14.out.trans (hb15.mono z14))
    have Y_15 := hide (Y_14.out.below hb15)
    have S0_15 := hide (S0_14.out.below hb15)
    have G0_15 := hide (G0_14.out.below hb15)
    clear Y_14 S0_14 G0_14 B14 hb15
    go_wp2_with fail
    refine (lawstoPlaceS_o A c xs _ (HX.out.below B15.out) hn).mono ?_
    rintro e w16 ⟨bYh, rfl, hOYh, hb16⟩
    have z16 : (w.alloc (.cells #[.int .i64 a, .int .i64 b, .int .i64 cc] 66)).heap.size ≤ w16.heap.size := Nat.le_trans z15 hb16.size
    have y16 : w15.heap.size ≤ w16.heap.size := hb16.size
    have B16 : Hid (Below (w.alloc (.cells #[.int .i64 a, .int .i64 b, .int .i64 cc] 66)).heap.size (w.alloc (.cells #[.int .i64 a, .int .i64 b, .int .i64 cc] 66)) w16) := hide (B15.out.trans (hb16.mono z15))
    have Y_16 := hide (Y_15.out.below hb16)
    have S0_16 := hide (S0_15.out.below hb16)
    have G0_16 := hide (G0_15.out.below hb16)
    clear Y_15 S0_15 G0_15 B15 hb16
    have Yh_16 := hide hOYh
    have Yh_lt := hide (fun k hk => ((hOYh).lt k hk).2)
    clear hOYh
    go_wp2_with fail
    refine (implOutsideOf a b cc _ _ xs g _ ((Yh_16.out).at_ (fun _ => rfl)) hn HS.out).mono ?_
    rintro e w17 ⟨A2, c2, xs2, code2, rfl, hR2, hn2, hO2, hb17⟩
    have z17 : (w.alloc (.cells #[.int .i64 a, .int .i64 b, .int .i64 cc] 66)).heap.size ≤ w17.heap.size := Nat.le_trans z16 hb17.size
    have y17 : w16.heap.size ≤ w17.heap.size := hb17.size
    have B17 : Hid (Below (w.alloc (.cells #[.int .i64 a, .int .i64 b, .int .i64 cc] 66)).heap.size (w.alloc (.cells #[.int .i64 a, .int .i64 b, .int .i64 cc] 66)) w17) := hide (B16.out.trans (hb17.mono z16))
    have Y_17 := hide (Y_16.out.below hb17)
    have S0_17 := hide (S0_16.out.below hb17)
    have G0_17 := hide (G0_16.out.below hb17)
    have Yh_17 := hide (Yh_16.out.below hb17)
    clear Y_16 S0_16 G0_16 Yh_16 B16 hb17
    have H0_17 := hide hO2
    have H0_lt := hide (fun k hk => ((hO2).lt k hk).2)
    clear hO2
    obtain ⟨rfl, rfl⟩ := pair_det hR0.out hR2
    go_wp2_with fail
    refine (lawseqInt64S_same _ _ _ _ xs0 _ ((H0_17.out).at_ (fun _ => rfl)) ((S0_17.out).at_ (fun _ => rfl)) hn0).mono ?_
    rintro e w18 ⟨rfl, hb18⟩
    have z18 : (w.alloc (.cells #[.int .i64 a, .int .i64 b, .int .i64 cc] 66)).heap.size ≤ w18.heap.size := Nat.le_trans z17 hb18.size
    have y18 : w17.heap.size ≤ w18.heap.size := hb18.size
    have B18 : Hid (Below (w.alloc (.cells #[.int .i64 a, .int .i64 b, .int .i64 cc] 66)).heap.size (w.alloc (.cells #[.int .i64 a, .int .i64 b, .int .i64 cc] 66)) w18) := hide (B17.out.trans (hb18.mono z17))
    have Y_18 := hide (Y_17.out.below hb18)
    have S0_18 := hide (S0_17.out.below hb18)
    have G0_18 := hide (G0_17.out.below hb18)
    have Yh_18 := hide (Yh_17.out.below hb18)
    have H0_18 := hide (H0_17.out.below hb18)
    clear Y_17 S0_17 G0_17 Yh_17 H0_17 B17 hb18
    go_wp2_with fail
    refine (held_own_I G0_18.out hn0 (by omega) (by omega)).mono ?_
    rintro e w19 ⟨rfl, hb19⟩
    have z19 : (w.alloc (.cells #[.int .i64 a, .int .i64 b, .int .i64 cc] 66)).heap.size ≤ w19.heap.size := Nat.le_trans z18 hb19.size
    have y19 : w18.heap.size ≤ w19.heap.size := hb19.size
    have B19 : Hid (Below (w.alloc (.cells #[.int .i64 a, .int .i64 b, .int .i64 cc] 66)).heap.size (w.alloc (.cells #[.int .i64 a, .int .i64 b, .int .i64 cc] 66)) w19) := hide (B18.out.trans (hb19.mono z18))
    have Y_19 := hide (Y_18.out.below hb19)
    have S0_19 := hide (S0_18.out.below hb19)
    have G0_19 := hide (G0_18.out.below hb19)
    have Yh_19 := hide (Yh_18.out.below hb19)
    have H0_19 := hide (H0_18.out.below hb19)
    clear Y_18 S0_18 G0_18 Yh_18 H0_18 B18 hb19
    go_wp2_with fail
    go_ret
    exact ⟨rfl, Below.trans HBW.out (B19.out.mono (by simp))⟩
  · go_wp2_with fail
    go_ret
    exact ⟨rfl, Below.trans HBW.out (B1.out.mono (by simp))⟩
end Go.Proofs.Ytdimapcecdffnaa
