/- The places that are not within a chamber, on both sides; the law of OutsideOf. -/
import Derived.Test.YtjklhacffdhgaaaLeast
import Derived.Test.YtjklhacffdhgaaaMarks
namespace Go.Proofs.Ytjklhacffdhgaaa
open Go.RowKit

theorem pair_det {α : Type} {p : α × Int} {x x' : α} {c c' : Int} (h : p = (x, c)) (h' : p = (x', c')) : x = x' ∧ c = c' := by
  have := h.symm.trans h'
  injection this with h1 h2
  exact ⟨h1, h2⟩
/-- A slice of the call's own and a code. -/
def SlRes {α : Type} (enc : α → List Value) (sz : Nat) (T : TypeId) (P : List α → Int → Prop) (w : World) (e : Ending) (w' : World) : Prop :=
  ∃ (A : Option Addr) (c : Nat) (xs : List α) (code : Int), e = .returned (.tuple #[.slice A xs.length c, .int .i64 code]) ∧ P xs code ∧ xs.length ≤ 1048576 ∧ Own enc sz T w' w.heap.size (.slice A xs.length c) xs ∧ Below w.heap.size w w'
theorem slRes_nil {α : Type} {enc : α → List Value} {sz : Nat} {T : TypeId} {P : List α → Int → Prop} {w w' : World} {code : Int} (h : P [] code) (hb : Below w.heap.size w w') : SlRes enc sz T P w (.returned (.tuple #[.slice none 0 0, .int .i64 code])) w' :=
  ⟨none, 0, [], code, rfl, h, by simp, Own.nil, hb⟩
/-- A slice of numbers of the call's own. -/
def IntsOf (ys : List Int) (w : World) (e : Ending) (w' : World) : Prop := ∃ (A : Option Addr) (c : Nat), e = .returned (.slice A ys.length c) ∧ OwnI w' w.heap.size (.slice A ys.length c) ys ∧ Below w.heap.size w w'
/-- The places that are not within a chamber. -/
def outsN (a b c g : Int) : Nat → List PlaceR → List Int
  | _, [] => []
  | k, x :: xs => if fits a b c x.x x.y x.z x.r g then outsN a b c g (k + 1) xs else (k : Int) :: outsN a b c g (k + 1) xs
theorem outsN_snoc (a b c g : Int) (x : PlaceR) : ∀ (xs : List PlaceR) (k : Nat), outsN a b c g k (xs ++ [x]) = outsN a b c g k xs ++ if fits a b c x.x x.y x.z x.r g then [] else [((k + xs.length : Nat) : Int)] := by
  intro xs
  induction xs with
  | nil => intro k; simp only [List.nil_append, outsN, List.length_nil, Nat.add_zero]
  | cons y xs ih =>
    intro k
    simp only [List.cons_append, outsN, ih]
    rw [show k + 1 + xs.length = k + (y :: xs).length by simp; omega]
    split <;> simp
theorem outsN_take {a b c g : Int} {xs : List PlaceR} {k : Nat} (h : k < xs.length) : outsN a b c g 0 (xs.take (k + 1)) = outsN a b c g 0 (xs.take k) ++ if fits a b c xs[k].x xs[k].y xs[k].z xs[k].r g then [] else [(k : Int)] := by
  rw [List.take_succ_eq_append_getElem h, outsN_snoc]
  simp [Nat.min_eq_left (Nat.le_of_lt h)]
@[irreducible] noncomputable def outOf (a b c g : Int) (xs : List PlaceR) : List Int × Int := if vCh a b c && rowsB vPlaceR PlaceR.nm 24 xs then (if inB g 0 5000 then (outsN a b c g 0 xs, 0) else ([], 2)) else ([], 1)
theorem outOf_1 {a b c g : Int} {xs : List PlaceR} (h : vCh a b c = false) : outOf a b c g xs = ([], 1) := by unfold outOf; simp [h]
theorem outOf_2 {a b c g : Int} {xs : List PlaceR} (h : rowsB vPlaceR PlaceR.nm 24 xs = false) : outOf a b c g xs = ([], 1) := by unfold outOf; simp [h]
theorem outOf_3 {a b c g : Int} {xs : List PlaceR} (h : vCh a b c = true) (h2 : rowsB vPlaceR PlaceR.nm 24 xs = true) (h3 : inB g 0 5000 = false) : outOf a b c g xs = ([], 2) := by unfold outOf; simp [h, h2, h3]
theorem outOf_4 {a b c g : Int} {xs : List PlaceR} (h : vCh a b c = true) (h2 : rowsB vPlaceR PlaceR.nm 24 xs = true) (h3 : inB g 0 5000 = true) : outOf a b c g xs = (outsN a b c g 0 xs, 0) := by unfold outOf; simp [h, h2, h3]

set_option maxRecDepth 100000 in
theorem implOutsideOf (a b c : Int) (A : Option Addr) (cp : Nat) (xs : List PlaceR) (g : Int) (w : World) (h : SlAt encPlace 5 w A xs) (hn : xs.length ≤ 1048576) (hx : ∀ x ∈ xs, x.nm.size ≤ maxLen) :
    Calls Try.prog 65 #[.agg #[.int .i64 a, .int .i64 b, .int .i64 c], .slice A xs.length cp, .int .i64 g] w (SlRes encI 1 2 (fun ys code => outOf a b c g xs = (ys, code)) w) := by
  have HX := hide (h.below ((Below.refl _ _).alloc (Nat.le_refl _) (.cells #[.int .i64 a, .int .i64 b, .int .i64 c] 86)))
  have HS := hide hx
  clear h hx
  cases hv : vCh a b c
  · have e : Hid (outOf a b c g xs = ([], 1)) := outOf_1 hv
    go_enter Try.func65, Try.ntmps65
    go_wp2_with fail
    refine (implValidChamber a b c _).mono ?_
    rintro e w1 ⟨rfl, hb1⟩
    obtain ⟨fcb1, ffb1, fzb1⟩ := bfacts hb1 (by first | exact Nat.le_refl _ | omega | (simp; omega) | simp); have fsb1 := hb1.size; try simp at fcb1 ffb1 fzb1 fsb1 hb1
    go_wp2_with fail
    go_ret2
    exact slRes_nil e.out (by repeat (first | with_reducible exact Below.refl _ _ | with_reducible assumption | (with_reducible refine Below.drew ?_) | (with_reducible refine below_drewN ?_ _) | ((with_reducible refine Below.alloc ?_ ?_ _); rotate_left; (focus (first | omega | (simp; omega) | simp))) | ((with_reducible refine Below.setCell ?_ ?_ _); rotate_left; (focus (first | omega | (simp; omega) | simp))) | (refine Below.trans ?_ (Below.mono (by assumption) (by first | omega | (simp; omega) | simp)))))
  · cases hr : rowsB vPlaceR PlaceR.nm 24 xs
    · have e : Hid (outOf a b c g xs = ([], 1)) := outOf_2 hr
      go_enter Try.func65, Try.ntmps65
      go_wp2_with fail
      refine (implValidChamber a b c _).mono ?_
      rintro e w1 ⟨rfl, hb1⟩
      obtain ⟨fcb1, ffb1, fzb1⟩ := bfacts hb1 (by first | exact Nat.le_refl _ | omega | (simp; omega) | simp); have fsb1 := hb1.size; try simp at fcb1 ffb1 fzb1 fsb1 hb1
      go_wp2_with fail
      refine (implValidPlaces A cp xs _ (HX.out.below (by simpa using hb1)) hn HS.out).mono ?_
      rintro e w2 ⟨rfl, hb2⟩
      have hbn := Below.trans (by first | exact hb1 | exact below_drewN hb1 _) (Below.mono hb2 (by first | omega | (simp; omega) | simp))
      clear hb2 fcb1 ffb1 fzb1 fsb1
      clear hb1
      have hb2 := hbn
      clear hbn
      obtain ⟨fcb2, ffb2, fzb2⟩ := bfacts hb2 (by first | exact Nat.le_refl _ | omega | (simp; omega) | simp); have fsb2 := hb2.size; try simp at fcb2 ffb2 fzb2 fsb2 hb2
      go_wp2_with fail
      go_ret2
      exact slRes_nil e.out (by repeat (first | with_reducible exact Below.refl _ _ | with_reducible assumption | (with_reducible refine Below.drew ?_) | (with_reducible refine below_drewN ?_ _) | ((with_reducible refine Below.alloc ?_ ?_ _); rotate_left; (focus (first | omega | (simp; omega) | simp))) | ((with_reducible refine Below.setCell ?_ ?_ _); rotate_left; (focus (first | omega | (simp; omega) | simp))) | (refine Below.trans ?_ (Below.mono (by assumption) (by first | omega | (simp; omega) | simp)))))
    · cases hg : inB g 0 5000
      · have e : Hid (outOf a b c g xs = ([], 2)) := outOf_3 hv hr hg
        go_enter Try.func65, Try.ntmps65
        go_wp2_with fail
        refine (implValidChamber a b c _).mono ?_
        rintro e w1 ⟨rfl, hb1⟩
        obtain ⟨fcb1, ffb1, fzb1⟩ := bfacts hb1 (by first | exact Nat.le_refl _ | omega | (simp; omega) | simp); have fsb1 := hb1.size; try simp at fcb1 ffb1 fzb1 fsb1 hb1
        go_wp2_with fail
        refine (implValidPlaces A cp xs _ (HX.out.below (by simpa using hb1)) hn HS.out).mono ?_
        rintro e w2 ⟨rfl, hb2⟩
        have hbn := Below.trans (by first | exact hb1 | exact below_drewN hb1 _) (Below.mono hb2 (by first | omega | (simp; omega) | simp))
        clear hb2 fcb1 ffb1 fzb1 fsb1
        clear hb1
        have hb2 := hbn
        clear hbn
        obtain ⟨fcb2, ffb2, fzb2⟩ := bfacts hb2 (by first | exact Nat.le_refl _ | omega | (simp; omega) | simp); have fsb2 := hb2.size; try simp at fcb2 ffb2 fzb2 fsb2 hb2
        go_wp2_with fail
        refine (implisSpace_any _ _).mono ?_; rintro e2 w3 ⟨rfl, rfl⟩
        go_wp2_with fail
        go_ret2
        exact slRes_nil e.out (by repeat (first | with_reducible exact Below.refl _ _ | with_reducible assumption | (with_reducible refine Below.drew ?_) | (with_reducible refine below_drewN ?_ _) | ((with_reducible refine Below.alloc ?_ ?_ _); rotate_left; (focus (first | omega | (simp; omega) | simp))) | ((with_reducible refine Below.setCell ?_ ?_ _); rotate_left; (focus (first | omega | (simp; omega) | simp))) | (refine Below.trans ?_ (Below.mono (by assumption) (by first | omega | (simp; omega) | simp)))))
      · have e : Hid (outOf a b c g xs = (outsN a b c g 0 xs, 0)) := outOf_4 hv hr hg
        obtain ⟨rv, rl, -⟩ := rowsB_all hr
        have RV := hide rv
        clear rv
        go_enter Try.func65, Try.ntmps65
        go_wp2_with fail
        refine (implValidChamber a b c _).mono ?_
        rintro e w1 ⟨rfl, hb1⟩
        obtain ⟨fcb1, ffb1, fzb1⟩ := bfacts hb1 (by first | exact Nat.le_refl _ | omega | (simp; omega) | simp); have fsb1 := hb1.size; try simp at fcb1 ffb1 fzb1 fsb1 hb1
        go_wp2_with fail
        refine (implValidPlaces A cp xs _ (HX.out.below (by simpa using hb1)) hn HS.out).mono ?_
        rintro e w2 ⟨rfl, hb2⟩
        have hbn := Below.trans (by first | exact hb1 | exact below_drewN hb1 _) (Below.mono hb2 (by first | omega | (simp; omega) | simp))
        clear hb2 fcb1 ffb1 fzb1 fsb1
        clear hb1
        have hb2 := hbn
        clear hbn
        obtain ⟨fcb2, ffb2, fzb2⟩ := bfacts hb2 (by first | exact Nat.le_refl _ | omega | (simp; omega) | simp); have fsb2 := hb2.size; try simp at fcb2 ffb2 fzb2 fsb2 hb2
        go_wp2_with fail
        refine (implisSpace_any _ _).mono ?_; rintro e2 w3 ⟨rfl, rfl⟩
        have HB2 : Hid (Below (w.heap.size + 1) (w.alloc (.cells #[.int .i64 a, .int .i64 b, .int .i64 c] 86)) w2) := hide hb2
        have HV := hide hv
        have HG := hide hg
        clear hb2 fcb2 ffb2 fzb2
        go_wp2_with fail
        clear hv hg hr
        go_loopw [26, 8] (fun v t wr => ∃ (k : Nat) (A' : Option Addr) (c' : Nat) (ys : List Int), v = .int .i64 k ∧ t = .slice A' ys.length c' ∧ k ≤ xs.length ∧ Hid (ys = outsN a b c g 0 (xs.take k)) ∧ ys.length ≤ k ∧
            Hid (OwnI wr (w.heap.size + 1) (.slice A' ys.length c') ys) ∧ Below (w.heap.size + 1) (w.alloc (.cells #[.int .i64 a, .int .i64 b, .int .i64 c] 86)) wr) (fun v _ _ => xs.length - (intOf v).toNat)
        case atStart => exact ⟨0, none, 0, [], rfl, rfl, by omega, rfl, by simp, hide Own.nil, HB2.out⟩
        case round =>
          obtain ⟨k, A', c', ys, rfl, rfl, hk, hy, hyl, HO, hb⟩ := hrel
          have q0_0 := hb.cell (p := ⟨w.heap.size, 0, none⟩) (by simp)
          have q0_1 := hb.cell (p := ⟨w.heap.size, 1, none⟩) (by simp)
          have q0_2 := hb.cell (p := ⟨w.heap.size, 2, none⟩) (by simp)
          simp at q0_0 q0_1 q0_2
          have hz := hb.size
          simp at hz
          have hz_0 : w.heap.size < wr.heap.size := by omega
          have HB := hide hb
          by_cases hlt : k < xs.length
          · obtain ⟨bb, off, rfl, hbl, hc⟩ := HX.out.below (by simpa using hb) k hlt
            have hc0 := hc 0 _ rfl
            have hc1 := hc 1 _ rfl
            have hc2 := hc 2 _ rfl
            have hc3 := hc 3 _ rfl
            have hc4 := hc 4 _ rfl
            simp only [Nat.add_zero] at hc0
            have hvx := hide (RV.out xs[k] (List.getElem_mem hlt))
            have ha := hide (outsN_take (a := a) (b := b) (c := c) (g := g) hlt)
            clear hc hb
            generalize hx : xs[k] = x at *
            clear hx
            obtain ⟨x0, x1, x2, x3, x4⟩ := x
            simp only at hc0 hc1 hc2 hc3 hc4 ha
            go_wp2_with fail
            refine (implfitsChamber a b c x0 x1 x2 x3 x4 g _ HV.out hvx.out HG.out).mono ?_
            rintro e' w5 ⟨rfl, hb5⟩
            have hz5 := hb5.size
            simp at hz5
            have hbr : Below wr.heap.size wr w5 := ((Below.refl _ _).alloc (Nat.le_refl _) _).trans (hb5.mono (by simp))
            have ho1 := HO.out.below hbr
            have HBR := hide hbr
            clear hb5 hbr
            cases hf : fits a b c x1 x2 x3 x4 g
            · have ha2 : Hid (ys ++ [(k : Int)] = outsN a b c g 0 (xs.take (k + 1))) := hide (by rw [ha.out, hf, ← hy.out]; rfl)
              clear hc0 hc1 hc2 hc3 hc4 ha
              go_wp2_with (at_builtin; refine wpList_appI rfl _ _ rfl (w.heap.size + 1) rfl ho1 rfl (by omega) ?_ ?_; (focus omega); intro A1 c1 w6 ho2 hb6 _hg6)
              go_roundw
              case rel => exact ⟨k + 1, A1, c1, ys ++ [(k : Int)], by go_num, by simp, by omega, ha2, by simp; omega, by simpa using hide ho2, (HB.out.trans (HBR.out.mono (by omega))).trans hb6⟩
              case measure => simp [intOf]; omega
            · have ha2 : Hid (ys = outsN a b c g 0 (xs.take (k + 1))) := hide (by rw [ha.out, hf, ← hy.out]; simp)
              clear hc0 hc1 hc2 hc3 hc4 ha
              go_wp2_with fail
              go_roundw
              case rel => exact ⟨k + 1, A', c', ys, by go_num, rfl, by omega, ha2, by omega, hide ho1, HB.out.trans (HBR.out.mono (by omega))⟩
              case measure => simp [intOf]; omega
          · obtain rfl : k = xs.length := by omega
            have e2 := hy.out
            rw [List.take_length] at e2
            have e3 : Hid (outOf a b c g xs = (ys, 0)) := hide (by rw [e.out, e2])
            clear e2
            go_wp2_with fail
            go_ret2
            exact ⟨A', c', ys, 0, rfl, e3.out, by omega, HO.out.mono (by omega), Below.trans ((Below.refl _ _).alloc (Nat.le_refl _) _) (hb.mono (by omega))⟩
theorem outsN_len (a b c g : Int) (xs : List PlaceR) : ∀ k, (outsN a b c g k xs).length ≤ xs.length := by
  induction xs with
  | nil => intro k; simp [outsN]
  | cons x xs ih =>
    intro k
    have := ih (k + 1)
    unfold outsN
    split <;> simp <;> omega
end Go.Proofs.Ytjklhacffdhgaaa
