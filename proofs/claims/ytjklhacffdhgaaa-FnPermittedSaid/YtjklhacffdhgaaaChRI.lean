/- The program's answers about charges. -/
import Derived.Test.YtjklhacffdhgaaaChI
import Derived.Test.YtjklhacffdhgaaaChP
namespace Go.Proofs.Ytjklhacffdhgaaa
open Go.RowKit

theorem pair_detC {α : Type} {p : α × Int} {x x' : α} {c c' : Int} (h : p = (x, c)) (h' : p = (x', c')) : x = x' ∧ c = c' := by
  have := h.symm.trans h'
  injection this with h1 h2
  exact ⟨h1, h2⟩
/-- A slice of the call's own and a code. -/
def SlResC {α : Type} (enc : α → List Value) (sz : Nat) (T : TypeId) (P : List α → Int → Prop) (w : World) (e : Ending) (w' : World) : Prop :=
  ∃ (A : Option Addr) (c : Nat) (xs : List α) (code : Int), e = .returned (.tuple #[.slice A xs.length c, .int .i64 code]) ∧ P xs code ∧ xs.length ≤ 1048576 ∧ Own enc sz T w' w.heap.size (.slice A xs.length c) xs ∧ Below w.heap.size w w'
theorem slResC_nil {α : Type} {enc : α → List Value} {sz : Nat} {T : TypeId} {P : List α → Int → Prop} {w w' : World} {code : Int} (h : P [] code) (hb : Below w.heap.size w w') : SlResC enc sz T P w (.returned (.tuple #[.slice none 0 0, .int .i64 code])) w' :=
  ⟨none, 0, [], code, rfl, h, by simp, Own.nil, hb⟩
theorem ret_twoC {a b : Int} {p : Int × Int} (h : p = (a, b)) : Ending.returned (.tuple #[.int .i64 a, .int .i64 b]) = .returned (two p) := by subst h; rfl
/-- What the searching function answers. -/
def RunI (d0 d1 d2 d3 d4 : Int) (xs : List IngotR) (budget : Int) (first : Bool) (w : World) (e : Ending) (w' : World) : Prop :=
  ∃ (code : Int) (s : Ch.S) (p : Value), runC d0 d1 d2 d3 d4 xs budget first = (code, s) ∧ e = .returned (.tuple #[p, .int .i64 code]) ∧ (code = 0 → ∃ (b : Nat) (w1 : World) (A : Option Addr) (n c : Nat), p = .pointer (some ⟨b, 0, none⟩) ∧ ChI w1 b A n c d0 d1 d2 d3 d4 first w' s ∧ w.heap.size ≤ b) ∧ Below w.heap.size w w'
set_option maxRecDepth 100000 in
set_option maxHeartbeats 2000000 in
theorem implcharged (d0 d1 d2 d3 d4 : Int) (A : Option Addr) (c : Nat) (xs : List IngotR) (budget : Int) (first : Bool) (w : World) (h : SlAt encIngot 5 w A xs) (hn : xs.length ≤ 1048576) (hs : ∀ x ∈ xs, x.nm.size ≤ maxLen) :
    Calls Try.prog 77 #[.slice A xs.length c, .agg #[.int .i64 d0, .int .i64 d1, .int .i64 d2, .int .i64 d3, .int .i64 d4], .int .i64 budget, .bool first] w (RunI d0 d1 d2 d3 d4 xs budget first w) := by
  have HX := hide (h.below ((Below.refl _ _).alloc (Nat.le_refl _) (.cells #[.int .i64 d0, .int .i64 d1, .int .i64 d2, .int .i64 d3, .int .i64 d4] 30)))
  have HS := hide hs
  clear h hs
  cases hr : rowsB vIngotR IngotR.nm 16 xs
  · have e := hide (runC_1 (d0 := d0) (d1 := d1) (d2 := d2) (d3 := d3) (d4 := d4) (budget := budget) (first := first) hr)
    go_enter Try.func77, Try.ntmps77
    go_wp2_with fail
    refine (implValidIngots A c xs _ HX.out hn HS.out).mono ?_
    rintro e w1 ⟨rfl, hb1⟩
    obtain ⟨fcb1, ffb1, fzb1⟩ := bfacts hb1 (by first | exact Nat.le_refl _ | omega | (simp; omega) | simp); have fsb1 := hb1.size; try simp at fcb1 ffb1 fzb1 fsb1 hb1
    go_wp2_with fail
    go_ret2
    exact ⟨1, _, _, e.out, rfl, fun q => by simp at q, (by repeat (first | with_reducible exact Below.refl _ _ | with_reducible assumption | (with_reducible refine Below.drew ?_) | (with_reducible refine below_drewN ?_ _) | ((with_reducible refine Below.alloc ?_ ?_ _); rotate_left; (focus (first | omega | (simp; omega) | simp))) | ((with_reducible refine Below.setCell ?_ ?_ _); rotate_left; (focus (first | omega | (simp; omega) | simp))) | (refine Below.trans ?_ (Below.mono (by assumption) (by first | omega | (simp; omega) | simp)))))⟩
  · cases hd : vDem d0 d1 d2 d3 d4
    · have e := hide (runC_2 (xs := xs) (budget := budget) (first := first) hd)
      go_enter Try.func77, Try.ntmps77
      go_wp2_with fail
      refine (implValidIngots A c xs _ HX.out hn HS.out).mono ?_
      rintro e w1 ⟨rfl, hb1⟩
      obtain ⟨fcb1, ffb1, fzb1⟩ := bfacts hb1 (by first | exact Nat.le_refl _ | omega | (simp; omega) | simp); have fsb1 := hb1.size; try simp at fcb1 ffb1 fzb1 fsb1 hb1
      go_wp2_with fail
      refine (implValidDemand d0 d1 d2 d3 d4 _).mono ?_
      rintro e w2 ⟨rfl, hb2⟩
      have hbn := Below.trans (by first | exact hb1 | exact below_drewN hb1 _) (Below.mono hb2 (by first | omega | (simp; omega) | simp))
      clear hb2 fcb1 ffb1 fzb1 fsb1
      clear hb1
      have hb2 := hbn
      clear hbn
      obtain ⟨fcb2, ffb2, fzb2⟩ := bfacts hb2 (by first | exact Nat.le_refl _ | omega | (simp; omega) | simp); have fsb2 := hb2.size; try simp at fcb2 ffb2 fzb2 fsb2 hb2
      go_wp2_with fail
      go_ret2
      exact ⟨1, _, _, e.out, rfl, fun q => by simp at q, (by repeat (first | with_reducible exact Below.refl _ _ | with_reducible assumption | (with_reducible refine Below.drew ?_) | (with_reducible refine below_drewN ?_ _) | ((with_reducible refine Below.alloc ?_ ?_ _); rotate_left; (focus (first | omega | (simp; omega) | simp))) | ((with_reducible refine Below.setCell ?_ ?_ _); rotate_left; (focus (first | omega | (simp; omega) | simp))) | (refine Below.trans ?_ (Below.mono (by assumption) (by first | omega | (simp; omega) | simp)))))⟩
    · cases hb : inB budget 1 20000
      · have e := hide (runC_3 (first := first) hr hd hb)
        go_enter Try.func77, Try.ntmps77
        go_wp2_with fail
        refine (implValidIngots A c xs _ HX.out hn HS.out).mono ?_
        rintro e w1 ⟨rfl, hb1⟩
        obtain ⟨fcb1, ffb1, fzb1⟩ := bfacts hb1 (by first | exact Nat.le_refl _ | omega | (simp; omega) | simp); have fsb1 := hb1.size; try simp at fcb1 ffb1 fzb1 fsb1 hb1
        go_wp2_with fail
        refine (implValidDemand d0 d1 d2 d3 d4 _).mono ?_
        rintro e w2 ⟨rfl, hb2⟩
        have hbn := Below.trans (by first | exact hb1 | exact below_drewN hb1 _) (Below.mono hb2 (by first | omega | (simp; omega) | simp))
        clear hb2 fcb1 ffb1 fzb1 fsb1
        clear hb1
        have hb2 := hbn
        clear hbn
        obtain ⟨fcb2, ffb2, fzb2⟩ := bfacts hb2 (by first | exact Nat.le_refl _ | omega | (simp; omega) | simp); have fsb2 := hb2.size; try simp at fcb2 ffb2 fzb2 fsb2 hb2
        go_wp2_with fail
        refine (implisBudget_any _ _).mono ?_; rintro e2 w3 ⟨rfl, rfl⟩
        go_wp2_with fail
        go_ret2
        exact ⟨2, _, _, e.out, rfl, fun q => by simp at q, (by repeat (first | with_reducible exact Below.refl _ _ | with_reducible assumption | (with_reducible refine Below.drew ?_) | (with_reducible refine below_drewN ?_ _) | ((with_reducible refine Below.alloc ?_ ?_ _); rotate_left; (focus (first | omega | (simp; omega) | simp))) | ((with_reducible refine Below.setCell ?_ ?_ _); rotate_left; (focus (first | omega | (simp; omega) | simp))) | (refine Below.trans ?_ (Below.mono (by assumption) (by first | omega | (simp; omega) | simp)))))⟩
      · have E4 := hide (fun q => runC_4 (first := first) hr hd hb q)
        have E5 := hide (fun q => runC_5 (first := first) hr hd hb q)
        obtain ⟨rv, rl⟩ := rowsB_ok hr
        have HV := hide rv
        obtain ⟨u0, u1⟩ := inB_true hb
        have HDM := hide hd
        obtain ⟨⟨v0, v1⟩, -⟩ := vDem_true hd
        clear rv
        go_enter Try.func77, Try.ntmps77
        go_wp2_with fail
        refine (implValidIngots A c xs _ HX.out hn HS.out).mono ?_
        rintro e w1 ⟨rfl, hb1⟩
        obtain ⟨fcb1, ffb1, fzb1⟩ := bfacts hb1 (by first | exact Nat.le_refl _ | omega | (simp; omega) | simp); have fsb1 := hb1.size; try simp at fcb1 ffb1 fzb1 fsb1 hb1
        go_wp2_with fail
        refine (implValidDemand d0 d1 d2 d3 d4 _).mono ?_
        rintro e w2 ⟨rfl, hb2⟩
        have hbn := Below.trans (by first | exact hb1 | exact below_drewN hb1 _) (Below.mono hb2 (by first | omega | (simp; omega) | simp))
        clear hb2 fcb1 ffb1 fzb1 fsb1
        clear hb1
        have hb2 := hbn
        clear hbn
        obtain ⟨fcb2, ffb2, fzb2⟩ := bfacts hb2 (by first | exact Nat.le_refl _ | omega | (simp; omega) | simp); have fsb2 := hb2.size; try simp at fcb2 ffb2 fzb2 fsb2 hb2
        go_wp2_with fail
        refine (implisBudget_any _ _).mono ?_; rintro e2 w3 ⟨rfl, rfl⟩
        have HB2 := hide (show Below w.heap.size w w2 from (by repeat (first | with_reducible exact Below.refl _ _ | with_reducible assumption | (with_reducible refine Below.drew ?_) | (with_reducible refine below_drewN ?_ _) | ((with_reducible refine Below.alloc ?_ ?_ _); rotate_left; (focus (first | omega | (simp; omega) | simp))) | ((with_reducible refine Below.setCell ?_ ?_ _); rotate_left; (focus (first | omega | (simp; omega) | simp))) | (refine Below.trans ?_ (Below.mono (by assumption) (by first | omega | (simp; omega) | simp))))))
        have q0 : w2.cell? ⟨w.heap.size, 0, none⟩ = some (.int .i64 d0) := by rw [fcb2 _ _ (by omega)]; simp
        have q1 : w2.cell? ⟨w.heap.size, 1, none⟩ = some (.int .i64 d1) := by rw [fcb2 _ _ (by omega)]; simp
        have q2 : w2.cell? ⟨w.heap.size, 2, none⟩ = some (.int .i64 d2) := by rw [fcb2 _ _ (by omega)]; simp
        have q3 : w2.cell? ⟨w.heap.size, 3, none⟩ = some (.int .i64 d3) := by rw [fcb2 _ _ (by omega)]; simp
        have q4 : w2.cell? ⟨w.heap.size, 4, none⟩ = some (.int .i64 d4) := by rw [fcb2 _ _ (by omega)]; simp
        have HX2 := hide (HX.out.below (by simpa using hb2))
        clear hb2 fcb2 ffb2 fzb2 hr hd
        go_wp2_with fail
        clear hb
        have hS : ChI w2 w2.heap.size A xs.length c d0 d1 d2 d3 d4 first (w2.alloc (.cells #[.int .i64 budget, .bool false, .slice A xs.length c, .int .i64 d0, .int .i64 d1, .int .i64 d2, .int .i64 d3, .int .i64 d4, .bool first, .int .i64 0, .slice none 0 0, .int .i64 0] 134)) ⟨budget, false, 0, [], 0⟩ :=
          ⟨⟨none, 0, heap_alloc_new w2 _, Own.nil⟩, ⟨by simp only; omega, by simp only; omega, by simp only; omega⟩, (Below.refl _ _).alloc (Nat.le_refl _) _, Nat.le_refl _⟩
        refine (search_any w2 w2.heap.size A c xs d0 d1 d2 d3 d4 first HX2 HV rl HDM.out (xs.length + 1) [] 0 0 ⟨budget, false, 0, [], 0⟩ _ none 0 (by omega) hS Own.nil (hide (by intro i hi; simp at hi)) (by simp) (by omega) (hide (.inl ⟨rfl, rfl⟩)) (hide rfl) (by omega)).mono ?_
        rintro e w4 ⟨rfl, hS4, hg4⟩
        have HS4 : Hid (ChI w2 w2.heap.size A xs.length c d0 d1 d2 d3 d4 first w4 (lastC d0 d1 d2 d3 d4 xs budget first)) := hide hS4
        have HB4 := hide (HB2.out.trans (HS4.out.bel.mono HB2.out.size))
        clear hS hS4 hg4 q0 q1 q2 q3 q4
        obtain ⟨bv, bc, hst, _⟩ := HS4.out.st
        have g1 : w4.cell? ⟨w2.heap.size, 1, none⟩ = some (.bool (lastC d0 d1 d2 d3 d4 xs budget first).spent) := by simp [World.cell?, hst]
        have hz2 := HB2.out.size
        clear hst
        cases hsp : (lastC d0 d1 d2 d3 d4 xs budget first).spent
        · rw [hsp] at g1
          have e := hide (E5.out hsp)
          clear hsp
          go_wp2_with fail
          go_ret2
          exact ⟨0, _, _, e.out, rfl, fun _ => ⟨_, w2, A, _, c, rfl, HS4.out, hz2⟩, HB4.out⟩
        · rw [hsp] at g1
          have e := hide (E4.out hsp)
          clear hsp
          go_wp2_with fail
          go_ret2
          exact ⟨5, _, _, e.out, rfl, fun q => by simp at q, HB4.out⟩
set_option maxRecDepth 100000 in
set_option maxHeartbeats 1000000 in
theorem implbestCharge (d0 d1 d2 d3 d4 : Int) (A : Option Addr) (c : Nat) (xs : List IngotR) (budget : Int) (first : Bool) (w : World) (h : SlAt encIngot 5 w A xs) (hn : xs.length ≤ 1048576) (hs : ∀ x ∈ xs, x.nm.size ≤ maxLen) :
    Calls Try.prog 80 #[.slice A xs.length c, .agg #[.int .i64 d0, .int .i64 d1, .int .i64 d2, .int .i64 d3, .int .i64 d4], .int .i64 budget, .bool first] w (SlResC encI 1 2 (fun ys code => bestOf d0 d1 d2 d3 d4 xs budget first = (ys, code)) w) := by
  have HX := hide (h.below ((Below.refl _ _).alloc (Nat.le_refl _) (.cells #[.int .i64 d0, .int .i64 d1, .int .i64 d2, .int .i64 d3, .int .i64 d4] 30)))
  have HS := hide hs
  clear h hs
  go_enter Try.func80, Try.ntmps80
  go_wp2_with fail
  refine (implcharged d0 d1 d2 d3 d4 A c xs budget first _ HX.out hn HS.out).mono ?_
  rintro e w1 ⟨code, s, p, hrun, rfl, hp, hb1⟩
  have hb : Below w.heap.size w w1 := ((Below.refl _ _).alloc (Nat.le_refl _) _).trans (hb1.mono (by simp))
  have HB := hide hb
  have HRUN := hide hrun
  have HP := hide hp
  clear hb hb1 hrun hp HX HS
  by_cases h0 : code = 0
  · subst h0
    obtain ⟨b, w2, A2, n2, c2, rfl, hS, hbz⟩ := HP.out rfl
    have hlen := runC_best (d0 := d0) (d1 := d1) (d2 := d2) (d3 := d3) (d4 := d4) (xs := xs) (budget := budget) (first := first) (by rw [HRUN.out])
    rw [HRUN.out] at hlen
    simp only at hlen
    obtain ⟨bv, bc, hst, ho⟩ := hS.st
    have hbz' : w.heap.size ≤ b := by have := hbz; simp at this; omega
    have g9 : w1.cell? ⟨b, 9, none⟩ = some (.int .i64 s.count) := by simp [World.cell?, hst]
    have g10 : w1.cell? ⟨b, 10, none⟩ = some (.slice bv s.best.length bc) := by simp [World.cell?, hst]
    have HO := hide (ho.mono (B' := w.heap.size) (by omega))
    clear hst hS ho HP
    by_cases hc : s.count = 0
    · have e := hide (show bestOf d0 d1 d2 d3 d4 xs budget first = ([], 3) from by unfold bestOf; rw [HRUN.out]; simp [hc])
      rw [hc] at g9
      clear hc
      go_wp2_with fail
      go_ret2
      exact slResC_nil e.out HB.out
    · have hc1 : (s.count == 0) = false := by simpa using hc
      have e := hide (show bestOf d0 d1 d2 d3 d4 xs budget first = (s.best, 0) from by unfold bestOf; rw [HRUN.out]; simp [hc])
      clear hc
      go_wp2_with fail
      go_ret2
      exact ⟨bv, bc, s.best, 0, rfl, e.out, by omega, HO.out, HB.out⟩
  · have e := hide (show bestOf d0 d1 d2 d3 d4 xs budget first = ([], code) from by unfold bestOf; rw [HRUN.out]; simp [h0])
    have h1 : (code == 0) = false := by simpa using h0
    clear HP h0
    go_wp2_with fail
    go_ret2
    exact slResC_nil e.out HB.out
set_option maxRecDepth 100000 in
theorem implFirstCharge (d0 d1 d2 d3 d4 : Int) (A : Option Addr) (c : Nat) (xs : List IngotR) (budget : Int) (w : World) (h : SlAt encIngot 5 w A xs) (hn : xs.length ≤ 1048576) (hs : ∀ x ∈ xs, x.nm.size ≤ maxLen) :
    Calls Try.prog 21 #[.slice A xs.length c, .agg #[.int .i64 d0, .int .i64 d1, .int .i64 d2, .int .i64 d3, .int .i64 d4], .int .i64 budget] w (SlResC encI 1 2 (fun ys code => bestOf d0 d1 d2 d3 d4 xs budget true = (ys, code)) w) := by
  have HX := hide (h.below ((Below.refl _ _).alloc (Nat.le_refl _) (.cells #[.int .i64 d0, .int .i64 d1, .int .i64 d2, .int .i64 d3, .int .i64 d4] 30)))
  have HS := hide hs
  clear h hs
  go_enter Try.func21, Try.ntmps21
  go_wp2_with fail
  refine (implbestCharge d0 d1 d2 d3 d4 A c xs budget true _ HX.out hn HS.out).mono ?_
  rintro e w1 ⟨A1, c1, ys, code, rfl, hr, hl, ho, hb1⟩
  have HO := hide (ho.mono (B' := w.heap.size) (by simp))
  have HB := hide (show Below w.heap.size w w1 from ((Below.refl _ _).alloc (Nat.le_refl _) _).trans (hb1.mono (by simp)))
  have HR := hide hr
  clear ho hb1 hr
  go_wp2_with fail
  go_ret2
  exact ⟨A1, c1, ys, code, rfl, HR.out, hl, HO.out, HB.out⟩
set_option maxRecDepth 100000 in
theorem implLeastCharge (d0 d1 d2 d3 d4 : Int) (A : Option Addr) (c : Nat) (xs : List IngotR) (budget : Int) (w : World) (h : SlAt encIngot 5 w A xs) (hn : xs.length ≤ 1048576) (hs : ∀ x ∈ xs, x.nm.size ≤ maxLen) :
    Calls Try.prog 27 #[.slice A xs.length c, .agg #[.int .i64 d0, .int .i64 d1, .int .i64 d2, .int .i64 d3, .int .i64 d4], .int .i64 budget] w (SlResC encI 1 2 (fun ys code => bestOf d0 d1 d2 d3 d4 xs budget false = (ys, code)) w) := by
  have HX := hide (h.below ((Below.refl _ _).alloc (Nat.le_refl _) (.cells #[.int .i64 d0, .int .i64 d1, .int .i64 d2, .int .i64 d3, .int .i64 d4] 30)))
  have HS := hide hs
  clear h hs
  go_enter Try.func27, Try.ntmps27
  go_wp2_with fail
  refine (implbestCharge d0 d1 d2 d3 d4 A c xs budget false _ HX.out hn HS.out).mono ?_
  rintro e w1 ⟨A1, c1, ys, code, rfl, hr, hl, ho, hb1⟩
  have HO := hide (ho.mono (B' := w.heap.size) (by simp))
  have HB := hide (show Below w.heap.size w w1 from ((Below.refl _ _).alloc (Nat.le_refl _) _).trans (hb1.mono (by simp)))
  have HR := hide hr
  clear ho hb1 hr
  go_wp2_with fail
  go_ret2
  exact ⟨A1, c1, ys, code, rfl, HR.out, hl, HO.out, HB.out⟩
set_option maxRecDepth 100000 in
theorem implCountCharges (d0 d1 d2 d3 d4 : Int) (A : Option Addr) (c : Nat) (xs : List IngotR) (budget : Int) (w : World) (h : SlAt encIngot 5 w A xs) (hn : xs.length ≤ 1048576) (hs : ∀ x ∈ xs, x.nm.size ≤ maxLen) :
    Calls Try.prog 18 #[.slice A xs.length c, .agg #[.int .i64 d0, .int .i64 d1, .int .i64 d2, .int .i64 d3, .int .i64 d4], .int .i64 budget] w fun e w' => e = .returned (two (cntOf d0 d1 d2 d3 d4 xs budget)) ∧ Below w.heap.size w w' := by
  have HX := hide (h.below ((Below.refl _ _).alloc (Nat.le_refl _) (.cells #[.int .i64 d0, .int .i64 d1, .int .i64 d2, .int .i64 d3, .int .i64 d4] 30)))
  have HS := hide hs
  clear h hs
  go_enter Try.func18, Try.ntmps18
  go_wp2_with fail
  refine (implcharged d0 d1 d2 d3 d4 A c xs budget false _ HX.out hn HS.out).mono ?_
  rintro e w1 ⟨code, s, p, hrun, rfl, hp, hb1⟩
  have HB := hide (show Below w.heap.size w w1 from ((Below.refl _ _).alloc (Nat.le_refl _) _).trans (hb1.mono (by simp)))
  have HRUN := hide hrun
  have HP := hide hp
  clear hb1 hrun hp HX HS
  by_cases h0 : code = 0
  · subst h0
    obtain ⟨b, w2, A2, n2, c2, rfl, hS, hbz⟩ := HP.out rfl
    obtain ⟨bv, bc, hst, -⟩ := hS.st
    have g9 : w1.cell? ⟨b, 9, none⟩ = some (.int .i64 s.count) := by simp [World.cell?, hst]
    have e := hide (show cntOf d0 d1 d2 d3 d4 xs budget = (s.count, 0) from by unfold cntOf; rw [HRUN.out]; simp)
    clear hst hS HP
    go_wp2_with fail
    go_ret2
    exact ⟨ret_twoC e.out, HB.out⟩
  · have e := hide (show cntOf d0 d1 d2 d3 d4 xs budget = (0, code) from by unfold cntOf; rw [HRUN.out]; simp [h0])
    have h1 : (code == 0) = false := by simpa using h0
    clear HP h0
    go_wp2_with fail
    go_ret2
    exact ⟨ret_twoC e.out, HB.out⟩
end Go.Proofs.Ytjklhacffdhgaaa
