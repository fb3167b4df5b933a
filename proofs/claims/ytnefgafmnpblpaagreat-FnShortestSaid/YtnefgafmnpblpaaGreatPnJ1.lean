/- Contracts: cuts: valid, summed, counted, on both sides. -/
import Derived.Test.YtnefgafmnpblpaaGreatPnFa
namespace Go.Proofs.YtnefgafmnpblpaaGreat
open Go.RowKit Pn

theorem SlAt.getC {w : World} {A : Option Addr} {xs : List CutR} (h : SlAt encCut 2 w A xs) (h0 : 0 < xs.length) : ∃ b o, A = some ⟨b, o, none⟩ ∧ b < w.heap.size ∧ ∀ j, j < xs.length → w.cell? ⟨b, o + j * 2, none⟩ = some (.int .i64 (cg xs j).zone) ∧ w.cell? ⟨b, o + j * 2 + 1, none⟩ = some (.int .i64 (cg xs j).steps) := by
  obtain ⟨b, o, rfl, hb, _⟩ := h 0 h0
  refine ⟨b, o, rfl, hb, fun j hj => ?_⟩
  obtain ⟨b', o', e, _, hc⟩ := h j hj
  injection e with e; injection e with e1 e2; subst e1; subst e2
  rw [cg_eq hj] at hc
  exact ⟨by simpa using hc 0 _ rfl, hc 1 _ rfl⟩
theorem CutsOK.any {n : Nat} {xs : List CutR} (h : CutsOK n xs) : xs.any (fun x : CutR => !(inB x.zone 0 7 && inB x.steps 1 20)) = false := by
  rw [List.any_eq_false]
  intro x hx
  have a := h.at_ x hx
  have a1 := a.zone
  have a2 := a.steps
  have a3 := h.n8
  have e1 : inB x.zone 0 7 = true := by unfold inB; simp; omega
  have e2 : inB x.steps 1 20 = true := by unfold inB; simp; omega
  simp [e1, e2]
theorem CutsOK.any2 {n : Nat} {xs : List CutR} (h : CutsOK n xs) : xs.any (fun x : CutR => decide ((n : Int) ≤ x.zone)) = false := by
  rw [List.any_eq_false]
  intro x hx
  have a1 := (h.at_ x hx).zone
  simp; omega
/-- Eight numbers of the call's own. -/
def Row8 (l : List Int) (w : World) (e : Ending) (w' : World) : Prop := ∃ A c, e = .returned (.slice A 8 c) ∧ OwnI w' w.heap.size (.slice A 8 c) l ∧ Below w.heap.size w w'
set_option maxRecDepth 100000 in
theorem vcc1_is (x0 x1 : Int) (b : Bool) (w : World) (hb : Hid ((fun x : CutR => !(inB x.zone 0 7 && inB x.steps 1 20)) ⟨x0, x1⟩ = b)) :
    Calls Tryz.prog 119 #[.agg #[.int .i64 x0, .int .i64 x1]] w fun e w' => e = .returned (.bool b) ∧ Below w.heap.size w w' := by
  have E := hide (show (!(inB x0 0 7 && inB x1 1 20)) = b from hb.out)
  clear hb
  cases h0 : inB x0 0 7
  · have E2 := hide (show b = true by rw [← E.out, h0]; rfl)
    clear E
    go_enter Tryz.func119, Tryz.ntmps119
    go_wp2_with (go_at_call 120; refine (implwithin_any _ _ _ _).mono ?_; rintro e w' ⟨rfl, rfl⟩)
    go_ret
    exact ⟨ret_bool E2.out.symm, (by repeat (first | with_reducible exact Below.refl _ _ | with_reducible assumption | (with_reducible refine Below.drew ?_) | (with_reducible refine below_drewN ?_ _) | ((with_reducible refine Below.alloc ?_ ?_ _); rotate_left; (focus (first | omega | (simp; omega) | simp))) | ((with_reducible refine Below.setCell ?_ ?_ _); rotate_left; (focus (first | omega | (simp; omega) | simp))) | (refine Below.trans ?_ (Below.mono (by assumption) (by first | omega | (simp; omega) | simp)))))⟩
  · cases h1 : inB x1 1 20
    · have E2 := hide (show b = true by rw [← E.out, h0, h1]; rfl)
      clear E
      go_enter Tryz.func119, Tryz.ntmps119
      go_wp2_with (go_at_call 120; refine (implwithin_any _ _ _ _).mono ?_; rintro e w' ⟨rfl, rfl⟩)
      go_ret
      exact ⟨ret_bool E2.out.symm, (by repeat (first | with_reducible exact Below.refl _ _ | with_reducible assumption | (with_reducible refine Below.drew ?_) | (with_reducible refine below_drewN ?_ _) | ((with_reducible refine Below.alloc ?_ ?_ _); rotate_left; (focus (first | omega | (simp; omega) | simp))) | ((with_reducible refine Below.setCell ?_ ?_ _); rotate_left; (focus (first | omega | (simp; omega) | simp))) | (refine Below.trans ?_ (Below.mono (by assumption) (by first | omega | (simp; omega) | simp)))))⟩
    · have E2 := hide (show b = false by rw [← E.out, h0, h1]; rfl)
      clear E
      go_enter Tryz.func119, Tryz.ntmps119
      go_wp2_with (go_at_call 120; refine (implwithin_any _ _ _ _).mono ?_; rintro e w' ⟨rfl, rfl⟩)
      go_ret
      exact ⟨ret_bool E2.out.symm, (by repeat (first | with_reducible exact Below.refl _ _ | with_reducible assumption | (with_reducible refine Below.drew ?_) | (with_reducible refine below_drewN ?_ _) | ((with_reducible refine Below.alloc ?_ ?_ _); rotate_left; (focus (first | omega | (simp; omega) | simp))) | ((with_reducible refine Below.setCell ?_ ?_ _); rotate_left; (focus (first | omega | (simp; omega) | simp))) | (refine Below.trans ?_ (Below.mono (by assumption) (by first | omega | (simp; omega) | simp)))))⟩
set_option maxRecDepth 100000 in
theorem acc1_is (x0 x1 : Int) (q : Nat) (Az : Option Addr) (n : Nat) (cz : Nat) (b : Bool) (w : World) (hb : Hid ((fun x : CutR => decide ((n : Int) ≤ x.zone)) ⟨x0, x1⟩ = b)) (hq : w.cell? ⟨q, 0, none⟩ = some (.slice Az n cz)) :
    Calls Tryz.prog 122 #[.agg #[.int .i64 x0, .int .i64 x1], .pointer (some ⟨q, 0, none⟩)] w fun e w' => e = .returned (.bool b) ∧ Below w.heap.size w w' := by
  have E := hide (show (decide ((n : Int) ≤ x0)) = b from hb.out)
  clear hb
  have hql := World.block_lt_of_cell? w _ hq
  go_enter Tryz.func122, Tryz.ntmps122
  go_upto_region 1 with fail
  go_region_with (go_at_call 123; refine (implsizeint64_is _ _ _ _).mono ?_; rintro e w2 ⟨rfl, rfl⟩)
  all_goals
    go_wp2_with fail
    go_ret
    exact ⟨ret_bool E.out, (by repeat (first | with_reducible exact Below.refl _ _ | with_reducible assumption | (with_reducible refine Below.drew ?_) | (with_reducible refine below_drewN ?_ _) | ((with_reducible refine Below.alloc ?_ ?_ _); rotate_left; (focus (first | omega | (simp; omega) | simp))) | ((with_reducible refine Below.setCell ?_ ?_ _); rotate_left; (focus (first | omega | (simp; omega) | simp))) | (refine Below.trans ?_ (Below.mono (by assumption) (by first | omega | (simp; omega) | simp)))))⟩
set_option maxRecDepth 100000 in
theorem vcc_idx (A : Option Addr) (c : Nat) (xs : List CutR)  (w : World) (h : SlAt encCut 2 w A xs) (hn : xs.length ≤ 1048576) :
    Calls Tryz.prog 166 #[.slice A xs.length c, .func (.func 119) #[] #[]] w fun e w' => ∃ r : Int, e = .returned (.int .i64 r) ∧ decide (0 ≤ r) = xs.any (fun x : CutR => !(inB x.zone 0 7 && inB x.steps 1 20)) ∧ Below w.heap.size w w' := by
  have HX := hide h
  clear h
  go_enter Tryz.func166, Tryz.ntmps166
  go_wp2_with fail
  go_loopw [8, 5] (fun v _ wr => ∃ k : Nat, v = .int .i64 k ∧ k ≤ xs.length ∧ Hid (∀ j (hj : j < xs.length), j < k → (fun x : CutR => !(inB x.zone 0 7 && inB x.steps 1 20)) xs[j] = false) ∧ Hid (Below w.heap.size w wr)) (fun v _ _ => xs.length - (intOf v).toNat)
  case atStart => exact ⟨0, rfl, by omega, hide fun j _ h => by omega, hide (Below.refl _ _)⟩
  case round =>
    obtain ⟨k, rfl, hk, HJ, HB⟩ := hrel
    have hz := HB.out.size
    by_cases hlt : k < xs.length
    · obtain ⟨b, off, rfl, hbl, hc⟩ := (HX.out.below HB.out) k hlt
      have hc0 := hc 0 _ rfl
      have hc1 := hc 1 _ rfl
      simp only [Nat.add_zero] at hc0
      have HE : Hid ((fun x : CutR => !(inB x.zone 0 7 && inB x.steps 1 20)) xs[k] = true → xs.any (fun x : CutR => !(inB x.zone 0 7 && inB x.steps 1 20)) = true) := hide fun h1 => List.any_eq_true.2 ⟨xs[k], List.getElem_mem hlt, h1⟩
      have HS : Hid ((fun x : CutR => !(inB x.zone 0 7 && inB x.steps 1 20)) xs[k] = false → ∀ j (hj : j < xs.length), j < k + 1 → (fun x : CutR => !(inB x.zone 0 7 && inB x.steps 1 20)) xs[j] = false) := hide fun h1 j hj h2 => by
        by_cases e : j = k
        · subst e; exact h1
        · exact HJ.out j hj (by omega)
      clear hc HJ
      generalize xs[k] = x at *
      obtain ⟨x0, x1⟩ := x
      simp only at hc0 hc1
      cases hp : (fun x : CutR => !(inB x.zone 0 7 && inB x.steps 1 20)) (⟨x0, x1⟩ : CutR)
      · have HS2 := hide (HS.out hp)
        clear HS HE
        go_wp2_with (go_at_call 119; refine (vcc1_is x0 x1  _ _ (hide hp)).mono ?_; rintro e w2 ⟨rfl, hb2⟩)
        go_roundw
        case rel => exact ⟨k + 1, by go_num, by omega, HS2, hide (HB.out.trans (hb2.mono hz))⟩
        case measure => simp [intOf]; omega
      · have E := hide (HE.out hp)
        clear HS HE
        go_wp2_with (go_at_call 119; refine (vcc1_is x0 x1  _ _ (hide hp)).mono ?_; rintro e w2 ⟨rfl, hb2⟩)
        go_ret
        exact ⟨_, rfl, by rw [E.out]; simp, HB.out.trans (hb2.mono hz)⟩
    · have E : Hid (xs.any (fun x : CutR => !(inB x.zone 0 7 && inB x.steps 1 20)) = false) := hide (by
        rw [List.any_eq_false]
        intro x hx
        obtain ⟨j, hj, rfl⟩ := List.getElem_of_mem hx
        have h3 := HJ.out j hj (by omega)
        exact fun q => absurd (h3.symm.trans q) (by decide))
      clear HJ
      go_wp2_with fail
      go_ret
      exact ⟨-1, rfl, by rw [E.out]; rfl, HB.out⟩
set_option maxRecDepth 100000 in
theorem vcc_is (A : Option Addr) (c : Nat) (xs : List CutR)  (b : Bool) (w : World) (h : SlAt encCut 2 w A xs) (hn : xs.length ≤ 1048576) (hb : Hid (xs.any (fun x : CutR => !(inB x.zone 0 7 && inB x.steps 1 20)) = b)) :
    Calls Tryz.prog 118 #[.slice A xs.length c, .func (.func 119) #[] #[]] w fun e w' => e = .returned (.bool b) ∧ Below w.heap.size w w' := by
  have HI := hide (vcc_idx A c xs  w h hn)
  clear h
  go_enter Tryz.func118, Tryz.ntmps118
  go_wp2_with fail
  refine HI.out.mono ?_
  rintro e w1 ⟨r, rfl, hr, hb1⟩
  have HR := hide (hr.trans hb.out)
  have HB := hide hb1
  clear hr hb1 HI
  go_wp2_with fail
  go_ret
  exact ⟨ret_bool HR.out, HB.out⟩
set_option maxRecDepth 100000 in
theorem acc_idx (A : Option Addr) (c : Nat) (xs : List CutR) (q : Nat) (Az : Option Addr) (n : Nat) (cz : Nat) (w : World) (h : SlAt encCut 2 w A xs) (hq : w.cell? ⟨q, 0, none⟩ = some (.slice Az n cz)) (hn : xs.length ≤ 1048576) :
    Calls Tryz.prog 166 #[.slice A xs.length c, .func (.func 122) #[] #[.pointer (some ⟨q, 0, none⟩)]] w fun e w' => ∃ r : Int, e = .returned (.int .i64 r) ∧ decide (0 ≤ r) = xs.any (fun x : CutR => decide ((n : Int) ≤ x.zone)) ∧ Below w.heap.size w w' := by
  have HX := hide h
  have hql := World.block_lt_of_cell? w _ hq
  have HQ := hide hq
  clear h hq
  go_enter Tryz.func166, Tryz.ntmps166
  go_wp2_with fail
  go_loopw [8, 5] (fun v _ wr => ∃ k : Nat, v = .int .i64 k ∧ k ≤ xs.length ∧ Hid (∀ j (hj : j < xs.length), j < k → (fun x : CutR => decide ((n : Int) ≤ x.zone)) xs[j] = false) ∧ Hid (Below w.heap.size w wr)) (fun v _ _ => xs.length - (intOf v).toNat)
  case atStart => exact ⟨0, rfl, by omega, hide fun j _ h => by omega, hide (Below.refl _ _)⟩
  case round =>
    obtain ⟨k, rfl, hk, HJ, HB⟩ := hrel
    have hz := HB.out.size
    by_cases hlt : k < xs.length
    · obtain ⟨b, off, rfl, hbl, hc⟩ := (HX.out.below HB.out) k hlt
      have hc0 := hc 0 _ rfl
      have hc1 := hc 1 _ rfl
      simp only [Nat.add_zero] at hc0
      have hqr : wr.cell? ⟨q, 0, none⟩ = some (.slice Az n cz) := (HB.out.cell (by exact hql)).trans HQ.out
      have HE : Hid ((fun x : CutR => decide ((n : Int) ≤ x.zone)) xs[k] = true → xs.any (fun x : CutR => decide ((n : Int) ≤ x.zone)) = true) := hide fun h1 => List.any_eq_true.2 ⟨xs[k], List.getElem_mem hlt, h1⟩
      have HS : Hid ((fun x : CutR => decide ((n : Int) ≤ x.zone)) xs[k] = false → ∀ j (hj : j < xs.length), j < k + 1 → (fun x : CutR => decide ((n : Int) ≤ x.zone)) xs[j] = false) := hide fun h1 j hj h2 => by
        by_cases e : j = k
        · subst e; exact h1
        · exact HJ.out j hj (by omega)
      clear hc HJ
      generalize xs[k] = x at *
      obtain ⟨x0, x1⟩ := x
      simp only at hc0 hc1
      cases hp : (fun x : CutR => decide ((n : Int) ≤ x.zone)) (⟨x0, x1⟩ : CutR)
      · have HS2 := hide (HS.out hp)
        clear HS HE
        go_wp2_with (go_at_call 122; refine (acc1_is x0 x1 _ _ _ _ _ _ (hide hp) hqr).mono ?_; rintro e w2 ⟨rfl, hb2⟩)
        go_roundw
        case rel => exact ⟨k + 1, by go_num, by omega, HS2, hide (HB.out.trans (hb2.mono hz))⟩
        case measure => simp [intOf]; omega
      · have E := hide (HE.out hp)
        clear HS HE
        go_wp2_with (go_at_call 122; refine (acc1_is x0 x1 _ _ _ _ _ _ (hide hp) hqr).mono ?_; rintro e w2 ⟨rfl, hb2⟩)
        go_ret
        exact ⟨_, rfl, by rw [E.out]; simp, HB.out.trans (hb2.mono hz)⟩
    · have E : Hid (xs.any (fun x : CutR => decide ((n : Int) ≤ x.zone)) = false) := hide (by
        rw [List.any_eq_false]
        intro x hx
        obtain ⟨j, hj, rfl⟩ := List.getElem_of_mem hx
        have h3 := HJ.out j hj (by omega)
        exact fun q => absurd (h3.symm.trans q) (by decide))
      clear HJ
      go_wp2_with fail
      go_ret
      exact ⟨-1, rfl, by rw [E.out]; rfl, HB.out⟩
set_option maxRecDepth 100000 in
theorem acc_is (A : Option Addr) (c : Nat) (xs : List CutR) (q : Nat) (Az : Option Addr) (n : Nat) (cz : Nat) (b : Bool) (w : World) (h : SlAt encCut 2 w A xs) (hq : w.cell? ⟨q, 0, none⟩ = some (.slice Az n cz)) (hn : xs.length ≤ 1048576) (hb : Hid (xs.any (fun x : CutR => decide ((n : Int) ≤ x.zone)) = b)) :
    Calls Tryz.prog 118 #[.slice A xs.length c, .func (.func 122) #[] #[.pointer (some ⟨q, 0, none⟩)]] w fun e w' => e = .returned (.bool b) ∧ Below w.heap.size w w' := by
  have HI := hide (acc_idx A c xs _ _ _ _ w h hq hn)
  clear h hq
  go_enter Tryz.func118, Tryz.ntmps118
  go_wp2_with fail
  refine HI.out.mono ?_
  rintro e w1 ⟨r, rfl, hr, hb1⟩
  have HR := hide (hr.trans hb.out)
  have HB := hide hb1
  clear hr hb1 HI
  go_wp2_with fail
  go_ret
  exact ⟨ret_bool HR.out, HB.out⟩
set_option maxRecDepth 100000 in
theorem implValidCuts_ok (A : Option Addr) (c n : Nat) (xs : List CutR) (w : World) (h : SlAt encCut 2 w A xs) (HC : Hid (CutsOK n xs)) :
    Calls Tryz.prog 62 #[.slice A xs.length c] w fun e w' => e = .returned (.bool true) ∧ Below w.heap.size w w' := by
  have HX := hide h
  have HA := hide HC.out.any
  have hx8 := HC.out.len
  clear h
  go_enter Tryz.func62, Tryz.ntmps62
  go_wp2_with fail
  refine (vcc_is A c xs false _ HX.out (by omega) HA).mono ?_
  rintro e w1 ⟨rfl, hb1⟩
  go_wp2_with fail
  go_ret
  exact ⟨rfl, hb1⟩
set_option maxRecDepth 100000 in
set_option maxHeartbeats 1000000 in
theorem implstepsOf_ok (A : Option Addr) (c n : Nat) (xs : List CutR) (w : World) (h : SlAt encCut 2 w A xs) (HC : Hid (CutsOK n xs)) :
    Calls Tryz.prog 55 #[.slice A xs.length c] w (Row8 (sumL xs xs.length) w) := by
  obtain ⟨i0, hi, hz0, hz1, hz2⟩ := info_parts info_i64
  have hmk := fun W => run_make_rowN (P := Tryz.prog) 24 2 i0 _ Tryz.underlying24 hi hz0 .i64 .i64 8 8 (Nat.le_refl _) (by rw [hz2]; omega) (by omega) W
  rw [hz1] at hmk
  have HO := hide (fun W : World => own_zeros (w := W) (B := W.heap.size) (n := 8) (Nat.le_refl _) (by simp [maxLen]))
  generalize madeCells (Value.int .i64 0).cells (8 * 1) = cs at hmk HO
  have hmk8 : ∀ W : World, (Instr.makeSlice 24 (.int .i64 8) (.int .i64 8)).run Tryz.prog W = .ok (.slice (some ⟨W.heap.size, 0, none⟩) 8 8) (W.alloc (.cells cs 2)) := hmk
  have HX := hide h
  have HO0 := hide (show OwnI (w.alloc (.cells cs 2)) w.heap.size (.slice (some ⟨w.heap.size, 0, none⟩) 8 8) (sumL xs 0) from HO.out w)
  have HB0 := hide (show Below w.heap.size w (w.alloc (.cells cs 2)) from (by repeat (first | with_reducible exact Below.refl _ _ | with_reducible assumption | (with_reducible refine Below.drew ?_) | (with_reducible refine below_drewN ?_ _) | ((with_reducible refine Below.alloc ?_ ?_ _); rotate_left; (focus (first | omega | (simp; omega) | simp))) | ((with_reducible refine Below.setCell ?_ ?_ _); rotate_left; (focus (first | omega | (simp; omega) | simp))) | (refine Below.trans ?_ (Below.mono (by assumption) (by first | omega | (simp; omega) | simp))))))
  have hx8 := HC.out.len
  clear h hi hz0 hz1 hz2 hmk HO
  go_enter Tryz.func55, Tryz.ntmps55
  go_wp2_with fail
  go_loopw [9 , 5] (fun v _ wr => ∃ k : Nat, v = .int .i64 k ∧ k ≤ xs.length ∧ Hid (OwnI wr w.heap.size (.slice (some ⟨w.heap.size, 0, none⟩) 8 8) (sumL xs k)) ∧ Hid (Below w.heap.size w wr)) (fun v _ _ => xs.length - (intOf v).toNat)
  case atStart => exact ⟨0, rfl, by omega, HO0, HB0⟩
  case round =>
    obtain ⟨k, rfl, hk, HR, HB⟩ := hrel
    have hz := HB.out.size
    have hl8 := sumL_length k hk
    by_cases hlt : k < xs.length
    · obtain ⟨b, o, rfl, hb, hc⟩ := (HX.out.below HB.out).getC (by omega)
      obtain ⟨q0, q1⟩ := hc k hlt
      have hok1 := (HC.out.get hlt).zone
      have hok2 := (HC.out.get hlt).steps
      have hn8 := HC.out.n8
      have hbd := sumL_bd HC.out k hk
      have hS := sumL_succ hlt
      clear hc
      generalize cg xs k = y at *
      obtain ⟨x0, x1⟩ := y
      simp only at hok1 hok2 q0 q1
      obtain ⟨z, rfl⟩ : ∃ z : Nat, x0 = z := ⟨x0.toNat, (Int.toNat_of_nonneg hok1.1).symm⟩
      have hz8 : z < 8 := by omega
      obtain ⟨g, hg, hg1, hg2, g1, g2⟩ := own_get1 (k := z) HR.out (by rw [hl8]; omega)
      injection hg with hg; injection hg with hg
      subst hg
      have hs := hbd z
      have HS1 := hide (show sumL xs (k + 1) = (sumL xs k).set z (ig (sumL xs k) z + x1) from hS)
      have HN := hide (fun (W : World) (hW : Below wr.heap.size wr W) (v : Int) => own_set1 (f := fun x : Int => .int .i64 x) (fun _ => rfl) (HR.out.below hW) (k := z) v)
      clear hbd hS hok1 hl8
      generalize ig (sumL xs k) z = s at *
      have kw : IntKind.i64.wrap (s + x1) = s + x1 := IntWalk.i64_in _ (by omega)
      have hkl : (k : Int) < xs.length := by omega
      have hzi : (z : Int) < 8 := by omega
      go_upto_region 5 with fail
      go_region
      all_goals
        go_wp2_with fail
        go_roundw
        case rel =>
          first
            | exact ⟨k + 1, by go_num, by omega, hide (by rw [HS1.out]; exact (HN.out _ (Below.refl _ _) _).below ((Below.refl _ _).alloc (Nat.le_refl _) _).drew), hide (((HB.out.setCell (p := ⟨w.heap.size, z, none⟩) (Nat.le_refl _) (.int .i64 (s + x1))).alloc (by simpa using hz) _).drew)⟩
            | exact ⟨k + 1, by go_num, by omega, hide (by rw [HS1.out]; exact (HN.out _ (Below.refl _ _) _).below (Below.refl _ _).drew), hide ((HB.out.setCell (p := ⟨w.heap.size, z, none⟩) (Nat.le_refl _) _).drew)⟩
        case measure => simp [intOf]; omega
    · obtain rfl : k = xs.length := by omega
      clear hl8
      go_wp2_with fail
      go_ret
      exact ⟨_, 8, rfl, HR.out, HB.out⟩
set_option maxRecDepth 100000 in
set_option maxHeartbeats 1000000 in
theorem specl09Sums_ok (A : Option Addr) (c n : Nat) (xs : List CutR) (w : World) (h : SlAt encCut 2 w A xs) (HC : Hid (CutsOK n xs)) :
    Calls Tryz.prog 117 #[.slice A xs.length c] w (Row8 (sumL xs xs.length) w) := by
  obtain ⟨i0, hi, hz0, hz1, hz2⟩ := info_parts info_i64
  have hmk := fun W => run_make_rowN (P := Tryz.prog) 24 2 i0 _ Tryz.underlying24 hi hz0 .i64 .i64 8 8 (Nat.le_refl _) (by rw [hz2]; omega) (by omega) W
  rw [hz1] at hmk
  have HO := hide (fun W : World => own_zeros (w := W) (B := W.heap.size) (n := 8) (Nat.le_refl _) (by simp [maxLen]))
  generalize madeCells (Value.int .i64 0).cells (8 * 1) = cs at hmk HO
  have hmk8 : ∀ W : World, (Instr.makeSlice 24 (.int .i64 8) (.int .i64 8)).run Tryz.prog W = .ok (.slice (some ⟨W.heap.size, 0, none⟩) 8 8) (W.alloc (.cells cs 2)) := hmk
  have HX := hide h
  have HO0 := hide (show OwnI (w.alloc (.cells cs 2)) w.heap.size (.slice (some ⟨w.heap.size, 0, none⟩) 8 8) (sumL xs 0) from HO.out w)
  have HB0 := hide (show Below w.heap.size w (w.alloc (.cells cs 2)) from (by repeat (first | with_reducible exact Below.refl _ _ | with_reducible assumption | (with_reducible refine Below.drew ?_) | (with_reducible refine below_drewN ?_ _) | ((with_reducible refine Below.alloc ?_ ?_ _); rotate_left; (focus (first | omega | (simp; omega) | simp))) | ((with_reducible refine Below.setCell ?_ ?_ _); rotate_left; (focus (first | omega | (simp; omega) | simp))) | (refine Below.trans ?_ (Below.mono (by assumption) (by first | omega | (simp; omega) | simp))))))
  have hx8 := HC.out.len
  clear h hi hz0 hz1 hz2 hmk HO
  go_enter Tryz.func117, Tryz.ntmps117
  go_wp2_with fail
  go_loopw [4] (fun v wr => ∃ k : Nat, v = .int .i64 k ∧ k ≤ xs.length ∧ Hid (OwnI wr w.heap.size (.slice (some ⟨w.heap.size, 0, none⟩) 8 8) (sumL xs k)) ∧ Hid (Below w.heap.size w wr)) (fun v _ => xs.length - (intOf v).toNat)
  case atStart => exact ⟨0, rfl, by omega, HO0, HB0⟩
  case round =>
    obtain ⟨k, rfl, hk, HR, HB⟩ := hrel
    have hz := HB.out.size
    have hl8 := sumL_length k hk
    by_cases hlt : k < xs.length
    · obtain ⟨b, o, rfl, hb, hc⟩ := (HX.out.below HB.out).getC (by omega)
      obtain ⟨q0, q1⟩ := hc k hlt
      have hok1 := (HC.out.get hlt).zone
      have hok2 := (HC.out.get hlt).steps
      have hn8 := HC.out.n8
      have hbd := sumL_bd HC.out k hk
      have hS := sumL_succ hlt
      clear hc
      generalize cg xs k = y at *
      obtain ⟨x0, x1⟩ := y
      simp only at hok1 hok2 q0 q1
      obtain ⟨z, rfl⟩ : ∃ z : Nat, x0 = z := ⟨x0.toNat, (Int.toNat_of_nonneg hok1.1).symm⟩
      have hz8 : z < 8 := by omega
      obtain ⟨g, hg, hg1, hg2, g1, g2⟩ := own_get1 (k := z) HR.out (by rw [hl8]; omega)
      injection hg with hg; injection hg with hg
      subst hg
      have hs := hbd z
      have HS1 := hide (show sumL xs (k + 1) = (sumL xs k).set z (ig (sumL xs k) z + x1) from hS)
      have HN := hide (fun (W : World) (hW : Below wr.heap.size wr W) (v : Int) => own_set1 (f := fun x : Int => .int .i64 x) (fun _ => rfl) (HR.out.below hW) (k := z) v)
      clear hbd hS hok1 hl8
      generalize ig (sumL xs k) z = s at *
      have kw : IntKind.i64.wrap (s + x1) = s + x1 := IntWalk.i64_in _ (by omega)
      have hkl : (k : Int) < xs.length := by omega
      have hzi : (z : Int) < 8 := by omega
      go_upto_region 5 with fail
      go_region
      all_goals
        go_wp2_with fail
        go_roundw
        case rel =>
          first
            | exact ⟨k + 1, by go_num, by omega, hide (by rw [HS1.out]; exact (HN.out _ (Below.refl _ _) _).below ((Below.refl _ _).alloc (Nat.le_refl _) _).drew), hide (((HB.out.setCell (p := ⟨w.heap.size, z, none⟩) (Nat.le_refl _) (.int .i64 (s + x1))).alloc (by simpa using hz) _).drew)⟩
            | exact ⟨k + 1, by go_num, by omega, hide (by rw [HS1.out]; exact (HN.out _ (Below.refl _ _) _).below (Below.refl _ _).drew), hide ((HB.out.setCell (p := ⟨w.heap.size, z, none⟩) (Nat.le_refl _) _).drew)⟩
        case measure => simp [intOf]; omega
    · obtain rfl : k = xs.length := by omega
      clear hl8
      go_wp2_with fail
      go_ret
      exact ⟨_, 8, rfl, HR.out, HB.out⟩
set_option maxRecDepth 100000 in
set_option maxHeartbeats 1000000 in
theorem specl09Cuts_ok (A : Option Addr) (c n : Nat) (xs : List CutR) (w : World) (h : SlAt encCut 2 w A xs) (HC : Hid (CutsOK n xs)) :
    Calls Tryz.prog 53 #[.slice A xs.length c] w fun e w' => e = .returned (.bool true) ∧ w = w' := by
  have HX := hide h
  have hx8 := HC.out.len
  clear h
  go_enter Tryz.func53, Tryz.ntmps53
  go_wp2_with fail
  go_loopw [3] (fun v wr => ∃ k : Nat, v = .int .i64 k ∧ k ≤ xs.length ∧ w = wr) (fun v _ => xs.length - (intOf v).toNat)
  case atStart => exact ⟨0, rfl, by omega, rfl⟩
  case round =>
    obtain ⟨k, rfl, hk, rfl⟩ := hrel
    by_cases hlt : k < xs.length
    · obtain ⟨b, o, rfl, hb, hc⟩ := HX.out.getC (by omega)
      obtain ⟨q0, q1⟩ := hc k hlt
      have hok1 := (HC.out.get hlt).zone
      have hok2 := (HC.out.get hlt).steps
      have hn8 := HC.out.n8
      clear hc
      generalize cg xs k = y at *
      obtain ⟨x0, x1⟩ := y
      simp only at hok1 hok2 q0 q1
      have e1 : inB x0 0 7 = true := by unfold inB; simp; omega
      have e2 : inB x1 1 20 = true := by unfold inB; simp; omega
      have hkl : (k : Int) < xs.length := by omega
      go_wp2_with (go_at_call 109; refine (specl00In_any _ _ _ _).mono ?_; rintro e w' ⟨rfl, rfl⟩)
      go_roundw
      case rel => exact ⟨k + 1, by go_num, by omega, trivial⟩
      case measure => simp [intOf]; omega
    · obtain rfl : k = xs.length := by omega
      have E := hide (show decide ((xs.length : Int) ≤ 64) = true from by simp; omega)
      go_wp2_with fail
      go_ret
      exact ⟨ret_bool E.out, rfl⟩
set_option maxRecDepth 100000 in
set_option maxHeartbeats 1000000 in
theorem specTotalSteps_ok (A : Option Addr) (c n : Nat) (xs : List CutR) (w : World) (h : SlAt encCut 2 w A xs) (HC : Hid (CutsOK n xs)) :
    Calls Tryz.prog 14 #[.slice A xs.length c] w fun e w' => e = .returned (.tuple #[.int .i64 (totC xs xs.length), .int .i64 0]) ∧ w = w' := by
  have HX := hide h
  have hx8 := HC.out.len
  clear h
  go_enter Tryz.func14, Tryz.ntmps14
  go_wp2_with fail
  refine (specl09Cuts_ok A c n xs w HX.out HC).mono ?_
  rintro e w1 ⟨rfl, rfl⟩
  go_wp2_with fail
  go_loopw [5, 4] (fun v s wr => ∃ k : Nat, v = .int .i64 k ∧ s = .int .i64 (totC xs k) ∧ k ≤ xs.length ∧ w = wr) (fun v _ _ => xs.length - (intOf v).toNat)
  case atStart => exact ⟨0, rfl, rfl, by omega, rfl⟩
  case round =>
    obtain ⟨k, rfl, rfl, hk, rfl⟩ := hrel
    by_cases hlt : k < xs.length
    · obtain ⟨b, o, rfl, hb, hc⟩ := HX.out.getC (by omega)
      obtain ⟨q0, q1⟩ := hc k hlt
      have hok2 := (HC.out.get hlt).steps
      have hs := totC_bd HC.out k hk
      have E := hide (totC_succ hlt)
      clear hc
      generalize cg xs k = y at *
      obtain ⟨x0, x1⟩ := y
      simp only at hok2 q0 q1 E
      generalize totC xs k = s at *
      have kw : IntKind.i64.wrap (s + x1) = s + x1 := IntWalk.i64_in _ (by omega)
      have hkl : (k : Int) < xs.length := by omega
      go_wp2_with fail
      go_roundw
      case rel => exact ⟨k + 1, by go_num, by rw [E.out], by omega, trivial⟩
      case measure => simp [intOf]; omega
    · obtain rfl : k = xs.length := by omega
      go_wp2_with fail
      go_ret2
      exact ⟨rfl, rfl⟩
set_option maxRecDepth 100000 in
theorem specl09Fits_ok (A : Option Addr) (c : Nat) (st : List Int) (w : World) (h : SlAt encI 1 w A st) (h8 : st.length = 8) (HS : Hid (∀ k, ig st k ≤ 20)) :
    Calls Tryz.prog 165 #[.slice A 8 c] w fun e w' => e = .returned (.bool true) ∧ w = w' := by
  have HX := hide h
  clear h
  go_enter Tryz.func165, Tryz.ntmps165
  go_wp2_with fail
  go_loopw [3] (fun v wr => ∃ k : Nat, v = .int .i64 k ∧ k ≤ 8 ∧ w = wr) (fun v _ => 8 - (intOf v).toNat)
  case atStart => exact ⟨0, rfl, by omega, rfl⟩
  case round =>
    obtain ⟨k, rfl, hk, rfl⟩ := hrel
    by_cases hlt : k < 8
    · obtain ⟨b, o, rfl, hb, hc⟩ := HX.out.getA (by omega)
      have q0 := hc k (by omega)
      have hs := HS.out k
      clear hc h8
      generalize ig st k = x at *
      have hkl : (k : Int) < 8 := by omega
      go_wp2_with fail
      go_roundw
      case rel => exact ⟨k + 1, by go_num, by omega, trivial⟩
      case measure => simp [intOf]; omega
    · obtain rfl : k = 8 := by omega
      clear h8
      go_wp2_with fail
      go_ret
      exact ⟨rfl, rfl⟩
end Go.Proofs.YtnefgafmnpblpaaGreat
