/- StrikeTimes on both sides, and its law's walk. -/
import Derived.Test.YtobcjhbfkanakaaDoorClapper2
import Derived.Test.YtobcjhbfkanakaaDoorInts
namespace Go.Proofs.YtobcjhbfkanakaaDoor
open Go.RowKit

/-- The time of stroke k. -/
@[irreducible] def stT (P k : Int) : Int := Pl.nr (k * P) 2
/-- What the loop over strokes comes to from stroke k on, with those that are taken. -/
inductive Strk (P f u : Int) : Int → List Int → List Int × Int → Prop
  | stop {k : Int} {acc : List Int} : u ≤ stT P k → Strk P f u k acc (acc, 0)
  | skip {k : Int} {acc : List Int} {R : List Int × Int} : stT P k < u → stT P k < f → Strk P f u (k + 1) acc R → Strk P f u k acc R
  | full {k : Int} {acc : List Int} : stT P k < u → f ≤ stT P k → 64 ≤ acc.length → Strk P f u k acc ([], 5)
  | take {k : Int} {acc : List Int} {R : List Int × Int} : stT P k < u → f ≤ stT P k → acc.length < 64 → Strk P f u (k + 1) (acc ++ [stT P k]) R → Strk P f u k acc R
theorem Strk.det {P f u k : Int} {acc : List Int} {R R' : List Int × Int} (h : Strk P f u k acc R) (h' : Strk P f u k acc R') : R = R' := by
  induction h with
  | stop a => cases h' with
    | stop => rfl
    | skip b => omega
    | full b => omega
    | take b => omega
  | skip a b _ ih => cases h' with
    | stop c => omega
    | skip _ _ c => exact ih c
    | full c d => omega
    | take c d => omega
  | full a b c => cases h' with
    | stop d => omega
    | skip d e => omega
    | full => rfl
    | take d e f => omega
  | take a b c _ ih => cases h' with
    | stop d => omega
    | skip d e => omega
    | full d e f => omega
    | take _ _ _ d => exact ih d
theorem Strk.skips {P f u : Int} {acc : List Int} {R : List Int × Int} (n : Nat) : ∀ {k : Int}, (∀ j, k ≤ j → j < k + n → stT P j < u ∧ stT P j < f) → Strk P f u (k + n) acc R → Strk P f u k acc R := by
  induction n with
  | zero => intro k _ h; simpa using h
  | succ n ih =>
    intro k hk h
    have := hk k (by omega) (by omega)
    exact .skip this.1 this.2 (ih (fun j a b => hk j (by omega) (by omega)) (by rw [show k + 1 + (n : Int) = k + ((n + 1 : Nat) : Int) by omega]; exact h))
theorem cT_bd {l : Int} (h1 : 1000 ≤ l) (h2 : l ≤ 300000) : 200 ≤ cT l ∧ cT l ≤ 3476 := by
  unfold cT
  have a : 40257 ≤ Pl.nr (40257 * l) 1000 := by
    have := Pl.nr_mono (a := 40257 * 1000) (a' := 40257 * l) (b := 1000) (by omega) (by omega)
    have e : Pl.nr (40257 * 1000) 1000 = 40257 := by decide
    omega
  have b : Pl.nr (40257 * l) 1000 ≤ 12077100 := Pl.nr_le (by omega) (by omega) (by omega)
  exact ⟨(Pl.rt_le_iff (by omega) (by omega)).2 (by omega), Pl.rt_le (by omega) (by omega)⟩
theorem stT_bd {P k : Int} (hP : 200 ≤ P) (hP2 : P ≤ 3476) (h0 : 0 ≤ k) (hk : k ≤ 20000000) : (0 ≤ k * P ∧ k * P ≤ 69520000000) ∧ (100 * k ≤ stT P k ∧ stT P k ≤ 69520000000) := by
  have a : 0 ≤ k * P := Int.mul_nonneg h0 (by omega)
  have b : k * P ≤ 20000000 * 3476 := Int.mul_le_mul hk hP2 (by omega) (by omega)
  have c : k * 200 ≤ k * P := Int.mul_le_mul_of_nonneg_left hP h0
  refine ⟨⟨a, by omega⟩, ?_, ?_⟩
  · unfold stT Pl.nr; rw [if_pos a]; omega
  · unfold stT; exact Pl.nr_le (by omega) (by omega) (by omega)
/-- A stroke that lies a whole swing ahead of the first is left out. -/
theorem stT_early {P f k : Int} (hP : 200 ≤ P) (h : k + 2 ≤ 2 * f / P) (h0 : 0 ≤ k) : stT P k < f := by
  have a : P * (2 * f / P) ≤ 2 * f := Int.mul_ediv_self_le (by omega)
  have b : P * (k + 2) ≤ P * (2 * f / P) := Int.mul_le_mul_of_nonneg_left h (by omega)
  have c : P * (k + 2) = k * P + 2 * P := by rw [Int.mul_add, Int.mul_comm P k, Int.mul_comm P 2]
  have d : 0 ≤ k * P := Int.mul_nonneg h0 (by omega)
  unfold stT Pl.nr
  rw [if_pos d]
  omega
/-- What StrikeTimes answers. -/
def StrikeR (m l g f u : Int) (xs : List Int) (code : Int) : Prop :=
  (vClap m l g = false ∧ xs = [] ∧ code = 1) ∨ (vClap m l g = true ∧ (f < 0 ∨ u < f ∨ 1000000000 < u) ∧ xs = [] ∧ code = 2) ∨
  (vClap m l g = true ∧ 0 ≤ f ∧ f ≤ u ∧ u ≤ 1000000000 ∧ Strk (cT l) f u (mx 1 (2 * f / cT l - 2)) [] (xs, code))
theorem StrikeR.det {m l g f u : Int} {xs xs' : List Int} {code code' : Int} (h : StrikeR m l g f u xs code) (h' : StrikeR m l g f u xs' code') : xs = xs' ∧ code = code' := by
  rcases h with ⟨a, e1, e2⟩ | ⟨a, b, e1, e2⟩ | ⟨a, b, c, d, e⟩ <;> rcases h' with ⟨a', e1', e2'⟩ | ⟨a', b', e1', e2'⟩ | ⟨a', b', c', d', e'⟩ <;> first | exact ⟨e1.trans e1'.symm, e2.trans e2'.symm⟩ | exact absurd (a.symm.trans a') (by decide) | (exfalso; omega) | skip
  have q := Strk.det e e'
  injection q with h1 h2
  exact ⟨h1, h2⟩
theorem strike_from {P f u : Int} {R : List Int × Int} (hP : 200 ≤ P) (hf : 0 ≤ f) (hu : f ≤ u) (h : Strk P f u (mx 1 (2 * f / P - 1)) [] R) : Strk P f u (mx 1 (2 * f / P - 2)) [] R := by
  have q := Int.ediv_nonneg (show 0 ≤ 2 * f by omega) (show 0 ≤ P by omega)
  by_cases e : mx 1 (2 * f / P - 1) = mx 1 (2 * f / P - 2)
  · rw [← e]; exact h
  · have e2 : mx 1 (2 * f / P - 1) = mx 1 (2 * f / P - 2) + ((1 : Nat) : Int) := by unfold mx at *; split <;> split <;> simp_all <;> omega
    rw [e2] at h
    refine Strk.skips 1 (fun j a b => ?_) h
    have : 1 ≤ mx 1 (2 * f / P - 2) := le_mx (.inl (by omega))
    have h2 : mx 1 (2 * f / P - 2) + 1 ≤ 2 * f / P - 1 := by unfold mx at *; split at e2 <;> split at e2 <;> split <;> omega
    have := stT_early (f := f) (k := j) hP (by omega) (by omega)
    omega

/-- A slice of the call's own and a code. -/
def SlRes {α : Type} (enc : α → List Value) (sz : Nat) (T : TypeId) (P : List α → Int → Prop) (w : World) (e : Ending) (w' : World) : Prop :=
  ∃ (A : Option Addr) (c : Nat) (xs : List α) (code : Int), e = .returned (.tuple #[.slice A xs.length c, .int .i64 code]) ∧ P xs code ∧ xs.length ≤ 1048576 ∧ Own enc sz T w' w.heap.size (.slice A xs.length c) xs ∧ Below w.heap.size w w'
theorem slRes_nil {α : Type} {enc : α → List Value} {sz : Nat} {T : TypeId} {P : List α → Int → Prop} {w w' : World} {code : Int} (h : P [] code) (hb : Below w.heap.size w w') : SlRes enc sz T P w (.returned (.tuple #[.slice none 0 0, .int .i64 code])) w' :=
  ⟨none, 0, [], code, rfl, h, by simp, Own.nil, hb⟩

set_option maxRecDepth 100000 in
theorem implStrikeTimes (m l g f u : Int) (w : World) : Calls Tryd.prog 7 #[.agg #[.int .i64 m, .int .i64 l, .int .i64 g], .int .i64 f, .int .i64 u] w
    (SlRes encI 1 2 (StrikeR m l g f u) w) := by
  cases h : vClap m l g
  · have e : Hid (StrikeR m l g f u [] 1) := .inl ⟨h, rfl, rfl⟩
    go_enter Tryd.func7, Tryd.ntmps7
    go_wp2_with (go_at_call 27; refine (implValidClapper m l g _).mono ?_; rintro e w' ⟨rfl, rfl⟩)
    go_ret2
    exact slRes_nil e.out (by repeat (first | with_reducible exact Below.refl _ _ | with_reducible assumption | (with_reducible refine Below.drew ?_) | (with_reducible refine below_drewN ?_ _) | ((with_reducible refine Below.alloc ?_ ?_ _); rotate_left; (focus (first | omega | (simp; omega) | simp))) | ((with_reducible refine Below.setCell ?_ ?_ _); rotate_left; (focus (first | omega | (simp; omega) | simp))) | (refine Below.trans ?_ (Below.mono (by assumption) (by first | omega | (simp; omega) | simp)))))
  · by_cases hr : f < 0 ∨ u < f ∨ 1000000000 < u
    · have e : Hid (StrikeR m l g f u [] 2) := .inr (.inl ⟨h, hr, rfl, rfl⟩)
      by_cases r1 : f < 0
      · go_enter Tryd.func7, Tryd.ntmps7
        go_wp2_with (go_at_call 27; refine (implValidClapper m l g _).mono ?_; rintro e w' ⟨rfl, rfl⟩)
        go_ret2
        exact slRes_nil e.out (by repeat (first | with_reducible exact Below.refl _ _ | with_reducible assumption | (with_reducible refine Below.drew ?_) | (with_reducible refine below_drewN ?_ _) | ((with_reducible refine Below.alloc ?_ ?_ _); rotate_left; (focus (first | omega | (simp; omega) | simp))) | ((with_reducible refine Below.setCell ?_ ?_ _); rotate_left; (focus (first | omega | (simp; omega) | simp))) | (refine Below.trans ?_ (Below.mono (by assumption) (by first | omega | (simp; omega) | simp)))))
      · by_cases r2 : u < f
        · go_enter Tryd.func7, Tryd.ntmps7
          go_wp2_with (go_at_call 27; refine (implValidClapper m l g _).mono ?_; rintro e w' ⟨rfl, rfl⟩)
          go_ret2
          exact slRes_nil e.out (by repeat (first | with_reducible exact Below.refl _ _ | with_reducible assumption | (with_reducible refine Below.drew ?_) | (with_reducible refine below_drewN ?_ _) | ((with_reducible refine Below.alloc ?_ ?_ _); rotate_left; (focus (first | omega | (simp; omega) | simp))) | ((with_reducible refine Below.setCell ?_ ?_ _); rotate_left; (focus (first | omega | (simp; omega) | simp))) | (refine Below.trans ?_ (Below.mono (by assumption) (by first | omega | (simp; omega) | simp)))))
        · have r3 : 1000000000 < u := by omega
          clear hr
          go_enter Tryd.func7, Tryd.ntmps7
          go_wp2_with (go_at_call 27; refine (implValidClapper m l g _).mono ?_; rintro e w' ⟨rfl, rfl⟩)
          go_ret2
          exact slRes_nil e.out (by repeat (first | with_reducible exact Below.refl _ _ | with_reducible assumption | (with_reducible refine Below.drew ?_) | (with_reducible refine below_drewN ?_ _) | ((with_reducible refine Below.alloc ?_ ?_ _); rotate_left; (focus (first | omega | (simp; omega) | simp))) | ((with_reducible refine Below.setCell ?_ ?_ _); rotate_left; (focus (first | omega | (simp; omega) | simp))) | (refine Below.trans ?_ (Below.mono (by assumption) (by first | omega | (simp; omega) | simp)))))
    · have r1 : 0 ≤ f := by omega
      have r2 : f ≤ u := by omega
      have r3 : u ≤ 1000000000 := by omega
      clear hr
      obtain ⟨⟨a1, a2⟩, ⟨b1, b2⟩, _⟩ := vClap_true h
      have H := hide h
      obtain ⟨p1, p2⟩ := cT_bd b1 b2
      obtain ⟨i0, hi, hz0, hz1, hz2⟩ := info_parts info_i64
      have q0 : 0 ≤ 2 * f / cT l := Int.ediv_nonneg (by omega) (by omega)
      have q1 : 2 * f / cT l ≤ 10000000 := by
        have := Int.ediv_le_of_le_mul (a := 2 * f) (b := 10000000) (c := cT l) (by omega) (by omega)
        exact this
      have s1 : 1 ≤ mx 1 (2 * f / cT l - 1) := le_mx (.inl (by omega))
      have s2 : mx 1 (2 * f / cT l - 1) ≤ 20000000 := mx_le (by omega) (by omega)
      have fm := fold_mx 1 (2 * f / cT l - 1)
      have d1 : decide (f < 0) = false := by simp; omega
      have d2 : decide (u < f) = false := by simp; omega
      have d3 : decide (1000000000 < u) = false := by simp; omega
      go_enter Tryd.func7, Tryd.ntmps7
      go_wp2_with (first
        | (go_at_call 27; refine (implValidClapper m l g _).mono ?_; rintro e w' ⟨rfl, rfl⟩)
        | (go_at_call 28; refine (pendulumTime_any _ _ (by omega) (by omega)).mono ?_; rintro e w' ⟨rfl, n1, rfl⟩))
      have hb0 : Below w.heap.size w (((w.alloc (.cells #[.int .i64 m, .int .i64 l, .int .i64 g] 25)).alloc (.cells #[.int .i64 m, .int .i64 l, .int .i64 g] 25)).drewN n1) := (by repeat (first | with_reducible exact Below.refl _ _ | with_reducible assumption | (with_reducible refine Below.drew ?_) | (with_reducible refine below_drewN ?_ _) | ((with_reducible refine Below.alloc ?_ ?_ _); rotate_left; (focus (first | omega | (simp; omega) | simp))) | ((with_reducible refine Below.setCell ?_ ?_ _); rotate_left; (focus (first | omega | (simp; omega) | simp))) | (refine Below.trans ?_ (Below.mono (by assumption) (by first | omega | (simp; omega) | simp)))))
      have HB0 := hide hb0
      clear hb0 fm h
      go_loopw [9, 10, 11] (fun t v _ wr => ∃ (A : Option Addr) (c : Nat) (xs : List Int) (k : Int), t = .slice A xs.length c ∧ v = .int .i64 k ∧ 1 ≤ k ∧ k ≤ 20000000 ∧ xs.length ≤ 64 ∧ Below w.heap.size w wr ∧ Hid (OwnI wr w.heap.size (.slice A xs.length c) xs) ∧
        Hid (∀ R, Strk (cT l) f u k xs R → Strk (cT l) f u (mx 1 (2 * f / cT l - 2)) [] R)) (fun _ v _ _ => (20000001 - intOf v).toNat)
      case atStart => exact ⟨none, 0, [], _, rfl, rfl, s1, s2, by simp, HB0.out, hide Own.nil, hide fun R hR => strike_from p1 r1 r2 hR⟩
      case round =>
        obtain ⟨A, c, xs, k, rfl, rfl, k0, k1, hx, hb, HO, HR⟩ := hrel
        obtain ⟨⟨t1, t2⟩, t3, t4⟩ := stT_bd p1 p2 (show 0 ≤ k by omega) k1
        have ho1 := HO.out
        have hsz := hb.size
        by_cases hl : stT (cT l) k < u
        · by_cases hg : f ≤ stT (cT l) k
          · by_cases hc : xs.length < 64
            · have HR2 : Hid (∀ R, Strk (cT l) f u (k + 1) (xs ++ [stT (cT l) k]) R → Strk (cT l) f u (mx 1 (2 * f / cT l - 2)) [] R) := hide fun R hR => HR.out R (.take hl hg hc hR)
              go_wp2_with fail
              refine (nearest_any (k * cT l) 2 _ (by omega) (by omega) (by omega) (by omega)).mono ?_
              rintro e w1 ⟨rfl, n2, rfl⟩
              rw [show Pl.nr (k * cT l) 2 = stT (cT l) k by unfold stT; rfl]
              go_wp2_with fail
              refine (nearest_any (k * cT l) 2 _ (by omega) (by omega) (by omega) (by omega)).mono ?_
              rintro e w1 ⟨rfl, n3, rfl⟩
              rw [show Pl.nr (k * cT l) 2 = stT (cT l) k by unfold stT; rfl]
              go_wp2_with (at_builtin; refine wpList_appI rfl _ _ rfl w.heap.size rfl (ho1.below (below_drewN (Below.refl _ _) _)) rfl (by omega) ?_ ?_; (focus (simpa using hsz)); intro A1 c1 w1 ho2 hb2 _hg2)
              go_roundw
              case rel => exact ⟨A1, c1, xs ++ [stT (cT l) k], k + 1, by simp, rfl, by omega, by omega, by simp; omega, Below.trans (below_drewN hb _) hb2, by simpa using hide ho2, HR2⟩
              case measure => simp [intOf]; omega
            · have e : Hid (StrikeR m l g f u [] 5) := .inr (.inr ⟨H.out, r1, r2, r3, HR.out _ (.full hl hg (by omega))⟩)
              go_wp2_with fail
              refine (nearest_any (k * cT l) 2 _ (by omega) (by omega) (by omega) (by omega)).mono ?_
              rintro e w1 ⟨rfl, n2, rfl⟩
              rw [show Pl.nr (k * cT l) 2 = stT (cT l) k by unfold stT; rfl]
              go_wp2_with fail
              refine (nearest_any (k * cT l) 2 _ (by omega) (by omega) (by omega) (by omega)).mono ?_
              rintro e w1 ⟨rfl, n3, rfl⟩
              rw [show Pl.nr (k * cT l) 2 = stT (cT l) k by unfold stT; rfl]
              go_wp2_with (at_builtin; refine wpList_appI rfl _ _ rfl w.heap.size rfl (ho1.below (below_drewN (Below.refl _ _) _)) rfl (by omega) ?_ ?_; (focus (simpa using hsz)); intro A1 c1 w1 ho2 hb2 _hg2)
              go_ret2
              exact slRes_nil e.out (Below.trans (below_drewN hb _) hb2)
          · have HR2 : Hid (∀ R, Strk (cT l) f u (k + 1) xs R → Strk (cT l) f u (mx 1 (2 * f / cT l - 2)) [] R) := hide fun R hR => HR.out R (.skip hl (by omega) hR)
            go_wp2_with fail
            refine (nearest_any (k * cT l) 2 _ (by omega) (by omega) (by omega) (by omega)).mono ?_
            rintro e w1 ⟨rfl, n2, rfl⟩
            rw [show Pl.nr (k * cT l) 2 = stT (cT l) k by unfold stT; rfl]
            go_wp2_with fail
            refine (nearest_any (k * cT l) 2 _ (by omega) (by omega) (by omega) (by omega)).mono ?_
            rintro e w1 ⟨rfl, n3, rfl⟩
            rw [show Pl.nr (k * cT l) 2 = stT (cT l) k by unfold stT; rfl]
            go_wp2_with fail
            go_roundw
            case rel => exact ⟨A, c, xs, k + 1, rfl, rfl, by omega, by omega, hx, below_drewN hb _, hide (ho1.below (below_drewN (Below.refl _ _) _)), HR2⟩
            case measure => simp [intOf]; omega
        · have e : Hid (StrikeR m l g f u xs 0) := .inr (.inr ⟨H.out, r1, r2, r3, HR.out _ (.stop (by omega))⟩)
          go_wp2_with fail
          refine (nearest_any (k * cT l) 2 _ (by omega) (by omega) (by omega) (by omega)).mono ?_
          rintro e w1 ⟨rfl, n2, rfl⟩
          rw [show Pl.nr (k * cT l) 2 = stT (cT l) k by unfold stT; rfl]
          go_wp2_with fail
          go_ret2
          exact ⟨A, c, xs, 0, rfl, e.out, by omega, ho1.below (below_drewN (Below.refl _ _) _), below_drewN hb _⟩
end Go.Proofs.YtobcjhbfkanakaaDoor
