/- StrikeTimes on both sides, and its law's walk. -/
import Derived.Test.YtdimapcecdffnaaClapper2
import Derived.Test.YtdimapcecdffnaaInts
namespace Go.Proofs.Ytdimapcecdffnaa
open Go.RowKit

/-- The time of stroke k. -/
@[irreducible] def stT (P k : Int) : Int := Pl.nr (k * P) 2
/-- What the loop over strokes comes to from stroke k on, with those that are taken. -/
inductive Strk (P f u : Int) : Int → List Int → List Int × Int → Prop
  | stop {k : Int} {acc : List Int} : u ≤ stT P k → Strk P f u k acc (acc, 0)
  | skip {k : Int} {acc : List Int} {R : List Int × Int} : stT P k < u → stT P k < f → Strk P f u (k + 1) acc R → Strk P f u k acc R
  | full {k : Int} {acc : List Int} : stT P k < u → f ≤ stT P k → 64 ≤ acc.length → Strk P f u k acc ([], 5)
  | take {k : Int} {acc : List Int} {R : List Int × Int} : stT P k < u → f ≤ stT P k → acc.length < 64 → Strk P f u (k + 1) (acc ++ [stT P k]) R → Strk P f u k acc R
theorem Strk.det {P f u k : Int} {acc : List Int} {R R' : List Int × Int} (h : Strk P f u k acc R) (h' : Strk P f u k acc R') : R = R' := by
  induction h with
  | stop a => cases h' with
    | stop => rfl
    | skip b => omega
    | full b => omega
    | take b => omega
  | skip a b _ ih => cases h' with
    | stop c => omega
    | skip _ _ c => exact ih c
    | full c d => omega
    | take c d => omega
  | full a b c => cases h' with
    | stop d => omega
    | skip d e => omega
    | full => rfl
    | take d e f => omega
  | take a b c _ ih => cases h' with
    | stop d => omega
    | skip d e => omega
    | full d e f => omega
    | take _ _ _ d => exact ih d
theorem Strk.skips {P f u : Int} {acc : List Int} {R : List Int × Int} (n : Nat) : ∀ {k : Int}, (∀ j, k ≤ j → j < k + n → stT P j < u ∧ stT P j < f) → Strk P f u (k + n) acc R → Strk P f u k acc R := by
  induction n with
  | zero => intro k _ h; simpa using h
  | succ n ih =>
    intro k hk h
    have := hk k (by omega) (by omega)
    exact .skip this.1 this.2 (ih (fun j a b => hk j (by omega) (by omega)) (by rw [show k + 1 + (n : Int) = k + ((n + 1 : Nat) : Int) by omega]; exact h))
theorem cT_bd {l : Int} (h1 : 1000 ≤ l) (h2 : l ≤ 300000) : 200 ≤ cT l ∧ cT l ≤ 3476 := by
  unfold cT
  have a : 40257 ≤ Pl.nr (40257 * l) 1000 := by
    have := Pl.nr_mono (a := 40257 * 1000) (a' := 40257 * l) (b := 1000) (by omega) (by omega)
    have e : Pl.nr (40257 * 1000) 1000 = 40257 := by decide
    omega
  have b : Pl.nr (40257 * l) 1000 ≤ 12077100 := Pl.nr_le (by omega) (by omega) (by omega)
  exact ⟨(Pl.rt_le_iff (by omega) (by omega)).2 (by omega), Pl.rt_le (by omega) (by omega)⟩
theorem stT_bd {P k : Int} (hP : 200 ≤ P) (hP2 : P ≤ 3476) (h0 : 0 ≤ k) (hk : k ≤ 20000000) : (0 ≤ k * P ∧ k * P ≤ 69520000000) ∧ (100 * k ≤ stT P k ∧ stT P k ≤ 69520000000) := by
  have a : 0 ≤ k * P := Int.mul_nonneg h0 (by omega)
  have b : k * P ≤ 20000000 * 3476 := Int.mul_le_mul hk hP2 (by omega) (by omega)
  have c : k * 200 ≤ k * P := Int.mul_le_mul_of_nonneg_left hP h0
  refine ⟨⟨a, by omega⟩, ?_, ?_⟩
  · unfold stT Pl.nr; rw [if_pos a]; omega
  · unfold stT; exact Pl.nr_le (by omega) (by omega) (by omega)
/-- A stroke that lies a whole swing ahead of the first is left out. -/
theorem stT_early {P f k : Int} (hP : 200 ≤ P) (h : k + 2 ≤ 2 * f / P) (h0 : 0 ≤ k) : stT P k < f := by
  have a : P * (2 * f / P) ≤ 2 * f := Int.mul_ediv_self_le (by omega)
  have b : P * (k + 2) ≤ P * (2 * f / P) := Int.mul_le_mul_of_nonneg_left h (by omega)
  have c : P * (k + 2) = k * P + 2 * P := by rw [Int.mul_add, Int.mul_comm P k, Int.mul_comm P 2]
  have d : 0 ≤ k * P := Int.mul_nonneg h0 (by omega)
  unfold stT Pl.nr
  rw [if_pos d]
  omega
/-- What StrikeTimes answers. -/
def StrikeR (m l g f u : Int) (xs : List Int) (code : Int) : Prop :=
  (vClap m l g = false ∧ xs = [] ∧ code = 1) ∨ (vClap m l g = true ∧ (f < 0 ∨ u < f ∨ 1000000000 < u) ∧ xs = [] ∧ code = 2) ∨
  (vClap m l g = true ∧ 0 ≤ f ∧ f ≤ u ∧ u ≤ 1000000000 ∧ Strk (cT l) f u (mx 1 (2 * f / cT l - 2)) [] (xs, code))
theorem StrikeR.det {m l g f u : Int} {xs xs' : List Int} {code code' : Int} (h : StrikeR m l g f u xs code) (h' : StrikeR m l g f u xs' code') : xs = xs' ∧ code = code' := by
  rcases h with ⟨a, e1, e2⟩ | ⟨a, b, e1, e2⟩ | ⟨a, b, c, d, e⟩ <;> rcases h' with ⟨a', e1', e2'⟩ | ⟨a', b', e1', e2'⟩ | ⟨a', b', c', d', e'⟩ <;> first | exact ⟨e1.trans e1'.symm, e2.trans e2'.symm⟩ | exact absurd (a.symm.trans a') (by decide) | (exfalso; omega) | skip
  have q := Strk.det e e'
  injection q with h1 h2
  exact ⟨h1, h2⟩
theorem strike_from {P f u : Int} {R : List Int × Int} (hP : 200 ≤ P) (hf : 0 ≤ f) (hu : f ≤ u) (h : Strk P f u (mx 1 (2 * f / P - 1)) [] R) : Strk P f u (mx 1 (2 * f / P - 2)) [] R := by
  have q := Int.ediv_nonneg (show 0 ≤ 2 * f by omega) (show 0 ≤ P by omega)
  by_cases e : mx 1 (2 * f / P - 1) = mx 1 (2 * f / P - 2)
  · rw [← e]; exact h
  · have e2 : mx 1 (2 * f / P - 1) = mx 1 (2 * f / P - 2) + ((1 : Nat) : Int) := by unfold mx at *; split <;> split <;> simp_all <;> omega
    rw [e2] at h
    refine Strk.skips 1 (fun j a b => ?_) h
    have : 1 ≤ mx 1 (2 * f / P - 2) := le_mx (.inl (by omega))
    have h2 : mx 1 (2 * f / P - 2) + 1 ≤ 2 * f / P - 1 := by unfold mx at *; split at e2 <;> split at e2 <;> split <;> omega
    have := stT_early (f := f) (k := j) hP (by omega) (by omega)
    omega

theorem own_made {α : Type} {enc : α → List Value} {sz : Nat} {T : TypeId} {B b : Nat} (w : World) (hb : b = w.heap.size) (hB : B ≤ w.heap.size) : Own enc sz T (w.alloc (.cells #[] T)) B (.slice (some ⟨b, 0, none⟩) 0 0) ([] : List α) := by
  subst hb
  exact World.ownsRow_made w #[] 0 hB (by simp) (by simp)
/-- A slice of the call's own and a code. -/
def SlRes {α : Type} (enc : α → List Value) (sz : Nat) (T : TypeId) (P : List α → Int → Prop) (w : World) (e : Ending) (w' : World) : Prop :=
  ∃ (A : Option Addr) (c : Nat) (xs : List α) (code : Int), e = .returned (.tuple #[.slice A xs.length c, .int .i64 code]) ∧ P xs code ∧ xs.length ≤ 1048576 ∧ Own enc sz T w' w.heap.size (.slice A xs.length c) xs ∧ Below w.heap.size w w'
theorem slRes_nil {α : Type} {enc : α → List Value} {sz : Nat} {T : TypeId} {P : List α → Int → Prop} {w w' : World} {code : Int} (h : P [] code) (hb : Below w.heap.size w w') : SlRes enc sz T P w (.returned (.tuple #[.slice none 0 0, .int .i64 code])) w' :=
  ⟨none, 0, [], code, rfl, h, by simp, Own.nil, hb⟩

set_option maxRecDepth 100000 in
theorem implStrikeTimes (m l g f u : Int) (w : World) : Calls Try.prog 59 #[.agg #[.int .i64 m, .int .i64 l, .int .i64 g], .int .i64 f, .int .i64 u] w
    (SlRes encI 1 2 (StrikeR m l g f u) w) := by
  cases h : vClap m l g
  · have e : Hid (StrikeR m l g f u [] 1) := .inl ⟨h, rfl, rfl⟩
    go_enter Try.func59, Try.ntmps59
    go_wp2_with (go_at_call 109; refine (implValidClapper m l g _).mono ?_; rintro e w' ⟨rfl, rfl⟩)
    go_ret2
    exact slRes_nil e.out (by repeat (first | with_reducible exact Below.refl _ _ | with_reducible assumption | (with_reducible refine Below.drew ?_) | (with_reducible refine below_drewN ?_ _) | ((with_reducible refine Below.alloc ?_ ?_ _); rotate_left; (focus (first | omega | (simp; omega) | simp))) | ((with_reducible refine Below.setCell ?_ ?_ _); rotate_left; (focus (first | omega | (simp; omega) | simp))) | (refine Below.trans ?_ (Below.mono (by assumption) (by first | omega | (simp; omega) | simp)))))
  · by_cases hr : f < 0 ∨ u < f ∨ 1000000000 < u
    · have e : Hid (StrikeR m l g f u [] 2) := .inr (.inl ⟨h, hr, rfl, rfl⟩)
      by_cases r1 : f < 0
      · go_enter Try.func59, Try.ntmps59
        go_wp2_with (go_at_call 109; refine (implValidClapper m l g _).mono ?_; rintro e w' ⟨rfl, rfl⟩)
        go_ret2
        exact slRes_nil e.out (by repeat (first | with_reducible exact Below.refl _ _ | with_reducible assumption | (with_reducible refine Below.drew ?_) | (with_reducible refine below_drewN ?_ _) | ((with_reducible refine Below.alloc ?_ ?_ _); rotate_left; (focus (first | omega | (simp; omega) | simp))) | ((with_reducible refine Below.setCell ?_ ?_ _); rotate_left; (focus (first | omega | (simp; omega) | simp))) | (refine Below.trans ?_ (Below.mono (by assumption) (by first | omega | (simp; omega) | simp)))))
      · by_cases r2 : u < f
        · go_enter Try.func59, Try.ntmps59
          go_wp2_with (go_at_call 109; refine (implValidClapper m l g _).mono ?_; rintro e w' ⟨rfl, rfl⟩)
          go_ret2
          exact slRes_nil e.out (by repeat (first | with_reducible exact Below.refl _ _ | with_reducible assumption | (with_reducible refine Below.drew ?_) | (with_reducible refine below_drewN ?_ _) | ((with_reducible refine Below.alloc ?_ ?_ _); rotate_left; (focus (first | omega | (simp; omega) | simp))) | ((with_reducible refine Below.setCell ?_ ?_ _); rotate_left; (focus (first | omega | (simp; omega) | simp))) | (refine Below.trans ?_ (Below.mono (by assumption) (by first | omega | (simp; omega) | simp)))))
        · have r3 : 1000000000 < u := by omega
          clear hr
          go_enter Try.func59, Try.ntmps59
          go_wp2_with (go_at_call 109; refine (implValidClapper m l g _).mono ?_; rintro e w' ⟨rfl, rfl⟩)
          go_ret2
          exact slRes_nil e.out (by repeat (first | with_reducible exact Below.refl _ _ | with_reducible assumption | (with_reducible refine Below.drew ?_) | (with_reducible refine below_drewN ?_ _) | ((with_reducible refine Below.alloc ?_ ?_ _); rotate_left; (focus (first | omega | (simp; omega) | simp))) | ((with_reducible refine Below.setCell ?_ ?_ _); rotate_left; (focus (first | omega | (simp; omega) | simp))) | (refine Below.trans ?_ (Below.mono (by assumption) (by first | omega | (simp; omega) | simp)))))
    · have r1 : 0 ≤ f := by omega
      have r2 : f ≤ u := by omega
      have r3 : u ≤ 1000000000 := by omega
      clear hr
      obtain ⟨⟨a1, a2⟩, ⟨b1, b2⟩, _⟩ := vClap_true h
      have H := hide h
      obtain ⟨p1, p2⟩ := cT_bd b1 b2
      obtain ⟨i0, hi, hz0, hz1, hz2⟩ := info_parts info_i64
      have q0 : 0 ≤ 2 * f / cT l := Int.ediv_nonneg (by omega) (by omega)
      have q1 : 2 * f / cT l ≤ 10000000 := by
        have := Int.ediv_le_of_le_mul (a := 2 * f) (b := 10000000) (c := cT l) (by omega) (by omega)
        exact this
      have s1 : 1 ≤ mx 1 (2 * f / cT l - 1) := le_mx (.inl (by omega))
      have s2 : mx 1 (2 * f / cT l - 1) ≤ 20000000 := mx_le (by omega) (by omega)
      have fm := fold_mx 1 (2 * f / cT l - 1)
      have d1 : decide (f < 0) = false := by simp; omega
      have d2 : decide (u < f) = false := by simp; omega
      have d3 : decide (1000000000 < u) = false := by simp; omega
      go_enter Try.func59, Try.ntmps59
      go_wp2_with (first
        | (go_at_call 109; refine (implValidClapper m l g _).mono ?_; rintro e w' ⟨rfl, rfl⟩)
        | (go_at_call 110; refine (pendulumTime_any _ _ (by omega) (by omega)).mono ?_; rintro e w' ⟨rfl, n1, rfl⟩))
      have hb0 : Below w.heap.size w (((w.alloc (.cells #[.int .i64 m, .int .i64 l, .int .i64 g] 85)).alloc (.cells #[.int .i64 m, .int .i64 l, .int .i64 g] 85)).drewN n1) := (by repeat (first | with_reducible exact Below.refl _ _ | with_reducible assumption | (with_reducible refine Below.drew ?_) | (with_reducible refine below_drewN ?_ _) | ((with_reducible refine Below.alloc ?_ ?_ _); rotate_left; (focus (first | omega | (simp; omega) | simp))) | ((with_reducible refine Below.setCell ?_ ?_ _); rotate_left; (focus (first | omega | (simp; omega) | simp))) | (refine Below.trans ?_ (Below.mono (by assumption) (by first | omega | (simp; omega) | simp)))))
      have HB0 := hide hb0
      clear hb0 fm h
      go_loopw [9, 10, 11] (fun t v _ wr => ∃ (A : Option Addr) (c : Nat) (xs : List Int) (k : Int), t = .slice A xs.length c ∧ v = .int .i64 k ∧ 1 ≤ k ∧ k ≤ 20000000 ∧ xs.length ≤ 64 ∧ Below w.heap.size w wr ∧ Hid (OwnI wr w.heap.size (.slice A xs.length c) xs) ∧
        Hid (∀ R, Strk (cT l) f u k xs R → Strk (cT l) f u (mx 1 (2 * f / cT l - 2)) [] R)) (fun _ v _ _ => (20000001 - intOf v).toNat)
      case atStart => exact ⟨none, 0, [], _, rfl, rfl, s1, s2, by simp, HB0.out, hide Own.nil, hide fun R hR => strike_from p1 r1 r2 hR⟩
      case round =>
        obtain ⟨A, c, xs, k, rfl, rfl, k0, k1, hx, hb, HO, HR⟩ := hrel
        obtain ⟨⟨t1, t2⟩, t3, t4⟩ := stT_bd p1 p2 (show 0 ≤ k by omega) k1
        have ho1 := HO.out
        have hsz := hb.size
        by_cases hl : stT (cT l) k < u
        · by_cases hg : f ≤ stT (cT l) k
          · by_cases hc : xs.length < 64
            · have HR2 : Hid (∀ R, Strk (cT l) f u (k + 1) (xs ++ [stT (cT l) k]) R → Strk (cT l) f u (mx 1 (2 * f / cT l - 2)) [] R) := hide fun R hR => HR.out R (.take hl hg hc hR)
              go_wp2_with fail
              refine (nearest_any (k * cT l) 2 _ (by omega) (by omega) (by omega) (by omega)).mono ?_
              rintro e w1 ⟨rfl, n2, rfl⟩
              rw [show Pl.nr (k * cT l) 2 = stT (cT l) k by unfold stT; rfl]
              go_wp2_with fail
              refine (nearest_any (k * cT l) 2 _ (by omega) (by omega) (by omega) (by omega)).mono ?_
              rintro e w1 ⟨rfl, n3, rfl⟩
              rw [show Pl.nr (k * cT l) 2 = stT (cT l) k by unfold stT; rfl]
              go_wp2_with (at_builtin; refine wpList_appI rfl _ _ rfl w.heap.size rfl (ho1.below (below_drewN (Below.refl _ _) _)) rfl (by omega) ?_ ?_; (focus (simpa using hsz)); intro A1 c1 w1 ho2 hb2 _hg2)
              go_roundw
              case rel => exact ⟨A1, c1, xs ++ [stT (cT l) k], k + 1, by simp, rfl, by omega, by omega, by simp; omega, Below.trans (below_drewN hb _) hb2, by simpa using hide ho2, HR2⟩
              case measure => simp [intOf]; omega
            · have e : Hid (StrikeR m l g f u [] 5) := .inr (.inr ⟨H.out, r1, r2, r3, HR.out _ (.full hl hg (by omega))⟩)
              go_wp2_with fail
              refine (nearest_any (k * cT l) 2 _ (by omega) (by omega) (by omega) (by omega)).mono ?_
              rintro e w1 ⟨rfl, n2, rfl⟩
              rw [show Pl.nr (k * cT l) 2 = stT (cT l) k by unfold stT; rfl]
              go_wp2_with fail
              refine (nearest_any (k * cT l) 2 _ (by omega) (by omega) (by omega) (by omega)).mono ?_
              rintro e w1 ⟨rfl, n3, rfl⟩
              rw [show Pl.nr (k * cT l) 2 = stT (cT l) k by unfold stT; rfl]
              go_wp2_with (at_builtin; refine wpList_appI rfl _ _ rfl w.heap.size rfl (ho1.below (below_drewN (Below.refl _ _) _)) rfl (by omega) ?_ ?_; (focus (simpa using hsz)); intro A1 c1 w1 ho2 hb2 _hg2)
              go_ret2
              exact slRes_nil e.out (Below.trans (below_drewN hb _) hb2)
          · have HR2 : Hid (∀ R, Strk (cT l) f u (k + 1) xs R → Strk (cT l) f u (mx 1 (2 * f / cT l - 2)) [] R) := hide fun R hR => HR.out R (.skip hl (by omega) hR)
            go_wp2_with fail
            refine (nearest_any (k * cT l) 2 _ (by omega) (by omega) (by omega) (by omega)).mono ?_
            rintro e w1 ⟨rfl, n2, rfl⟩
            rw [show Pl.nr (k * cT l) 2 = stT (cT l) k by unfold stT; rfl]
            go_wp2_with fail
            refine (nearest_any (k * cT l) 2 _ (by omega) (by omega) (by omega) (by omega)).mono ?_
            rintro e w1 ⟨rfl, n3, rfl⟩
            rw [show Pl.nr (k * cT l) 2 = stT (cT l) k by unfold stT; rfl]
            go_wp2_with fail
            go_roundw
            case rel => exact ⟨A, c, xs, k + 1, rfl, rfl, by omega, by omega, hx, below_drewN hb _, hide (ho1.below (below_drewN (Below.refl _ _) _)), HR2⟩
            case measure => simp [intOf]; omega
        · have e : Hid (StrikeR m l g f u xs 0) := .inr (.inr ⟨H.out, r1, r2, r3, HR.out _ (.stop (by omega))⟩)
          go_wp2_with fail
          refine (nearest_any (k * cT l) 2 _ (by omega) (by omega) (by omega) (by omega)).mono ?_
          rintro e w1 ⟨rfl, n2, rfl⟩
          rw [show Pl.nr (k * cT l) 2 = stT (cT l) k by unfold stT; rfl]
          go_wp2_with fail
          go_ret2
          exact ⟨A, c, xs, 0, rfl, e.out, by omega, ho1.below (below_drewN (Below.refl _ _) _), below_drewN hb _⟩
set_option maxRecDepth 100000 in
theorem specStrikeTimes (m l g f u : Int) (w : World) : Calls Try.prog 57 #[.agg #[.int .i64 m, .int .i64 l, .int .i64 g], .int .i64 f, .int .i64 u] w
    (SlRes encI 1 2 (StrikeR m l g f u) w) := by
  cases h : vClap m l g
  · have e : Hid (StrikeR m l g f u [] 1) := .inl ⟨h, rfl, rfl⟩
    go_enter Try.func57, Try.ntmps57
    go_wp2_with (go_at_call 105; refine (specl20Ok _ m l g _ (by simp) (by simp) (by simp)).mono ?_; rintro e w' ⟨rfl, rfl⟩)
    go_ret2
    exact slRes_nil e.out (by repeat (first | with_reducible exact Below.refl _ _ | with_reducible assumption | (with_reducible refine Below.drew ?_) | (with_reducible refine below_drewN ?_ _) | ((with_reducible refine Below.alloc ?_ ?_ _); rotate_left; (focus (first | omega | (simp; omega) | simp))) | ((with_reducible refine Below.setCell ?_ ?_ _); rotate_left; (focus (first | omega | (simp; omega) | simp))) | (refine Below.trans ?_ (Below.mono (by assumption) (by first | omega | (simp; omega) | simp)))))
  · by_cases hr : f < 0 ∨ u < f ∨ 1000000000 < u
    · have e : Hid (StrikeR m l g f u [] 2) := .inr (.inl ⟨h, hr, rfl, rfl⟩)
      by_cases r1 : f < 0
      · go_enter Try.func57, Try.ntmps57
        go_wp2_with (go_at_call 105; refine (specl20Ok _ m l g _ (by simp) (by simp) (by simp)).mono ?_; rintro e w' ⟨rfl, rfl⟩)
        go_ret2
        exact slRes_nil e.out (by repeat (first | with_reducible exact Below.refl _ _ | with_reducible assumption | (with_reducible refine Below.drew ?_) | (with_reducible refine below_drewN ?_ _) | ((with_reducible refine Below.alloc ?_ ?_ _); rotate_left; (focus (first | omega | (simp; omega) | simp))) | ((with_reducible refine Below.setCell ?_ ?_ _); rotate_left; (focus (first | omega | (simp; omega) | simp))) | (refine Below.trans ?_ (Below.mono (by assumption) (by first | omega | (simp; omega) | simp)))))
      · by_cases r2 : u < f
        · go_enter Try.func57, Try.ntmps57
          go_wp2_with (go_at_call 105; refine (specl20Ok _ m l g _ (by simp) (by simp) (by simp)).mono ?_; rintro e w' ⟨rfl, rfl⟩)
          go_ret2
          exact slRes_nil e.out (by repeat (first | with_reducible exact Below.refl _ _ | with_reducible assumption | (with_reducible refine Below.drew ?_) | (with_reducible refine below_drewN ?_ _) | ((with_reducible refine Below.alloc ?_ ?_ _); rotate_left; (focus (first | omega | (simp; omega) | simp))) | ((with_reducible refine Below.setCell ?_ ?_ _); rotate_left; (focus (first | omega | (simp; omega) | simp))) | (refine Below.trans ?_ (Below.mono (by assumption) (by first | omega | (simp; omega) | simp)))))
        · have r3 : 1000000000 < u := by omega
          clear hr
          go_enter Try.func57, Try.ntmps57
          go_wp2_with (go_at_call 105; refine (specl20Ok _ m l g _ (by simp) (by simp) (by simp)).mono ?_; rintro e w' ⟨rfl, rfl⟩)
          go_ret2
          exact slRes_nil e.out (by repeat (first | with_reducible exact Below.refl _ _ | with_reducible assumption | (with_reducible refine Below.drew ?_) | (with_reducible refine below_drewN ?_ _) | ((with_reducible refine Below.alloc ?_ ?_ _); rotate_left; (focus (first | omega | (simp; omega) | simp))) | ((with_reducible refine Below.setCell ?_ ?_ _); rotate_left; (focus (first | omega | (simp; omega) | simp))) | (refine Below.trans ?_ (Below.mono (by assumption) (by first | omega | (simp; omega) | simp)))))
    · have r1 : 0 ≤ f := by omega
      have r2 : f ≤ u := by omega
      have r3 : u ≤ 1000000000 := by omega
      clear hr
      obtain ⟨⟨a1, a2⟩, ⟨b1, b2⟩, _⟩ := vClap_true h
      have H := hide h
      obtain ⟨p1, p2⟩ := cT_bd b1 b2
      obtain ⟨i0, hi, hz0, hz1, hz2⟩ := info_parts info_i64
      have q0 : 0 ≤ 2 * f / cT l := Int.ediv_nonneg (by omega) (by omega)
      have q1 : 2 * f / cT l ≤ 10000000 := by
        have := Int.ediv_le_of_le_mul (a := 2 * f) (b := 10000000) (c := cT l) (by omega) (by omega)
        exact this
      have s1 : 1 ≤ mx 1 (2 * f / cT l - 2) := le_mx (.inl (by omega))
      have s2 : mx 1 (2 * f / cT l - 2) ≤ 20000000 := mx_le (by omega) (by omega)
      have d1 : decide (f < 0) = false := by simp; omega
      have d2 : decide (u < f) = false := by simp; omega
      have d3 : decide (1000000000 < u) = false := by simp; omega
      go_enter Try.func57, Try.ntmps57
      go_wp2_with (first
        | (go_at_call 105; refine (specl20Ok _ m l g _ (by simp) (by simp) (by simp)).mono ?_; rintro e w' ⟨rfl, rfl⟩)
        | (go_at_call 106; refine (l20Time_any _ _ (by omega) (by omega)).mono ?_; rintro e w' ⟨rfl, rfl⟩)
        | (go_at_call 107; refine (specl00Max _ _ _).mono ?_; rintro e w' ⟨rfl, rfl⟩))
      clear h
      go_loopw [9, 10] (fun v t wr => ∃ (A : Option Addr) (c : Nat) (xs : List Int) (k : Int), t = .slice A xs.length c ∧ v = .int .i64 k ∧ 1 ≤ k ∧ k ≤ 20000000 ∧ xs.length ≤ 64 ∧ Below w.heap.size w wr ∧ Hid (OwnI wr w.heap.size (.slice A xs.length c) xs) ∧
        Hid (∀ R, Strk (cT l) f u k xs R → Strk (cT l) f u (mx 1 (2 * f / cT l - 2)) [] R)) (fun v _ _ => (20000001 - intOf v).toNat)
      case atStart => exact ⟨some ⟨w.heap.size + 1, 0, none⟩, 0, [], _, by simp, rfl, s1, s2, by simp, (by repeat (first | with_reducible exact Below.refl _ _ | with_reducible assumption | (with_reducible refine Below.drew ?_) | (with_reducible refine below_drewN ?_ _) | ((with_reducible refine Below.alloc ?_ ?_ _); rotate_left; (focus (first | omega | (simp; omega) | simp))) | ((with_reducible refine Below.setCell ?_ ?_ _); rotate_left; (focus (first | omega | (simp; omega) | simp))) | (refine Below.trans ?_ (Below.mono (by assumption) (by first | omega | (simp; omega) | simp))))), hide (own_made _ (by simp) (by simp)), hide fun R hR => hR⟩
      case round =>
        obtain ⟨A, c, xs, k, rfl, rfl, k0, k1, hx, hb, HO, HR⟩ := hrel
        obtain ⟨⟨t1, t2⟩, t3, t4⟩ := stT_bd p1 p2 (show 0 ≤ k by omega) k1
        have ho1 := HO.out
        have hsz := hb.size
        by_cases hl : stT (cT l) k < u
        · by_cases hg : f ≤ stT (cT l) k
          · by_cases hc : xs.length < 64
            · have HR2 : Hid (∀ R, Strk (cT l) f u (k + 1) (xs ++ [stT (cT l) k]) R → Strk (cT l) f u (mx 1 (2 * f / cT l - 2)) [] R) := hide fun R hR => HR.out R (.take hl hg hc hR)
              go_wp2_with fail
              refine (l01Div_any (k * cT l) 2 _ (by omega) (by omega) (by omega) (by omega)).mono ?_
              rintro e w1 ⟨rfl, rfl⟩
              rw [show Pl.nr (k * cT l) 2 = stT (cT l) k by unfold stT; rfl]
              go_wp2_with fail
              refine (l01Div_any (k * cT l) 2 _ (by omega) (by omega) (by omega) (by omega)).mono ?_
              rintro e w1 ⟨rfl, rfl⟩
              rw [show Pl.nr (k * cT l) 2 = stT (cT l) k by unfold stT; rfl]
              go_wp2_with fail
              refine (l01Div_any (k * cT l) 2 _ (by omega) (by omega) (by omega) (by omega)).mono ?_
              rintro e w1 ⟨rfl, rfl⟩
              rw [show Pl.nr (k * cT l) 2 = stT (cT l) k by unfold stT; rfl]
              go_wp2_with (at_builtin; refine wpList_appI rfl _ _ rfl w.heap.size rfl ho1 rfl (by omega) ?_ ?_; (focus (simpa using hsz)); intro A1 c1 w1 ho2 hb2 _hg2)
              go_roundw
              case rel => exact ⟨A1, c1, xs ++ [stT (cT l) k], k + 1, by simp, rfl, by omega, by omega, by simp; omega, Below.trans (hb) hb2, by simpa using hide ho2, HR2⟩
              case measure => simp [intOf]; omega
            · have e : Hid (StrikeR m l g f u [] 5) := .inr (.inr ⟨H.out, r1, r2, r3, HR.out _ (.full hl hg (by omega))⟩)
              go_wp2_with fail
              refine (l01Div_any (k * cT l) 2 _ (by omega) (by omega) (by omega) (by omega)).mono ?_
              rintro e w1 ⟨rfl, rfl⟩
              rw [show Pl.nr (k * cT l) 2 = stT (cT l) k by unfold stT; rfl]
              go_wp2_with fail
              refine (l01Div_any (k * cT l) 2 _ (by omega) (by omega) (by omega) (by omega)).mono ?_
              rintro e w1 ⟨rfl, rfl⟩
              rw [show Pl.nr (k * cT l) 2 = stT (cT l) k by unfold stT; rfl]
              go_wp2_with fail
              refine (l01Div_any (k * cT l) 2 _ (by omega) (by omega) (by omega) (by omega)).mono ?_
              rintro e w1 ⟨rfl, rfl⟩
              rw [show Pl.nr (k * cT l) 2 = stT (cT l) k by unfold stT; rfl]
              go_wp2_with (at_builtin; refine wpList_appI rfl _ _ rfl w.heap.size rfl ho1 rfl (by omega) ?_ ?_; (focus (simpa using hsz)); intro A1 c1 w1 ho2 hb2 _hg2)
              go_ret2
              exact slRes_nil e.out (Below.trans (hb) hb2)
          · have HR2 : Hid (∀ R, Strk (cT l) f u (k + 1) xs R → Strk (cT l) f u (mx 1 (2 * f / cT l - 2)) [] R) := hide fun R hR => HR.out R (.skip hl (by omega) hR)
            go_wp2_with fail
            refine (l01Div_any (k * cT l) 2 _ (by omega) (by omega) (by omega) (by omega)).mono ?_
            rintro e w1 ⟨rfl, rfl⟩
            rw [show Pl.nr (k * cT l) 2 = stT (cT l) k by unfold stT; rfl]
            go_wp2_with fail
            refine (l01Div_any (k * cT l) 2 _ (by omega) (by omega) (by omega) (by omega)).mono ?_
            rintro e w1 ⟨rfl, rfl⟩
            rw [show Pl.nr (k * cT l) 2 = stT (cT l) k by unfold stT; rfl]
            go_wp2_with fail
            go_roundw
            case rel => exact ⟨A, c, xs, k + 1, rfl, rfl, by omega, by omega, hx, hb, hide ho1, HR2⟩
            case measure => simp [intOf]; omega
        · have e : Hid (StrikeR m l g f u xs 0) := .inr (.inr ⟨H.out, r1, r2, r3, HR.out _ (.stop (by omega))⟩)
          go_wp2_with fail
          refine (l01Div_any (k * cT l) 2 _ (by omega) (by omega) (by omega) (by omega)).mono ?_
          rintro e w1 ⟨rfl, rfl⟩
          rw [show Pl.nr (k * cT l) 2 = stT (cT l) k by unfold stT; rfl]
          go_wp2_with fail
          go_ret2
          exact ⟨A, c, xs, 0, rfl, e.out, by omega, ho1, hb⟩
set_option maxRecDepth 100000 in
set_option maxHeartbeats 2000000 in
theorem lawStrikeTimes (m l g f u : Int) (w : World)  :
    Calls Try.prog 14 #[.agg #[.int .i64 m, .int .i64 l, .int .i64 g], .int .i64 f, .int .i64 u] w fun e w' => e = .returned (.bool true) ∧ Below w.heap.size w w' := by
  have hbW : Below w.heap.size w (w.alloc (.cells #[.int .i64 m, .int .i64 l, .int .i64 g] 83)) := (by repeat (first | with_reducible exact Below.refl _ _ | with_reducible assumption | (with_reducible refine Below.drew ?_) | (with_reducible refine below_drewN ?_ _) | ((with_reducible refine Below.alloc ?_ ?_ _); rotate_left; (focus (first | omega | (simp; omega) | simp))) | ((with_reducible refine Below.setCell ?_ ?_ _); rotate_left; (focus (first | omega | (simp; omega) | simp))) | (refine Below.trans ?_ (Below.mono (by assumption) (by first | omega | (simp; omega) | simp)))))
  have HBW := hide hbW
  clear hbW
  go_enter Try.func14, Try.ntmps14
  go_wp2_with fail
  refine (lawstoClapper m l g _).mono ?_
  rintro e w1 ⟨rfl, hb1⟩
  have z1 := hb1.size
  have B1 : Hid (Below (w.alloc (.cells #[.int .i64 m, .int .i64 l, .int .i64 g] 83)).heap.size (w.alloc (.cells #[.int .i64 m, .int .i64 l, .int .i64 g] 83)) w1) := hide hb1
  clear hb1
  go_wp2_with fail
  refine (specStrikeTimes m l g f u _).mono ?_
  rintro e w2 ⟨A0, c0, xs0, code0, rfl, hR0, hn0, hO0, hb2⟩
  have z2 : (w.alloc (.cells #[.int .i64 m, .int .i64 l, .int .i64 g] 83)).heap.size ≤ w2.heap.size := Nat.le_trans z1 hb2.size
  have y2 : w1.heap.size ≤ w2.heap.size := hb2.size
  have B2 : Hid (Below (w.alloc (.cells #[.int .i64 m, .int .i64 l, .int .i64 g] 83)).heap.size (w.alloc (.cells #[.int .i64 m, .int .i64 l, .int .i64 g] 83)) w2) := hide (B1.out.trans (hb2.mono z1))
  clear B1 hb2
  have S0_2 := hide hO0
  have S0_lt := hide (fun k hk => ((hO0).lt k hk).2)
  clear hO0
  have p0_0 := B2.out.cell (p := ⟨w.heap.size, 0, none⟩) (by simp)
  have p0_1 := B2.out.cell (p := ⟨w.heap.size, 1, none⟩) (by simp)
  have p0_2 := B2.out.cell (p := ⟨w.heap.size, 2, none⟩) (by simp)
  simp at p0_0 p0_1 p0_2
  go_wp2_with fail
  refine (lawstoClapper m l g _).mono ?_
  rintro e w3 ⟨rfl, hb3⟩
  clear p0_0 p0_1 p0_2
  have z3 : (w.alloc (.cells #[.int .i64 m, .int .i64 l, .int .i64 g] 83)).heap.size ≤ w3.heap.size := Nat.le_trans z2 hb3.size
  have y3 : w2.heap.size ≤ w3.heap.size := hb3.size
  have B3 : Hid (Below (w.alloc (.cells #[.int .i64 m, .int .i64 l, .int .i64 g] 83)).heap.size (w.alloc (.cells #[.int .i64 m, .int .i64 l, .int .i64 g] 83)) w3) := hide (B2.out.trans (hb3.mono z2))
  have S0_3 := hide (S0_2.out.below hb3)
  clear S0_2 B2 hb3
  go_wp2_with fail
  refine (implStrikeTimes m l g f u _).mono ?_
  rintro e w4 ⟨A1, c1, xs1, code1, rfl, hR1, hn1, hO1, hb4⟩
  have z4 : (w.alloc (.cells #[.int .i64 m, .int .i64 l, .int .i64 g] 83)).heap.size ≤ w4.heap.size := Nat.le_trans z3 hb4.size
  have y4 : w3.heap.size ≤ w4.heap.size := hb4.size
  have B4 : Hid (Below (w.alloc (.cells #[.int .i64 m, .int .i64 l, .int .i64 g] 83)).heap.size (w.alloc (.cells #[.int .i64 m, .int .i64 l, .int .i64 g] 83)) w4) := hide (B3.out.trans (hb4.mono z3))
  have S0_4 := hide (S0_3.out.below hb4)
  clear S0_3 B3 hb4
  have G0_4 := hide hO1
  have G0_lt := hide (fun k hk => ((hO1).lt k hk).2)
  clear hO1
  obtain ⟨rfl, rfl⟩ := StrikeR.det hR0 hR1
  clear hR1 hn1
  have hR0 := hide hR0
  go_wp2_with fail
  refine (lawseqInt64S_same _ _ _ _ xs0 _ ((G0_4.out).at_ (fun _ => rfl)) ((S0_4.out).at_ (fun _ => rfl)) hn0).mono ?_
  rintro e w5 ⟨rfl, hb5⟩
  have z5 : (w.alloc (.cells #[.int .i64 m, .int .i64 l, .int .i64 g] 83)).heap.size ≤ w5.heap.size := Nat.le_trans z4 hb5.size
  have y5 : w4.heap.size ≤ w5.heap.size := hb5.size
  have B5 : Hid (Below (w.alloc (.cells #[.int .i64 m, .int .i64 l, .int .i64 g] 83)).heap.size (w.alloc (.cells #[.int .i64 m, .int .i64 l, .int .i64 g] 83)) w5) := hide (B4.out.trans (hb5.mono z4))
  have S0_5 := hide (S0_4.out.below hb5)
  have G0_5 := hide (G0_4.out.below hb5)
  clear S0_4 G0_4 B4 hb5
  go_wp2_with fail
  refine (lawsmarkInt64S _ _ _ xs0 _ _ G0_5.out hn0 (by omega) (by omega)).mono ?_
  rintro e w6 ⟨rfl, hO, hg⟩
  have hge := fun k hk => (G0_5.out.lt k hk).1
  have y6 := hg.size
  have z6 : (w.alloc (.cells #[.int .i64 m, .int .i64 l, .int .i64 g] 83)).heap.size ≤ w6.heap.size := Nat.le_trans z5 y6
  have B6 : Hid (Below (w.alloc (.cells #[.int .i64 m, .int .i64 l, .int .i64 g] 83)).heap.size (w.alloc (.cells #[.int .i64 m, .int .i64 l, .int .i64 g] 83)) w6) := hide (Below.grown B5.out hg z5 fun k hk => Nat.le_trans z3 (hge k hk))
  have S0_6 := hide (kept_older S0_5.out S0_lt.out hg hge (by omega))
  have G0_6 := hide hO
  clear S0_5 G0_5 B5 hO hg hge
  go_wp2_with fail
  refine (held_own_I G0_6.out hn0 (by omega) (by omega)).mono ?_
  rintro e w7 ⟨rfl, hb7⟩
  have z7 : (w.alloc (.cells #[.int .i64 m, .int .i64 l, .int .i64 g] 83)).heap.size ≤ w7.heap.size := Nat.le_trans z6 hb7.size
  have y7 : w6.heap.size ≤ w7.heap.size := hb7.size
  have B7 : Hid (Below (w.alloc (.cells #[.int .i64 m, .int .i64 l, .int .i64 g] 83)).heap.size (w.alloc (.cells #[.int .i64 m, .int .i64 l, .int .i64 g] 83)) w7) := hide (B6.out.trans (hb7.mono z6))
  have S0_7 := hide (S0_6.out.below hb7)
  have G0_7 := hide (G0_6.out.below hb7)
  clear S0_6 G0_6 B6 hb7
  have p0_0 := B7.out.cell (p := ⟨w.heap.size, 0, none⟩) (by simp)
  have p0_1 := B7.out.cell (p := ⟨w.heap.size, 1, none⟩) (by simp)
  have p0_2 := B7.out.cell (p := ⟨w.heap.size, 2, none⟩) (by simp)
  simp at p0_0 p0_1 p0_2
  go_wp2_with fail
  refine (lawstoClapper m l g _).mono ?_
  rintro e w8 ⟨rfl, hb8⟩
  clear p0_0 p0_1 p0_2
  have z8 : (w.alloc (.cells #[.int .i64 m, .int .i64 l, .int .i64 g] 83)).heap.size ≤ w8.heap.size := Nat.le_trans z7 hb8.size
  have y8 : w7.heap.size ≤ w8.heap.size := hb8.size
  have B8 : Hid (Below (w.alloc (.cells #[.int .i64 m, .int .i64 l, .int .i64 g] 83)).heap.size (w.alloc (.cells #[.int .i64 m, .int .i64 l, .int .i64 g] 83)) w8) := hide (B7.out.trans (hb8.mono z7))
  have S0_8 := hide (S0_7.out.below hb8)
  have G0_8 := hide (G0_7.out.below hb8)
  clear S0_7 G0_7 B7 hb8
  go_wp2_with fail
  refine (implStrikeTimes m l g f u _).mono ?_
  rintro e w9 ⟨A2, c2, xs2, code2, rfl, hR2, hn2, hO2, hb9⟩
  have z9 : (w.alloc (.cells #[.int .i64 m, .int .i64 l, .int .i64 g] 83)).heap.size ≤ w9.heap.size := Nat.le_trans z8 hb9.size
  have y9 : w8.heap.size ≤ w9.heap.size := hb9.size
  have B9 : Hid (Below (w.alloc (.cells #[.int .i64 m, .int .i64 l, .int .i64 g] 83)).heap.size (w.alloc (.cells #[.int .i64 m, .int .i64 l, .int .i64 g] 83)) w9) := hide (B8.out.trans (hb9.mono z8))
  have S0_9 := hide (S0_8.out.below hb9)
  have G0_9 := hide (G0_8.out.below hb9)
  clear S0_8 G0_8 B8 hb9
  have H0_9 := hide hO2
  have H0_lt := hide (fun k hk => ((hO2).lt k hk).2)
  clear hO2
  obtain ⟨rfl, rfl⟩ := StrikeR.det hR0.out hR2
  go_wp2_with fail
  refine (lawseqInt64S_same _ _ _ _ xs0 _ ((H0_9.out).at_ (fun _ => rfl)) ((S0_9.out).at_ (fun _ => rfl)) hn0).mono ?_
  rintro e w10 ⟨rfl, hb10⟩
  have z10 : (w.alloc (.cells #[.int .i64 m, .int .i64 l, .int .i64 g] 83)).heap.size ≤ w10.heap.size := Nat.le_trans z9 hb10.size
  have y10 : w9.heap.size ≤ w10.heap.size := hb10.size
  have B10 : Hid (Below (w.alloc (.cells #[.int .i64 m, .int .i64 l, .int .i64 g] 83)).heap.size (w.alloc (.cells #[.int .i64 m, .int .i64 l, .int .i64 g] 83)) w10) := hide (B9.out.trans (hb10.mono z9))
  have S0_10 := hide (S0_9.out.below hb10)
  have G0_10 := hide (G0_9.out.below hb10)
  have H0_10 := hide (H0_9.out.below hb10)
  clear S0_9 G0_9 H0_9 B9 hb10
  go_wp2_with fail
  refine (held_own_I G0_10.out hn0 (by omega) (by omega)).mono ?_
  rintro e w11 ⟨rfl, hb11⟩
  have z11 : (w.alloc (.cells #[.int .i64 m, .int .i64 l, .int .i64 g] 83)).heap.size ≤ w11.heap.size := Nat.le_trans z10 hb11.size
  have y11 : w10.heap.size ≤ w11.heap.size := hb11.size
  have B11 : Hid (Below (w.alloc (.cells #[.int .i64 m, .int .i64 l, .int .i64 g] 83)).heap.size (w.alloc (.cells #[.int .i64 m, .int .i64 l, .int .i64 g] 83)) w11) := hide (B10.out.trans (hb11.mono z10))
  have S0_11 := hide (S0_10.out.below hb11)
  have G0_11 := hide (G0_10.out.below hb11)
  have H0_11 := hide (H0_10.out.below hb11)
  clear S0_10 G0_10 H0_10 B10 hb11
  go_wp2_with fail
  go_ret
  exact ⟨rfl, Below.trans HBW.out (B11.out.mono (by simp))⟩
end Go.Proofs.Ytdimapcecdffnaa
