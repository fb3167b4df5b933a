/- Contracts of the arithmetic functions: abs, nearest, the roots, on both sides. -/
import Derived.Test.YtnefgafmnpblpaaGreatBasics
namespace Go.Proofs.YtnefgafmnpblpaaGreat
open Go.RowKit

theorem abs_pos (a : Int) (w : World) (h : 0 ≤ a) : Calls Tryz.prog 105 #[.int .i64 a] w fun e w' => e = .returned (.int .i64 a) ∧ w = w' := by
  go_enter Tryz.func105, Tryz.ntmps105
  go_wp2
  go_ret
  exact ⟨rfl, rfl⟩
theorem abs_neg (a : Int) (w : World) (h : a < 0) (hlo : -4000000000000000000 ≤ a) : Calls Tryz.prog 105 #[.int .i64 a] w fun e w' => e = .returned (.int .i64 (-a)) ∧ w = w' := by
  go_enter Tryz.func105, Tryz.ntmps105
  go_wp2
  go_ret
  exact ⟨rfl, rfl⟩
theorem abs_mod (r : Int) (w : World) (h : 0 ≤ r) (hhi : r ≤ 4000000000000000000) : Calls Tryz.prog 105 #[.int .i64 (-r)] w fun e w' => e = .returned (.int .i64 r) ∧ w = w' := by
  by_cases h0 : 0 < r
  · refine (abs_neg (-r) w (by omega) (by omega)).mono ?_
    rintro e w' ⟨rfl, rfl⟩
    exact ⟨ret_int (by omega), rfl⟩
  · obtain rfl : r = 0 := by omega
    exact abs_pos 0 w (by omega)
/-- The greater of two. -/
def mx (a b : Int) : Int := if a < b then b else a
theorem fold_mx (a b : Int) : (if a < b then b else a) = mx a b := rfl
theorem mx_le {a b c : Int} (h1 : a ≤ c) (h2 : b ≤ c) : mx a b ≤ c := by unfold mx; split <;> omega
theorem le_mx {a b c : Int} (h : c ≤ a ∨ c ≤ b) : c ≤ mx a b := by unfold mx; split <;> omega
theorem specl00Max (a b : Int) (w : World) : Calls Tryz.prog 139 #[.int .i64 a, .int .i64 b] w fun e w' => e = .returned (.int .i64 (mx a b)) ∧ w = w' := by
  by_cases h : b < a
  · have e : Hid (mx a b = a) := by unfold Hid mx; rw [if_neg (by omega)]
    go_enter Tryz.func139, Tryz.ntmps139
    go_wp2
    go_ret
    exact ⟨ret_int e.out.symm, rfl⟩
  · have e : Hid (mx a b = b) := by unfold Hid mx; split <;> omega
    go_enter Tryz.func139, Tryz.ntmps139
    go_wp2
    go_ret
    exact ⟨ret_int e.out.symm, rfl⟩
theorem nearest_pos (a b : Int) (w : World) (ha : 0 ≤ a) (ha2 : a ≤ 4000000000000000000) (hb : 1 ≤ b) (hb2 : b ≤ 4000000000000000000) :
    Calls Tryz.prog 111 #[.int .i64 a, .int .i64 b] w fun e w' => e = .returned (.int .i64 (Pl.nr a b)) ∧ ∃ n, w.drewN n = w' := by
  have m0 := Int.emod_nonneg a (show b ≠ 0 by omega)
  have m1 := Int.emod_lt_of_pos a (show 0 < b by omega)
  have q0 : 0 ≤ a / b := Int.ediv_nonneg ha (by omega)
  have q1 : a / b ≤ 4000000000000000000 := Int.le_trans (Int.ediv_le_self b ha) ha2
  have d1 : decide (a < 0) = false := by simp; omega
  have d2 : decide (b < 0) = false := by simp; omega
  by_cases h : b - a % b ≤ a % b
  · have e : Hid (Pl.nr a b = a / b + 1) := by unfold Hid; rw [Pl.nr_pos ha (by omega), if_pos h]
    go_enter Tryz.func111, Tryz.ntmps111
    go_wp2_with fail
    go_quiet ((go_at_call 105; exact Calls.quiet_of_same ((abs_pos _ _ (by omega)).mono fun _ _ hh => ⟨hh.1, hh.2.symm⟩)))
    go_wp2_with (go_at_call 105; refine (abs_pos _ _ (by omega)).mono ?_; rintro e w' ⟨rfl, rfl⟩)
    go_ret
    exact ⟨ret_int e.out.symm, _, rfl⟩
  · have e : Hid (Pl.nr a b = a / b) := by unfold Hid; rw [Pl.nr_pos ha (by omega), if_neg h]
    go_enter Tryz.func111, Tryz.ntmps111
    go_wp2_with fail
    go_quiet ((go_at_call 105; exact Calls.quiet_of_same ((abs_pos _ _ (by omega)).mono fun _ _ hh => ⟨hh.1, hh.2.symm⟩)))
    go_wp2_with (go_at_call 105; refine (abs_pos _ _ (by omega)).mono ?_; rintro e w' ⟨rfl, rfl⟩)
    go_ret
    exact ⟨ret_int e.out.symm, _, rfl⟩
theorem nearest_neg (a b : Int) (w : World) (ha : a < 0) (ha2 : -4000000000000000000 ≤ a) (hb : 1 ≤ b) (hb2 : b ≤ 4000000000000000000) :
    Calls Tryz.prog 111 #[.int .i64 a, .int .i64 b] w fun e w' => e = .returned (.int .i64 (Pl.nr a b)) ∧ ∃ n, w.drewN n = w' := by
  obtain ⟨n, rfl⟩ : ∃ n, a = -n := ⟨-a, by omega⟩
  have hn : 0 ≤ n := by omega
  have m0 := Int.emod_nonneg n (show b ≠ 0 by omega)
  have m1 := Int.emod_lt_of_pos n (show 0 < b by omega)
  have q0 : 0 ≤ n / b := Int.ediv_nonneg hn (by omega)
  have q1 : n / b ≤ 4000000000000000000 := Int.le_trans (Int.ediv_le_self b hn) (by omega)
  have t1 : (-n).tdiv b = -(n / b) := by rw [Int.neg_tdiv, Int.tdiv_eq_ediv_of_nonneg hn]
  have t2 : (-n).tmod b = -(n % b) := by rw [Int.neg_tmod, Int.tmod_eq_emod_of_nonneg hn]
  have d1 : decide (-n < 0) = true := by simp; omega
  have d1' : decide (0 < n) = true := by simp; omega
  have d2 : decide (b < 0) = false := by simp; omega
  by_cases h : b - n % b ≤ n % b
  · have e : Hid (Pl.nr (-n) b = -(n / b) - 1) := by unfold Hid; rw [Pl.nr_neg (by omega) (by omega), if_pos h]
    go_enter Tryz.func111, Tryz.ntmps111
    go_wp2_with fail
    go_quiet ((go_at_call 105; exact Calls.quiet_of_same ((abs_mod _ _ m0 (by omega)).mono fun _ _ hh => ⟨hh.1, hh.2.symm⟩)))
    go_wp2_with (go_at_call 105; refine (abs_pos _ _ (by omega)).mono ?_; rintro e w' ⟨rfl, rfl⟩)
    go_ret
    exact ⟨ret_int e.out.symm, _, rfl⟩
  · have e : Hid (Pl.nr (-n) b = -(n / b)) := by unfold Hid; rw [Pl.nr_neg (by omega) (by omega), if_neg h]
    go_enter Tryz.func111, Tryz.ntmps111
    go_wp2_with fail
    go_quiet ((go_at_call 105; exact Calls.quiet_of_same ((abs_mod _ _ m0 (by omega)).mono fun _ _ hh => ⟨hh.1, hh.2.symm⟩)))
    go_wp2_with (go_at_call 105; refine (abs_pos _ _ (by omega)).mono ?_; rintro e w' ⟨rfl, rfl⟩)
    go_ret
    exact ⟨ret_int e.out.symm, _, rfl⟩
/-- nearest, at any number. -/
theorem nearest_any (a b : Int) (w : World) (h1 : -4000000000000000000 ≤ a) (h2 : a ≤ 4000000000000000000) (hb : 1 ≤ b) (hb2 : b ≤ 4000000000000000000) :
    Calls Tryz.prog 111 #[.int .i64 a, .int .i64 b] w fun e w' => e = .returned (.int .i64 (Pl.nr a b)) ∧ ∃ n, w.drewN n = w' := by
  by_cases h : 0 ≤ a
  · exact nearest_pos a b w h h2 hb hb2
  · exact nearest_neg a b w (by omega) h1 hb hb2
theorem l01Div_any (a b : Int) (w : World) (h1 : -4000000000000000000 ≤ a) (h2 : a ≤ 4000000000000000000) (hb : 1 ≤ b) (hb2 : b ≤ 1000000000000000000) :
    Calls Tryz.prog 138 #[.int .i64 a, .int .i64 b] w fun e w' => e = .returned (.int .i64 (Pl.nr a b)) ∧ w = w' := by
  by_cases h : 0 ≤ a
  · have e : Hid (Pl.nr a b = (2 * a + b) / (2 * b)) := by unfold Hid Pl.nr; rw [if_pos h]
    go_enter Tryz.func138, Tryz.ntmps138
    go_wp2
    go_ret
    exact ⟨ret_int e.out.symm, rfl⟩
  · have e : Hid (Pl.nr a b = -((b - 2 * a) / (2 * b))) := by unfold Hid Pl.nr; rw [if_neg h]
    have q0 : 0 ≤ (b - 2 * a) / (2 * b) := Int.ediv_nonneg (by omega) (by omega)
    have q1 : (b - 2 * a) / (2 * b) ≤ b - 2 * a := Int.ediv_le_self _ (by omega)
    go_enter Tryz.func138, Tryz.ntmps138
    go_wp2
    go_ret
    exact ⟨ret_int e.out.symm, rfl⟩
end Go.Proofs.YtnefgafmnpblpaaGreat
