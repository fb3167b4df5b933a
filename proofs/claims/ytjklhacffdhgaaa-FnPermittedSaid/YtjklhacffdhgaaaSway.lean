/- Contracts: the factor of a rate, on both sides; ResonanceOf. -/
import Derived.Test.YtjklhacffdhgaaaRoom
namespace Go.Proofs.Ytjklhacffdhgaaa
open Go.RowKit

theorem sq_sym {x c : Int} (h1 : -c ≤ x) (h2 : x ≤ c) : 0 ≤ x * x ∧ x * x ≤ c * c := by
  by_cases h : 0 ≤ x
  · exact ⟨Int.mul_nonneg h h, Pl.sq_le h h2⟩
  · have e : x * x = (-x) * (-x) := (Int.neg_mul_neg x x).symm
    rw [e]
    exact ⟨Int.mul_nonneg (by omega) (by omega), Pl.sq_le (by omega) (by omega)⟩
/-- How much a tower amplifies a rate. -/
def fcR (sw rate : Int) : Int := Pl.nr (1000 * rate) sw
def fcA (sw rate : Int) : Int := 1000 - Pl.nr (fcR sw rate * fcR sw rate) 1000
def fcB (sw dp rate : Int) : Int := Pl.nr (2 * dp * fcR sw rate) 1000
def fcS (sw dp rate : Int) : Int := fcA sw rate * fcA sw rate + fcB sw dp rate * fcB sw dp rate
@[irreducible] def fac (sw dp rate : Int) : Int := Pl.nr 1000000 (mx 1 (Pl.rt (fcS sw dp rate)))
theorem fac_bounds {sw dp rate : Int} (h1 : 100 ≤ sw) (h2 : sw ≤ 10000) (h3 : 5 ≤ dp) (h4 : dp ≤ 500) (h5 : 1 ≤ rate) (h6 : rate ≤ 15000) :
    (0 ≤ fcR sw rate ∧ fcR sw rate ≤ 150000) ∧ (0 ≤ fcR sw rate * fcR sw rate ∧ fcR sw rate * fcR sw rate ≤ 22500000000) ∧ (-22500000 ≤ fcA sw rate ∧ fcA sw rate ≤ 1000) ∧ (0 ≤ 2 * dp * fcR sw rate ∧ 2 * dp * fcR sw rate ≤ 150000000) ∧
    (0 ≤ fcB sw dp rate ∧ fcB sw dp rate ≤ 150000) ∧ (0 ≤ fcA sw rate * fcA sw rate ∧ fcA sw rate * fcA sw rate ≤ 506250000000000) ∧ (0 ≤ fcB sw dp rate * fcB sw dp rate ∧ fcB sw dp rate * fcB sw dp rate ≤ 22500000000) ∧
    (0 ≤ Pl.rt (fcS sw dp rate) ∧ Pl.rt (fcS sw dp rate) ≤ 30000000) ∧ (0 ≤ fac sw dp rate ∧ fac sw dp rate ≤ 1000000) := by
  have a1 : 0 ≤ fcR sw rate := Pl.nr_nonneg (by omega) (by omega)
  have a2 : fcR sw rate ≤ 150000 := Pl.nr_le (by omega) (by have : 100 * 150000 ≤ sw * 150000 := by omega
                                                            have e : 2 * sw * 150000 = 2 * (sw * 150000) := by rw [Int.mul_assoc]
                                                            omega) (by omega)
  have b := sq_sym (x := fcR sw rate) (c := 150000) (by omega) a2
  have c1 : 0 ≤ Pl.nr (fcR sw rate * fcR sw rate) 1000 := Pl.nr_nonneg b.1 (by omega)
  have c2 : Pl.nr (fcR sw rate * fcR sw rate) 1000 ≤ 22500000 := Pl.nr_le (by omega) (by omega) (by omega)
  have c : -22500000 ≤ fcA sw rate ∧ fcA sw rate ≤ 1000 := by unfold fcA; omega
  have d1 : 0 ≤ 2 * dp * fcR sw rate := Int.mul_nonneg (by omega) a1
  have d2 : 2 * dp * fcR sw rate ≤ 1000 * 150000 := Int.mul_le_mul (by omega) a2 a1 (by omega)
  have e1 : 0 ≤ fcB sw dp rate := Pl.nr_nonneg d1 (by omega)
  have e2 : fcB sw dp rate ≤ 150000 := Pl.nr_le (by omega) (by omega) (by omega)
  have f := sq_sym (x := fcA sw rate) (c := 22500000) (by omega) (by omega)
  have g := sq_sym (x := fcB sw dp rate) (c := 150000) (by omega) e2
  have r1 := Pl.rt_nonneg (fcS sw dp rate)
  have r2 : Pl.rt (fcS sw dp rate) ≤ 30000000 := Pl.rt_le (by omega) (by unfold fcS; omega)
  have m1 : 1 ≤ mx 1 (Pl.rt (fcS sw dp rate)) := le_mx (.inl (by omega))
  have n1 : 0 ≤ fac sw dp rate := by unfold fac; exact Pl.nr_nonneg (by omega) (by omega)
  have n2 : fac sw dp rate ≤ 1000000 := by unfold fac; exact Pl.nr_le (by omega) (by omega) (by omega)
  exact ⟨⟨a1, a2⟩, by omega, c, by omega, ⟨e1, e2⟩, by omega, by omega, ⟨r1, r2⟩, n1, n2⟩

set_option maxRecDepth 100000 in
theorem implfactor (nm : ByteArray) (sw dp sf lim rate : Int) (w : World) (h1 : 100 ≤ sw) (h2 : sw ≤ 10000) (h3 : 5 ≤ dp) (h4 : dp ≤ 500) (h5 : 1 ≤ rate) (h6 : rate ≤ 15000) :
    Calls Try.prog 172 #[.agg #[.string nm, .int .i64 sw, .int .i64 dp, .int .i64 sf, .int .i64 lim], .int .i64 rate] w fun e w' => e = .returned (.int .i64 (fac sw dp rate)) ∧ Below w.heap.size w w' := by
  obtain ⟨⟨a1, a2⟩, ⟨b1, b2⟩, ⟨c1, c2⟩, ⟨d1, d2⟩, ⟨e1, e2⟩, ⟨f1, f2⟩, ⟨g1, g2⟩, ⟨r1, r2⟩, -⟩ := fac_bounds h1 h2 h3 h4 h5 h6
  have E : Hid (fac sw dp rate = Pl.nr 1000000 (mx 1 (Pl.rt (fcS sw dp rate)))) := by unfold Hid fac; rfl
  have m1 : 1 ≤ mx 1 (Pl.rt (fcS sw dp rate)) := le_mx (.inl (by omega))
  have m2 : mx 1 (Pl.rt (fcS sw dp rate)) ≤ 30000000 := mx_le (by omega) r2
  have uA : fcA sw rate = 1000 - Pl.nr (fcR sw rate * fcR sw rate) 1000 := rfl
  have hA := hide uA
  go_enter Try.func172, Try.ntmps172
  go_wp2_with fail
  refine (nearest_any (1000 * rate) sw _ (by omega) (by omega) (by omega) (by omega)).mono ?_
  rintro e w1 ⟨rfl, n1, rfl⟩
  rw [show Pl.nr (1000 * rate) sw = fcR sw rate from rfl]
  go_wp2_with fail
  have hB : Hid (Pl.nr (2 * dp * fcR sw rate) 1000 = fcB sw dp rate) := rfl
  have k1 : IntKind.i64.wrap (fcR sw rate * fcR sw rate) = fcR sw rate * fcR sw rate := IntWalk.i64_in _ (by omega)
  have k2 : IntKind.i64.wrap (2 * dp) = 2 * dp := IntWalk.i64_in _ (by omega)
  have k3 : IntKind.i64.wrap (2 * dp * fcR sw rate) = 2 * dp * fcR sw rate := IntWalk.i64_in _ (by omega)
  have k4 : IntKind.i64.wrap (1000 - Pl.nr (fcR sw rate * fcR sw rate) 1000) = 1000 - Pl.nr (fcR sw rate * fcR sw rate) 1000 := IntWalk.i64_in _ (by omega)
  clear uA
  refine wp_region_kept (by kernel_rfl) (by kernel_rfl) ?_
  intro gc gf gz
  repeat (go_big_quiet_step ((go_at_call 171; exact Calls.kept_drew (nearest_any _ _ _ (by omega) (by omega) (by omega) (by omega)))))
  refine wpQuiet_nil ?_
  intro w2 hw'
  obtain ⟨⟨_, hb2⟩, rfl⟩ := hw'
  clear gc gf gz
  try dsimp only
  have fs2 := hb2.size
  try simp at fs2 hb2
  have hz2 : w.heap.size < w2.heap.size := by first | omega | (simp at fs2; omega)
  rw [← hA.out, hB.out]
  have k5 : IntKind.i64.wrap (fcA sw rate * fcA sw rate) = fcA sw rate * fcA sw rate := IntWalk.i64_in _ (by omega)
  have k6 : IntKind.i64.wrap (fcB sw dp rate * fcB sw dp rate) = fcB sw dp rate * fcB sw dp rate := IntWalk.i64_in _ (by omega)
  have k7 : IntKind.i64.wrap (fcA sw rate * fcA sw rate + fcB sw dp rate * fcB sw dp rate) = fcA sw rate * fcA sw rate + fcB sw dp rate * fcB sw dp rate := IntWalk.i64_in _ (by omega)
  go_wp2_with fail
  refine (RootOf_any _ _ (by omega)).mono ?_
  rintro e w3 ⟨rfl, rfl⟩
  rw [show fcA sw rate * fcA sw rate + fcB sw dp rate * fcB sw dp rate = fcS sw dp rate from rfl]
  have fm := fold_mx 1 (Pl.rt (fcS sw dp rate))
  go_wp2_with fail
  refine (nearest_any 1000000 (mx 1 (Pl.rt (fcS sw dp rate))) _ (by omega) (by omega) m1 (by omega)).mono ?_
  rintro e w4 ⟨rfl, n4, rfl⟩
  go_wp2_with fail
  go_ret
  exact ⟨ret_int E.out.symm, (by repeat (first | with_reducible exact Below.refl _ _ | with_reducible assumption | (with_reducible refine Below.drew ?_) | (with_reducible refine below_drewN ?_ _) | ((with_reducible refine Below.alloc ?_ ?_ _); rotate_left; (focus (first | omega | (simp; omega) | simp))) | ((with_reducible refine Below.setCell ?_ ?_ _); rotate_left; (focus (first | omega | (simp; omega) | simp))) | (refine Below.trans ?_ (Below.mono (by assumption) (by first | omega | (simp; omega) | simp)))))⟩
set_option maxRecDepth 100000 in
theorem specl22Factor (sw dp rate : Int) (bl : Nat) (w : World) (h1 : 100 ≤ sw) (h2 : sw ≤ 10000) (h3 : 5 ≤ dp) (h4 : dp ≤ 500) (h5 : 1 ≤ rate) (h6 : rate ≤ 15000)
    (q1 : w.cell? ⟨bl, 1, none⟩ = some (.int .i64 sw)) (q2 : w.cell? ⟨bl, 2, none⟩ = some (.int .i64 dp)) :
    Calls Try.prog 189 #[.pointer (some ⟨bl, 0, none⟩), .int .i64 rate] w fun e w' => e = .returned (.int .i64 (fac sw dp rate)) ∧ w = w' := by
  obtain ⟨⟨a1, a2⟩, ⟨b1, b2⟩, ⟨c1, c2⟩, ⟨d1, d2⟩, ⟨e1, e2⟩, ⟨f1, f2⟩, ⟨g1, g2⟩, ⟨r1, r2⟩, -⟩ := fac_bounds h1 h2 h3 h4 h5 h6
  have E : Hid (fac sw dp rate = Pl.nr 1000000 (mx 1 (Pl.rt (fcS sw dp rate)))) := by unfold Hid fac; rfl
  have m1 : 1 ≤ mx 1 (Pl.rt (fcS sw dp rate)) := le_mx (.inl (by omega))
  have m2 : mx 1 (Pl.rt (fcS sw dp rate)) ≤ 30000000 := mx_le (by omega) r2
  have uA : fcA sw rate = 1000 - Pl.nr (fcR sw rate * fcR sw rate) 1000 := rfl
  have hA := hide uA
  have k4 : IntKind.i64.wrap (1000 - Pl.nr (fcR sw rate * fcR sw rate) 1000) = 1000 - Pl.nr (fcR sw rate * fcR sw rate) 1000 := IntWalk.i64_in _ (by omega)
  clear uA
  go_enter Try.func189, Try.ntmps189
  go_wp2_with fail
  refine (l01Div_any (1000 * rate) sw _ (by omega) (by omega) (by omega) (by omega)).mono ?_
  rintro e w1 ⟨rfl, rfl⟩
  rw [show Pl.nr (1000 * rate) sw = fcR sw rate from rfl]
  have k1 : IntKind.i64.wrap (fcR sw rate * fcR sw rate) = fcR sw rate * fcR sw rate := IntWalk.i64_in _ (by omega)
  have k2 : IntKind.i64.wrap (2 * dp) = 2 * dp := IntWalk.i64_in _ (by omega)
  have k3 : IntKind.i64.wrap (2 * dp * fcR sw rate) = 2 * dp * fcR sw rate := IntWalk.i64_in _ (by omega)
  go_wp2_with fail
  refine (l01Div_any (fcR sw rate * fcR sw rate) 1000 _ (by omega) (by omega) (by omega) (by omega)).mono ?_
  rintro e w1 ⟨rfl, rfl⟩
  go_wp2_with fail
  refine (l01Div_any (2 * dp * fcR sw rate) 1000 _ (by omega) (by omega) (by omega) (by omega)).mono ?_
  rintro e w1 ⟨rfl, rfl⟩
  have hB : Hid (Pl.nr (2 * dp * fcR sw rate) 1000 = fcB sw dp rate) := rfl
  rw [hB.out]
  first | rw [← hA.out] | skip
  have k5 : IntKind.i64.wrap (fcA sw rate * fcA sw rate) = fcA sw rate * fcA sw rate := IntWalk.i64_in _ (by omega)
  have k6 : IntKind.i64.wrap (fcB sw dp rate * fcB sw dp rate) = fcB sw dp rate * fcB sw dp rate := IntWalk.i64_in _ (by omega)
  have k7 : IntKind.i64.wrap (fcA sw rate * fcA sw rate + fcB sw dp rate * fcB sw dp rate) = fcA sw rate * fcA sw rate + fcB sw dp rate * fcB sw dp rate := IntWalk.i64_in _ (by omega)
  go_wp2_with fail
  refine (l01Root_any _ _ (by omega)).mono ?_
  rintro e w3 ⟨rfl, rfl⟩
  rw [show fcA sw rate * fcA sw rate + fcB sw dp rate * fcB sw dp rate = fcS sw dp rate from rfl]
  go_wp2_with fail
  refine (specl00Max _ _ _).mono ?_
  rintro e w3 ⟨rfl, rfl⟩
  go_wp2_with fail
  refine (l01Div_any 1000000 (mx 1 (Pl.rt (fcS sw dp rate))) _ (by omega) (by omega) m1 (by omega)).mono ?_
  rintro e w4 ⟨rfl, rfl⟩
  go_wp2_with fail
  go_ret
  exact ⟨ret_int E.out.symm, rfl⟩
end Go.Proofs.Ytjklhacffdhgaaa
