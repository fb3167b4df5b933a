/- The amplitude of a swing, on both sides. -/
import Derived.Test.YtjklhacffdhgaaaSway
namespace Go.Proofs.Ytjklhacffdhgaaa
open Go.RowKit

def am1 (sw dp sf rate force : Int) : Int := Pl.nr (fac sw dp rate * force) (1000 * sf)
def am3 (sw dp sf rate force : Int) : Int := Pl.nr (fac sw dp (3 * rate) * force) (9000 * sf)
@[irreducible] def amp (sw dp sf rate force : Int) : Int := am1 sw dp sf rate force + am3 sw dp sf rate force
theorem amp_bounds {sw dp sf rate force : Int} (h1 : 100 ≤ sw) (h2 : sw ≤ 10000) (h3 : 5 ≤ dp) (h4 : dp ≤ 500) (s1 : 1 ≤ sf) (h5 : 100 ≤ rate) (h6 : rate ≤ 5000) (f1 : 1 ≤ force) (f2 : force ≤ 1000000) :
    (0 ≤ fac sw dp rate * force ∧ fac sw dp rate * force ≤ 1000000000000) ∧ (0 ≤ fac sw dp (3 * rate) * force ∧ fac sw dp (3 * rate) * force ≤ 1000000000000) ∧ (0 ≤ am1 sw dp sf rate force ∧ am1 sw dp sf rate force ≤ 1000000000) ∧ (0 ≤ am3 sw dp sf rate force ∧ am3 sw dp sf rate force ≤ 1000000000) ∧ (0 ≤ amp sw dp sf rate force ∧ amp sw dp sf rate force ≤ 2000000000) := by
  obtain ⟨-, -, -, -, -, -, -, -, a1, a2⟩ := fac_bounds h1 h2 h3 h4 (show 1 ≤ rate by omega) (show rate ≤ 15000 by omega)
  obtain ⟨-, -, -, -, -, -, -, -, b1, b2⟩ := fac_bounds h1 h2 h3 h4 (show 1 ≤ 3 * rate by omega) (show 3 * rate ≤ 15000 by omega)
  have c1 : 0 ≤ fac sw dp rate * force := Int.mul_nonneg a1 (by omega)
  have c2 : fac sw dp rate * force ≤ 1000000 * 1000000 := Int.mul_le_mul a2 f2 (by omega) (by omega)
  have d1 : 0 ≤ fac sw dp (3 * rate) * force := Int.mul_nonneg b1 (by omega)
  have d2 : fac sw dp (3 * rate) * force ≤ 1000000 * 1000000 := Int.mul_le_mul b2 f2 (by omega) (by omega)
  have e1 : 0 ≤ am1 sw dp sf rate force := Pl.nr_nonneg c1 (by omega)
  have e2 : am1 sw dp sf rate force ≤ 1000000000 := Pl.nr_le (by omega) (by omega) (by omega)
  have g1 : 0 ≤ am3 sw dp sf rate force := Pl.nr_nonneg d1 (by omega)
  have g2 : am3 sw dp sf rate force ≤ 1000000000 := Pl.nr_le (by omega) (by omega) (by omega)
  refine ⟨by omega, by omega, by omega, by omega, ?_⟩
  unfold amp
  omega
set_option maxRecDepth 100000 in
theorem implamplitude (nm bell : ByteArray) (sw dp sf lim rate force : Int) (w : World) (h1 : 100 ≤ sw) (h2 : sw ≤ 10000) (h3 : 5 ≤ dp) (h4 : dp ≤ 500) (s1 : 1 ≤ sf) (s2 : sf ≤ 1000000) (h5 : 100 ≤ rate) (h6 : rate ≤ 5000) (f1 : 1 ≤ force) (f2 : force ≤ 1000000) :
    Calls Try.prog 118 #[.agg #[.string nm, .int .i64 sw, .int .i64 dp, .int .i64 sf, .int .i64 lim], .agg #[.string bell, .int .i64 rate, .int .i64 force]] w fun e w' => e = .returned (.int .i64 (amp sw dp sf rate force)) ∧ Below w.heap.size w w' := by
  obtain ⟨⟨c1, c2⟩, ⟨d1, d2⟩, ⟨e1, e2⟩, ⟨g1, g2⟩, -⟩ := amp_bounds h1 h2 h3 h4 s1 h5 h6 f1 f2
  have E : Hid (amp sw dp sf rate force = Pl.nr (fac sw dp rate * force) (1000 * sf) + Pl.nr (fac sw dp (3 * rate) * force) (9000 * sf)) := by unfold Hid amp; rfl
  have k1 : IntKind.i64.wrap (fac sw dp rate * force) = fac sw dp rate * force := IntWalk.i64_in _ (by omega)
  have k2 : IntKind.i64.wrap (fac sw dp (3 * rate) * force) = fac sw dp (3 * rate) * force := IntWalk.i64_in _ (by omega)
  have k3 : IntKind.i64.wrap (1000 * sf) = 1000 * sf := IntWalk.i64_in _ (by omega)
  have k4 : IntKind.i64.wrap (9000 * sf) = 9000 * sf := IntWalk.i64_in _ (by omega)
  have k5 : IntKind.i64.wrap (3 * rate) = 3 * rate := IntWalk.i64_in _ (by omega)
  have k6 : IntKind.i64.wrap (Pl.nr (fac sw dp rate * force) (1000 * sf) + Pl.nr (fac sw dp (3 * rate) * force) (9000 * sf)) = Pl.nr (fac sw dp rate * force) (1000 * sf) + Pl.nr (fac sw dp (3 * rate) * force) (9000 * sf) := IntWalk.i64_in _ (by unfold am1 at e1 e2; unfold am3 at g1 g2; omega)
  go_enter Try.func118, Try.ntmps118
  go_wp2_with fail
  refine wp_region_kept (by kernel_rfl) (by kernel_rfl) ?_
  intro gc gf gz
  repeat (go_big_quiet_step ((first | (go_at_call 172; exact Calls.kept (implfactor _ _ _ _ _ _ _ h1 h2 h3 h4 (by omega) (by omega))) | (go_at_call 171; exact Calls.kept_drew (nearest_any _ _ _ (by omega) (by omega) (by omega) (by omega))))))
  refine wpQuiet_nil ?_
  intro w2 hw'
  obtain ⟨⟨_, hb2⟩, rfl⟩ := hw'
  clear gc gf gz
  try dsimp only
  have fs2 := hb2.size
  try simp at fs2 hb2
  have hz2 : w.heap.size < w2.heap.size := by first | omega | (simp at fs2; omega)
  go_wp2_with fail
  go_ret
  exact ⟨ret_int E.out.symm, (by repeat (first | with_reducible exact Below.refl _ _ | with_reducible assumption | (with_reducible refine Below.drew ?_) | (with_reducible refine below_drewN ?_ _) | ((with_reducible refine Below.alloc ?_ ?_ _); rotate_left; (focus (first | omega | (simp; omega) | simp))) | ((with_reducible refine Below.setCell ?_ ?_ _); rotate_left; (focus (first | omega | (simp; omega) | simp))) | (refine Below.trans ?_ (Below.mono (by assumption) (by first | omega | (simp; omega) | simp)))))⟩
set_option maxRecDepth 100000 in
theorem specl22Amplitude (sw dp sf rate force : Int) (bl bs os : Nat) (w : World) (hbl : bl < w.heap.size) (hbs : bs < w.heap.size) (h1 : 100 ≤ sw) (h2 : sw ≤ 10000) (h3 : 5 ≤ dp) (h4 : dp ≤ 500) (s1 : 1 ≤ sf) (s2 : sf ≤ 1000000) (h5 : 100 ≤ rate) (h6 : rate ≤ 5000) (f1 : 1 ≤ force) (f2 : force ≤ 1000000)
    (q1 : w.cell? ⟨bl, 1, none⟩ = some (.int .i64 sw)) (q2 : w.cell? ⟨bl, 2, none⟩ = some (.int .i64 dp)) (q3 : w.cell? ⟨bl, 3, none⟩ = some (.int .i64 sf)) (q4 : w.cell? ⟨bs, os + 1, none⟩ = some (.int .i64 rate)) (q5 : w.cell? ⟨bs, os + 2, none⟩ = some (.int .i64 force)) :
    Calls Try.prog 162 #[.pointer (some ⟨bl, 0, none⟩), .pointer (some ⟨bs, os, none⟩)] w fun e w' => e = .returned (.int .i64 (amp sw dp sf rate force)) ∧ Below w.heap.size w w' := by
  obtain ⟨⟨c1, c2⟩, ⟨d1, d2⟩, ⟨e1, e2⟩, ⟨g1, g2⟩, -⟩ := amp_bounds h1 h2 h3 h4 s1 h5 h6 f1 f2
  have E : Hid (amp sw dp sf rate force = Pl.nr (fac sw dp rate * force) (1000 * sf) + Pl.nr (fac sw dp (3 * rate) * force) (9000 * sf)) := by unfold Hid amp; rfl
  have k1 : IntKind.i64.wrap (fac sw dp rate * force) = fac sw dp rate * force := IntWalk.i64_in _ (by omega)
  have k2 : IntKind.i64.wrap (fac sw dp (3 * rate) * force) = fac sw dp (3 * rate) * force := IntWalk.i64_in _ (by omega)
  have k3 : IntKind.i64.wrap (1000 * sf) = 1000 * sf := IntWalk.i64_in _ (by omega)
  have k4 : IntKind.i64.wrap (9000 * sf) = 9000 * sf := IntWalk.i64_in _ (by omega)
  have k5 : IntKind.i64.wrap (3 * rate) = 3 * rate := IntWalk.i64_in _ (by omega)
  have k6 : IntKind.i64.wrap (Pl.nr (fac sw dp rate * force) (1000 * sf) + Pl.nr (fac sw dp (3 * rate) * force) (9000 * sf)) = Pl.nr (fac sw dp rate * force) (1000 * sf) + Pl.nr (fac sw dp (3 * rate) * force) (9000 * sf) := IntWalk.i64_in _ (by unfold am1 at e1 e2; unfold am3 at g1 g2; omega)
  go_enter Try.func162, Try.ntmps162
  go_wp2_with fail
  refine wp_region_kept (by kernel_rfl) (by kernel_rfl) ?_
  intro gc gf gz
  repeat (go_big_quiet_step ((first | (go_at_call 189; exact Calls.kept_same (specl22Factor sw dp _ bl _ h1 h2 h3 h4 (by omega) (by omega) ((gc _ _ _ hbl).trans q1) ((gc _ _ _ hbl).trans q2))) | (go_at_call 188; exact Calls.kept_same (l01Div_any _ _ _ (by omega) (by omega) (by omega) (by omega))))))
  refine wpQuiet_nil ?_
  intro w2 hw'
  obtain ⟨⟨_, hb2⟩, rfl⟩ := hw'
  clear gc gf gz
  try dsimp only
  have fs2 := hb2.size
  try simp at fs2 hb2
  go_wp2_with fail
  go_ret
  exact ⟨ret_int E.out.symm, (by repeat (first | with_reducible exact Below.refl _ _ | with_reducible assumption | (with_reducible refine Below.drew ?_) | (with_reducible refine below_drewN ?_ _) | ((with_reducible refine Below.alloc ?_ ?_ _); rotate_left; (focus (first | omega | (simp; omega) | simp))) | ((with_reducible refine Below.setCell ?_ ?_ _); rotate_left; (focus (first | omega | (simp; omega) | simp))) | (refine Below.trans ?_ (Below.mono (by assumption) (by first | omega | (simp; omega) | simp)))))⟩
end Go.Proofs.Ytjklhacffdhgaaa
