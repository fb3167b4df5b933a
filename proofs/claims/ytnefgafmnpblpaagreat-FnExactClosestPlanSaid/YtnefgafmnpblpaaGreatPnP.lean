/- The planner's plain side: bounds of walls, sums and partials; that steps make partials lower. -/
import Derived.Test.YtnefgafmnpblpaaGreatPnN
namespace Go.Proofs.YtnefgafmnpblpaaGreat.Pn
open Go.Proofs.YtnefgafmnpblpaaGreat

/-- Rings with walls. -/
def WallOK (rs : List RingR) : Prop := ∀ k, k < rs.length → 500 ≤ (rg rs k).outer ∧ (rg rs k).outer ≤ 150000 ∧ 0 ≤ (rg rs k).inner ∧ (rg rs k).inner ≤ (rg rs k).outer
theorem WallOK.wall {rs : List RingR} (h : WallOK rs) {k : Nat} (hk : k < rs.length) : 0 ≤ wallR (rg rs k) ∧ wallR (rg rs k) ≤ 150000 := by
  have := h k hk
  unfold wallR; omega
theorem RingsOK.walls {rs : List RingR} (h : RingsOK rs) : WallOK rs := fun k hk => by
  have a := (h.ring k hk).o
  have b := (h.ring k hk).i
  omega
theorem wsum_bd {rs : List RingR} (h : WallOK rs) (a : Nat) : ∀ k, a + k ≤ rs.length → 0 ≤ wsum rs a k ∧ wsum rs a k ≤ 150000 * (k : Int)
  | 0, _ => by simp [wsum]
  | k + 1, hk => by
    have := wsum_bd h a k (by omega)
    have := h.wall (k := a + k) (by omega)
    unfold wsum; omega
theorem nr_bd {a b c : Int} (h0 : 0 ≤ a) (hb : 1 ≤ b) (h : a ≤ c * b) : 0 ≤ Pl.nr a b ∧ Pl.nr a b ≤ c := by
  unfold Pl.nr
  rw [if_pos h0]
  constructor
  · exact Int.ediv_nonneg (by omega) (by omega)
  · have h1 : 2 * a + b < (c + 1) * (2 * b) := by
      have e : (c + 1) * (2 * b) = 2 * (c * b) + 2 * b := by rw [Int.add_mul, Int.one_mul, Int.mul_left_comm]
      omega
    have := Int.ediv_lt_of_lt_mul (by omega) h1
    omega
theorem nr_mono {a a' b : Int} (h0 : 0 ≤ a) (hb : 1 ≤ b) (h : a ≤ a') : Pl.nr a b ≤ Pl.nr a' b := by
  unfold Pl.nr
  rw [if_pos h0, if_pos (by omega)]
  exact Int.ediv_le_ediv (by omega) (by omega)
theorem wallZ_bd {zs : List Int} {rs : List RingR} (hz : ZonesOK zs rs.length) (h : WallOK rs) {z : Nat} (hzl : z < zs.length) : 0 ≤ wallZ zs rs z ∧ wallZ zs rs z ≤ 150000 := by
  have a := hz.endZ_lt hzl
  have b := hz.nonneg hzl
  unfold wallZ
  have hs := wsum_bd h (ig zs z).toNat (endZ zs rs.length z - ig zs z).toNat (by omega)
  have e : (((endZ zs rs.length z - ig zs z).toNat : Nat) : Int) = endZ zs rs.length z - ig zs z := by omega
  rw [e] at hs
  exact nr_bd hs.1 (by omega) hs.2
theorem mom_bd {ws wl : List Int} (h1 : ∀ z, 0 ≤ ig ws z ∧ ig ws z ≤ 1000) (h2 : ∀ z, 0 ≤ ig wl z ∧ ig wl z ≤ 150000) : ∀ k : Nat, 0 ≤ mom ws wl k ∧ mom ws wl k ≤ 150000000 * (k : Int)
  | 0 => by simp [mom]
  | k + 1 => by
    have a := mom_bd h1 h2 k
    have b := h1 k
    have c := h2 k
    have d : 0 ≤ ig ws k * ig wl k := Int.mul_nonneg b.1 c.1
    have e : ig ws k * ig wl k ≤ 1000 * 150000 := Int.mul_le_mul b.2 c.2 c.1 (by omega)
    unfold mom; omega
theorem ig_all {l : List Int} {lo hi : Int} (h : ∀ k, k < l.length → lo ≤ ig l k ∧ ig l k ≤ hi) (h0 : lo ≤ 0) (h1 : 0 ≤ hi) : ∀ k, lo ≤ ig l k ∧ ig l k ≤ hi := fun k => by
  by_cases hk : k < l.length
  · exact h k hk
  · rw [ig_out (by omega)]; exact ⟨h0, h1⟩
theorem walls_bd {zs : List Int} {rs : List RingR} (hz : ZonesOK zs rs.length) (h : WallOK rs) : ∀ z, 0 ≤ ig (walls zs rs) z ∧ ig (walls zs rs) z ≤ 150000 :=
  ig_all (fun z hzl => by rw [walls_length] at hzl; rw [walls_get zs rs z hzl]; exact wallZ_bd hz h hzl) (by omega) (by omega)
theorem lip_bd {rs : List RingR} (h : WallOK rs) (h0 : 0 < rs.length) : 1000 ≤ lipR rs ∧ lipR rs ≤ 300000 := by
  have := h 0 h0
  unfold lipR; omega
theorem area_bd {rs : List RingR} (h : WallOK rs) (h0 : 0 < rs.length) : 1 ≤ area rs ∧ area rs ≤ 90000 := by
  have a := lip_bd h h0
  have b : 1000 * 1000 ≤ lipR rs * lipR rs := Int.mul_le_mul a.1 a.1 (by omega) (by omega)
  have c : lipR rs * lipR rs ≤ 300000 * 300000 := Int.mul_le_mul a.2 a.2 (by omega) (by omega)
  unfold area
  refine ⟨?_, (nr_bd (c := 90000) (by omega) (by omega) (by omega)).2⟩
  have := nr_mono (a := 1000000) (b := 1000000) (by omega) (by omega) (show (1000000 : Int) ≤ lipR rs * lipR rs by omega)
  have e : Pl.nr 1000000 1000000 = 1 := by decide
  omega
/-- Steps that are at least as many in each zone. -/
def StLe (st st' : List Int) : Prop := ∀ z, ig st z ≤ ig st' z
theorem wsum_turn {zs st st' : List Int} {rs : List RingR} (h : StLe st st') (a : Nat) : ∀ k, a + k ≤ rs.length → wsum (turn zs st' rs) a k ≤ wsum (turn zs st rs) a k
  | 0, _ => Int.le_refl _
  | k + 1, hk => by
    have ih := wsum_turn h (zs := zs) (rs := rs) a k (by omega)
    unfold wsum
    rw [rg_turn zs st rs (a + k) (by omega), rg_turn zs st' rs (a + k) (by omega)]
    have := h (zoneAt zs ((a + k : Nat) : Int))
    unfold wallR cutR
    simp only
    omega
end Go.Proofs.YtnefgafmnpblpaaGreat.Pn
