/- The planner's plain side: profiles after steps within the limits are valid; partials fall with steps. -/
import Derived.Test.YtnefgafmnpblpaaGreatPnS
namespace Go.Proofs.YtnefgafmnpblpaaGreat.Pn
open Go.Proofs.YtnefgafmnpblpaaGreat

theorem turn_zero {zs st : List Int} {rs : List RingR} (h : ∀ z, ig st z = 0) : turn zs st rs = rs := by
  unfold turn
  refine List.ext_getElem (by simp) fun i h1 h2 => ?_
  simp only [List.getElem_mapIdx, cutR]
  rw [h]
  simp
theorem roomTo_ok {zs : List Int} {rs : List RingR} {z : Nat} : ∀ (m n j : Nat), n < j → (j : Int) ≤ roomTo zs rs z n m → RingsOK (turn zs (only z (j : Int)) rs)
  | 0, n, j, h1, h2 => by simp [roomTo] at h2; omega
  | m + 1, n, j, h1, h2 => by
    by_cases h : RingsOK (turn zs (only z ((n : Int) + 1)) rs)
    · by_cases e : j = n + 1
      · subst e; simpa using h
      · rw [roomTo_yes h] at h2
        exact roomTo_ok m (n + 1) j (by omega) h2
    · rw [roomTo_no h] at h2; omega
theorem room_ok {zs : List Int} {rs : List RingR} (h : RingsOK rs) {z : Nat} {v : Int} (h0 : 0 ≤ v) (h1 : v ≤ room zs rs z) : RingsOK (turn zs (only z v) rs) := by
  by_cases e : v = 0
  · subst e
    rw [turn_zero fun k => by rw [ig_only]; split <;> rfl]
    exact h
  · obtain ⟨j, rfl⟩ : ∃ j : Nat, v = j := ⟨v.toNat, (Int.toNat_of_nonneg h0).symm⟩
    unfold room at h1
    exact roomTo_ok 20 0 j (by omega) h1
theorem hsum_turn {zs st : List Int} {rs : List RingR} : ∀ k, k ≤ rs.length → hsum (turn zs st rs) k = hsum rs k
  | 0, _ => rfl
  | k + 1, h => by
    unfold hsum
    rw [hsum_turn k (by omega), rg_turn zs st rs k (by omega)]
    rfl
/-- Steps that each zone alone allows. -/
def Fit (zs : List Int) (rs : List RingR) (st : List Int) : Prop := ∀ z, z < zs.length → 0 ≤ ig st z ∧ ig st z ≤ room zs rs z
theorem ring_only {zs st : List Int} {rs : List RingR} {k : Nat} (hk : k < rs.length) : rg (turn zs st rs) k = rg (turn zs (only (zoneAt zs (k : Int)) (ig st (zoneAt zs (k : Int)))) rs) k := by
  rw [rg_turn _ _ _ _ hk, rg_turn _ _ _ _ hk]
  unfold cutR
  rw [ig_only, if_pos rfl]
theorem turn_ok {zs st : List Int} {rs : List RingR} (h : RingsOK rs) (hz : 1 ≤ zs.length) (hf : Fit zs rs st) : RingsOK (turn zs st rs) := by
  have ok : ∀ k : Nat, RingsOK (turn zs (only (zoneAt zs (k : Int)) (ig st (zoneAt zs (k : Int)))) rs) := fun k => by
    have := hf _ (zoneAt_lt (i := (k : Int)) hz)
    exact room_ok h this.1 this.2
  have out : ∀ (st' : List Int) (k : Nat), k < rs.length → (rg (turn zs st' rs) k).outer = (rg rs k).outer := fun st' k hk => by rw [rg_turn _ _ _ _ hk]; rfl
  refine ⟨by rw [turn_length]; exact h.len1, by rw [turn_length]; exact h.len32, fun k hk => ?_, fun k hk => ?_, ?_⟩
  · rw [turn_length] at hk
    rw [ring_only hk]
    exact (ok k).ring k (by rw [turn_length]; exact hk)
  · rw [turn_length] at hk
    have a := ((ok k).join k (by rw [turn_length]; exact hk)).1
    have b := ((ok (k + 1)).join k (by rw [turn_length]; exact hk)).2
    rw [← ring_only (show k < rs.length by omega), out _ _ hk] at a
    rw [← ring_only (show k + 1 < rs.length by omega), out _ _ (show k < rs.length by omega)] at b
    rw [out _ _ hk, out _ _ (show k < rs.length by omega)]
    exact ⟨a, b⟩
  · rw [turn_length, hsum_turn _ (Nat.le_refl _)]; exact h.hgt
/-- The partials after steps. -/
def rawT (zs : List Int) (ws : List (List Int)) (bs : List Int) (rs : List RingR) (st : List Int) : List Int := rawP zs ws bs (turn zs st rs)
theorem lim_bd (zs : List Int) (rs : List RingR) {most : Int} (h0 : 0 ≤ most) : ∀ k, 0 ≤ ig (limB zs rs most) k ∧ ig (limB zs rs most) k ≤ 20 := by
  refine ig_all (fun k hk => ?_) (by omega) (by omega)
  rw [limB_length] at hk
  rw [limB_get zs rs most hk]
  have := room_bd zs rs k
  omega
theorem Pre.fit {zs : List Int} {rs : List RingR} {most : Int} {l : List Int} (h : Pre (limB zs rs most) l) : Fit zs rs l := fun z hz => by
  by_cases hl : z < l.length
  · have a := h.at_ z hl
    rw [limB_get zs rs most hz] at a
    omega
  · rw [ig_out (by omega)]
    have := room_bd zs rs z
    omega
theorem Pre.small {zs : List Int} {rs : List RingR} {most : Int} {l : List Int} (h : Pre (limB zs rs most) l) (h0 : 0 ≤ most) : SmallI l := fun k => by
  have := h.all (lim_bd zs rs h0) k
  omega
end Go.Proofs.YtnefgafmnpblpaaGreat.Pn
