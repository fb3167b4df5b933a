/- The least gap, on both sides, and the law. -/
import Derived.Test.YtobcjhbfkanakaaDoorClapper3
namespace Go.Proofs.YtobcjhbfkanakaaDoor
open Go.RowKit

@[irreducible] def gapFor (m l g t : Int) : Int × Int := if vClap m l g then (if inB t 0 1000000000000 then match Pl.firstFrom (fun x => decide (t ≤ cEn m l x)) 10 49991 with | some r => (r, 0) | none => (0, 3) else (0, 2)) else (0, 1)
theorem gapFor_1 {m l g t : Int} (h : vClap m l g = false) : gapFor m l g t = (0, 1) := by unfold gapFor; simp [h]
theorem gapFor_2 {m l g t : Int} (h : vClap m l g = true) (h2 : inB t 0 1000000000000 = false) : gapFor m l g t = (0, 2) := by unfold gapFor; simp [h, h2]
theorem gapFor_some {m l g t r : Int} (h : vClap m l g = true) (h2 : inB t 0 1000000000000 = true) (a : 10 ≤ r) (b : r ≤ 50000) (hr : t ≤ cEn m l r) (hj : ∀ j, 10 ≤ j → j < r → cEn m l j < t) : gapFor m l g t = (r, 0) := by
  unfold gapFor
  rw [if_pos h, if_pos h2, Pl.firstFrom_some (r := r) a (by omega) (by simpa using hr) (fun j a b => by have := hj j a b; simp; omega)]
theorem gapFor_none {m l g t : Int} (h : vClap m l g = true) (h2 : inB t 0 1000000000000 = true) (hj : ∀ j, 10 ≤ j → j ≤ 50000 → cEn m l j < t) : gapFor m l g t = (0, 3) := by
  unfold gapFor
  rw [if_pos h, if_pos h2, Pl.firstFrom_none (fun j a b => by have := hj j a (by omega); simp; omega)]

theorem implGapFor (m l g t : Int) (w : World) : Calls Tryd.prog 13 #[.agg #[.int .i64 m, .int .i64 l, .int .i64 g], .int .i64 t] w fun e w' =>
    e = .returned (.tuple #[.int .i64 (gapFor m l g t).1, .int .i64 (gapFor m l g t).2]) ∧ Below w.heap.size w w' := by
  cases h : vClap m l g
  · have e : Hid (gapFor m l g t = (0, 1)) := gapFor_1 h
    go_enter Tryd.func13, Tryd.ntmps13
    go_wp2_with (go_at_call 27; refine (implValidClapper m l g _).mono ?_; rintro e w' ⟨rfl, rfl⟩)
    go_ret2
    exact ⟨ret_two e.out, (by repeat (first | with_reducible exact Below.refl _ _ | with_reducible assumption | (with_reducible refine Below.drew ?_) | (with_reducible refine below_drewN ?_ _) | ((with_reducible refine Below.alloc ?_ ?_ _); rotate_left; (focus (first | omega | (simp; omega) | simp))) | ((with_reducible refine Below.setCell ?_ ?_ _); rotate_left; (focus (first | omega | (simp; omega) | simp))) | (refine Below.trans ?_ (Below.mono (by assumption) (by first | omega | (simp; omega) | simp)))))⟩
  · cases h2 : inB t 0 1000000000000
    · have e : Hid (gapFor m l g t = (0, 2)) := gapFor_2 h h2
      go_enter Tryd.func13, Tryd.ntmps13
      go_wp2_with (first
        | (go_at_call 27; refine (implValidClapper m l g _).mono ?_; rintro e w' ⟨rfl, rfl⟩)
        | (go_at_call 33; refine (implwithin_any _ _ _ _).mono ?_; rintro e w' ⟨rfl, rfl⟩))
      go_ret2
      exact ⟨ret_two e.out, (by repeat (first | with_reducible exact Below.refl _ _ | with_reducible assumption | (with_reducible refine Below.drew ?_) | (with_reducible refine below_drewN ?_ _) | ((with_reducible refine Below.alloc ?_ ?_ _); rotate_left; (focus (first | omega | (simp; omega) | simp))) | ((with_reducible refine Below.setCell ?_ ?_ _); rotate_left; (focus (first | omega | (simp; omega) | simp))) | (refine Below.trans ?_ (Below.mono (by assumption) (by first | omega | (simp; omega) | simp)))))⟩
    · have H := hide h
      have H2 := hide h2
      obtain ⟨⟨a1, a2⟩, ⟨b1, b2⟩, _⟩ := vClap_true h
      go_enter Tryd.func13, Tryd.ntmps13
      go_wp2_with (first
        | (go_at_call 27; refine (implValidClapper m l g _).mono ?_; rintro e w' ⟨rfl, rfl⟩)
        | (go_at_call 33; refine (implwithin_any _ _ _ _).mono ?_; rintro e w' ⟨rfl, rfl⟩))
      go_loopg [] 49991 (fun k wr => ∃ x : Int, 10 ≤ x ∧ Hid ((k : Int) = 50001 - x) ∧ wr.cell? ⟨w.heap.size, 0, none⟩ = some (.int .i64 m) ∧ wr.cell? ⟨w.heap.size, 1, none⟩ = some (.int .i64 l) ∧ wr.cell? ⟨w.heap.size, 2, none⟩ = some (.int .i64 x) ∧
        wr.frozen? ⟨w.heap.size, 2, none⟩ = false ∧ w.heap.size < wr.heap.size ∧ Hid (∀ j, 10 ≤ j → j < x → cEn m l j < t) ∧ Below w.heap.size w wr)
      case atStart => exact ⟨10, by omega, by unfold Hid; omega, by simp, by simp, by simp, by simp, by simp <;> omega, hide fun j a b => by omega, (by repeat (first | with_reducible exact Below.refl _ _ | with_reducible assumption | (with_reducible refine Below.drew ?_) | (with_reducible refine below_drewN ?_ _) | ((with_reducible refine Below.alloc ?_ ?_ _); rotate_left; (focus (first | omega | (simp; omega) | simp))) | ((with_reducible refine Below.setCell ?_ ?_ _); rotate_left; (focus (first | omega | (simp; omega) | simp))) | (refine Below.trans ?_ (Below.mono (by assumption) (by first | omega | (simp; omega) | simp)))))⟩
      case round =>
        obtain ⟨x, hx, hk, c0, c1, c2, fr, hz, hj, hb⟩ := hrel
        have hx2 : x ≤ 50001 := by have := hk.out; omega
        by_cases hl : x ≤ 50000
        · by_cases ht : t ≤ cEn m l x
          · have e : Hid (gapFor m l g t = (x, 0)) := gapFor_some H.out H2.out hx hl ht hj
            go_wp2_with (go_at_call 34; refine (implenergy m l x _ (by omega) a2 b1 b2 (by omega) hl).mono ?_; rintro e w1 ⟨rfl, hb1⟩; obtain ⟨fcb1, ffb1, fzb1⟩ := bfacts hb1 (by first | exact Nat.le_refl _ | omega | (simp; omega) | simp); have fsb1 := hb1.size; try simp at fcb1 ffb1 fzb1 fsb1 hb1)
            go_ret2
            exact ⟨ret_two e.out, (by repeat (first | with_reducible exact Below.refl _ _ | with_reducible assumption | (with_reducible refine Below.drew ?_) | (with_reducible refine below_drewN ?_ _) | ((with_reducible refine Below.alloc ?_ ?_ _); rotate_left; (focus (first | omega | (simp; omega) | simp))) | ((with_reducible refine Below.setCell ?_ ?_ _); rotate_left; (focus (first | omega | (simp; omega) | simp))) | (refine Below.trans ?_ (Below.mono (by assumption) (by first | omega | (simp; omega) | simp)))))⟩
          · have hj' : Hid (∀ j, 10 ≤ j → j < x + 1 → cEn m l j < t) := fun j a b => by
              by_cases e : j = x
              · subst e; omega
              · exact hj.out j a (by omega)
            go_wp2_with (go_at_call 34; refine (implenergy m l x _ (by omega) a2 b1 b2 (by omega) hl).mono ?_; rintro e w1 ⟨rfl, hb1⟩; obtain ⟨fcb1, ffb1, fzb1⟩ := bfacts hb1 (by first | exact Nat.le_refl _ | omega | (simp; omega) | simp); have fsb1 := hb1.size; try simp at fcb1 ffb1 fzb1 fsb1 hb1)
            go_roundg (gk - 1)
            case measure => have := hk.out; omega
            case rel => exact ⟨x + 1, by omega, by have := hk.out; unfold Hid; omega, by go_simp, by go_simp, by go_simp, by go_simp, by go_simp, hj', (by repeat (first | with_reducible exact Below.refl _ _ | with_reducible assumption | (with_reducible refine Below.drew ?_) | (with_reducible refine below_drewN ?_ _) | ((with_reducible refine Below.alloc ?_ ?_ _); rotate_left; (focus (first | omega | (simp; omega) | simp))) | ((with_reducible refine Below.setCell ?_ ?_ _); rotate_left; (focus (first | omega | (simp; omega) | simp))) | (refine Below.trans ?_ (Below.mono (by assumption) (by first | omega | (simp; omega) | simp)))))⟩
        · have e : Hid (gapFor m l g t = (0, 3)) := gapFor_none H.out H2.out fun j a b => hj.out j a (by omega)
          go_wp2_with fail
          go_ret2
          exact ⟨ret_two e.out, (by repeat (first | with_reducible exact Below.refl _ _ | with_reducible assumption | (with_reducible refine Below.drew ?_) | (with_reducible refine below_drewN ?_ _) | ((with_reducible refine Below.alloc ?_ ?_ _); rotate_left; (focus (first | omega | (simp; omega) | simp))) | ((with_reducible refine Below.setCell ?_ ?_ _); rotate_left; (focus (first | omega | (simp; omega) | simp))) | (refine Below.trans ?_ (Below.mono (by assumption) (by first | omega | (simp; omega) | simp)))))⟩
end Go.Proofs.YtobcjhbfkanakaaDoor
