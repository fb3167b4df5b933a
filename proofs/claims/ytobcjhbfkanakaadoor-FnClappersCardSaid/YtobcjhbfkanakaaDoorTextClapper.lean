/- The text of a clapper, on both sides. Conditions: the name is no longer than a Go string can be; what is read lies in memory; the library's table of powers of ten is laid. -/
import Derived.Test.YtobcjhbfkanakaaDoorTexts
namespace Go.Proofs.YtobcjhbfkanakaaDoor
open Go.RowKit Go.Lib

theorem vClap_vals {x0 x1 x2 : Int} (h : vClap x0 x1 x2 = true) : ∀ x ∈ [x0, x1, x2], -1000000000000 ≤ x ∧ x ≤ 1000000000000 := by
  have h2 := vClap_true h
  simp; omega
/-- The text of a clapper, empty if it is not valid. -/
def txClapper (x0 x1 x2 : Int) : ByteArray := if vClap x0 x1 x2 = true then ⟨(rowText [x0, x1, x2]).toArray⟩ else ByteArray.empty
set_option maxRecDepth 100000 in
set_option maxHeartbeats 2000000 in
theorem implClapperText (x0 x1 x2 : Int) (w : World) (hE : EnvT w) : Calls Tryd.prog 10 #[.agg #[.int .i64 x0, .int .i64 x1, .int .i64 x2]] w fun e w' => e = .returned (.string (txClapper x0 x1 x2)) ∧ Below w.heap.size w w' := by
  have HE := hide hE
  clear hE
  cases hv : vClap x0 x1 x2
  · have e : Hid (txClapper x0 x1 x2 = ByteArray.empty) := by unfold Hid txClapper; rw [if_neg (by rw [hv]; decide)]
    go_enter Tryd.func10, Tryd.ntmps10
    go_wp2_with (go_at_call 27; refine (implValidClapper x0 x1 x2 _).mono ?_; rintro e1 w1 ⟨rfl, rfl⟩)
    go_ret
    exact ⟨ret_st e.out.symm, (by repeat (first | with_reducible exact Below.refl _ _ | with_reducible assumption | (with_reducible refine Below.drew ?_) | (with_reducible refine below_drewN ?_ _) | ((with_reducible refine Below.alloc ?_ ?_ _); rotate_left; (focus (first | omega | (simp; omega) | simp))) | ((with_reducible refine Below.setCell ?_ ?_ _); rotate_left; (focus (first | omega | (simp; omega) | simp))) | (refine Below.trans ?_ (Below.mono (by assumption) (by first | omega | (simp; omega) | simp)))))⟩
  · have e : Hid (txClapper x0 x1 x2 = ⟨(rowText [x0, x1, x2]).toArray⟩) := by unfold Hid txClapper; rw [if_pos hv]
    have hq := vClap_vals hv
    have hrl := rowText_len (xs := [x0, x1, x2]) (by simp) (fun x hx => by have := hq x hx; omega)
    simp only [List.length_cons, List.length_nil] at hrl
    have HQ := hide hq
    clear hq hrl
    go_enter Tryd.func10, Tryd.ntmps10
    go_wp2_with (go_at_call 27; refine (implValidClapper x0 x1 x2 _).mono ?_; rintro e1 w1 ⟨rfl, rfl⟩)
    refine (implListText_row _ 3 [x0, x1, x2] _ (by have h := slat_lit ((w.alloc (.cells #[.int .i64 x0, .int .i64 x1, .int .i64 x2] 25)).alloc (.cells #[.int .i64 x0, .int .i64 x1, .int .i64 x2] 25)) [x0, x1, x2]; simpa using h) (HE.out.below (by repeat (first | with_reducible exact Below.refl _ _ | with_reducible assumption | (with_reducible refine Below.drew ?_) | (with_reducible refine below_drewN ?_ _) | ((with_reducible refine Below.alloc ?_ ?_ _); rotate_left; (focus (first | omega | (simp; omega) | simp))) | ((with_reducible refine Below.setCell ?_ ?_ _); rotate_left; (focus (first | omega | (simp; omega) | simp))) | (refine Below.trans ?_ (Below.mono (by assumption) (by first | omega | (simp; omega) | simp)))))) (by simp) (fun x hx => by have := HQ.out x hx; omega) (list_row (by simp) HQ.out)).mono ?_
    rintro e2 w2 ⟨rfl, hb2⟩
    obtain ⟨fcb2, ffb2, fzb2⟩ := bfacts hb2 (by first | exact Nat.le_refl _ | omega | (simp; omega) | simp); have fsb2 := hb2.size; try simp at fcb2 ffb2 fzb2 fsb2 hb2
    go_wp2_with fail
    go_ret
    exact ⟨ret_st e.out.symm, (by repeat (first | with_reducible exact Below.refl _ _ | with_reducible assumption | (with_reducible refine Below.drew ?_) | (with_reducible refine below_drewN ?_ _) | ((with_reducible refine Below.alloc ?_ ?_ _); rotate_left; (focus (first | omega | (simp; omega) | simp))) | ((with_reducible refine Below.setCell ?_ ?_ _); rotate_left; (focus (first | omega | (simp; omega) | simp))) | (refine Below.trans ?_ (Below.mono (by assumption) (by first | omega | (simp; omega) | simp)))))⟩
end Go.Proofs.YtobcjhbfkanakaaDoor
