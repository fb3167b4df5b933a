/- What reads a clapper out of a text, on both sides. Conditions: the text is at most 2^20 bytes long; for the program the library's variables are laid. -/
import Derived.Test.YtobcjhbfkanakaaDoorWords
import Derived.Test.YtobcjhbfkanakaaDoorTextClapper
namespace Go.Proofs.YtobcjhbfkanakaaDoor
open Go.RowKit Go.Lib

/-- The clapper with a text. -/
def oClapper (l : List UInt8) : Option (Int × Int × Int) := match listO l with
  | some [x0, x1, x2] => if vClap x0 x1 x2 = true then some (x0, x1, x2) else none
  | _ => none
def rvClapper (l : List UInt8) : Value := match oClapper l with | some (x0, x1, x2) => .agg #[.int .i64 x0, .int .i64 x1, .int .i64 x2] | none => .agg #[.int .i64 0, .int .i64 0, .int .i64 0]
def rbClapper (l : List UInt8) : Bool := (oClapper l).isSome
theorem rvClapper_is (l : List UInt8) : ∃ (x0 x1 x2 : Int), rvClapper l = .agg #[.int .i64 x0, .int .i64 x1, .int .i64 x2] := by
  unfold rvClapper
  split
  · exact ⟨_, _, _, rfl⟩
  · exact ⟨_, _, _, rfl⟩
theorem rClapper_none {l : List UInt8} (h : oClapper l = none) : Hid (rvClapper l = .agg #[.int .i64 0, .int .i64 0, .int .i64 0]) ∧ Hid (rbClapper l = false) := by unfold Hid rvClapper rbClapper; rw [h]; exact ⟨rfl, rfl⟩
theorem rClapper_some {l : List UInt8} {x0 x1 x2 : Int} (h : oClapper l = some (x0, x1, x2)) : Hid (rvClapper l = .agg #[.int .i64 x0, .int .i64 x1, .int .i64 x2]) ∧ Hid (rbClapper l = true) := by unfold Hid rvClapper rbClapper; rw [h]; exact ⟨rfl, rfl⟩
theorem retClapper {u v : Value} {b c : Bool} (h : u = v) (h2 : b = c) : Ending.returned (.tuple #[u, .bool b]) = .returned (.tuple #[v, .bool c]) := by rw [h, h2]
set_option maxRecDepth 100000 in
set_option maxHeartbeats 4000000 in
theorem implReadClapper (s : ByteArray) (w : World) (hE : Env w) (hs : s.size ≤ 1048576) : Calls Tryd.prog 9 #[.string s] w fun e w' => e = .returned (.tuple #[rvClapper s.data.toList, .bool (rbClapper s.data.toList)]) ∧ Below w.heap.size w w' := by
  have HE := hide hE
  clear hE
  by_cases hx : (rdL s.data.toList).length = 3
  · have d3 : (((rdL s.data.toList).length : Int) != 3) = false := by simp; omega
    have hw := rdL_some hx (by decide)
    obtain ⟨x0, x1, x2, hxe⟩ : ∃ x0 x1 x2 : Int, rdL s.data.toList = [x0, x1, x2] := by
      match hm : rdL s.data.toList, hx with
      | [x0, x1, x2], _ => exact ⟨_, _, _, rfl⟩
    rw [hxe] at hw
    have HXE := hide hxe
    clear hxe hx
    cases hv : vClap x0 x1 x2
    · have E := rClapper_none (l := s.data.toList) (by unfold oClapper; rw [hw]; simp only; rw [if_neg (by rw [hv]; decide)])
      clear hw
      go_enter Tryd.func9, Tryd.ntmps9
      go_wp2_with fail
      refine (implReadList s _ (HE.out.below (by repeat (first | with_reducible exact Below.refl _ _ | with_reducible assumption | (with_reducible refine Below.drew ?_) | (with_reducible refine below_drewN ?_ _) | ((with_reducible refine Below.alloc ?_ ?_ _); rotate_left; (focus (first | omega | (simp; omega) | simp))) | ((with_reducible refine Below.setCell ?_ ?_ _); rotate_left; (focus (first | omega | (simp; omega) | simp))) | (refine Below.trans ?_ (Below.mono (by assumption) (by first | omega | (simp; omega) | simp)))))) hs).mono ?_
      rintro e w1 ⟨A, c, rfl, hA, hb1⟩
      rw [HXE.out] at hA
      obtain ⟨b, off, rfl, hbl, hc0⟩ := hA 0 (by simp)
      have h0 := hc0 0 _ rfl
      obtain ⟨b1, off1, e1, _, hc1⟩ := hA 1 (by simp)
      injection e1 with e1
      injection e1 with ea eb
      subst ea; subst eb
      have h1 := hc1 0 _ rfl
      obtain ⟨b2, off2, e2, _, hc2⟩ := hA 2 (by simp)
      injection e2 with e2
      injection e2 with ea eb
      subst ea; subst eb
      have h2 := hc2 0 _ rfl
      simp at h0 h1 h2
      have q0 := hb1.cell (p := ⟨w.heap.size, 0, none⟩) (by simp)
      have y0 := hb1.frozen (p := ⟨w.heap.size, 0, none⟩) (by simp)
      have q1 := hb1.cell (p := ⟨w.heap.size, 1, none⟩) (by simp)
      have y1 := hb1.frozen (p := ⟨w.heap.size, 1, none⟩) (by simp)
      have q2 := hb1.cell (p := ⟨w.heap.size, 2, none⟩) (by simp)
      have y2 := hb1.frozen (p := ⟨w.heap.size, 2, none⟩) (by simp)
      simp at q0 y0 q1 y1 q2 y2
      have HB1 := hide (Below.trans (show Below w.heap.size w (w.alloc (.cells #[.int .i64 0, .int .i64 0, .int .i64 0] 25)) from (by repeat (first | with_reducible exact Below.refl _ _ | with_reducible assumption | (with_reducible refine Below.drew ?_) | (with_reducible refine below_drewN ?_ _) | ((with_reducible refine Below.alloc ?_ ?_ _); rotate_left; (focus (first | omega | (simp; omega) | simp))) | ((with_reducible refine Below.setCell ?_ ?_ _); rotate_left; (focus (first | omega | (simp; omega) | simp))) | (refine Below.trans ?_ (Below.mono (by assumption) (by first | omega | (simp; omega) | simp)))))) (hb1.mono (by simp)))
      have hz1 := hb1.size
      simp at hz1
      have hz2 : w.heap.size < w1.heap.size := by omega
      clear hb1 hA hc0 hc1 hc2
      have hL : (rdL s.data.toList).length = 3 := by rw [HXE.out]; rfl
      go_wp2_with fail
      go_region
      all_goals
        go_wp2_with fail
        refine (implValidClapper x0 x1 x2 _).mono ?_
        rintro e w4 ⟨rfl, rfl⟩
        go_wp2_with fail
        refine bodyPost_ret (v := .tuple #[.agg #[.int .i64 0, .int .i64 0, .int .i64 0], .bool false]) (by simp [results, Tryd.results9, go_sem, q0, q1, q2, hz2, World.cell?_alloc_past]) rfl ⟨retClapper E.1.out.symm E.2.out.symm, (by repeat (first | with_reducible exact HB1.out | with_reducible exact HB4.out | with_reducible exact HB5.out | with_reducible exact Below.refl _ _ | with_reducible assumption | (with_reducible refine Below.drew ?_) | (with_reducible refine below_drewN ?_ _) | ((with_reducible refine Below.alloc ?_ ?_ _); rotate_left; (focus (first | omega | (simp; omega) | simp))) | ((with_reducible refine Below.setCell ?_ ?_ _); rotate_left; (focus (first | omega | (simp; omega) | simp))) | (refine Below.trans ?_ (Below.mono (by assumption) (by first | omega | (simp; omega) | simp)))))⟩
    · have E := rClapper_some (l := s.data.toList) (by unfold oClapper; rw [hw]; simp only; rw [if_pos hv])
      clear hw
      go_enter Tryd.func9, Tryd.ntmps9
      go_wp2_with fail
      refine (implReadList s _ (HE.out.below (by repeat (first | with_reducible exact Below.refl _ _ | with_reducible assumption | (with_reducible refine Below.drew ?_) | (with_reducible refine below_drewN ?_ _) | ((with_reducible refine Below.alloc ?_ ?_ _); rotate_left; (focus (first | omega | (simp; omega) | simp))) | ((with_reducible refine Below.setCell ?_ ?_ _); rotate_left; (focus (first | omega | (simp; omega) | simp))) | (refine Below.trans ?_ (Below.mono (by assumption) (by first | omega | (simp; omega) | simp)))))) hs).mono ?_
      rintro e w1 ⟨A, c, rfl, hA, hb1⟩
      rw [HXE.out] at hA
      obtain ⟨b, off, rfl, hbl, hc0⟩ := hA 0 (by simp)
      have h0 := hc0 0 _ rfl
      obtain ⟨b1, off1, e1, _, hc1⟩ := hA 1 (by simp)
      injection e1 with e1
      injection e1 with ea eb
      subst ea; subst eb
      have h1 := hc1 0 _ rfl
      obtain ⟨b2, off2, e2, _, hc2⟩ := hA 2 (by simp)
      injection e2 with e2
      injection e2 with ea eb
      subst ea; subst eb
      have h2 := hc2 0 _ rfl
      simp at h0 h1 h2
      have q0 := hb1.cell (p := ⟨w.heap.size, 0, none⟩) (by simp)
      have y0 := hb1.frozen (p := ⟨w.heap.size, 0, none⟩) (by simp)
      have q1 := hb1.cell (p := ⟨w.heap.size, 1, none⟩) (by simp)
      have y1 := hb1.frozen (p := ⟨w.heap.size, 1, none⟩) (by simp)
      have q2 := hb1.cell (p := ⟨w.heap.size, 2, none⟩) (by simp)
      have y2 := hb1.frozen (p := ⟨w.heap.size, 2, none⟩) (by simp)
      simp at q0 y0 q1 y1 q2 y2
      have HB1 := hide (Below.trans (show Below w.heap.size w (w.alloc (.cells #[.int .i64 0, .int .i64 0, .int .i64 0] 25)) from (by repeat (first | with_reducible exact Below.refl _ _ | with_reducible assumption | (with_reducible refine Below.drew ?_) | (with_reducible refine below_drewN ?_ _) | ((with_reducible refine Below.alloc ?_ ?_ _); rotate_left; (focus (first | omega | (simp; omega) | simp))) | ((with_reducible refine Below.setCell ?_ ?_ _); rotate_left; (focus (first | omega | (simp; omega) | simp))) | (refine Below.trans ?_ (Below.mono (by assumption) (by first | omega | (simp; omega) | simp)))))) (hb1.mono (by simp)))
      have hz1 := hb1.size
      simp at hz1
      have hz2 : w.heap.size < w1.heap.size := by omega
      clear hb1 hA hc0 hc1 hc2
      have hL : (rdL s.data.toList).length = 3 := by rw [HXE.out]; rfl
      go_wp2_with fail
      go_region
      all_goals
        go_wp2_with fail
        refine (implValidClapper x0 x1 x2 _).mono ?_
        rintro e w4 ⟨rfl, rfl⟩
        go_wp2_with fail
        refine bodyPost_ret (v := .tuple #[.agg #[.int .i64 x0, .int .i64 x1, .int .i64 x2], .bool true]) (by simp [results, Tryd.results9, go_sem, q0, q1, q2, hz2, World.cell?_alloc_past]) rfl ⟨retClapper E.1.out.symm E.2.out.symm, (by repeat (first | with_reducible exact HB1.out | with_reducible exact HB4.out | with_reducible exact HB5.out | with_reducible exact Below.refl _ _ | with_reducible assumption | (with_reducible refine Below.drew ?_) | (with_reducible refine below_drewN ?_ _) | ((with_reducible refine Below.alloc ?_ ?_ _); rotate_left; (focus (first | omega | (simp; omega) | simp))) | ((with_reducible refine Below.setCell ?_ ?_ _); rotate_left; (focus (first | omega | (simp; omega) | simp))) | (refine Below.trans ?_ (Below.mono (by assumption) (by first | omega | (simp; omega) | simp)))))⟩
  · have d3 : (((rdL s.data.toList).length : Int) != 3) = true := by simp; omega
    have E := rClapper_none (l := s.data.toList) (by
      unfold oClapper
      split
      · rename_i h; exact absurd (by unfold rdL; rw [h]; rfl) hx
      · rfl)
    clear hx
    go_enter Tryd.func9, Tryd.ntmps9
    go_wp2_with fail
    refine (implReadList s _ (HE.out.below (by repeat (first | with_reducible exact Below.refl _ _ | with_reducible assumption | (with_reducible refine Below.drew ?_) | (with_reducible refine below_drewN ?_ _) | ((with_reducible refine Below.alloc ?_ ?_ _); rotate_left; (focus (first | omega | (simp; omega) | simp))) | ((with_reducible refine Below.setCell ?_ ?_ _); rotate_left; (focus (first | omega | (simp; omega) | simp))) | (refine Below.trans ?_ (Below.mono (by assumption) (by first | omega | (simp; omega) | simp)))))) hs).mono ?_
    rintro e w1 ⟨A, c, rfl, hA, hb1⟩
    have q0 := hb1.cell (p := ⟨w.heap.size, 0, none⟩) (by simp)
    have y0 := hb1.frozen (p := ⟨w.heap.size, 0, none⟩) (by simp)
    have q1 := hb1.cell (p := ⟨w.heap.size, 1, none⟩) (by simp)
    have y1 := hb1.frozen (p := ⟨w.heap.size, 1, none⟩) (by simp)
    have q2 := hb1.cell (p := ⟨w.heap.size, 2, none⟩) (by simp)
    have y2 := hb1.frozen (p := ⟨w.heap.size, 2, none⟩) (by simp)
    simp at q0 y0 q1 y1 q2 y2
    have HB1 := hide (Below.trans (show Below w.heap.size w (w.alloc (.cells #[.int .i64 0, .int .i64 0, .int .i64 0] 25)) from (by repeat (first | with_reducible exact Below.refl _ _ | with_reducible assumption | (with_reducible refine Below.drew ?_) | (with_reducible refine below_drewN ?_ _) | ((with_reducible refine Below.alloc ?_ ?_ _); rotate_left; (focus (first | omega | (simp; omega) | simp))) | ((with_reducible refine Below.setCell ?_ ?_ _); rotate_left; (focus (first | omega | (simp; omega) | simp))) | (refine Below.trans ?_ (Below.mono (by assumption) (by first | omega | (simp; omega) | simp)))))) (hb1.mono (by simp)))
    clear hb1 hA
    go_wp2_with fail
    refine bodyPost_ret (v := .tuple #[.agg #[.int .i64 0, .int .i64 0, .int .i64 0], .bool false]) (by simp [results, Tryd.results9, go_sem, q0, q1, q2]) rfl ⟨retClapper E.1.out.symm E.2.out.symm, (by repeat (first | with_reducible exact HB1.out | with_reducible exact HB4.out | with_reducible exact HB5.out | with_reducible exact Below.refl _ _ | with_reducible assumption | (with_reducible refine Below.drew ?_) | (with_reducible refine below_drewN ?_ _) | ((with_reducible refine Below.alloc ?_ ?_ _); rotate_left; (focus (first | omega | (simp; omega) | simp))) | ((with_reducible refine Below.setCell ?_ ?_ _); rotate_left; (focus (first | omega | (simp; omega) | simp))) | (refine Below.trans ?_ (Below.mono (by assumption) (by first | omega | (simp; omega) | simp)))))⟩
end Go.Proofs.YtobcjhbfkanakaaDoor
