/- What reads a swing out of a text, on both sides. Conditions: the text is at most 2^20 bytes long; for the program the library's variables are laid. -/
import Derived.Test.YtphlejphkipbpaaDoorWords
import Derived.Test.YtphlejphkipbpaaDoorTextSwing
namespace Go.Proofs.YtphlejphkipbpaaDoor
open Go.RowKit Go.Lib

/-- The swing with a text. -/
def oSwing (l : List UInt8) : Option (ByteArray × Int × Int) := match wordsO l 2 with
  | some (a, [x1, x2]) => if vSwing ⟨a.toArray⟩ x1 x2 = true then some (⟨a.toArray⟩, x1, x2) else none
  | _ => none
def rvSwing (l : List UInt8) : Value := match oSwing l with | some (a, x1, x2) => .agg #[.string a, .int .i64 x1, .int .i64 x2] | none => .agg #[.string ⟨#[]⟩, .int .i64 0, .int .i64 0]
def rbSwing (l : List UInt8) : Bool := (oSwing l).isSome
theorem rvSwing_is (l : List UInt8) : ∃ (a : ByteArray) (x1 x2 : Int), rvSwing l = .agg #[.string a, .int .i64 x1, .int .i64 x2] := by
  unfold rvSwing
  split
  · exact ⟨_, _, _, rfl⟩
  · exact ⟨_, _, _, rfl⟩
theorem rSwing_none {l : List UInt8} (h : oSwing l = none) : Hid (rvSwing l = .agg #[.string ⟨#[]⟩, .int .i64 0, .int .i64 0]) ∧ Hid (rbSwing l = false) := by unfold Hid rvSwing rbSwing; rw [h]; exact ⟨rfl, rfl⟩
theorem rSwing_some {l : List UInt8} {a : ByteArray} {x1 x2 : Int} (h : oSwing l = some (a, x1, x2)) : Hid (rvSwing l = .agg #[.string a, .int .i64 x1, .int .i64 x2]) ∧ Hid (rbSwing l = true) := by unfold Hid rvSwing rbSwing; rw [h]; exact ⟨rfl, rfl⟩
theorem retSwing {u v : Value} {b c : Bool} (h : u = v) (h2 : b = c) : Ending.returned (.tuple #[u, .bool b]) = .returned (.tuple #[v, .bool c]) := by rw [h, h2]
theorem text_backSwing {s : ByteArray} {x1 x2 : Int} (hw : wordsO s.data.toList 2 = some ((hdB s).data.toList, [x1, x2])) (hv : vSwing (hdB s) x1 x2 = true) : (txSwing (hdB s) x1 x2).toList == s.toList := by
  have hq := (vSwing_vals hv).2
  have h1 := (words_text hw).1
  have h2 : txSwing (hdB s) x1 x2 = s := Go.WideShapes.bytes_inj (by
    unfold txSwing twoW
    rw [if_pos hv, h1, list_row (by simp) hq]
    simp)
  rw [h2]
  simp
set_option maxRecDepth 100000 in
set_option maxHeartbeats 4000000 in
theorem specReadSwing (s : ByteArray) (w : World) (hs : s.size ≤ 1048576) : Calls Tryd.prog 40 #[.string s] w fun e w' => e = .returned (.tuple #[rvSwing s.data.toList, .bool (rbSwing s.data.toList)]) ∧ Below w.heap.size w w' := by
  cases hw : wordsO s.data.toList 2 with
  | none =>
    obtain ⟨e1, e2, e3⟩ := wd_none hw
    have E := rSwing_none (l := s.data.toList) (by unfold oSwing; rw [hw])
    clear hw
    go_enter Tryd.func40, Tryd.ntmps40
    go_wp2_with fail
    refine (specl22Words s 2 _ hs).mono ?_
    rintro e w1 ⟨A, c, he, hA, hb1⟩
    rw [e1.out, e2.out, e3.out] at he
    subst he
    have q0 := hb1.cell (p := ⟨w.heap.size, 0, none⟩) (by simp)
    have y0 := hb1.frozen (p := ⟨w.heap.size, 0, none⟩) (by simp)
    have q1 := hb1.cell (p := ⟨w.heap.size, 1, none⟩) (by simp)
    have y1 := hb1.frozen (p := ⟨w.heap.size, 1, none⟩) (by simp)
    have q2 := hb1.cell (p := ⟨w.heap.size, 2, none⟩) (by simp)
    have y2 := hb1.frozen (p := ⟨w.heap.size, 2, none⟩) (by simp)
    simp at q0 y0 q1 y1 q2 y2
    have HB1 := hide (Below.trans (show Below w.heap.size w (w.alloc (.cells #[.string ⟨#[]⟩, .int .i64 0, .int .i64 0] 32)) from (by repeat (first | with_reducible exact Below.refl _ _ | with_reducible assumption | (with_reducible refine Below.drew ?_) | (with_reducible refine below_drewN ?_ _) | ((with_reducible refine Below.alloc ?_ ?_ _); rotate_left; (focus (first | omega | (simp; omega) | simp))) | ((with_reducible refine Below.setCell ?_ ?_ _); rotate_left; (focus (first | omega | (simp; omega) | simp))) | (refine Below.trans ?_ (Below.mono (by assumption) (by first | omega | (simp; omega) | simp)))))) (hb1.mono (by simp)))
    clear hb1 hA
    go_wp2_with fail
    refine bodyPost_ret (v := .tuple #[.agg #[.string ⟨#[]⟩, .int .i64 0, .int .i64 0], .bool false]) (by simp [results, Tryd.results40, go_sem, q0, q1, q2]) rfl ⟨retSwing E.1.out.symm E.2.out.symm, (by repeat (first | with_reducible exact HB1.out | with_reducible exact HB4.out | with_reducible exact HB5.out | with_reducible exact Below.refl _ _ | with_reducible assumption | (with_reducible refine Below.drew ?_) | (with_reducible refine below_drewN ?_ _) | ((with_reducible refine Below.alloc ?_ ?_ _); rotate_left; (focus (first | omega | (simp; omega) | simp))) | ((with_reducible refine Below.setCell ?_ ?_ _); rotate_left; (focus (first | omega | (simp; omega) | simp))) | (refine Below.trans ?_ (Below.mono (by assumption) (by first | omega | (simp; omega) | simp)))))⟩
  | some r =>
    obtain ⟨a, xs⟩ := r
    obtain ⟨hl, hx⟩ := words_text hw
    obtain ⟨e1, e2, e3⟩ := wd_some hw
    obtain ⟨x1, x2, rfl⟩ : ∃ x1 x2 : Int, xs = [x1, x2] := by
      match xs, hx with
      | [x1, x2], _ => exact ⟨_, _, rfl⟩
    have hal : a.length ≤ 1048576 := by
      have h1 : s.data.toList.length = s.size := by simp
      have h2 := congrArg List.length hl
      simp at h2
      omega
    obtain ⟨nm, hnm⟩ : ∃ nm : ByteArray, nm = ⟨a.toArray⟩ := ⟨_, rfl⟩
    have hns : nm.size ≤ maxLen := by rw [hnm]; unfold maxLen; simp [ByteArray.size]; omega
    have HNM := hide hnm
    clear hnm
    cases hv : vSwing nm x1 x2
    · have E := rSwing_none (l := s.data.toList) (by unfold oSwing; rw [hw]; simp only; rw [← HNM.out]; rw [if_neg (by rw [hv]; decide)])
      clear hw hl hal
      go_enter Tryd.func40, Tryd.ntmps40
      go_wp2_with fail
      refine (specl22Words s 2 _ hs).mono ?_
      rintro e w1 ⟨A, c, he, hA, hb1⟩
      rw [e1.out, e2.out, e3.out, ← HNM.out] at he
      rw [e2.out] at hA
      subst he
      obtain ⟨b, off, rfl, hbl, hc0⟩ := hA 0 (by simp)
      have h0 := hc0 0 _ rfl
      obtain ⟨b1, off1, e1, _, hc1⟩ := hA 1 (by simp)
      injection e1 with e1
      injection e1 with ea eb
      subst ea; subst eb
      have h1 := hc1 0 _ rfl
      simp at h0 h1
      have q0 := hb1.cell (p := ⟨w.heap.size, 0, none⟩) (by simp)
      have y0 := hb1.frozen (p := ⟨w.heap.size, 0, none⟩) (by simp)
      have q1 := hb1.cell (p := ⟨w.heap.size, 1, none⟩) (by simp)
      have y1 := hb1.frozen (p := ⟨w.heap.size, 1, none⟩) (by simp)
      have q2 := hb1.cell (p := ⟨w.heap.size, 2, none⟩) (by simp)
      have y2 := hb1.frozen (p := ⟨w.heap.size, 2, none⟩) (by simp)
      simp at q0 y0 q1 y1 q2 y2
      have HB1 := hide (Below.trans (show Below w.heap.size w (w.alloc (.cells #[.string ⟨#[]⟩, .int .i64 0, .int .i64 0] 32)) from (by repeat (first | with_reducible exact Below.refl _ _ | with_reducible assumption | (with_reducible refine Below.drew ?_) | (with_reducible refine below_drewN ?_ _) | ((with_reducible refine Below.alloc ?_ ?_ _); rotate_left; (focus (first | omega | (simp; omega) | simp))) | ((with_reducible refine Below.setCell ?_ ?_ _); rotate_left; (focus (first | omega | (simp; omega) | simp))) | (refine Below.trans ?_ (Below.mono (by assumption) (by first | omega | (simp; omega) | simp)))))) (hb1.mono (by simp)))
      have hz1 := hb1.size
      simp at hz1
      have hz2 : w.heap.size < w1.heap.size := by omega
      have hz3 : w.heap.size ≠ w1.heap.size := by omega
      clear hb1 hA hc0 hc1
      go_wp2_with fail
      go_region
      all_goals
        go_wp2_with fail
        refine (specl22One _ 0 nm x1 x2 _ hns (by simp) (by simp) (by simp)).mono ?_
        rintro e w2 ⟨rfl, rfl⟩
        go_wp2_with fail
        refine bodyPost_ret (v := .tuple #[.agg #[.string ⟨#[]⟩, .int .i64 0, .int .i64 0], .bool false]) (by simp [results, Tryd.results40, go_sem, q0, q1, q2, hz2, World.cell?_alloc_past]) rfl ⟨retSwing E.1.out.symm E.2.out.symm, (by repeat (first | with_reducible exact HB1.out | with_reducible exact HB4.out | with_reducible exact HB5.out | with_reducible exact Below.refl _ _ | with_reducible assumption | (with_reducible refine Below.drew ?_) | (with_reducible refine below_drewN ?_ _) | ((with_reducible refine Below.alloc ?_ ?_ _); rotate_left; (focus (first | omega | (simp; omega) | simp))) | ((with_reducible refine Below.setCell ?_ ?_ _); rotate_left; (focus (first | omega | (simp; omega) | simp))) | (refine Below.trans ?_ (Below.mono (by assumption) (by first | omega | (simp; omega) | simp)))))⟩
    · have E := rSwing_some (l := s.data.toList) (by unfold oSwing; rw [hw]; simp only; rw [← HNM.out]; rw [if_pos hv])
      clear hw hl hal
      go_enter Tryd.func40, Tryd.ntmps40
      go_wp2_with fail
      refine (specl22Words s 2 _ hs).mono ?_
      rintro e w1 ⟨A, c, he, hA, hb1⟩
      rw [e1.out, e2.out, e3.out, ← HNM.out] at he
      rw [e2.out] at hA
      subst he
      obtain ⟨b, off, rfl, hbl, hc0⟩ := hA 0 (by simp)
      have h0 := hc0 0 _ rfl
      obtain ⟨b1, off1, e1, _, hc1⟩ := hA 1 (by simp)
      injection e1 with e1
      injection e1 with ea eb
      subst ea; subst eb
      have h1 := hc1 0 _ rfl
      simp at h0 h1
      have q0 := hb1.cell (p := ⟨w.heap.size, 0, none⟩) (by simp)
      have y0 := hb1.frozen (p := ⟨w.heap.size, 0, none⟩) (by simp)
      have q1 := hb1.cell (p := ⟨w.heap.size, 1, none⟩) (by simp)
      have y1 := hb1.frozen (p := ⟨w.heap.size, 1, none⟩) (by simp)
      have q2 := hb1.cell (p := ⟨w.heap.size, 2, none⟩) (by simp)
      have y2 := hb1.frozen (p := ⟨w.heap.size, 2, none⟩) (by simp)
      simp at q0 y0 q1 y1 q2 y2
      have HB1 := hide (Below.trans (show Below w.heap.size w (w.alloc (.cells #[.string ⟨#[]⟩, .int .i64 0, .int .i64 0] 32)) from (by repeat (first | with_reducible exact Below.refl _ _ | with_reducible assumption | (with_reducible refine Below.drew ?_) | (with_reducible refine below_drewN ?_ _) | ((with_reducible refine Below.alloc ?_ ?_ _); rotate_left; (focus (first | omega | (simp; omega) | simp))) | ((with_reducible refine Below.setCell ?_ ?_ _); rotate_left; (focus (first | omega | (simp; omega) | simp))) | (refine Below.trans ?_ (Below.mono (by assumption) (by first | omega | (simp; omega) | simp)))))) (hb1.mono (by simp)))
      have hz1 := hb1.size
      simp at hz1
      have hz2 : w.heap.size < w1.heap.size := by omega
      have hz3 : w.heap.size ≠ w1.heap.size := by omega
      clear hb1 hA hc0 hc1
      go_wp2_with fail
      go_region
      all_goals
        go_wp2_with fail
        refine (specl22One _ 0 nm x1 x2 _ hns (by simp) (by simp) (by simp)).mono ?_
        rintro e w2 ⟨rfl, rfl⟩
        go_wp2_with fail
        refine bodyPost_ret (v := .tuple #[.agg #[.string nm, .int .i64 x1, .int .i64 x2], .bool true]) (by simp [results, Tryd.results40, go_sem, q0, q1, q2, hz2, World.cell?_alloc_past]) rfl ⟨retSwing E.1.out.symm E.2.out.symm, (by repeat (first | with_reducible exact HB1.out | with_reducible exact HB4.out | with_reducible exact HB5.out | with_reducible exact Below.refl _ _ | with_reducible assumption | (with_reducible refine Below.drew ?_) | (with_reducible refine below_drewN ?_ _) | ((with_reducible refine Below.alloc ?_ ?_ _); rotate_left; (focus (first | omega | (simp; omega) | simp))) | ((with_reducible refine Below.setCell ?_ ?_ _); rotate_left; (focus (first | omega | (simp; omega) | simp))) | (refine Below.trans ?_ (Below.mono (by assumption) (by first | omega | (simp; omega) | simp)))))⟩
set_option maxRecDepth 100000 in
set_option maxHeartbeats 4000000 in
theorem implReadSwing (s : ByteArray) (w : World) (hE : Env w) (hs : s.size ≤ 1048576) : Calls Tryd.prog 41 #[.string s] w fun e w' => e = .returned (.tuple #[rvSwing s.data.toList, .bool (rbSwing s.data.toList)]) ∧ Below w.heap.size w w' := by
  have HE := hide hE
  clear hE
  have hz := hd_size s
  by_cases hx : (rdL (rsB s).data.toList).length = 2
  · have d3 : (((rdL (rsB s).data.toList).length : Int) != 2) = false := by simp; omega
    have hw := words_yes hx (by decide)
    obtain ⟨x1, x2, hxe⟩ : ∃ x1 x2 : Int, rdL (rsB s).data.toList = [x1, x2] := by
      match hm : rdL (rsB s).data.toList, hx with
      | [x1, x2], _ => exact ⟨_, _, rfl⟩
    rw [hxe] at hw
    have HXE := hide hxe
    clear hxe hx
    cases hv : vSwing (hdB s) x1 x2
    · have E := rSwing_none (l := s.data.toList) (by unfold oSwing; rw [hw]; simp only; rw [bytes_back]; rw [if_neg (by rw [hv]; decide)])
      clear hw
      go_enter Tryd.func41, Tryd.ntmps41
      go_wp2_with fail
      refine (cutAt32 s _ (HE.out.below (by repeat (first | with_reducible exact Below.refl _ _ | with_reducible assumption | (with_reducible refine Below.drew ?_) | (with_reducible refine below_drewN ?_ _) | ((with_reducible refine Below.alloc ?_ ?_ _); rotate_left; (focus (first | omega | (simp; omega) | simp))) | ((with_reducible refine Below.setCell ?_ ?_ _); rotate_left; (focus (first | omega | (simp; omega) | simp))) | (refine Below.trans ?_ (Below.mono (by assumption) (by first | omega | (simp; omega) | simp)))))) hs).mono ?_
      rintro e w0 ⟨rfl, hb0⟩
      have hb0' := hide hb0
      have z0 := hb0.size
      clear hb0
      go_wp2_with fail
      refine (implReadList (rsB s) _ (HE.out.below (Below.trans (show Below w.heap.size w (w.alloc (.cells #[.string ⟨#[]⟩, .int .i64 0, .int .i64 0] 32)) from (by repeat (first | with_reducible exact Below.refl _ _ | with_reducible assumption | (with_reducible refine Below.drew ?_) | (with_reducible refine below_drewN ?_ _) | ((with_reducible refine Below.alloc ?_ ?_ _); rotate_left; (focus (first | omega | (simp; omega) | simp))) | ((with_reducible refine Below.setCell ?_ ?_ _); rotate_left; (focus (first | omega | (simp; omega) | simp))) | (refine Below.trans ?_ (Below.mono (by assumption) (by first | omega | (simp; omega) | simp)))))) (hb0'.out.mono (by simp)))) (by omega)).mono ?_
      rintro e w1 ⟨A, c, rfl, hA, hb'⟩
      have hb1 := hb0'.out.trans (hb'.mono z0)
      rw [HXE.out] at hA
      obtain ⟨b, off, rfl, hbl, hc0⟩ := hA 0 (by simp)
      have h0 := hc0 0 _ rfl
      obtain ⟨b1, off1, e1, _, hc1⟩ := hA 1 (by simp)
      injection e1 with e1
      injection e1 with ea eb
      subst ea; subst eb
      have h1 := hc1 0 _ rfl
      simp at h0 h1
      have q0 := hb1.cell (p := ⟨w.heap.size, 0, none⟩) (by simp)
      have y0 := hb1.frozen (p := ⟨w.heap.size, 0, none⟩) (by simp)
      have q1 := hb1.cell (p := ⟨w.heap.size, 1, none⟩) (by simp)
      have y1 := hb1.frozen (p := ⟨w.heap.size, 1, none⟩) (by simp)
      have q2 := hb1.cell (p := ⟨w.heap.size, 2, none⟩) (by simp)
      have y2 := hb1.frozen (p := ⟨w.heap.size, 2, none⟩) (by simp)
      simp at q0 y0 q1 y1 q2 y2
      have HB1 := hide (Below.trans (show Below w.heap.size w (w.alloc (.cells #[.string ⟨#[]⟩, .int .i64 0, .int .i64 0] 32)) from (by repeat (first | with_reducible exact Below.refl _ _ | with_reducible assumption | (with_reducible refine Below.drew ?_) | (with_reducible refine below_drewN ?_ _) | ((with_reducible refine Below.alloc ?_ ?_ _); rotate_left; (focus (first | omega | (simp; omega) | simp))) | ((with_reducible refine Below.setCell ?_ ?_ _); rotate_left; (focus (first | omega | (simp; omega) | simp))) | (refine Below.trans ?_ (Below.mono (by assumption) (by first | omega | (simp; omega) | simp)))))) (hb1.mono (by simp)))
      have hz1 := hb1.size
      simp at hz1
      have hz2 : w.heap.size < w1.heap.size := by omega
      clear hb1 hA hb' hc0 hc1
      have hL : (rdL (rsB s).data.toList).length = 2 := by rw [HXE.out]; rfl
      go_wp2_with fail
      go_region
      all_goals
        go_wp2_with fail
        refine (implvalidSwing (hdB s) x1 x2 _ (by unfold maxLen; omega)).mono ?_
        rintro e w4 ⟨rfl, hb4⟩
        have r0 : w4.cell? ⟨w.heap.size, 0, none⟩ = some (.string ⟨#[]⟩) := (hb4.cell (p := ⟨w.heap.size, 0, none⟩) (by first | (simp; done) | (simp; omega))).trans (by simp [q0, hz2, World.cell?_alloc_past])
        have u0 : w4.frozen? ⟨w.heap.size, 0, none⟩ = false := (hb4.frozen (p := ⟨w.heap.size, 0, none⟩) (by first | (simp; done) | (simp; omega))).trans (by simp [y0, hz2, go_sem])
        have t0 : w4.cell? ⟨w1.heap.size, 0, none⟩ = some (.string (hdB s)) := (hb4.cell (p := ⟨w1.heap.size, 0, none⟩) (by first | (simp; done) | (simp; omega))).trans (by simp)
        have r1 : w4.cell? ⟨w.heap.size, 1, none⟩ = some (.int .i64 0) := (hb4.cell (p := ⟨w.heap.size, 1, none⟩) (by first | (simp; done) | (simp; omega))).trans (by simp [q1, hz2, World.cell?_alloc_past])
        have u1 : w4.frozen? ⟨w.heap.size, 1, none⟩ = false := (hb4.frozen (p := ⟨w.heap.size, 1, none⟩) (by first | (simp; done) | (simp; omega))).trans (by simp [y1, hz2, go_sem])
        have t1 : w4.cell? ⟨w1.heap.size, 1, none⟩ = some (.int .i64 x1) := (hb4.cell (p := ⟨w1.heap.size, 1, none⟩) (by first | (simp; done) | (simp; omega))).trans (by simp)
        have r2 : w4.cell? ⟨w.heap.size, 2, none⟩ = some (.int .i64 0) := (hb4.cell (p := ⟨w.heap.size, 2, none⟩) (by first | (simp; done) | (simp; omega))).trans (by simp [q2, hz2, World.cell?_alloc_past])
        have u2 : w4.frozen? ⟨w.heap.size, 2, none⟩ = false := (hb4.frozen (p := ⟨w.heap.size, 2, none⟩) (by first | (simp; done) | (simp; omega))).trans (by simp [y2, hz2, go_sem])
        have t2 : w4.cell? ⟨w1.heap.size, 2, none⟩ = some (.int .i64 x2) := (hb4.cell (p := ⟨w1.heap.size, 2, none⟩) (by first | (simp; done) | (simp; omega))).trans (by simp)
        have z4 := hb4.size
        simp at z4
        have HB4 := hide (show Below w.heap.size w w4 from Below.trans (show Below w.heap.size w _ from (by repeat (first | with_reducible exact HB1.out | with_reducible exact HB4.out | with_reducible exact HB5.out | with_reducible exact Below.refl _ _ | with_reducible assumption | (with_reducible refine Below.drew ?_) | (with_reducible refine below_drewN ?_ _) | ((with_reducible refine Below.alloc ?_ ?_ _); rotate_left; (focus (first | omega | (simp; omega) | simp))) | ((with_reducible refine Below.setCell ?_ ?_ _); rotate_left; (focus (first | omega | (simp; omega) | simp))) | (refine Below.trans ?_ (Below.mono (by assumption) (by first | omega | (simp; omega) | simp)))))) (hb4.mono (by simp; omega)))
        clear hb4
        go_wp2_with fail
        refine bodyPost_ret (v := .tuple #[.agg #[.string ⟨#[]⟩, .int .i64 0, .int .i64 0], .bool false]) (by simp [results, Tryd.results41, go_sem, r0, r1, r2]) rfl ⟨retSwing E.1.out.symm E.2.out.symm, (by repeat (first | with_reducible exact HB1.out | with_reducible exact HB4.out | with_reducible exact HB5.out | with_reducible exact Below.refl _ _ | with_reducible assumption | (with_reducible refine Below.drew ?_) | (with_reducible refine below_drewN ?_ _) | ((with_reducible refine Below.alloc ?_ ?_ _); rotate_left; (focus (first | omega | (simp; omega) | simp))) | ((with_reducible refine Below.setCell ?_ ?_ _); rotate_left; (focus (first | omega | (simp; omega) | simp))) | (refine Below.trans ?_ (Below.mono (by assumption) (by first | omega | (simp; omega) | simp)))))⟩
    · have E := rSwing_some (l := s.data.toList) (by unfold oSwing; rw [hw]; simp only; rw [bytes_back]; rw [if_pos hv])
      have ht : (txSwing (hdB s) x1 x2).toList == s.toList := text_backSwing hw hv
      clear hw
      go_enter Tryd.func41, Tryd.ntmps41
      go_wp2_with fail
      refine (cutAt32 s _ (HE.out.below (by repeat (first | with_reducible exact Below.refl _ _ | with_reducible assumption | (with_reducible refine Below.drew ?_) | (with_reducible refine below_drewN ?_ _) | ((with_reducible refine Below.alloc ?_ ?_ _); rotate_left; (focus (first | omega | (simp; omega) | simp))) | ((with_reducible refine Below.setCell ?_ ?_ _); rotate_left; (focus (first | omega | (simp; omega) | simp))) | (refine Below.trans ?_ (Below.mono (by assumption) (by first | omega | (simp; omega) | simp)))))) hs).mono ?_
      rintro e w0 ⟨rfl, hb0⟩
      have hb0' := hide hb0
      have z0 := hb0.size
      clear hb0
      go_wp2_with fail
      refine (implReadList (rsB s) _ (HE.out.below (Below.trans (show Below w.heap.size w (w.alloc (.cells #[.string ⟨#[]⟩, .int .i64 0, .int .i64 0] 32)) from (by repeat (first | with_reducible exact Below.refl _ _ | with_reducible assumption | (with_reducible refine Below.drew ?_) | (with_reducible refine below_drewN ?_ _) | ((with_reducible refine Below.alloc ?_ ?_ _); rotate_left; (focus (first | omega | (simp; omega) | simp))) | ((with_reducible refine Below.setCell ?_ ?_ _); rotate_left; (focus (first | omega | (simp; omega) | simp))) | (refine Below.trans ?_ (Below.mono (by assumption) (by first | omega | (simp; omega) | simp)))))) (hb0'.out.mono (by simp)))) (by omega)).mono ?_
      rintro e w1 ⟨A, c, rfl, hA, hb'⟩
      have hb1 := hb0'.out.trans (hb'.mono z0)
      rw [HXE.out] at hA
      obtain ⟨b, off, rfl, hbl, hc0⟩ := hA 0 (by simp)
      have h0 := hc0 0 _ rfl
      obtain ⟨b1, off1, e1, _, hc1⟩ := hA 1 (by simp)
      injection e1 with e1
      injection e1 with ea eb
      subst ea; subst eb
      have h1 := hc1 0 _ rfl
      simp at h0 h1
      have q0 := hb1.cell (p := ⟨w.heap.size, 0, none⟩) (by simp)
      have y0 := hb1.frozen (p := ⟨w.heap.size, 0, none⟩) (by simp)
      have q1 := hb1.cell (p := ⟨w.heap.size, 1, none⟩) (by simp)
      have y1 := hb1.frozen (p := ⟨w.heap.size, 1, none⟩) (by simp)
      have q2 := hb1.cell (p := ⟨w.heap.size, 2, none⟩) (by simp)
      have y2 := hb1.frozen (p := ⟨w.heap.size, 2, none⟩) (by simp)
      simp at q0 y0 q1 y1 q2 y2
      have HB1 := hide (Below.trans (show Below w.heap.size w (w.alloc (.cells #[.string ⟨#[]⟩, .int .i64 0, .int .i64 0] 32)) from (by repeat (first | with_reducible exact Below.refl _ _ | with_reducible assumption | (with_reducible refine Below.drew ?_) | (with_reducible refine below_drewN ?_ _) | ((with_reducible refine Below.alloc ?_ ?_ _); rotate_left; (focus (first | omega | (simp; omega) | simp))) | ((with_reducible refine Below.setCell ?_ ?_ _); rotate_left; (focus (first | omega | (simp; omega) | simp))) | (refine Below.trans ?_ (Below.mono (by assumption) (by first | omega | (simp; omega) | simp)))))) (hb1.mono (by simp)))
      have hz1 := hb1.size
      simp at hz1
      have hz2 : w.heap.size < w1.heap.size := by omega
      clear hb1 hA hb' hc0 hc1
      have hL : (rdL (rsB s).data.toList).length = 2 := by rw [HXE.out]; rfl
      go_wp2_with fail
      go_region
      all_goals
        go_wp2_with fail
        refine (implvalidSwing (hdB s) x1 x2 _ (by unfold maxLen; omega)).mono ?_
        rintro e w4 ⟨rfl, hb4⟩
        have r0 : w4.cell? ⟨w.heap.size, 0, none⟩ = some (.string ⟨#[]⟩) := (hb4.cell (p := ⟨w.heap.size, 0, none⟩) (by first | (simp; done) | (simp; omega))).trans (by simp [q0, hz2, World.cell?_alloc_past])
        have u0 : w4.frozen? ⟨w.heap.size, 0, none⟩ = false := (hb4.frozen (p := ⟨w.heap.size, 0, none⟩) (by first | (simp; done) | (simp; omega))).trans (by simp [y0, hz2, go_sem])
        have t0 : w4.cell? ⟨w1.heap.size, 0, none⟩ = some (.string (hdB s)) := (hb4.cell (p := ⟨w1.heap.size, 0, none⟩) (by first | (simp; done) | (simp; omega))).trans (by simp)
        have r1 : w4.cell? ⟨w.heap.size, 1, none⟩ = some (.int .i64 0) := (hb4.cell (p := ⟨w.heap.size, 1, none⟩) (by first | (simp; done) | (simp; omega))).trans (by simp [q1, hz2, World.cell?_alloc_past])
        have u1 : w4.frozen? ⟨w.heap.size, 1, none⟩ = false := (hb4.frozen (p := ⟨w.heap.size, 1, none⟩) (by first | (simp; done) | (simp; omega))).trans (by simp [y1, hz2, go_sem])
        have t1 : w4.cell? ⟨w1.heap.size, 1, none⟩ = some (.int .i64 x1) := (hb4.cell (p := ⟨w1.heap.size, 1, none⟩) (by first | (simp; done) | (simp; omega))).trans (by simp)
        have r2 : w4.cell? ⟨w.heap.size, 2, none⟩ = some (.int .i64 0) := (hb4.cell (p := ⟨w.heap.size, 2, none⟩) (by first | (simp; done) | (simp; omega))).trans (by simp [q2, hz2, World.cell?_alloc_past])
        have u2 : w4.frozen? ⟨w.heap.size, 2, none⟩ = false := (hb4.frozen (p := ⟨w.heap.size, 2, none⟩) (by first | (simp; done) | (simp; omega))).trans (by simp [y2, hz2, go_sem])
        have t2 : w4.cell? ⟨w1.heap.size, 2, none⟩ = some (.int .i64 x2) := (hb4.cell (p := ⟨w1.heap.size, 2, none⟩) (by first | (simp; done) | (simp; omega))).trans (by simp)
        have z4 := hb4.size
        simp at z4
        have HB4 := hide (show Below w.heap.size w w4 from Below.trans (show Below w.heap.size w _ from (by repeat (first | with_reducible exact HB1.out | with_reducible exact HB4.out | with_reducible exact HB5.out | with_reducible exact Below.refl _ _ | with_reducible assumption | (with_reducible refine Below.drew ?_) | (with_reducible refine below_drewN ?_ _) | ((with_reducible refine Below.alloc ?_ ?_ _); rotate_left; (focus (first | omega | (simp; omega) | simp))) | ((with_reducible refine Below.setCell ?_ ?_ _); rotate_left; (focus (first | omega | (simp; omega) | simp))) | (refine Below.trans ?_ (Below.mono (by assumption) (by first | omega | (simp; omega) | simp)))))) (hb4.mono (by simp; omega)))
        clear hb4
        go_wp2_with fail
        refine (implSwingText (hdB s) x1 x2 _ (HE.out.t.below HB4.out) (by unfold maxLen; omega)).mono ?_
        rintro e w5 ⟨rfl, hb5⟩
        have R0 := (hb5.cell (p := ⟨w.heap.size, 0, none⟩) (by simp; omega)).trans r0
        have U0 := (hb5.frozen (p := ⟨w.heap.size, 0, none⟩) (by simp; omega)).trans u0
        have T0 := (hb5.cell (p := ⟨w1.heap.size, 0, none⟩) (by simp; omega)).trans t0
        have R1 := (hb5.cell (p := ⟨w.heap.size, 1, none⟩) (by simp; omega)).trans r1
        have U1 := (hb5.frozen (p := ⟨w.heap.size, 1, none⟩) (by simp; omega)).trans u1
        have T1 := (hb5.cell (p := ⟨w1.heap.size, 1, none⟩) (by simp; omega)).trans t1
        have R2 := (hb5.cell (p := ⟨w.heap.size, 2, none⟩) (by simp; omega)).trans r2
        have U2 := (hb5.frozen (p := ⟨w.heap.size, 2, none⟩) (by simp; omega)).trans u2
        have T2 := (hb5.cell (p := ⟨w1.heap.size, 2, none⟩) (by simp; omega)).trans t2
        have z5 := hb5.size
        have HB5 := hide (HB4.out.trans (hb5.mono (by omega)))
        clear hb5 r0 u0 t0 r1 u1 t1 r2 u2 t2
        go_wp2_with fail
        refine bodyPost_ret (v := .tuple #[.agg #[.string (hdB s), .int .i64 x1, .int .i64 x2], .bool true]) (by simp [results, Tryd.results41, go_sem, R0, R1, R2]) rfl ⟨retSwing E.1.out.symm E.2.out.symm, (by repeat (first | with_reducible exact HB1.out | with_reducible exact HB4.out | with_reducible exact HB5.out | with_reducible exact Below.refl _ _ | with_reducible assumption | (with_reducible refine Below.drew ?_) | (with_reducible refine below_drewN ?_ _) | ((with_reducible refine Below.alloc ?_ ?_ _); rotate_left; (focus (first | omega | (simp; omega) | simp))) | ((with_reducible refine Below.setCell ?_ ?_ _); rotate_left; (focus (first | omega | (simp; omega) | simp))) | (refine Below.trans ?_ (Below.mono (by assumption) (by first | omega | (simp; omega) | simp)))))⟩
  · have d3 : (((rdL (rsB s).data.toList).length : Int) != 2) = true := by simp; omega
    have E := rSwing_none (l := s.data.toList) (by unfold oSwing; rw [words_no hx])
    clear hx
    go_enter Tryd.func41, Tryd.ntmps41
    go_wp2_with fail
    refine (cutAt32 s _ (HE.out.below (by repeat (first | with_reducible exact Below.refl _ _ | with_reducible assumption | (with_reducible refine Below.drew ?_) | (with_reducible refine below_drewN ?_ _) | ((with_reducible refine Below.alloc ?_ ?_ _); rotate_left; (focus (first | omega | (simp; omega) | simp))) | ((with_reducible refine Below.setCell ?_ ?_ _); rotate_left; (focus (first | omega | (simp; omega) | simp))) | (refine Below.trans ?_ (Below.mono (by assumption) (by first | omega | (simp; omega) | simp)))))) hs).mono ?_
    rintro e w0 ⟨rfl, hb0⟩
    have hb0' := hide hb0
    have z0 := hb0.size
    clear hb0
    go_wp2_with fail
    refine (implReadList (rsB s) _ (HE.out.below (Below.trans (show Below w.heap.size w (w.alloc (.cells #[.string ⟨#[]⟩, .int .i64 0, .int .i64 0] 32)) from (by repeat (first | with_reducible exact Below.refl _ _ | with_reducible assumption | (with_reducible refine Below.drew ?_) | (with_reducible refine below_drewN ?_ _) | ((with_reducible refine Below.alloc ?_ ?_ _); rotate_left; (focus (first | omega | (simp; omega) | simp))) | ((with_reducible refine Below.setCell ?_ ?_ _); rotate_left; (focus (first | omega | (simp; omega) | simp))) | (refine Below.trans ?_ (Below.mono (by assumption) (by first | omega | (simp; omega) | simp)))))) (hb0'.out.mono (by simp)))) (by omega)).mono ?_
    rintro e w1 ⟨A, c, rfl, hA, hb'⟩
    have hb1 := hb0'.out.trans (hb'.mono z0)
    have q0 := hb1.cell (p := ⟨w.heap.size, 0, none⟩) (by simp)
    have y0 := hb1.frozen (p := ⟨w.heap.size, 0, none⟩) (by simp)
    have q1 := hb1.cell (p := ⟨w.heap.size, 1, none⟩) (by simp)
    have y1 := hb1.frozen (p := ⟨w.heap.size, 1, none⟩) (by simp)
    have q2 := hb1.cell (p := ⟨w.heap.size, 2, none⟩) (by simp)
    have y2 := hb1.frozen (p := ⟨w.heap.size, 2, none⟩) (by simp)
    simp at q0 y0 q1 y1 q2 y2
    have HB1 := hide (Below.trans (show Below w.heap.size w (w.alloc (.cells #[.string ⟨#[]⟩, .int .i64 0, .int .i64 0] 32)) from (by repeat (first | with_reducible exact Below.refl _ _ | with_reducible assumption | (with_reducible refine Below.drew ?_) | (with_reducible refine below_drewN ?_ _) | ((with_reducible refine Below.alloc ?_ ?_ _); rotate_left; (focus (first | omega | (simp; omega) | simp))) | ((with_reducible refine Below.setCell ?_ ?_ _); rotate_left; (focus (first | omega | (simp; omega) | simp))) | (refine Below.trans ?_ (Below.mono (by assumption) (by first | omega | (simp; omega) | simp)))))) (hb1.mono (by simp)))
    clear hb1 hA hb'
    go_wp2_with fail
    refine bodyPost_ret (v := .tuple #[.agg #[.string ⟨#[]⟩, .int .i64 0, .int .i64 0], .bool false]) (by simp [results, Tryd.results41, go_sem, q0, q1, q2]) rfl ⟨retSwing E.1.out.symm E.2.out.symm, (by repeat (first | with_reducible exact HB1.out | with_reducible exact HB4.out | with_reducible exact HB5.out | with_reducible exact Below.refl _ _ | with_reducible assumption | (with_reducible refine Below.drew ?_) | (with_reducible refine below_drewN ?_ _) | ((with_reducible refine Below.alloc ?_ ?_ _); rotate_left; (focus (first | omega | (simp; omega) | simp))) | ((with_reducible refine Below.setCell ?_ ?_ _); rotate_left; (focus (first | omega | (simp; omega) | simp))) | (refine Below.trans ?_ (Below.mono (by assumption) (by first | omega | (simp; omega) | simp)))))⟩
end Go.Proofs.YtphlejphkipbpaaDoor
