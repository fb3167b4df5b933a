/- What reads a tower out of a text, on both sides. Conditions: the text is at most 2^20 bytes long; for the program the library's variables are laid. -/
import Derived.Test.YtphlejphkipbpaaDoorWords
import Derived.Test.YtphlejphkipbpaaDoorTextTower
namespace Go.Proofs.YtphlejphkipbpaaDoor
open Go.RowKit Go.Lib

/-- The tower with a text. -/
def oTower (l : List UInt8) : Option (ByteArray × Int × Int × Int × Int) := match wordsO l 4 with
  | some (a, [x1, x2, x3, x4]) => if vTower ⟨a.toArray⟩ x1 x2 x3 x4 = true then some (⟨a.toArray⟩, x1, x2, x3, x4) else none
  | _ => none
def rvTower (l : List UInt8) : Value := match oTower l with | some (a, x1, x2, x3, x4) => .agg #[.string a, .int .i64 x1, .int .i64 x2, .int .i64 x3, .int .i64 x4] | none => .agg #[.string ⟨#[]⟩, .int .i64 0, .int .i64 0, .int .i64 0, .int .i64 0]
def rbTower (l : List UInt8) : Bool := (oTower l).isSome
theorem rvTower_is (l : List UInt8) : ∃ (a : ByteArray) (x1 x2 x3 x4 : Int), rvTower l = .agg #[.string a, .int .i64 x1, .int .i64 x2, .int .i64 x3, .int .i64 x4] := by
  unfold rvTower
  split
  · exact ⟨_, _, _, _, _, rfl⟩
  · exact ⟨_, _, _, _, _, rfl⟩
theorem rTower_none {l : List UInt8} (h : oTower l = none) : Hid (rvTower l = .agg #[.string ⟨#[]⟩, .int .i64 0, .int .i64 0, .int .i64 0, .int .i64 0]) ∧ Hid (rbTower l = false) := by unfold Hid rvTower rbTower; rw [h]; exact ⟨rfl, rfl⟩
theorem rTower_some {l : List UInt8} {a : ByteArray} {x1 x2 x3 x4 : Int} (h : oTower l = some (a, x1, x2, x3, x4)) : Hid (rvTower l = .agg #[.string a, .int .i64 x1, .int .i64 x2, .int .i64 x3, .int .i64 x4]) ∧ Hid (rbTower l = true) := by unfold Hid rvTower rbTower; rw [h]; exact ⟨rfl, rfl⟩
theorem retTower {u v : Value} {b c : Bool} (h : u = v) (h2 : b = c) : Ending.returned (.tuple #[u, .bool b]) = .returned (.tuple #[v, .bool c]) := by rw [h, h2]
theorem text_backTower {s : ByteArray} {x1 x2 x3 x4 : Int} (hw : wordsO s.data.toList 4 = some ((hdB s).data.toList, [x1, x2, x3, x4])) (hv : vTower (hdB s) x1 x2 x3 x4 = true) : (txTower (hdB s) x1 x2 x3 x4).toList == s.toList := by
  have hq := (vTower_vals hv).2
  have h1 := (words_text hw).1
  have h2 : txTower (hdB s) x1 x2 x3 x4 = s := Go.WideShapes.bytes_inj (by
    unfold txTower twoW
    rw [if_pos hv, h1, list_row (by simp) hq]
    simp)
  rw [h2]
  simp
set_option maxRecDepth 100000 in
set_option maxHeartbeats 4000000 in
theorem specReadTower (s : ByteArray) (w : World) (hs : s.size ≤ 1048576) : Calls Tryd.prog 43 #[.string s] w fun e w' => e = .returned (.tuple #[rvTower s.data.toList, .bool (rbTower s.data.toList)]) ∧ Below w.heap.size w w' := by
  cases hw : wordsO s.data.toList 4 with
  | none =>
    obtain ⟨e1, e2, e3⟩ := wd_none hw
    have E := rTower_none (l := s.data.toList) (by unfold oTower; rw [hw])
    clear hw
    go_enter Tryd.func43, Tryd.ntmps43
    go_wp2_with fail
    refine (specl22Words s 4 _ hs).mono ?_
    rintro e w1 ⟨A, c, he, hA, hb1⟩
    rw [e1.out, e2.out, e3.out] at he
    subst he
    have q0 := hb1.cell (p := ⟨w.heap.size, 0, none⟩) (by simp)
    have y0 := hb1.frozen (p := ⟨w.heap.size, 0, none⟩) (by simp)
    have q1 := hb1.cell (p := ⟨w.heap.size, 1, none⟩) (by simp)
    have y1 := hb1.frozen (p := ⟨w.heap.size, 1, none⟩) (by simp)
    have q2 := hb1.cell (p := ⟨w.heap.size, 2, none⟩) (by simp)
    have y2 := hb1.frozen (p := ⟨w.heap.size, 2, none⟩) (by simp)
    have q3 := hb1.cell (p := ⟨w.heap.size, 3, none⟩) (by simp)
    have y3 := hb1.frozen (p := ⟨w.heap.size, 3, none⟩) (by simp)
    have q4 := hb1.cell (p := ⟨w.heap.size, 4, none⟩) (by simp)
    have y4 := hb1.frozen (p := ⟨w.heap.size, 4, none⟩) (by simp)
    simp at q0 y0 q1 y1 q2 y2 q3 y3 q4 y4
    have HB1 := hide (Below.trans (show Below w.heap.size w (w.alloc (.cells #[.string ⟨#[]⟩, .int .i64 0, .int .i64 0, .int .i64 0, .int .i64 0] 39)) from (by repeat (first | with_reducible exact Below.refl _ _ | with_reducible assumption | (with_reducible refine Below.drew ?_) | (with_reducible refine below_drewN ?_ _) | ((with_reducible refine Below.alloc ?_ ?_ _); rotate_left; (focus (first | omega | (simp; omega) | simp))) | ((with_reducible refine Below.setCell ?_ ?_ _); rotate_left; (focus (first | omega | (simp; omega) | simp))) | (refine Below.trans ?_ (Below.mono (by assumption) (by first | omega | (simp; omega) | simp)))))) (hb1.mono (by simp)))
    clear hb1 hA
    go_wp2_with fail
    refine bodyPost_ret (v := .tuple #[.agg #[.string ⟨#[]⟩, .int .i64 0, .int .i64 0, .int .i64 0, .int .i64 0], .bool false]) (by simp [results, Tryd.results43, go_sem, q0, q1, q2, q3, q4]) rfl ⟨retTower E.1.out.symm E.2.out.symm, (by repeat (first | with_reducible exact HB1.out | with_reducible exact HB4.out | with_reducible exact HB5.out | with_reducible exact Below.refl _ _ | with_reducible assumption | (with_reducible refine Below.drew ?_) | (with_reducible refine below_drewN ?_ _) | ((with_reducible refine Below.alloc ?_ ?_ _); rotate_left; (focus (first | omega | (simp; omega) | simp))) | ((with_reducible refine Below.setCell ?_ ?_ _); rotate_left; (focus (first | omega | (simp; omega) | simp))) | (refine Below.trans ?_ (Below.mono (by assumption) (by first | omega | (simp; omega) | simp)))))⟩
  | some r =>
    obtain ⟨a, xs⟩ := r
    obtain ⟨hl, hx⟩ := words_text hw
    obtain ⟨e1, e2, e3⟩ := wd_some hw
    obtain ⟨x1, x2, x3, x4, rfl⟩ : ∃ x1 x2 x3 x4 : Int, xs = [x1, x2, x3, x4] := by
      match xs, hx with
      | [x1, x2, x3, x4], _ => exact ⟨_, _, _, _, rfl⟩
    have hal : a.length ≤ 1048576 := by
      have h1 : s.data.toList.length = s.size := by simp
      have h2 := congrArg List.length hl
      simp at h2
      omega
    obtain ⟨nm, hnm⟩ : ∃ nm : ByteArray, nm = ⟨a.toArray⟩ := ⟨_, rfl⟩
    have hns : nm.size ≤ maxLen := by rw [hnm]; unfold maxLen; simp [ByteArray.size]; omega
    have HNM := hide hnm
    clear hnm
    cases hv : vTower nm x1 x2 x3 x4
    · have E := rTower_none (l := s.data.toList) (by unfold oTower; rw [hw]; simp only; rw [← HNM.out]; rw [if_neg (by rw [hv]; decide)])
      clear hw hl hal
      go_enter Tryd.func43, Tryd.ntmps43
      go_wp2_with fail
      refine (specl22Words s 4 _ hs).mono ?_
      rintro e w1 ⟨A, c, he, hA, hb1⟩
      rw [e1.out, e2.out, e3.out, ← HNM.out] at he
      rw [e2.out] at hA
      subst he
      obtain ⟨b, off, rfl, hbl, hc0⟩ := hA 0 (by simp)
      have h0 := hc0 0 _ rfl
      obtain ⟨b1, off1, e1, _, hc1⟩ := hA 1 (by simp)
      injection e1 with e1
      injection e1 with ea eb
      subst ea; subst eb
      have h1 := hc1 0 _ rfl
      obtain ⟨b2, off2, e2, _, hc2⟩ := hA 2 (by simp)
      injection e2 with e2
      injection e2 with ea eb
      subst ea; subst eb
      have h2 := hc2 0 _ rfl
      obtain ⟨b3, off3, e3, _, hc3⟩ := hA 3 (by simp)
      injection e3 with e3
      injection e3 with ea eb
      subst ea; subst eb
      have h3 := hc3 0 _ rfl
      simp at h0 h1 h2 h3
      have q0 := hb1.cell (p := ⟨w.heap.size, 0, none⟩) (by simp)
      have y0 := hb1.frozen (p := ⟨w.heap.size, 0, none⟩) (by simp)
      have q1 := hb1.cell (p := ⟨w.heap.size, 1, none⟩) (by simp)
      have y1 := hb1.frozen (p := ⟨w.heap.size, 1, none⟩) (by simp)
      have q2 := hb1.cell (p := ⟨w.heap.size, 2, none⟩) (by simp)
      have y2 := hb1.frozen (p := ⟨w.heap.size, 2, none⟩) (by simp)
      have q3 := hb1.cell (p := ⟨w.heap.size, 3, none⟩) (by simp)
      have y3 := hb1.frozen (p := ⟨w.heap.size, 3, none⟩) (by simp)
      have q4 := hb1.cell (p := ⟨w.heap.size, 4, none⟩) (by simp)
      have y4 := hb1.frozen (p := ⟨w.heap.size, 4, none⟩) (by simp)
      simp at q0 y0 q1 y1 q2 y2 q3 y3 q4 y4
      have HB1 := hide (Below.trans (show Below w.heap.size w (w.alloc (.cells #[.string ⟨#[]⟩, .int .i64 0, .int .i64 0, .int .i64 0, .int .i64 0] 39)) from (by repeat (first | with_reducible exact Below.refl _ _ | with_reducible assumption | (with_reducible refine Below.drew ?_) | (with_reducible refine below_drewN ?_ _) | ((with_reducible refine Below.alloc ?_ ?_ _); rotate_left; (focus (first | omega | (simp; omega) | simp))) | ((with_reducible refine Below.setCell ?_ ?_ _); rotate_left; (focus (first | omega | (simp; omega) | simp))) | (refine Below.trans ?_ (Below.mono (by assumption) (by first | omega | (simp; omega) | simp)))))) (hb1.mono (by simp)))
      have hz1 := hb1.size
      simp at hz1
      have hz2 : w.heap.size < w1.heap.size := by omega
      have hz3 : w.heap.size ≠ w1.heap.size := by omega
      clear hb1 hA hc0 hc1 hc2 hc3
      go_wp2_with fail
      go_region
      all_goals
        go_wp2_with fail
        refine (specl22Tower _ 0 nm x1 x2 x3 x4 _ hns (by simp) (by simp) (by simp) (by simp) (by simp)).mono ?_
        rintro e w2 ⟨rfl, rfl⟩
        go_wp2_with fail
        refine bodyPost_ret (v := .tuple #[.agg #[.string ⟨#[]⟩, .int .i64 0, .int .i64 0, .int .i64 0, .int .i64 0], .bool false]) (by simp [results, Tryd.results43, go_sem, q0, q1, q2, q3, q4, hz2, World.cell?_alloc_past]) rfl ⟨retTower E.1.out.symm E.2.out.symm, (by repeat (first | with_reducible exact HB1.out | with_reducible exact HB4.out | with_reducible exact HB5.out | with_reducible exact Below.refl _ _ | with_reducible assumption | (with_reducible refine Below.drew ?_) | (with_reducible refine below_drewN ?_ _) | ((with_reducible refine Below.alloc ?_ ?_ _); rotate_left; (focus (first | omega | (simp; omega) | simp))) | ((with_reducible refine Below.setCell ?_ ?_ _); rotate_left; (focus (first | omega | (simp; omega) | simp))) | (refine Below.trans ?_ (Below.mono (by assumption) (by first | omega | (simp; omega) | simp)))))⟩
    · have E := rTower_some (l := s.data.toList) (by unfold oTower; rw [hw]; simp only; rw [← HNM.out]; rw [if_pos hv])
      clear hw hl hal
      go_enter Tryd.func43, Tryd.ntmps43
      go_wp2_with fail
      refine (specl22Words s 4 _ hs).mono ?_
      rintro e w1 ⟨A, c, he, hA, hb1⟩
      rw [e1.out, e2.out, e3.out, ← HNM.out] at he
      rw [e2.out] at hA
      subst he
      obtain ⟨b, off, rfl, hbl, hc0⟩ := hA 0 (by simp)
      have h0 := hc0 0 _ rfl
      obtain ⟨b1, off1, e1, _, hc1⟩ := hA 1 (by simp)
      injection e1 with e1
      injection e1 with ea eb
      subst ea; subst eb
      have h1 := hc1 0 _ rfl
      obtain ⟨b2, off2, e2, _, hc2⟩ := hA 2 (by simp)
      injection e2 with e2
      injection e2 with ea eb
      subst ea; subst eb
      have h2 := hc2 0 _ rfl
      obtain ⟨b3, off3, e3, _, hc3⟩ := hA 3 (by simp)
      injection e3 with e3
      injection e3 with ea eb
      subst ea; subst eb
      have h3 := hc3 0 _ rfl
      simp at h0 h1 h2 h3
      have q0 := hb1.cell (p := ⟨w.heap.size, 0, none⟩) (by simp)
      have y0 := hb1.frozen (p := ⟨w.heap.size, 0, none⟩) (by simp)
      have q1 := hb1.cell (p := ⟨w.heap.size, 1, none⟩) (by simp)
      have y1 := hb1.frozen (p := ⟨w.heap.size, 1, none⟩) (by simp)
      have q2 := hb1.cell (p := ⟨w.heap.size, 2, none⟩) (by simp)
      have y2 := hb1.frozen (p := ⟨w.heap.size, 2, none⟩) (by simp)
      have q3 := hb1.cell (p := ⟨w.heap.size, 3, none⟩) (by simp)
      have y3 := hb1.frozen (p := ⟨w.heap.size, 3, none⟩) (by simp)
      have q4 := hb1.cell (p := ⟨w.heap.size, 4, none⟩) (by simp)
      have y4 := hb1.frozen (p := ⟨w.heap.size, 4, none⟩) (by simp)
      simp at q0 y0 q1 y1 q2 y2 q3 y3 q4 y4
      have HB1 := hide (Below.trans (show Below w.heap.size w (w.alloc (.cells #[.string ⟨#[]⟩, .int .i64 0, .int .i64 0, .int .i64 0, .int .i64 0] 39)) from (by repeat (first | with_reducible exact Below.refl _ _ | with_reducible assumption | (with_reducible refine Below.drew ?_) | (with_reducible refine below_drewN ?_ _) | ((with_reducible refine Below.alloc ?_ ?_ _); rotate_left; (focus (first | omega | (simp; omega) | simp))) | ((with_reducible refine Below.setCell ?_ ?_ _); rotate_left; (focus (first | omega | (simp; omega) | simp))) | (refine Below.trans ?_ (Below.mono (by assumption) (by first | omega | (simp; omega) | simp)))))) (hb1.mono (by simp)))
      have hz1 := hb1.size
      simp at hz1
      have hz2 : w.heap.size < w1.heap.size := by omega
      have hz3 : w.heap.size ≠ w1.heap.size := by omega
      clear hb1 hA hc0 hc1 hc2 hc3
      go_wp2_with fail
      go_region
      all_goals
        go_wp2_with fail
        refine (specl22Tower _ 0 nm x1 x2 x3 x4 _ hns (by simp) (by simp) (by simp) (by simp) (by simp)).mono ?_
        rintro e w2 ⟨rfl, rfl⟩
        go_wp2_with fail
        refine bodyPost_ret (v := .tuple #[.agg #[.string nm, .int .i64 x1, .int .i64 x2, .int .i64 x3, .int .i64 x4], .bool true]) (by simp [results, Tryd.results43, go_sem, q0, q1, q2, q3, q4, hz2, World.cell?_alloc_past]) rfl ⟨retTower E.1.out.symm E.2.out.symm, (by repeat (first | with_reducible exact HB1.out | with_reducible exact HB4.out | with_reducible exact HB5.out | with_reducible exact Below.refl _ _ | with_reducible assumption | (with_reducible refine Below.drew ?_) | (with_reducible refine below_drewN ?_ _) | ((with_reducible refine Below.alloc ?_ ?_ _); rotate_left; (focus (first | omega | (simp; omega) | simp))) | ((with_reducible refine Below.setCell ?_ ?_ _); rotate_left; (focus (first | omega | (simp; omega) | simp))) | (refine Below.trans ?_ (Below.mono (by assumption) (by first | omega | (simp; omega) | simp)))))⟩
set_option maxRecDepth 100000 in
set_option maxHeartbeats 4000000 in
theorem implReadTower (s : ByteArray) (w : World) (hE : Env w) (hs : s.size ≤ 1048576) : Calls Tryd.prog 44 #[.string s] w fun e w' => e = .returned (.tuple #[rvTower s.data.toList, .bool (rbTower s.data.toList)]) ∧ Below w.heap.size w w' := by
  have HE := hide hE
  clear hE
  have hz := hd_size s
  by_cases hx : (rdL (rsB s).data.toList).length = 4
  · have d3 : (((rdL (rsB s).data.toList).length : Int) != 4) = false := by simp; omega
    have hw := words_yes hx (by decide)
    obtain ⟨x1, x2, x3, x4, hxe⟩ : ∃ x1 x2 x3 x4 : Int, rdL (rsB s).data.toList = [x1, x2, x3, x4] := by
      match hm : rdL (rsB s).data.toList, hx with
      | [x1, x2, x3, x4], _ => exact ⟨_, _, _, _, rfl⟩
    rw [hxe] at hw
    have HXE := hide hxe
    clear hxe hx
    cases hv : vTower (hdB s) x1 x2 x3 x4
    · have E := rTower_none (l := s.data.toList) (by unfold oTower; rw [hw]; simp only; rw [bytes_back]; rw [if_neg (by rw [hv]; decide)])
      clear hw
      go_enter Tryd.func44, Tryd.ntmps44
      go_wp2_with fail
      refine (cutAt32 s _ (HE.out.below (by repeat (first | with_reducible exact Below.refl _ _ | with_reducible assumption | (with_reducible refine Below.drew ?_) | (with_reducible refine below_drewN ?_ _) | ((with_reducible refine Below.alloc ?_ ?_ _); rotate_left; (focus (first | omega | (simp; omega) | simp))) | ((with_reducible refine Below.setCell ?_ ?_ _); rotate_left; (focus (first | omega | (simp; omega) | simp))) | (refine Below.trans ?_ (Below.mono (by assumption) (by first | omega | (simp; omega) | simp)))))) hs).mono ?_
      rintro e w0 ⟨rfl, hb0⟩
      have hb0' := hide hb0
      have z0 := hb0.size
      clear hb0
      go_wp2_with fail
      refine (implReadList (rsB s) _ (HE.out.below (Below.trans (show Below w.heap.size w (w.alloc (.cells #[.string ⟨#[]⟩, .int .i64 0, .int .i64 0, .int .i64 0, .int .i64 0] 39)) from (by repeat (first | with_reducible exact Below.refl _ _ | with_reducible assumption | (with_reducible refine Below.drew ?_) | (with_reducible refine below_drewN ?_ _) | ((with_reducible refine Below.alloc ?_ ?_ _); rotate_left; (focus (first | omega | (simp; omega) | simp))) | ((with_reducible refine Below.setCell ?_ ?_ _); rotate_left; (focus (first | omega | (simp; omega) | simp))) | (refine Below.trans ?_ (Below.mono (by assumption) (by first | omega | (simp; omega) | simp)))))) (hb0'.out.mono (by simp)))) (by omega)).mono ?_
      rintro e w1 ⟨A, c, rfl, hA, hb'⟩
      have hb1 := hb0'.out.trans (hb'.mono z0)
      rw [HXE.out] at hA
      obtain ⟨b, off, rfl, hbl, hc0⟩ := hA 0 (by simp)
      have h0 := hc0 0 _ rfl
      obtain ⟨b1, off1, e1, _, hc1⟩ := hA 1 (by simp)
      injection e1 with e1
      injection e1 with ea eb
      subst ea; subst eb
      have h1 := hc1 0 _ rfl
      obtain ⟨b2, off2, e2, _, hc2⟩ := hA 2 (by simp)
      injection e2 with e2
      injection e2 with ea eb
      subst ea; subst eb
      have h2 := hc2 0 _ rfl
      obtain ⟨b3, off3, e3, _, hc3⟩ := hA 3 (by simp)
      injection e3 with e3
      injection e3 with ea eb
      subst ea; subst eb
      have h3 := hc3 0 _ rfl
      simp at h0 h1 h2 h3
      have q0 := hb1.cell (p := ⟨w.heap.size, 0, none⟩) (by simp)
      have y0 := hb1.frozen (p := ⟨w.heap.size, 0, none⟩) (by simp)
      have q1 := hb1.cell (p := ⟨w.heap.size, 1, none⟩) (by simp)
      have y1 := hb1.frozen (p := ⟨w.heap.size, 1, none⟩) (by simp)
      have q2 := hb1.cell (p := ⟨w.heap.size, 2, none⟩) (by simp)
      have y2 := hb1.frozen (p := ⟨w.heap.size, 2, none⟩) (by simp)
      have q3 := hb1.cell (p := ⟨w.heap.size, 3, none⟩) (by simp)
      have y3 := hb1.frozen (p := ⟨w.heap.size, 3, none⟩) (by simp)
      have q4 := hb1.cell (p := ⟨w.heap.size, 4, none⟩) (by simp)
      have y4 := hb1.frozen (p := ⟨w.heap.size, 4, none⟩) (by simp)
      simp at q0 y0 q1 y1 q2 y2 q3 y3 q4 y4
      have HB1 := hide (Below.trans (show Below w.heap.size w (w.alloc (.cells #[.string ⟨#[]⟩, .int .i64 0, .int .i64 0, .int .i64 0, .int .i64 0] 39)) from (by repeat (first | with_reducible exact Below.refl _ _ | with_reducible assumption | (with_reducible refine Below.drew ?_) | (with_reducible refine below_drewN ?_ _) | ((with_reducible refine Below.alloc ?_ ?_ _); rotate_left; (focus (first | omega | (simp; omega) | simp))) | ((with_reducible refine Below.setCell ?_ ?_ _); rotate_left; (focus (first | omega | (simp; omega) | simp))) | (refine Below.trans ?_ (Below.mono (by assumption) (by first | omega | (simp; omega) | simp)))))) (hb1.mono (by simp)))
      have hz1 := hb1.size
      simp at hz1
      have hz2 : w.heap.size < w1.heap.size := by omega
      clear hb1 hA hb' hc0 hc1 hc2 hc3
      have hL : (rdL (rsB s).data.toList).length = 4 := by rw [HXE.out]; rfl
      go_wp2_with fail
      go_region
      all_goals
        go_wp2_with fail
        refine (implValidTower (hdB s) x1 x2 x3 x4 _ (by unfold maxLen; omega)).mono ?_
        rintro e w4 ⟨rfl, hb4⟩
        have r0 : w4.cell? ⟨w.heap.size, 0, none⟩ = some (.string ⟨#[]⟩) := (hb4.cell (p := ⟨w.heap.size, 0, none⟩) (by first | (simp; done) | (simp; omega))).trans (by simp [q0, hz2, World.cell?_alloc_past])
        have u0 : w4.frozen? ⟨w.heap.size, 0, none⟩ = false := (hb4.frozen (p := ⟨w.heap.size, 0, none⟩) (by first | (simp; done) | (simp; omega))).trans (by simp [y0, hz2, go_sem])
        have t0 : w4.cell? ⟨w1.heap.size, 0, none⟩ = some (.string (hdB s)) := (hb4.cell (p := ⟨w1.heap.size, 0, none⟩) (by first | (simp; done) | (simp; omega))).trans (by simp)
        have r1 : w4.cell? ⟨w.heap.size, 1, none⟩ = some (.int .i64 0) := (hb4.cell (p := ⟨w.heap.size, 1, none⟩) (by first | (simp; done) | (simp; omega))).trans (by simp [q1, hz2, World.cell?_alloc_past])
        have u1 : w4.frozen? ⟨w.heap.size, 1, none⟩ = false := (hb4.frozen (p := ⟨w.heap.size, 1, none⟩) (by first | (simp; done) | (simp; omega))).trans (by simp [y1, hz2, go_sem])
        have t1 : w4.cell? ⟨w1.heap.size, 1, none⟩ = some (.int .i64 x1) := (hb4.cell (p := ⟨w1.heap.size, 1, none⟩) (by first | (simp; done) | (simp; omega))).trans (by simp)
        have r2 : w4.cell? ⟨w.heap.size, 2, none⟩ = some (.int .i64 0) := (hb4.cell (p := ⟨w.heap.size, 2, none⟩) (by first | (simp; done) | (simp; omega))).trans (by simp [q2, hz2, World.cell?_alloc_past])
        have u2 : w4.frozen? ⟨w.heap.size, 2, none⟩ = false := (hb4.frozen (p := ⟨w.heap.size, 2, none⟩) (by first | (simp; done) | (simp; omega))).trans (by simp [y2, hz2, go_sem])
        have t2 : w4.cell? ⟨w1.heap.size, 2, none⟩ = some (.int .i64 x2) := (hb4.cell (p := ⟨w1.heap.size, 2, none⟩) (by first | (simp; done) | (simp; omega))).trans (by simp)
        have r3 : w4.cell? ⟨w.heap.size, 3, none⟩ = some (.int .i64 0) := (hb4.cell (p := ⟨w.heap.size, 3, none⟩) (by first | (simp; done) | (simp; omega))).trans (by simp [q3, hz2, World.cell?_alloc_past])
        have u3 : w4.frozen? ⟨w.heap.size, 3, none⟩ = false := (hb4.frozen (p := ⟨w.heap.size, 3, none⟩) (by first | (simp; done) | (simp; omega))).trans (by simp [y3, hz2, go_sem])
        have t3 : w4.cell? ⟨w1.heap.size, 3, none⟩ = some (.int .i64 x3) := (hb4.cell (p := ⟨w1.heap.size, 3, none⟩) (by first | (simp; done) | (simp; omega))).trans (by simp)
        have r4 : w4.cell? ⟨w.heap.size, 4, none⟩ = some (.int .i64 0) := (hb4.cell (p := ⟨w.heap.size, 4, none⟩) (by first | (simp; done) | (simp; omega))).trans (by simp [q4, hz2, World.cell?_alloc_past])
        have u4 : w4.frozen? ⟨w.heap.size, 4, none⟩ = false := (hb4.frozen (p := ⟨w.heap.size, 4, none⟩) (by first | (simp; done) | (simp; omega))).trans (by simp [y4, hz2, go_sem])
        have t4 : w4.cell? ⟨w1.heap.size, 4, none⟩ = some (.int .i64 x4) := (hb4.cell (p := ⟨w1.heap.size, 4, none⟩) (by first | (simp; done) | (simp; omega))).trans (by simp)
        have z4 := hb4.size
        simp at z4
        have HB4 := hide (show Below w.heap.size w w4 from Below.trans (show Below w.heap.size w _ from (by repeat (first | with_reducible exact HB1.out | with_reducible exact HB4.out | with_reducible exact HB5.out | with_reducible exact Below.refl _ _ | with_reducible assumption | (with_reducible refine Below.drew ?_) | (with_reducible refine below_drewN ?_ _) | ((with_reducible refine Below.alloc ?_ ?_ _); rotate_left; (focus (first | omega | (simp; omega) | simp))) | ((with_reducible refine Below.setCell ?_ ?_ _); rotate_left; (focus (first | omega | (simp; omega) | simp))) | (refine Below.trans ?_ (Below.mono (by assumption) (by first | omega | (simp; omega) | simp)))))) (hb4.mono (by simp; omega)))
        clear hb4
        go_wp2_with fail
        refine bodyPost_ret (v := .tuple #[.agg #[.string ⟨#[]⟩, .int .i64 0, .int .i64 0, .int .i64 0, .int .i64 0], .bool false]) (by simp [results, Tryd.results44, go_sem, r0, r1, r2, r3, r4]) rfl ⟨retTower E.1.out.symm E.2.out.symm, (by repeat (first | with_reducible exact HB1.out | with_reducible exact HB4.out | with_reducible exact HB5.out | with_reducible exact Below.refl _ _ | with_reducible assumption | (with_reducible refine Below.drew ?_) | (with_reducible refine below_drewN ?_ _) | ((with_reducible refine Below.alloc ?_ ?_ _); rotate_left; (focus (first | omega | (simp; omega) | simp))) | ((with_reducible refine Below.setCell ?_ ?_ _); rotate_left; (focus (first | omega | (simp; omega) | simp))) | (refine Below.trans ?_ (Below.mono (by assumption) (by first | omega | (simp; omega) | simp)))))⟩
    · have E := rTower_some (l := s.data.toList) (by unfold oTower; rw [hw]; simp only; rw [bytes_back]; rw [if_pos hv])
      have ht : (txTower (hdB s) x1 x2 x3 x4).toList == s.toList := text_backTower hw hv
      clear hw
      go_enter Tryd.func44, Tryd.ntmps44
      go_wp2_with fail
      refine (cutAt32 s _ (HE.out.below (by repeat (first | with_reducible exact Below.refl _ _ | with_reducible assumption | (with_reducible refine Below.drew ?_) | (with_reducible refine below_drewN ?_ _) | ((with_reducible refine Below.alloc ?_ ?_ _); rotate_left; (focus (first | omega | (simp; omega) | simp))) | ((with_reducible refine Below.setCell ?_ ?_ _); rotate_left; (focus (first | omega | (simp; omega) | simp))) | (refine Below.trans ?_ (Below.mono (by assumption) (by first | omega | (simp; omega) | simp)))))) hs).mono ?_
      rintro e w0 ⟨rfl, hb0⟩
      have hb0' := hide hb0
      have z0 := hb0.size
      clear hb0
      go_wp2_with fail
      refine (implReadList (rsB s) _ (HE.out.below (Below.trans (show Below w.heap.size w (w.alloc (.cells #[.string ⟨#[]⟩, .int .i64 0, .int .i64 0, .int .i64 0, .int .i64 0] 39)) from (by repeat (first | with_reducible exact Below.refl _ _ | with_reducible assumption | (with_reducible refine Below.drew ?_) | (with_reducible refine below_drewN ?_ _) | ((with_reducible refine Below.alloc ?_ ?_ _); rotate_left; (focus (first | omega | (simp; omega) | simp))) | ((with_reducible refine Below.setCell ?_ ?_ _); rotate_left; (focus (first | omega | (simp; omega) | simp))) | (refine Below.trans ?_ (Below.mono (by assumption) (by first | omega | (simp; omega) | simp)))))) (hb0'.out.mono (by simp)))) (by omega)).mono ?_
      rintro e w1 ⟨A, c, rfl, hA, hb'⟩
      have hb1 := hb0'.out.trans (hb'.mono z0)
      rw [HXE.out] at hA
      obtain ⟨b, off, rfl, hbl, hc0⟩ := hA 0 (by simp)
      have h0 := hc0 0 _ rfl
      obtain ⟨b1, off1, e1, _, hc1⟩ := hA 1 (by simp)
      injection e1 with e1
      injection e1 with ea eb
      subst ea; subst eb
      have h1 := hc1 0 _ rfl
      obtain ⟨b2, off2, e2, _, hc2⟩ := hA 2 (by simp)
      injection e2 with e2
      injection e2 with ea eb
      subst ea; subst eb
      have h2 := hc2 0 _ rfl
      obtain ⟨b3, off3, e3, _, hc3⟩ := hA 3 (by simp)
      injection e3 with e3
      injection e3 with ea eb
      subst ea; subst eb
      have h3 := hc3 0 _ rfl
      simp at h0 h1 h2 h3
      have q0 := hb1.cell (p := ⟨w.heap.size, 0, none⟩) (by simp)
      have y0 := hb1.frozen (p := ⟨w.heap.size, 0, none⟩) (by simp)
      have q1 := hb1.cell (p := ⟨w.heap.size, 1, none⟩) (by simp)
      have y1 := hb1.frozen (p := ⟨w.heap.size, 1, none⟩) (by simp)
      have q2 := hb1.cell (p := ⟨w.heap.size, 2, none⟩) (by simp)
      have y2 := hb1.frozen (p := ⟨w.heap.size, 2, none⟩) (by simp)
      have q3 := hb1.cell (p := ⟨w.heap.size, 3, none⟩) (by simp)
      have y3 := hb1.frozen (p := ⟨w.heap.size, 3, none⟩) (by simp)
      have q4 := hb1.cell (p := ⟨w.heap.size, 4, none⟩) (by simp)
      have y4 := hb1.frozen (p := ⟨w.heap.size, 4, none⟩) (by simp)
      simp at q0 y0 q1 y1 q2 y2 q3 y3 q4 y4
      have HB1 := hide (Below.trans (show Below w.heap.size w (w.alloc (.cells #[.string ⟨#[]⟩, .int .i64 0, .int .i64 0, .int .i64 0, .int .i64 0] 39)) from (by repeat (first | with_reducible exact Below.refl _ _ | with_reducible assumption | (with_reducible refine Below.drew ?_) | (with_reducible refine below_drewN ?_ _) | ((with_reducible refine Below.alloc ?_ ?_ _); rotate_left; (focus (first | omega | (simp; omega) | simp))) | ((with_reducible refine Below.setCell ?_ ?_ _); rotate_left; (focus (first | omega | (simp; omega) | simp))) | (refine Below.trans ?_ (Below.mono (by assumption) (by first | omega | (simp; omega) | simp)))))) (hb1.mono (by simp)))
      have hz1 := hb1.size
      simp at hz1
      have hz2 : w.heap.size < w1.heap.size := by omega
      clear hb1 hA hb' hc0 hc1 hc2 hc3
      have hL : (rdL (rsB s).data.toList).length = 4 := by rw [HXE.out]; rfl
      go_wp2_with fail
      go_region
      all_goals
        go_wp2_with fail
        refine (implValidTower (hdB s) x1 x2 x3 x4 _ (by unfold maxLen; omega)).mono ?_
        rintro e w4 ⟨rfl, hb4⟩
        have r0 : w4.cell? ⟨w.heap.size, 0, none⟩ = some (.string ⟨#[]⟩) := (hb4.cell (p := ⟨w.heap.size, 0, none⟩) (by first | (simp; done) | (simp; omega))).trans (by simp [q0, hz2, World.cell?_alloc_past])
        have u0 : w4.frozen? ⟨w.heap.size, 0, none⟩ = false := (hb4.frozen (p := ⟨w.heap.size, 0, none⟩) (by first | (simp; done) | (simp; omega))).trans (by simp [y0, hz2, go_sem])
        have t0 : w4.cell? ⟨w1.heap.size, 0, none⟩ = some (.string (hdB s)) := (hb4.cell (p := ⟨w1.heap.size, 0, none⟩) (by first | (simp; done) | (simp; omega))).trans (by simp)
        have r1 : w4.cell? ⟨w.heap.size, 1, none⟩ = some (.int .i64 0) := (hb4.cell (p := ⟨w.heap.size, 1, none⟩) (by first | (simp; done) | (simp; omega))).trans (by simp [q1, hz2, World.cell?_alloc_past])
        have u1 : w4.frozen? ⟨w.heap.size, 1, none⟩ = false := (hb4.frozen (p := ⟨w.heap.size, 1, none⟩) (by first | (simp; done) | (simp; omega))).trans (by simp [y1, hz2, go_sem])
        have t1 : w4.cell? ⟨w1.heap.size, 1, none⟩ = some (.int .i64 x1) := (hb4.cell (p := ⟨w1.heap.size, 1, none⟩) (by first | (simp; done) | (simp; omega))).trans (by simp)
        have r2 : w4.cell? ⟨w.heap.size, 2, none⟩ = some (.int .i64 0) := (hb4.cell (p := ⟨w.heap.size, 2, none⟩) (by first | (simp; done) | (simp; omega))).trans (by simp [q2, hz2, World.cell?_alloc_past])
        have u2 : w4.frozen? ⟨w.heap.size, 2, none⟩ = false := (hb4.frozen (p := ⟨w.heap.size, 2, none⟩) (by first | (simp; done) | (simp; omega))).trans (by simp [y2, hz2, go_sem])
        have t2 : w4.cell? ⟨w1.heap.size, 2, none⟩ = some (.int .i64 x2) := (hb4.cell (p := ⟨w1.heap.size, 2, none⟩) (by first | (simp; done) | (simp; omega))).trans (by simp)
        have r3 : w4.cell? ⟨w.heap.size, 3, none⟩ = some (.int .i64 0) := (hb4.cell (p := ⟨w.heap.size, 3, none⟩) (by first | (simp; done) | (simp; omega))).trans (by simp [q3, hz2, World.cell?_alloc_past])
        have u3 : w4.frozen? ⟨w.heap.size, 3, none⟩ = false := (hb4.frozen (p := ⟨w.heap.size, 3, none⟩) (by first | (simp; done) | (simp; omega))).trans (by simp [y3, hz2, go_sem])
        have t3 : w4.cell? ⟨w1.heap.size, 3, none⟩ = some (.int .i64 x3) := (hb4.cell (p := ⟨w1.heap.size, 3, none⟩) (by first | (simp; done) | (simp; omega))).trans (by simp)
        have r4 : w4.cell? ⟨w.heap.size, 4, none⟩ = some (.int .i64 0) := (hb4.cell (p := ⟨w.heap.size, 4, none⟩) (by first | (simp; done) | (simp; omega))).trans (by simp [q4, hz2, World.cell?_alloc_past])
        have u4 : w4.frozen? ⟨w.heap.size, 4, none⟩ = false := (hb4.frozen (p := ⟨w.heap.size, 4, none⟩) (by first | (simp; done) | (simp; omega))).trans (by simp [y4, hz2, go_sem])
        have t4 : w4.cell? ⟨w1.heap.size, 4, none⟩ = some (.int .i64 x4) := (hb4.cell (p := ⟨w1.heap.size, 4, none⟩) (by first | (simp; done) | (simp; omega))).trans (by simp)
        have z4 := hb4.size
        simp at z4
        have HB4 := hide (show Below w.heap.size w w4 from Below.trans (show Below w.heap.size w _ from (by repeat (first | with_reducible exact HB1.out | with_reducible exact HB4.out | with_reducible exact HB5.out | with_reducible exact Below.refl _ _ | with_reducible assumption | (with_reducible refine Below.drew ?_) | (with_reducible refine below_drewN ?_ _) | ((with_reducible refine Below.alloc ?_ ?_ _); rotate_left; (focus (first | omega | (simp; omega) | simp))) | ((with_reducible refine Below.setCell ?_ ?_ _); rotate_left; (focus (first | omega | (simp; omega) | simp))) | (refine Below.trans ?_ (Below.mono (by assumption) (by first | omega | (simp; omega) | simp)))))) (hb4.mono (by simp; omega)))
        clear hb4
        go_wp2_with fail
        refine (implTowerText (hdB s) x1 x2 x3 x4 _ (HE.out.t.below HB4.out) (by unfold maxLen; omega)).mono ?_
        rintro e w5 ⟨rfl, hb5⟩
        have R0 := (hb5.cell (p := ⟨w.heap.size, 0, none⟩) (by simp; omega)).trans r0
        have U0 := (hb5.frozen (p := ⟨w.heap.size, 0, none⟩) (by simp; omega)).trans u0
        have T0 := (hb5.cell (p := ⟨w1.heap.size, 0, none⟩) (by simp; omega)).trans t0
        have R1 := (hb5.cell (p := ⟨w.heap.size, 1, none⟩) (by simp; omega)).trans r1
        have U1 := (hb5.frozen (p := ⟨w.heap.size, 1, none⟩) (by simp; omega)).trans u1
        have T1 := (hb5.cell (p := ⟨w1.heap.size, 1, none⟩) (by simp; omega)).trans t1
        have R2 := (hb5.cell (p := ⟨w.heap.size, 2, none⟩) (by simp; omega)).trans r2
        have U2 := (hb5.frozen (p := ⟨w.heap.size, 2, none⟩) (by simp; omega)).trans u2
        have T2 := (hb5.cell (p := ⟨w1.heap.size, 2, none⟩) (by simp; omega)).trans t2
        have R3 := (hb5.cell (p := ⟨w.heap.size, 3, none⟩) (by simp; omega)).trans r3
        have U3 := (hb5.frozen (p := ⟨w.heap.size, 3, none⟩) (by simp; omega)).trans u3
        have T3 := (hb5.cell (p := ⟨w1.heap.size, 3, none⟩) (by simp; omega)).trans t3
        have R4 := (hb5.cell (p := ⟨w.heap.size, 4, none⟩) (by simp; omega)).trans r4
        have U4 := (hb5.frozen (p := ⟨w.heap.size, 4, none⟩) (by simp; omega)).trans u4
        have T4 := (hb5.cell (p := ⟨w1.heap.size, 4, none⟩) (by simp; omega)).trans t4
        have z5 := hb5.size
        have HB5 := hide (HB4.out.trans (hb5.mono (by omega)))
        clear hb5 r0 u0 t0 r1 u1 t1 r2 u2 t2 r3 u3 t3 r4 u4 t4
        go_wp2_with fail
        refine bodyPost_ret (v := .tuple #[.agg #[.string (hdB s), .int .i64 x1, .int .i64 x2, .int .i64 x3, .int .i64 x4], .bool true]) (by simp [results, Tryd.results44, go_sem, R0, R1, R2, R3, R4]) rfl ⟨retTower E.1.out.symm E.2.out.symm, (by repeat (first | with_reducible exact HB1.out | with_reducible exact HB4.out | with_reducible exact HB5.out | with_reducible exact Below.refl _ _ | with_reducible assumption | (with_reducible refine Below.drew ?_) | (with_reducible refine below_drewN ?_ _) | ((with_reducible refine Below.alloc ?_ ?_ _); rotate_left; (focus (first | omega | (simp; omega) | simp))) | ((with_reducible refine Below.setCell ?_ ?_ _); rotate_left; (focus (first | omega | (simp; omega) | simp))) | (refine Below.trans ?_ (Below.mono (by assumption) (by first | omega | (simp; omega) | simp)))))⟩
  · have d3 : (((rdL (rsB s).data.toList).length : Int) != 4) = true := by simp; omega
    have E := rTower_none (l := s.data.toList) (by unfold oTower; rw [words_no hx])
    clear hx
    go_enter Tryd.func44, Tryd.ntmps44
    go_wp2_with fail
    refine (cutAt32 s _ (HE.out.below (by repeat (first | with_reducible exact Below.refl _ _ | with_reducible assumption | (with_reducible refine Below.drew ?_) | (with_reducible refine below_drewN ?_ _) | ((with_reducible refine Below.alloc ?_ ?_ _); rotate_left; (focus (first | omega | (simp; omega) | simp))) | ((with_reducible refine Below.setCell ?_ ?_ _); rotate_left; (focus (first | omega | (simp; omega) | simp))) | (refine Below.trans ?_ (Below.mono (by assumption) (by first | omega | (simp; omega) | simp)))))) hs).mono ?_
    rintro e w0 ⟨rfl, hb0⟩
    have hb0' := hide hb0
    have z0 := hb0.size
    clear hb0
    go_wp2_with fail
    refine (implReadList (rsB s) _ (HE.out.below (Below.trans (show Below w.heap.size w (w.alloc (.cells #[.string ⟨#[]⟩, .int .i64 0, .int .i64 0, .int .i64 0, .int .i64 0] 39)) from (by repeat (first | with_reducible exact Below.refl _ _ | with_reducible assumption | (with_reducible refine Below.drew ?_) | (with_reducible refine below_drewN ?_ _) | ((with_reducible refine Below.alloc ?_ ?_ _); rotate_left; (focus (first | omega | (simp; omega) | simp))) | ((with_reducible refine Below.setCell ?_ ?_ _); rotate_left; (focus (first | omega | (simp; omega) | simp))) | (refine Below.trans ?_ (Below.mono (by assumption) (by first | omega | (simp; omega) | simp)))))) (hb0'.out.mono (by simp)))) (by omega)).mono ?_
    rintro e w1 ⟨A, c, rfl, hA, hb'⟩
    have hb1 := hb0'.out.trans (hb'.mono z0)
    have q0 := hb1.cell (p := ⟨w.heap.size, 0, none⟩) (by simp)
    have y0 := hb1.frozen (p := ⟨w.heap.size, 0, none⟩) (by simp)
    have q1 := hb1.cell (p := ⟨w.heap.size, 1, none⟩) (by simp)
    have y1 := hb1.frozen (p := ⟨w.heap.size, 1, none⟩) (by simp)
    have q2 := hb1.cell (p := ⟨w.heap.size, 2, none⟩) (by simp)
    have y2 := hb1.frozen (p := ⟨w.heap.size, 2, none⟩) (by simp)
    have q3 := hb1.cell (p := ⟨w.heap.size, 3, none⟩) (by simp)
    have y3 := hb1.frozen (p := ⟨w.heap.size, 3, none⟩) (by simp)
    have q4 := hb1.cell (p := ⟨w.heap.size, 4, none⟩) (by simp)
    have y4 := hb1.frozen (p := ⟨w.heap.size, 4, none⟩) (by simp)
    simp at q0 y0 q1 y1 q2 y2 q3 y3 q4 y4
    have HB1 := hide (Below.trans (show Below w.heap.size w (w.alloc (.cells #[.string ⟨#[]⟩, .int .i64 0, .int .i64 0, .int .i64 0, .int .i64 0] 39)) from (by repeat (first | with_reducible exact Below.refl _ _ | with_reducible assumption | (with_reducible refine Below.drew ?_) | (with_reducible refine below_drewN ?_ _) | ((with_reducible refine Below.alloc ?_ ?_ _); rotate_left; (focus (first | omega | (simp; omega) | simp))) | ((with_reducible refine Below.setCell ?_ ?_ _); rotate_left; (focus (first | omega | (simp; omega) | simp))) | (refine Below.trans ?_ (Below.mono (by assumption) (by first | omega | (simp; omega) | simp)))))) (hb1.mono (by simp)))
    clear hb1 hA hb'
    go_wp2_with fail
    refine bodyPost_ret (v := .tuple #[.agg #[.string ⟨#[]⟩, .int .i64 0, .int .i64 0, .int .i64 0, .int .i64 0], .bool false]) (by simp [results, Tryd.results44, go_sem, q0, q1, q2, q3, q4]) rfl ⟨retTower E.1.out.symm E.2.out.symm, (by repeat (first | with_reducible exact HB1.out | with_reducible exact HB4.out | with_reducible exact HB5.out | with_reducible exact Below.refl _ _ | with_reducible assumption | (with_reducible refine Below.drew ?_) | (with_reducible refine below_drewN ?_ _) | ((with_reducible refine Below.alloc ?_ ?_ _); rotate_left; (focus (first | omega | (simp; omega) | simp))) | ((with_reducible refine Below.setCell ?_ ?_ _); rotate_left; (focus (first | omega | (simp; omega) | simp))) | (refine Below.trans ?_ (Below.mono (by assumption) (by first | omega | (simp; omega) | simp)))))⟩
end Go.Proofs.YtphlejphkipbpaaDoor
