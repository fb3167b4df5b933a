/- What reads a place out of a text, on both sides. Conditions: the text is at most 2^20 bytes long; for the program the library's variables are laid. -/
import Derived.Test.YtphlejphkipbpaaDoorWords
import Derived.Test.YtphlejphkipbpaaDoorTextPlace
namespace Go.Proofs.YtphlejphkipbpaaDoor
open Go.RowKit Go.Lib

/-- The place with a text. -/
def oPlace (l : List UInt8) : Option (ByteArray × Int × Int × Int × Int) := match wordsO l 4 with
  | some (a, [x1, x2, x3, x4]) => if vPlace ⟨a.toArray⟩ x1 x2 x3 x4 = true then some (⟨a.toArray⟩, x1, x2, x3, x4) else none
  | _ => none
def rvPlace (l : List UInt8) : Value := match oPlace l with | some (a, x1, x2, x3, x4) => .agg #[.string a, .int .i64 x1, .int .i64 x2, .int .i64 x3, .int .i64 x4] | none => .agg #[.string ⟨#[]⟩, .int .i64 0, .int .i64 0, .int .i64 0, .int .i64 0]
def rbPlace (l : List UInt8) : Bool := (oPlace l).isSome
theorem rvPlace_is (l : List UInt8) : ∃ (a : ByteArray) (x1 x2 x3 x4 : Int), rvPlace l = .agg #[.string a, .int .i64 x1, .int .i64 x2, .int .i64 x3, .int .i64 x4] := by
  unfold rvPlace
  split
  · exact ⟨_, _, _, _, _, rfl⟩
  · exact ⟨_, _, _, _, _, rfl⟩
theorem rPlace_none {l : List UInt8} (h : oPlace l = none) : Hid (rvPlace l = .agg #[.string ⟨#[]⟩, .int .i64 0, .int .i64 0, .int .i64 0, .int .i64 0]) ∧ Hid (rbPlace l = false) := by unfold Hid rvPlace rbPlace; rw [h]; exact ⟨rfl, rfl⟩
theorem rPlace_some {l : List UInt8} {a : ByteArray} {x1 x2 x3 x4 : Int} (h : oPlace l = some (a, x1, x2, x3, x4)) : Hid (rvPlace l = .agg #[.string a, .int .i64 x1, .int .i64 x2, .int .i64 x3, .int .i64 x4]) ∧ Hid (rbPlace l = true) := by unfold Hid rvPlace rbPlace; rw [h]; exact ⟨rfl, rfl⟩
theorem retPlace {u v : Value} {b c : Bool} (h : u = v) (h2 : b = c) : Ending.returned (.tuple #[u, .bool b]) = .returned (.tuple #[v, .bool c]) := by rw [h, h2]
theorem text_backPlace {s : ByteArray} {x1 x2 x3 x4 : Int} (hw : wordsO s.data.toList 4 = some ((hdB s).data.toList, [x1, x2, x3, x4])) (hv : vPlace (hdB s) x1 x2 x3 x4 = true) : (txPlace (hdB s) x1 x2 x3 x4).toList == s.toList := by
  have hq := (vPlace_vals hv).2
  have h1 := (words_text hw).1
  have h2 : txPlace (hdB s) x1 x2 x3 x4 = s := Go.WideShapes.bytes_inj (by
    unfold txPlace twoW
    rw [if_pos hv, h1, list_row (by simp) hq]
    simp)
  rw [h2]
  simp
set_option maxRecDepth 100000 in
set_option maxHeartbeats 4000000 in
theorem specReadPlace (s : ByteArray) (w : World) (hs : s.size ≤ 1048576) : Calls Tryd.prog 37 #[.string s] w fun e w' => e = .returned (.tuple #[rvPlace s.data.toList, .bool (rbPlace s.data.toList)]) ∧ Below w.heap.size w w' := by
  have HPL := hide (partsB_len s 32)
  by_cases h2 : (partsB s 32).length = 2
  · have d2 : (((partsB s 32).length : Int) != 2) = false := by simp; omega
    have g0 := partsB_get s 32 0 (by omega)
    have g1 := partsB_get s 32 1 (by omega)
    have hw0 := words_two (k := 4) (by rw [← HPL.out]; exact h2) g0 g1
    have z1 := part_size s 32 _ (List.getElem_mem (show 1 < (partsB s 32).length by omega))
    have z0 := part_size s 32 _ (List.getElem_mem (show 0 < (partsB s 32).length by omega))
    obtain ⟨p, hp⟩ : ∃ p, (partsB s 32)[0] = p := ⟨_, rfl⟩
    obtain ⟨q, hq⟩ : ∃ q, (partsB s 32)[1] = q := ⟨_, rfl⟩
    rw [hp, hq] at hw0
    rw [hq] at z1
    rw [hp] at z0
    have HP := hide hp
    have HQ := hide hq
    have HW := hide (words_rd hw0)
    clear g0 g1 hw0 hp hq
    cases hrb : rdB q.data.toList
    · have E := rPlace_none (l := s.data.toList) (by unfold oPlace; rw [HW.out.1 hrb])
      clear HW
      go_enter Tryd.func37, Tryd.ntmps37
      go_wp2_with fail
      refine (specl01Split s 32 _ hs).mono ?_
      rintro e w1 ⟨A1, cp1, rfl, hO1, hb1⟩
      have hP := Own.at_ (enc := encStr) (sz := 1) (fun _ => rfl) hO1
      obtain ⟨pb, po, rfl, hpb, hk0⟩ := hP 0 (by omega)
      obtain ⟨pb2, po2, e4, _, hk1⟩ := hP 1 (by omega)
      injection e4 with e4
      injection e4 with e5 e6
      subst e5; subst e6
      have hc0 := hk0 0 _ rfl
      have hc1 := hk1 0 _ rfl
      simp only [Nat.zero_mul, Nat.one_mul, Nat.add_zero] at hc0 hc1
      rw [HP.out] at hc0
      rw [HQ.out] at hc1
      clear hO1 hP hk0 hk1
      have HB0 := hide hb1
      clear hb1
      go_wp2_with fail
      refine (specReadList q _ (by omega)).mono ?_
      rintro e w2 ⟨A, c, rfl, hA, hb2⟩
      have hd0 := (hb2.cell (p := ⟨pb, po, none⟩) hpb).trans hc0
      have hpb2 : pb < w2.heap.size := Nat.lt_of_lt_of_le hpb hb2.size
      have hb := HB0.out.trans (hb2.mono HB0.out.size)
      have q0 := hb.cell (p := ⟨w.heap.size, 0, none⟩) (by simp)
      have y0 := hb.frozen (p := ⟨w.heap.size, 0, none⟩) (by simp)
      have q1 := hb.cell (p := ⟨w.heap.size, 1, none⟩) (by simp)
      have y1 := hb.frozen (p := ⟨w.heap.size, 1, none⟩) (by simp)
      have q2 := hb.cell (p := ⟨w.heap.size, 2, none⟩) (by simp)
      have y2 := hb.frozen (p := ⟨w.heap.size, 2, none⟩) (by simp)
      have q3 := hb.cell (p := ⟨w.heap.size, 3, none⟩) (by simp)
      have y3 := hb.frozen (p := ⟨w.heap.size, 3, none⟩) (by simp)
      have q4 := hb.cell (p := ⟨w.heap.size, 4, none⟩) (by simp)
      have y4 := hb.frozen (p := ⟨w.heap.size, 4, none⟩) (by simp)
      simp at q0 y0 q1 y1 q2 y2 q3 y3 q4 y4
      have HB1 := hide (Below.trans (show Below w.heap.size w (w.alloc (.cells #[.string ⟨#[]⟩, .int .i64 0, .int .i64 0, .int .i64 0, .int .i64 0] 46)) from (by repeat (first | with_reducible exact Below.refl _ _ | with_reducible assumption | (with_reducible refine Below.drew ?_) | (with_reducible refine below_drewN ?_ _) | ((with_reducible refine Below.alloc ?_ ?_ _); rotate_left; (focus (first | omega | (simp; omega) | simp))) | ((with_reducible refine Below.setCell ?_ ?_ _); rotate_left; (focus (first | omega | (simp; omega) | simp))) | (refine Below.trans ?_ (Below.mono (by assumption) (by first | omega | (simp; omega) | simp)))))) (hb.mono (by simp)))
      have hz1 := hb.size
      simp at hz1
      have hz2 : w.heap.size < w2.heap.size := by omega
      clear hb2 hb hA
      go_wp2_with fail
      refine bodyPost_ret (v := .tuple #[.agg #[.string ⟨#[]⟩, .int .i64 0, .int .i64 0, .int .i64 0, .int .i64 0], .bool false]) (by simp [results, Tryd.results37, go_sem, q0, q1, q2, q3, q4]) rfl ⟨retPlace E.1.out.symm E.2.out.symm, (by repeat (first | with_reducible exact HB1.out | with_reducible exact HB4.out | with_reducible exact HB5.out | with_reducible exact Below.refl _ _ | with_reducible assumption | (with_reducible refine Below.drew ?_) | (with_reducible refine below_drewN ?_ _) | ((with_reducible refine Below.alloc ?_ ?_ _); rotate_left; (focus (first | omega | (simp; omega) | simp))) | ((with_reducible refine Below.setCell ?_ ?_ _); rotate_left; (focus (first | omega | (simp; omega) | simp))) | (refine Below.trans ?_ (Below.mono (by assumption) (by first | omega | (simp; omega) | simp)))))⟩
    · by_cases hln : (rdL q.data.toList).length = 4
      · have hw := HW.out.2.2 hrb hln
        obtain ⟨x1, x2, x3, x4, hxe⟩ : ∃ x1 x2 x3 x4 : Int, rdL q.data.toList = [x1, x2, x3, x4] := by
          match hm : rdL q.data.toList, hln with
          | [x1, x2, x3, x4], _ => exact ⟨_, _, _, _, rfl⟩
        rw [hxe] at hw
        have HXE := hide hxe
        have d3 : (((rdL q.data.toList).length : Int) != 4) = false := by simp; omega
        clear hxe hln HW
        have hns : p.size ≤ maxLen := by unfold maxLen; omega
        cases hv : vPlace p x1 x2 x3 x4
        · have E := rPlace_none (l := s.data.toList) (by unfold oPlace; rw [hw]; simp only; rw [bytes_back]; rw [if_neg (by rw [hv]; decide)])
          clear hw
          go_enter Tryd.func37, Tryd.ntmps37
          go_wp2_with fail
          refine (specl01Split s 32 _ hs).mono ?_
          rintro e w1 ⟨A1, cp1, rfl, hO1, hb1⟩
          have hP := Own.at_ (enc := encStr) (sz := 1) (fun _ => rfl) hO1
          obtain ⟨pb, po, rfl, hpb, hk0⟩ := hP 0 (by omega)
          obtain ⟨pb2, po2, e4, _, hk1⟩ := hP 1 (by omega)
          injection e4 with e4
          injection e4 with e5 e6
          subst e5; subst e6
          have hc0 := hk0 0 _ rfl
          have hc1 := hk1 0 _ rfl
          simp only [Nat.zero_mul, Nat.one_mul, Nat.add_zero] at hc0 hc1
          rw [HP.out] at hc0
          rw [HQ.out] at hc1
          clear hO1 hP hk0 hk1
          have HB0 := hide hb1
          clear hb1
          go_wp2_with fail
          refine (specReadList q _ (by omega)).mono ?_
          rintro e w2 ⟨A, c, rfl, hA, hb2⟩
          have hd0 := (hb2.cell (p := ⟨pb, po, none⟩) hpb).trans hc0
          have hpb2 : pb < w2.heap.size := Nat.lt_of_lt_of_le hpb hb2.size
          have hb := HB0.out.trans (hb2.mono HB0.out.size)
          rw [HXE.out] at hA
          obtain ⟨b, off, rfl, hbl, hc0⟩ := hA 0 (by simp)
          have h0 := hc0 0 _ rfl
          obtain ⟨b1, off1, e1, _, hc1⟩ := hA 1 (by simp)
          injection e1 with e1
          injection e1 with ea eb
          subst ea; subst eb
          have h1 := hc1 0 _ rfl
          obtain ⟨b2, off2, e2, _, hc2⟩ := hA 2 (by simp)
          injection e2 with e2
          injection e2 with ea eb
          subst ea; subst eb
          have h2 := hc2 0 _ rfl
          obtain ⟨b3, off3, e3, _, hc3⟩ := hA 3 (by simp)
          injection e3 with e3
          injection e3 with ea eb
          subst ea; subst eb
          have h3 := hc3 0 _ rfl
          simp at h0 h1 h2 h3
          have q0 := hb.cell (p := ⟨w.heap.size, 0, none⟩) (by simp)
          have y0 := hb.frozen (p := ⟨w.heap.size, 0, none⟩) (by simp)
          have q1 := hb.cell (p := ⟨w.heap.size, 1, none⟩) (by simp)
          have y1 := hb.frozen (p := ⟨w.heap.size, 1, none⟩) (by simp)
          have q2 := hb.cell (p := ⟨w.heap.size, 2, none⟩) (by simp)
          have y2 := hb.frozen (p := ⟨w.heap.size, 2, none⟩) (by simp)
          have q3 := hb.cell (p := ⟨w.heap.size, 3, none⟩) (by simp)
          have y3 := hb.frozen (p := ⟨w.heap.size, 3, none⟩) (by simp)
          have q4 := hb.cell (p := ⟨w.heap.size, 4, none⟩) (by simp)
          have y4 := hb.frozen (p := ⟨w.heap.size, 4, none⟩) (by simp)
          simp at q0 y0 q1 y1 q2 y2 q3 y3 q4 y4
          have HB1 := hide (Below.trans (show Below w.heap.size w (w.alloc (.cells #[.string ⟨#[]⟩, .int .i64 0, .int .i64 0, .int .i64 0, .int .i64 0] 46)) from (by repeat (first | with_reducible exact Below.refl _ _ | with_reducible assumption | (with_reducible refine Below.drew ?_) | (with_reducible refine below_drewN ?_ _) | ((with_reducible refine Below.alloc ?_ ?_ _); rotate_left; (focus (first | omega | (simp; omega) | simp))) | ((with_reducible refine Below.setCell ?_ ?_ _); rotate_left; (focus (first | omega | (simp; omega) | simp))) | (refine Below.trans ?_ (Below.mono (by assumption) (by first | omega | (simp; omega) | simp)))))) (hb.mono (by simp)))
          have hz1 := hb.size
          simp at hz1
          have hz2 : w.heap.size < w2.heap.size := by omega
          clear hb2 hb hA hc2 hc3
          have hL : (rdL q.data.toList).length = 4 := by rw [HXE.out]; rfl
          go_wp2_with fail
          go_region
          all_goals
            go_wp2_with fail
            refine (specl23One _ 0 p x1 x2 x3 x4 _ hns (by simp) (by simp) (by simp) (by simp) (by simp)).mono ?_
            rintro e w3 ⟨rfl, rfl⟩
            go_wp2_with fail
            refine bodyPost_ret (v := .tuple #[.agg #[.string ⟨#[]⟩, .int .i64 0, .int .i64 0, .int .i64 0, .int .i64 0], .bool false]) (by simp [results, Tryd.results37, go_sem, q0, q1, q2, q3, q4, hz2, World.cell?_alloc_past]) rfl ⟨retPlace E.1.out.symm E.2.out.symm, (by repeat (first | with_reducible exact HB1.out | with_reducible exact HB4.out | with_reducible exact HB5.out | with_reducible exact Below.refl _ _ | with_reducible assumption | (with_reducible refine Below.drew ?_) | (with_reducible refine below_drewN ?_ _) | ((with_reducible refine Below.alloc ?_ ?_ _); rotate_left; (focus (first | omega | (simp; omega) | simp))) | ((with_reducible refine Below.setCell ?_ ?_ _); rotate_left; (focus (first | omega | (simp; omega) | simp))) | (refine Below.trans ?_ (Below.mono (by assumption) (by first | omega | (simp; omega) | simp)))))⟩
        · have E := rPlace_some (l := s.data.toList) (by unfold oPlace; rw [hw]; simp only; rw [bytes_back]; rw [if_pos hv])
          clear hw
          go_enter Tryd.func37, Tryd.ntmps37
          go_wp2_with fail
          refine (specl01Split s 32 _ hs).mono ?_
          rintro e w1 ⟨A1, cp1, rfl, hO1, hb1⟩
          have hP := Own.at_ (enc := encStr) (sz := 1) (fun _ => rfl) hO1
          obtain ⟨pb, po, rfl, hpb, hk0⟩ := hP 0 (by omega)
          obtain ⟨pb2, po2, e4, _, hk1⟩ := hP 1 (by omega)
          injection e4 with e4
          injection e4 with e5 e6
          subst e5; subst e6
          have hc0 := hk0 0 _ rfl
          have hc1 := hk1 0 _ rfl
          simp only [Nat.zero_mul, Nat.one_mul, Nat.add_zero] at hc0 hc1
          rw [HP.out] at hc0
          rw [HQ.out] at hc1
          clear hO1 hP hk0 hk1
          have HB0 := hide hb1
          clear hb1
          go_wp2_with fail
          refine (specReadList q _ (by omega)).mono ?_
          rintro e w2 ⟨A, c, rfl, hA, hb2⟩
          have hd0 := (hb2.cell (p := ⟨pb, po, none⟩) hpb).trans hc0
          have hpb2 : pb < w2.heap.size := Nat.lt_of_lt_of_le hpb hb2.size
          have hb := HB0.out.trans (hb2.mono HB0.out.size)
          rw [HXE.out] at hA
          obtain ⟨b, off, rfl, hbl, hc0⟩ := hA 0 (by simp)
          have h0 := hc0 0 _ rfl
          obtain ⟨b1, off1, e1, _, hc1⟩ := hA 1 (by simp)
          injection e1 with e1
          injection e1 with ea eb
          subst ea; subst eb
          have h1 := hc1 0 _ rfl
          obtain ⟨b2, off2, e2, _, hc2⟩ := hA 2 (by simp)
          injection e2 with e2
          injection e2 with ea eb
          subst ea; subst eb
          have h2 := hc2 0 _ rfl
          obtain ⟨b3, off3, e3, _, hc3⟩ := hA 3 (by simp)
          injection e3 with e3
          injection e3 with ea eb
          subst ea; subst eb
          have h3 := hc3 0 _ rfl
          simp at h0 h1 h2 h3
          have q0 := hb.cell (p := ⟨w.heap.size, 0, none⟩) (by simp)
          have y0 := hb.frozen (p := ⟨w.heap.size, 0, none⟩) (by simp)
          have q1 := hb.cell (p := ⟨w.heap.size, 1, none⟩) (by simp)
          have y1 := hb.frozen (p := ⟨w.heap.size, 1, none⟩) (by simp)
          have q2 := hb.cell (p := ⟨w.heap.size, 2, none⟩) (by simp)
          have y2 := hb.frozen (p := ⟨w.heap.size, 2, none⟩) (by simp)
          have q3 := hb.cell (p := ⟨w.heap.size, 3, none⟩) (by simp)
          have y3 := hb.frozen (p := ⟨w.heap.size, 3, none⟩) (by simp)
          have q4 := hb.cell (p := ⟨w.heap.size, 4, none⟩) (by simp)
          have y4 := hb.frozen (p := ⟨w.heap.size, 4, none⟩) (by simp)
          simp at q0 y0 q1 y1 q2 y2 q3 y3 q4 y4
          have HB1 := hide (Below.trans (show Below w.heap.size w (w.alloc (.cells #[.string ⟨#[]⟩, .int .i64 0, .int .i64 0, .int .i64 0, .int .i64 0] 46)) from (by repeat (first | with_reducible exact Below.refl _ _ | with_reducible assumption | (with_reducible refine Below.drew ?_) | (with_reducible refine below_drewN ?_ _) | ((with_reducible refine Below.alloc ?_ ?_ _); rotate_left; (focus (first | omega | (simp; omega) | simp))) | ((with_reducible refine Below.setCell ?_ ?_ _); rotate_left; (focus (first | omega | (simp; omega) | simp))) | (refine Below.trans ?_ (Below.mono (by assumption) (by first | omega | (simp; omega) | simp)))))) (hb.mono (by simp)))
          have hz1 := hb.size
          simp at hz1
          have hz2 : w.heap.size < w2.heap.size := by omega
          clear hb2 hb hA hc2 hc3
          have hL : (rdL q.data.toList).length = 4 := by rw [HXE.out]; rfl
          go_wp2_with fail
          go_region
          all_goals
            go_wp2_with fail
            refine (specl23One _ 0 p x1 x2 x3 x4 _ hns (by simp) (by simp) (by simp) (by simp) (by simp)).mono ?_
            rintro e w3 ⟨rfl, rfl⟩
            go_wp2_with fail
            refine bodyPost_ret (v := .tuple #[.agg #[.string p, .int .i64 x1, .int .i64 x2, .int .i64 x3, .int .i64 x4], .bool true]) (by simp [results, Tryd.results37, go_sem, q0, q1, q2, q3, q4, hz2, World.cell?_alloc_past]) rfl ⟨retPlace E.1.out.symm E.2.out.symm, (by repeat (first | with_reducible exact HB1.out | with_reducible exact HB4.out | with_reducible exact HB5.out | with_reducible exact Below.refl _ _ | with_reducible assumption | (with_reducible refine Below.drew ?_) | (with_reducible refine below_drewN ?_ _) | ((with_reducible refine Below.alloc ?_ ?_ _); rotate_left; (focus (first | omega | (simp; omega) | simp))) | ((with_reducible refine Below.setCell ?_ ?_ _); rotate_left; (focus (first | omega | (simp; omega) | simp))) | (refine Below.trans ?_ (Below.mono (by assumption) (by first | omega | (simp; omega) | simp)))))⟩
      · have E := rPlace_none (l := s.data.toList) (by unfold oPlace; rw [HW.out.2.1 hrb hln])
        have d3 : (((rdL q.data.toList).length : Int) != 4) = true := by simp; omega
        clear HW hln
        go_enter Tryd.func37, Tryd.ntmps37
        go_wp2_with fail
        refine (specl01Split s 32 _ hs).mono ?_
        rintro e w1 ⟨A1, cp1, rfl, hO1, hb1⟩
        have hP := Own.at_ (enc := encStr) (sz := 1) (fun _ => rfl) hO1
        obtain ⟨pb, po, rfl, hpb, hk0⟩ := hP 0 (by omega)
        obtain ⟨pb2, po2, e4, _, hk1⟩ := hP 1 (by omega)
        injection e4 with e4
        injection e4 with e5 e6
        subst e5; subst e6
        have hc0 := hk0 0 _ rfl
        have hc1 := hk1 0 _ rfl
        simp only [Nat.zero_mul, Nat.one_mul, Nat.add_zero] at hc0 hc1
        rw [HP.out] at hc0
        rw [HQ.out] at hc1
        clear hO1 hP hk0 hk1
        have HB0 := hide hb1
        clear hb1
        go_wp2_with fail
        refine (specReadList q _ (by omega)).mono ?_
        rintro e w2 ⟨A, c, rfl, hA, hb2⟩
        have hd0 := (hb2.cell (p := ⟨pb, po, none⟩) hpb).trans hc0
        have hpb2 : pb < w2.heap.size := Nat.lt_of_lt_of_le hpb hb2.size
        have hb := HB0.out.trans (hb2.mono HB0.out.size)
        have q0 := hb.cell (p := ⟨w.heap.size, 0, none⟩) (by simp)
        have y0 := hb.frozen (p := ⟨w.heap.size, 0, none⟩) (by simp)
        have q1 := hb.cell (p := ⟨w.heap.size, 1, none⟩) (by simp)
        have y1 := hb.frozen (p := ⟨w.heap.size, 1, none⟩) (by simp)
        have q2 := hb.cell (p := ⟨w.heap.size, 2, none⟩) (by simp)
        have y2 := hb.frozen (p := ⟨w.heap.size, 2, none⟩) (by simp)
        have q3 := hb.cell (p := ⟨w.heap.size, 3, none⟩) (by simp)
        have y3 := hb.frozen (p := ⟨w.heap.size, 3, none⟩) (by simp)
        have q4 := hb.cell (p := ⟨w.heap.size, 4, none⟩) (by simp)
        have y4 := hb.frozen (p := ⟨w.heap.size, 4, none⟩) (by simp)
        simp at q0 y0 q1 y1 q2 y2 q3 y3 q4 y4
        have HB1 := hide (Below.trans (show Below w.heap.size w (w.alloc (.cells #[.string ⟨#[]⟩, .int .i64 0, .int .i64 0, .int .i64 0, .int .i64 0] 46)) from (by repeat (first | with_reducible exact Below.refl _ _ | with_reducible assumption | (with_reducible refine Below.drew ?_) | (with_reducible refine below_drewN ?_ _) | ((with_reducible refine Below.alloc ?_ ?_ _); rotate_left; (focus (first | omega | (simp; omega) | simp))) | ((with_reducible refine Below.setCell ?_ ?_ _); rotate_left; (focus (first | omega | (simp; omega) | simp))) | (refine Below.trans ?_ (Below.mono (by assumption) (by first | omega | (simp; omega) | simp)))))) (hb.mono (by simp)))
        have hz1 := hb.size
        simp at hz1
        have hz2 : w.heap.size < w2.heap.size := by omega
        clear hb2 hb hA
        go_wp2_with fail
        refine bodyPost_ret (v := .tuple #[.agg #[.string ⟨#[]⟩, .int .i64 0, .int .i64 0, .int .i64 0, .int .i64 0], .bool false]) (by simp [results, Tryd.results37, go_sem, q0, q1, q2, q3, q4]) rfl ⟨retPlace E.1.out.symm E.2.out.symm, (by repeat (first | with_reducible exact HB1.out | with_reducible exact HB4.out | with_reducible exact HB5.out | with_reducible exact Below.refl _ _ | with_reducible assumption | (with_reducible refine Below.drew ?_) | (with_reducible refine below_drewN ?_ _) | ((with_reducible refine Below.alloc ?_ ?_ _); rotate_left; (focus (first | omega | (simp; omega) | simp))) | ((with_reducible refine Below.setCell ?_ ?_ _); rotate_left; (focus (first | omega | (simp; omega) | simp))) | (refine Below.trans ?_ (Below.mono (by assumption) (by first | omega | (simp; omega) | simp)))))⟩
  · have d2 : (((partsB s 32).length : Int) != 2) = true := by simp; omega
    have E := rPlace_none (l := s.data.toList) (by unfold oPlace; rw [words_len (by rw [← HPL.out]; exact h2)])
    go_enter Tryd.func37, Tryd.ntmps37
    go_wp2_with fail
    refine (specl01Split s 32 _ hs).mono ?_
    rintro e w1 ⟨A1, cp1, rfl, hO1, hb1⟩
    have q0 := hb1.cell (p := ⟨w.heap.size, 0, none⟩) (by simp)
    have y0 := hb1.frozen (p := ⟨w.heap.size, 0, none⟩) (by simp)
    have q1 := hb1.cell (p := ⟨w.heap.size, 1, none⟩) (by simp)
    have y1 := hb1.frozen (p := ⟨w.heap.size, 1, none⟩) (by simp)
    have q2 := hb1.cell (p := ⟨w.heap.size, 2, none⟩) (by simp)
    have y2 := hb1.frozen (p := ⟨w.heap.size, 2, none⟩) (by simp)
    have q3 := hb1.cell (p := ⟨w.heap.size, 3, none⟩) (by simp)
    have y3 := hb1.frozen (p := ⟨w.heap.size, 3, none⟩) (by simp)
    have q4 := hb1.cell (p := ⟨w.heap.size, 4, none⟩) (by simp)
    have y4 := hb1.frozen (p := ⟨w.heap.size, 4, none⟩) (by simp)
    simp at q0 y0 q1 y1 q2 y2 q3 y3 q4 y4
    have HB1 := hide (Below.trans (show Below w.heap.size w (w.alloc (.cells #[.string ⟨#[]⟩, .int .i64 0, .int .i64 0, .int .i64 0, .int .i64 0] 46)) from (by repeat (first | with_reducible exact Below.refl _ _ | with_reducible assumption | (with_reducible refine Below.drew ?_) | (with_reducible refine below_drewN ?_ _) | ((with_reducible refine Below.alloc ?_ ?_ _); rotate_left; (focus (first | omega | (simp; omega) | simp))) | ((with_reducible refine Below.setCell ?_ ?_ _); rotate_left; (focus (first | omega | (simp; omega) | simp))) | (refine Below.trans ?_ (Below.mono (by assumption) (by first | omega | (simp; omega) | simp)))))) (hb1.mono (by simp)))
    clear hb1 hO1
    go_wp2_with fail
    refine bodyPost_ret (v := .tuple #[.agg #[.string ⟨#[]⟩, .int .i64 0, .int .i64 0, .int .i64 0, .int .i64 0], .bool false]) (by simp [results, Tryd.results37, go_sem, q0, q1, q2, q3, q4]) rfl ⟨retPlace E.1.out.symm E.2.out.symm, (by repeat (first | with_reducible exact HB1.out | with_reducible exact HB4.out | with_reducible exact HB5.out | with_reducible exact Below.refl _ _ | with_reducible assumption | (with_reducible refine Below.drew ?_) | (with_reducible refine below_drewN ?_ _) | ((with_reducible refine Below.alloc ?_ ?_ _); rotate_left; (focus (first | omega | (simp; omega) | simp))) | ((with_reducible refine Below.setCell ?_ ?_ _); rotate_left; (focus (first | omega | (simp; omega) | simp))) | (refine Below.trans ?_ (Below.mono (by assumption) (by first | omega | (simp; omega) | simp)))))⟩
set_option maxRecDepth 100000 in
set_option maxHeartbeats 4000000 in
theorem implReadPlace (s : ByteArray) (w : World) (hE : Env w) (hs : s.size ≤ 1048576) : Calls Tryd.prog 38 #[.string s] w fun e w' => e = .returned (.tuple #[rvPlace s.data.toList, .bool (rbPlace s.data.toList)]) ∧ Below w.heap.size w w' := by
  have HE := hide hE
  clear hE
  have hz := hd_size s
  by_cases hx : (rdL (rsB s).data.toList).length = 4
  · have d3 : (((rdL (rsB s).data.toList).length : Int) != 4) = false := by simp; omega
    have hw := words_yes hx (by decide)
    obtain ⟨x1, x2, x3, x4, hxe⟩ : ∃ x1 x2 x3 x4 : Int, rdL (rsB s).data.toList = [x1, x2, x3, x4] := by
      match hm : rdL (rsB s).data.toList, hx with
      | [x1, x2, x3, x4], _ => exact ⟨_, _, _, _, rfl⟩
    rw [hxe] at hw
    have HXE := hide hxe
    clear hxe hx
    cases hv : vPlace (hdB s) x1 x2 x3 x4
    · have E := rPlace_none (l := s.data.toList) (by unfold oPlace; rw [hw]; simp only; rw [bytes_back]; rw [if_neg (by rw [hv]; decide)])
      clear hw
      go_enter Tryd.func38, Tryd.ntmps38
      go_wp2_with fail
      refine (cutAt32 s _ (HE.out.below (by repeat (first | with_reducible exact Below.refl _ _ | with_reducible assumption | (with_reducible refine Below.drew ?_) | (with_reducible refine below_drewN ?_ _) | ((with_reducible refine Below.alloc ?_ ?_ _); rotate_left; (focus (first | omega | (simp; omega) | simp))) | ((with_reducible refine Below.setCell ?_ ?_ _); rotate_left; (focus (first | omega | (simp; omega) | simp))) | (refine Below.trans ?_ (Below.mono (by assumption) (by first | omega | (simp; omega) | simp)))))) hs).mono ?_
      rintro e w0 ⟨rfl, hb0⟩
      have hb0' := hide hb0
      have z0 := hb0.size
      clear hb0
      go_wp2_with fail
      refine (implReadList (rsB s) _ (HE.out.below (Below.trans (show Below w.heap.size w (w.alloc (.cells #[.string ⟨#[]⟩, .int .i64 0, .int .i64 0, .int .i64 0, .int .i64 0] 46)) from (by repeat (first | with_reducible exact Below.refl _ _ | with_reducible assumption | (with_reducible refine Below.drew ?_) | (with_reducible refine below_drewN ?_ _) | ((with_reducible refine Below.alloc ?_ ?_ _); rotate_left; (focus (first | omega | (simp; omega) | simp))) | ((with_reducible refine Below.setCell ?_ ?_ _); rotate_left; (focus (first | omega | (simp; omega) | simp))) | (refine Below.trans ?_ (Below.mono (by assumption) (by first | omega | (simp; omega) | simp)))))) (hb0'.out.mono (by simp)))) (by omega)).mono ?_
      rintro e w1 ⟨A, c, rfl, hA, hb'⟩
      have hb1 := hb0'.out.trans (hb'.mono z0)
      rw [HXE.out] at hA
      obtain ⟨b, off, rfl, hbl, hc0⟩ := hA 0 (by simp)
      have h0 := hc0 0 _ rfl
      obtain ⟨b1, off1, e1, _, hc1⟩ := hA 1 (by simp)
      injection e1 with e1
      injection e1 with ea eb
      subst ea; subst eb
      have h1 := hc1 0 _ rfl
      obtain ⟨b2, off2, e2, _, hc2⟩ := hA 2 (by simp)
      injection e2 with e2
      injection e2 with ea eb
      subst ea; subst eb
      have h2 := hc2 0 _ rfl
      obtain ⟨b3, off3, e3, _, hc3⟩ := hA 3 (by simp)
      injection e3 with e3
      injection e3 with ea eb
      subst ea; subst eb
      have h3 := hc3 0 _ rfl
      simp at h0 h1 h2 h3
      have q0 := hb1.cell (p := ⟨w.heap.size, 0, none⟩) (by simp)
      have y0 := hb1.frozen (p := ⟨w.heap.size, 0, none⟩) (by simp)
      have q1 := hb1.cell (p := ⟨w.heap.size, 1, none⟩) (by simp)
      have y1 := hb1.frozen (p := ⟨w.heap.size, 1, none⟩) (by simp)
      have q2 := hb1.cell (p := ⟨w.heap.size, 2, none⟩) (by simp)
      have y2 := hb1.frozen (p := ⟨w.heap.size, 2, none⟩) (by simp)
      have q3 := hb1.cell (p := ⟨w.heap.size, 3, none⟩) (by simp)
      have y3 := hb1.frozen (p := ⟨w.heap.size, 3, none⟩) (by simp)
      have q4 := hb1.cell (p := ⟨w.heap.size, 4, none⟩) (by simp)
      have y4 := hb1.frozen (p := ⟨w.heap.size, 4, none⟩) (by simp)
      simp at q0 y0 q1 y1 q2 y2 q3 y3 q4 y4
      have HB1 := hide (Below.trans (show Below w.heap.size w (w.alloc (.cells #[.string ⟨#[]⟩, .int .i64 0, .int .i64 0, .int .i64 0, .int .i64 0] 46)) from (by repeat (first | with_reducible exact Below.refl _ _ | with_reducible assumption | (with_reducible refine Below.drew ?_) | (with_reducible refine below_drewN ?_ _) | ((with_reducible refine Below.alloc ?_ ?_ _); rotate_left; (focus (first | omega | (simp; omega) | simp))) | ((with_reducible refine Below.setCell ?_ ?_ _); rotate_left; (focus (first | omega | (simp; omega) | simp))) | (refine Below.trans ?_ (Below.mono (by assumption) (by first | omega | (simp; omega) | simp)))))) (hb1.mono (by simp)))
      have hz1 := hb1.size
      simp at hz1
      have hz2 : w.heap.size < w1.heap.size := by omega
      clear hb1 hA hb' hc0 hc1 hc2 hc3
      have hL : (rdL (rsB s).data.toList).length = 4 := by rw [HXE.out]; rfl
      go_wp2_with fail
      go_region
      all_goals
        go_wp2_with fail
        refine (implvalidPlace (hdB s) x1 x2 x3 x4 _ (by unfold maxLen; omega)).mono ?_
        rintro e w4 ⟨rfl, hb4⟩
        have r0 : w4.cell? ⟨w.heap.size, 0, none⟩ = some (.string ⟨#[]⟩) := (hb4.cell (p := ⟨w.heap.size, 0, none⟩) (by first | (simp; done) | (simp; omega))).trans (by simp [q0, hz2, World.cell?_alloc_past])
        have u0 : w4.frozen? ⟨w.heap.size, 0, none⟩ = false := (hb4.frozen (p := ⟨w.heap.size, 0, none⟩) (by first | (simp; done) | (simp; omega))).trans (by simp [y0, hz2, go_sem])
        have t0 : w4.cell? ⟨w1.heap.size, 0, none⟩ = some (.string (hdB s)) := (hb4.cell (p := ⟨w1.heap.size, 0, none⟩) (by first | (simp; done) | (simp; omega))).trans (by simp)
        have r1 : w4.cell? ⟨w.heap.size, 1, none⟩ = some (.int .i64 0) := (hb4.cell (p := ⟨w.heap.size, 1, none⟩) (by first | (simp; done) | (simp; omega))).trans (by simp [q1, hz2, World.cell?_alloc_past])
        have u1 : w4.frozen? ⟨w.heap.size, 1, none⟩ = false := (hb4.frozen (p := ⟨w.heap.size, 1, none⟩) (by first | (simp; done) | (simp; omega))).trans (by simp [y1, hz2, go_sem])
        have t1 : w4.cell? ⟨w1.heap.size, 1, none⟩ = some (.int .i64 x1) := (hb4.cell (p := ⟨w1.heap.size, 1, none⟩) (by first | (simp; done) | (simp; omega))).trans (by simp)
        have r2 : w4.cell? ⟨w.heap.size, 2, none⟩ = some (.int .i64 0) := (hb4.cell (p := ⟨w.heap.size, 2, none⟩) (by first | (simp; done) | (simp; omega))).trans (by simp [q2, hz2, World.cell?_alloc_past])
        have u2 : w4.frozen? ⟨w.heap.size, 2, none⟩ = false := (hb4.frozen (p := ⟨w.heap.size, 2, none⟩) (by first | (simp; done) | (simp; omega))).trans (by simp [y2, hz2, go_sem])
        have t2 : w4.cell? ⟨w1.heap.size, 2, none⟩ = some (.int .i64 x2) := (hb4.cell (p := ⟨w1.heap.size, 2, none⟩) (by first | (simp; done) | (simp; omega))).trans (by simp)
        have r3 : w4.cell? ⟨w.heap.size, 3, none⟩ = some (.int .i64 0) := (hb4.cell (p := ⟨w.heap.size, 3, none⟩) (by first | (simp; done) | (simp; omega))).trans (by simp [q3, hz2, World.cell?_alloc_past])
        have u3 : w4.frozen? ⟨w.heap.size, 3, none⟩ = false := (hb4.frozen (p := ⟨w.heap.size, 3, none⟩) (by first | (simp; done) | (simp; omega))).trans (by simp [y3, hz2, go_sem])
        have t3 : w4.cell? ⟨w1.heap.size, 3, none⟩ = some (.int .i64 x3) := (hb4.cell (p := ⟨w1.heap.size, 3, none⟩) (by first | (simp; done) | (simp; omega))).trans (by simp)
        have r4 : w4.cell? ⟨w.heap.size, 4, none⟩ = some (.int .i64 0) := (hb4.cell (p := ⟨w.heap.size, 4, none⟩) (by first | (simp; done) | (simp; omega))).trans (by simp [q4, hz2, World.cell?_alloc_past])
        have u4 : w4.frozen? ⟨w.heap.size, 4, none⟩ = false := (hb4.frozen (p := ⟨w.heap.size, 4, none⟩) (by first | (simp; done) | (simp; omega))).trans (by simp [y4, hz2, go_sem])
        have t4 : w4.cell? ⟨w1.heap.size, 4, none⟩ = some (.int .i64 x4) := (hb4.cell (p := ⟨w1.heap.size, 4, none⟩) (by first | (simp; done) | (simp; omega))).trans (by simp)
        have z4 := hb4.size
        simp at z4
        have HB4 := hide (show Below w.heap.size w w4 from Below.trans (show Below w.heap.size w _ from (by repeat (first | with_reducible exact HB1.out | with_reducible exact HB4.out | with_reducible exact HB5.out | with_reducible exact Below.refl _ _ | with_reducible assumption | (with_reducible refine Below.drew ?_) | (with_reducible refine below_drewN ?_ _) | ((with_reducible refine Below.alloc ?_ ?_ _); rotate_left; (focus (first | omega | (simp; omega) | simp))) | ((with_reducible refine Below.setCell ?_ ?_ _); rotate_left; (focus (first | omega | (simp; omega) | simp))) | (refine Below.trans ?_ (Below.mono (by assumption) (by first | omega | (simp; omega) | simp)))))) (hb4.mono (by simp; omega)))
        clear hb4
        go_wp2_with fail
        refine bodyPost_ret (v := .tuple #[.agg #[.string ⟨#[]⟩, .int .i64 0, .int .i64 0, .int .i64 0, .int .i64 0], .bool false]) (by simp [results, Tryd.results38, go_sem, r0, r1, r2, r3, r4]) rfl ⟨retPlace E.1.out.symm E.2.out.symm, (by repeat (first | with_reducible exact HB1.out | with_reducible exact HB4.out | with_reducible exact HB5.out | with_reducible exact Below.refl _ _ | with_reducible assumption | (with_reducible refine Below.drew ?_) | (with_reducible refine below_drewN ?_ _) | ((with_reducible refine Below.alloc ?_ ?_ _); rotate_left; (focus (first | omega | (simp; omega) | simp))) | ((with_reducible refine Below.setCell ?_ ?_ _); rotate_left; (focus (first | omega | (simp; omega) | simp))) | (refine Below.trans ?_ (Below.mono (by assumption) (by first | omega | (simp; omega) | simp)))))⟩
    · have E := rPlace_some (l := s.data.toList) (by unfold oPlace; rw [hw]; simp only; rw [bytes_back]; rw [if_pos hv])
      have ht : (txPlace (hdB s) x1 x2 x3 x4).toList == s.toList := text_backPlace hw hv
      clear hw
      go_enter Tryd.func38, Tryd.ntmps38
      go_wp2_with fail
      refine (cutAt32 s _ (HE.out.below (by repeat (first | with_reducible exact Below.refl _ _ | with_reducible assumption | (with_reducible refine Below.drew ?_) | (with_reducible refine below_drewN ?_ _) | ((with_reducible refine Below.alloc ?_ ?_ _); rotate_left; (focus (first | omega | (simp; omega) | simp))) | ((with_reducible refine Below.setCell ?_ ?_ _); rotate_left; (focus (first | omega | (simp; omega) | simp))) | (refine Below.trans ?_ (Below.mono (by assumption) (by first | omega | (simp; omega) | simp)))))) hs).mono ?_
      rintro e w0 ⟨rfl, hb0⟩
      have hb0' := hide hb0
      have z0 := hb0.size
      clear hb0
      go_wp2_with fail
      refine (implReadList (rsB s) _ (HE.out.below (Below.trans (show Below w.heap.size w (w.alloc (.cells #[.string ⟨#[]⟩, .int .i64 0, .int .i64 0, .int .i64 0, .int .i64 0] 46)) from (by repeat (first | with_reducible exact Below.refl _ _ | with_reducible assumption | (with_reducible refine Below.drew ?_) | (with_reducible refine below_drewN ?_ _) | ((with_reducible refine Below.alloc ?_ ?_ _); rotate_left; (focus (first | omega | (simp; omega) | simp))) | ((with_reducible refine Below.setCell ?_ ?_ _); rotate_left; (focus (first | omega | (simp; omega) | simp))) | (refine Below.trans ?_ (Below.mono (by assumption) (by first | omega | (simp; omega) | simp)))))) (hb0'.out.mono (by simp)))) (by omega)).mono ?_
      rintro e w1 ⟨A, c, rfl, hA, hb'⟩
      have hb1 := hb0'.out.trans (hb'.mono z0)
      rw [HXE.out] at hA
      obtain ⟨b, off, rfl, hbl, hc0⟩ := hA 0 (by simp)
      have h0 := hc0 0 _ rfl
      obtain ⟨b1, off1, e1, _, hc1⟩ := hA 1 (by simp)
      injection e1 with e1
      injection e1 with ea eb
      subst ea; subst eb
      have h1 := hc1 0 _ rfl
      obtain ⟨b2, off2, e2, _, hc2⟩ := hA 2 (by simp)
      injection e2 with e2
      injection e2 with ea eb
      subst ea; subst eb
      have h2 := hc2 0 _ rfl
      obtain ⟨b3, off3, e3, _, hc3⟩ := hA 3 (by simp)
      injection e3 with e3
      injection e3 with ea eb
      subst ea; subst eb
      have h3 := hc3 0 _ rfl
      simp at h0 h1 h2 h3
      have q0 := hb1.cell (p := ⟨w.heap.size, 0, none⟩) (by simp)
      have y0 := hb1.frozen (p := ⟨w.heap.size, 0, none⟩) (by simp)
      have q1 := hb1.cell (p := ⟨w.heap.size, 1, none⟩) (by simp)
      have y1 := hb1.frozen (p := ⟨w.heap.size, 1, none⟩) (by simp)
      have q2 := hb1.cell (p := ⟨w.heap.size, 2, none⟩) (by simp)
      have y2 := hb1.frozen (p := ⟨w.heap.size, 2, none⟩) (by simp)
      have q3 := hb1.cell (p := ⟨w.heap.size, 3, none⟩) (by simp)
      have y3 := hb1.frozen (p := ⟨w.heap.size, 3, none⟩) (by simp)
      have q4 := hb1.cell (p := ⟨w.heap.size, 4, none⟩) (by simp)
      have y4 := hb1.frozen (p := ⟨w.heap.size, 4, none⟩) (by simp)
      simp at q0 y0 q1 y1 q2 y2 q3 y3 q4 y4
      have HB1 := hide (Below.trans (show Below w.heap.size w (w.alloc (.cells #[.string ⟨#[]⟩, .int .i64 0, .int .i64 0, .int .i64 0, .int .i64 0] 46)) from (by repeat (first | with_reducible exact Below.refl _ _ | with_reducible assumption | (with_reducible refine Below.drew ?_) | (with_reducible refine below_drewN ?_ _) | ((with_reducible refine Below.alloc ?_ ?_ _); rotate_left; (focus (first | omega | (simp; omega) | simp))) | ((with_reducible refine Below.setCell ?_ ?_ _); rotate_left; (focus (first | omega | (simp; omega) | simp))) | (refine Below.trans ?_ (Below.mono (by assumption) (by first | omega | (simp; omega) | simp)))))) (hb1.mono (by simp)))
      have hz1 := hb1.size
      simp at hz1
      have hz2 : w.heap.size < w1.heap.size := by omega
      clear hb1 hA hb' hc0 hc1 hc2 hc3
      have hL : (rdL (rsB s).data.toList).length = 4 := by rw [HXE.out]; rfl
      go_wp2_with fail
      go_region
      all_goals
        go_wp2_with fail
        refine (implvalidPlace (hdB s) x1 x2 x3 x4 _ (by unfold maxLen; omega)).mono ?_
        rintro e w4 ⟨rfl, hb4⟩
        have r0 : w4.cell? ⟨w.heap.size, 0, none⟩ = some (.string ⟨#[]⟩) := (hb4.cell (p := ⟨w.heap.size, 0, none⟩) (by first | (simp; done) | (simp; omega))).trans (by simp [q0, hz2, World.cell?_alloc_past])
        have u0 : w4.frozen? ⟨w.heap.size, 0, none⟩ = false := (hb4.frozen (p := ⟨w.heap.size, 0, none⟩) (by first | (simp; done) | (simp; omega))).trans (by simp [y0, hz2, go_sem])
        have t0 : w4.cell? ⟨w1.heap.size, 0, none⟩ = some (.string (hdB s)) := (hb4.cell (p := ⟨w1.heap.size, 0, none⟩) (by first | (simp; done) | (simp; omega))).trans (by simp)
        have r1 : w4.cell? ⟨w.heap.size, 1, none⟩ = some (.int .i64 0) := (hb4.cell (p := ⟨w.heap.size, 1, none⟩) (by first | (simp; done) | (simp; omega))).trans (by simp [q1, hz2, World.cell?_alloc_past])
        have u1 : w4.frozen? ⟨w.heap.size, 1, none⟩ = false := (hb4.frozen (p := ⟨w.heap.size, 1, none⟩) (by first | (simp; done) | (simp; omega))).trans (by simp [y1, hz2, go_sem])
        have t1 : w4.cell? ⟨w1.heap.size, 1, none⟩ = some (.int .i64 x1) := (hb4.cell (p := ⟨w1.heap.size, 1, none⟩) (by first | (simp; done) | (simp; omega))).trans (by simp)
        have r2 : w4.cell? ⟨w.heap.size, 2, none⟩ = some (.int .i64 0) := (hb4.cell (p := ⟨w.heap.size, 2, none⟩) (by first | (simp; done) | (simp; omega))).trans (by simp [q2, hz2, World.cell?_alloc_past])
        have u2 : w4.frozen? ⟨w.heap.size, 2, none⟩ = false := (hb4.frozen (p := ⟨w.heap.size, 2, none⟩) (by first | (simp; done) | (simp; omega))).trans (by simp [y2, hz2, go_sem])
        have t2 : w4.cell? ⟨w1.heap.size, 2, none⟩ = some (.int .i64 x2) := (hb4.cell (p := ⟨w1.heap.size, 2, none⟩) (by first | (simp; done) | (simp; omega))).trans (by simp)
        have r3 : w4.cell? ⟨w.heap.size, 3, none⟩ = some (.int .i64 0) := (hb4.cell (p := ⟨w.heap.size, 3, none⟩) (by first | (simp; done) | (simp; omega))).trans (by simp [q3, hz2, World.cell?_alloc_past])
        have u3 : w4.frozen? ⟨w.heap.size, 3, none⟩ = false := (hb4.frozen (p := ⟨w.heap.size, 3, none⟩) (by first | (simp; done) | (simp; omega))).trans (by simp [y3, hz2, go_sem])
        have t3 : w4.cell? ⟨w1.heap.size, 3, none⟩ = some (.int .i64 x3) := (hb4.cell (p := ⟨w1.heap.size, 3, none⟩) (by first | (simp; done) | (simp; omega))).trans (by simp)
        have r4 : w4.cell? ⟨w.heap.size, 4, none⟩ = some (.int .i64 0) := (hb4.cell (p := ⟨w.heap.size, 4, none⟩) (by first | (simp; done) | (simp; omega))).trans (by simp [q4, hz2, World.cell?_alloc_past])
        have u4 : w4.frozen? ⟨w.heap.size, 4, none⟩ = false := (hb4.frozen (p := ⟨w.heap.size, 4, none⟩) (by first | (simp; done) | (simp; omega))).trans (by simp [y4, hz2, go_sem])
        have t4 : w4.cell? ⟨w1.heap.size, 4, none⟩ = some (.int .i64 x4) := (hb4.cell (p := ⟨w1.heap.size, 4, none⟩) (by first | (simp; done) | (simp; omega))).trans (by simp)
        have z4 := hb4.size
        simp at z4
        have HB4 := hide (show Below w.heap.size w w4 from Below.trans (show Below w.heap.size w _ from (by repeat (first | with_reducible exact HB1.out | with_reducible exact HB4.out | with_reducible exact HB5.out | with_reducible exact Below.refl _ _ | with_reducible assumption | (with_reducible refine Below.drew ?_) | (with_reducible refine below_drewN ?_ _) | ((with_reducible refine Below.alloc ?_ ?_ _); rotate_left; (focus (first | omega | (simp; omega) | simp))) | ((with_reducible refine Below.setCell ?_ ?_ _); rotate_left; (focus (first | omega | (simp; omega) | simp))) | (refine Below.trans ?_ (Below.mono (by assumption) (by first | omega | (simp; omega) | simp)))))) (hb4.mono (by simp; omega)))
        clear hb4
        go_wp2_with fail
        refine (implPlaceText (hdB s) x1 x2 x3 x4 _ (HE.out.t.below HB4.out) (by unfold maxLen; omega)).mono ?_
        rintro e w5 ⟨rfl, hb5⟩
        have R0 := (hb5.cell (p := ⟨w.heap.size, 0, none⟩) (by simp; omega)).trans r0
        have U0 := (hb5.frozen (p := ⟨w.heap.size, 0, none⟩) (by simp; omega)).trans u0
        have T0 := (hb5.cell (p := ⟨w1.heap.size, 0, none⟩) (by simp; omega)).trans t0
        have R1 := (hb5.cell (p := ⟨w.heap.size, 1, none⟩) (by simp; omega)).trans r1
        have U1 := (hb5.frozen (p := ⟨w.heap.size, 1, none⟩) (by simp; omega)).trans u1
        have T1 := (hb5.cell (p := ⟨w1.heap.size, 1, none⟩) (by simp; omega)).trans t1
        have R2 := (hb5.cell (p := ⟨w.heap.size, 2, none⟩) (by simp; omega)).trans r2
        have U2 := (hb5.frozen (p := ⟨w.heap.size, 2, none⟩) (by simp; omega)).trans u2
        have T2 := (hb5.cell (p := ⟨w1.heap.size, 2, none⟩) (by simp; omega)).trans t2
        have R3 := (hb5.cell (p := ⟨w.heap.size, 3, none⟩) (by simp; omega)).trans r3
        have U3 := (hb5.frozen (p := ⟨w.heap.size, 3, none⟩) (by simp; omega)).trans u3
        have T3 := (hb5.cell (p := ⟨w1.heap.size, 3, none⟩) (by simp; omega)).trans t3
        have R4 := (hb5.cell (p := ⟨w.heap.size, 4, none⟩) (by simp; omega)).trans r4
        have U4 := (hb5.frozen (p := ⟨w.heap.size, 4, none⟩) (by simp; omega)).trans u4
        have T4 := (hb5.cell (p := ⟨w1.heap.size, 4, none⟩) (by simp; omega)).trans t4
        have z5 := hb5.size
        have HB5 := hide (HB4.out.trans (hb5.mono (by omega)))
        clear hb5 r0 u0 t0 r1 u1 t1 r2 u2 t2 r3 u3 t3 r4 u4 t4
        go_wp2_with fail
        refine bodyPost_ret (v := .tuple #[.agg #[.string (hdB s), .int .i64 x1, .int .i64 x2, .int .i64 x3, .int .i64 x4], .bool true]) (by simp [results, Tryd.results38, go_sem, R0, R1, R2, R3, R4]) rfl ⟨retPlace E.1.out.symm E.2.out.symm, (by repeat (first | with_reducible exact HB1.out | with_reducible exact HB4.out | with_reducible exact HB5.out | with_reducible exact Below.refl _ _ | with_reducible assumption | (with_reducible refine Below.drew ?_) | (with_reducible refine below_drewN ?_ _) | ((with_reducible refine Below.alloc ?_ ?_ _); rotate_left; (focus (first | omega | (simp; omega) | simp))) | ((with_reducible refine Below.setCell ?_ ?_ _); rotate_left; (focus (first | omega | (simp; omega) | simp))) | (refine Below.trans ?_ (Below.mono (by assumption) (by first | omega | (simp; omega) | simp)))))⟩
  · have d3 : (((rdL (rsB s).data.toList).length : Int) != 4) = true := by simp; omega
    have E := rPlace_none (l := s.data.toList) (by unfold oPlace; rw [words_no hx])
    clear hx
    go_enter Tryd.func38, Tryd.ntmps38
    go_wp2_with fail
    refine (cutAt32 s _ (HE.out.below (by repeat (first | with_reducible exact Below.refl _ _ | with_reducible assumption | (with_reducible refine Below.drew ?_) | (with_reducible refine below_drewN ?_ _) | ((with_reducible refine Below.alloc ?_ ?_ _); rotate_left; (focus (first | omega | (simp; omega) | simp))) | ((with_reducible refine Below.setCell ?_ ?_ _); rotate_left; (focus (first | omega | (simp; omega) | simp))) | (refine Below.trans ?_ (Below.mono (by assumption) (by first | omega | (simp; omega) | simp)))))) hs).mono ?_
    rintro e w0 ⟨rfl, hb0⟩
    have hb0' := hide hb0
    have z0 := hb0.size
    clear hb0
    go_wp2_with fail
    refine (implReadList (rsB s) _ (HE.out.below (Below.trans (show Below w.heap.size w (w.alloc (.cells #[.string ⟨#[]⟩, .int .i64 0, .int .i64 0, .int .i64 0, .int .i64 0] 46)) from (by repeat (first | with_reducible exact Below.refl _ _ | with_reducible assumption | (with_reducible refine Below.drew ?_) | (with_reducible refine below_drewN ?_ _) | ((with_reducible refine Below.alloc ?_ ?_ _); rotate_left; (focus (first | omega | (simp; omega) | simp))) | ((with_reducible refine Below.setCell ?_ ?_ _); rotate_left; (focus (first | omega | (simp; omega) | simp))) | (refine Below.trans ?_ (Below.mono (by assumption) (by first | omega | (simp; omega) | simp)))))) (hb0'.out.mono (by simp)))) (by omega)).mono ?_
    rintro e w1 ⟨A, c, rfl, hA, hb'⟩
    have hb1 := hb0'.out.trans (hb'.mono z0)
    have q0 := hb1.cell (p := ⟨w.heap.size, 0, none⟩) (by simp)
    have y0 := hb1.frozen (p := ⟨w.heap.size, 0, none⟩) (by simp)
    have q1 := hb1.cell (p := ⟨w.heap.size, 1, none⟩) (by simp)
    have y1 := hb1.frozen (p := ⟨w.heap.size, 1, none⟩) (by simp)
    have q2 := hb1.cell (p := ⟨w.heap.size, 2, none⟩) (by simp)
    have y2 := hb1.frozen (p := ⟨w.heap.size, 2, none⟩) (by simp)
    have q3 := hb1.cell (p := ⟨w.heap.size, 3, none⟩) (by simp)
    have y3 := hb1.frozen (p := ⟨w.heap.size, 3, none⟩) (by simp)
    have q4 := hb1.cell (p := ⟨w.heap.size, 4, none⟩) (by simp)
    have y4 := hb1.frozen (p := ⟨w.heap.size, 4, none⟩) (by simp)
    simp at q0 y0 q1 y1 q2 y2 q3 y3 q4 y4
    have HB1 := hide (Below.trans (show Below w.heap.size w (w.alloc (.cells #[.string ⟨#[]⟩, .int .i64 0, .int .i64 0, .int .i64 0, .int .i64 0] 46)) from (by repeat (first | with_reducible exact Below.refl _ _ | with_reducible assumption | (with_reducible refine Below.drew ?_) | (with_reducible refine below_drewN ?_ _) | ((with_reducible refine Below.alloc ?_ ?_ _); rotate_left; (focus (first | omega | (simp; omega) | simp))) | ((with_reducible refine Below.setCell ?_ ?_ _); rotate_left; (focus (first | omega | (simp; omega) | simp))) | (refine Below.trans ?_ (Below.mono (by assumption) (by first | omega | (simp; omega) | simp)))))) (hb1.mono (by simp)))
    clear hb1 hA hb'
    go_wp2_with fail
    refine bodyPost_ret (v := .tuple #[.agg #[.string ⟨#[]⟩, .int .i64 0, .int .i64 0, .int .i64 0, .int .i64 0], .bool false]) (by simp [results, Tryd.results38, go_sem, q0, q1, q2, q3, q4]) rfl ⟨retPlace E.1.out.symm E.2.out.symm, (by repeat (first | with_reducible exact HB1.out | with_reducible exact HB4.out | with_reducible exact HB5.out | with_reducible exact Below.refl _ _ | with_reducible assumption | (with_reducible refine Below.drew ?_) | (with_reducible refine below_drewN ?_ _) | ((with_reducible refine Below.alloc ?_ ?_ _); rotate_left; (focus (first | omega | (simp; omega) | simp))) | ((with_reducible refine Below.setCell ?_ ?_ _); rotate_left; (focus (first | omega | (simp; omega) | simp))) | (refine Below.trans ?_ (Below.mono (by assumption) (by first | omega | (simp; omega) | simp)))))⟩
end Go.Proofs.YtphlejphkipbpaaDoor
