/- What reads a beam out of a text, program: a text without loads (printed by genrdbeam2.py). Conditions: as in XRdBeamI. -/
import Derived.Test.YtajodbhbmfjmjaaGreatDoorRdBeamI
namespace Go.Proofs.YtajodbhbmfjmjaaGreatDoor
open Go.RowKit Go.Lib

set_option maxRecDepth 100000 in
set_option maxHeartbeats 8000000 in
theorem implRead_nil (s nm nb : ByteArray) (w : World) (hE : Env w) (hs : s.size ≤ 1048576) (hsp : splitL 32 s.data.toList = [nm.data.toList, nb.data.toList]) (h4 : (rdL nb.data.toList).length = 4) :
    Calls Tryz.prog 10 #[.string s] w fun e w' => ∃ (A : Option Addr) (c : Nat), e = .returned (.tuple #[.agg #[.string (bmV s.data.toList).nm, .int .i64 (bmV s.data.toList).x1, .int .i64 (bmV s.data.toList).x2, .int .i64 (bmV s.data.toList).x3, .int .i64 (bmV s.data.toList).x4, .slice A (bmV s.data.toList).ls.length c], .bool (bmOk s.data.toList)]) ∧
      Own encLoad 2 31 w' w.heap.size (.slice A (bmV s.data.toList).ls.length c) (bmV s.data.toList).ls ∧ Below w.heap.size w w' := by
  have hpl : (partsB s 32).length = 2 := by rw [partsB_len, hsp]; rfl
  have k0 : 0 < (partsB s 32).length := by omega
  have k1 : 1 < (partsB s 32).length := by omega
  have e0 := part_at (s := s) (c := 32) (k := 0) (p := nm.data.toList) (by rw [hsp]; rfl) k0
  have e1 := part_at (s := s) (c := 32) (k := 1) (p := nb.data.toList) (by rw [hsp]; rfl) k1
  rw [bytes_back] at e0 e1
  have hnm : nm.size ≤ s.size := by rw [← e0]; exact part_size s 32 _ (List.getElem_mem k0)
  have hnb : nb.size ≤ s.size := by rw [← e1]; exact part_size s 32 _ (List.getElem_mem k1)
  have HE0 := hide e0
  have HE1 := hide e1
  have HPL := hide hpl
  have HSP := hide hsp
  have HE := hide (fun w' (h : Below (w.alloc (.cells #[.string ⟨#[]⟩, .int .i64 0, .int .i64 0, .int .i64 0, .int .i64 0, .slice none 0 0] 26)).heap.size (w.alloc (.cells #[.string ⟨#[]⟩, .int .i64 0, .int .i64 0, .int .i64 0, .int .i64 0, .slice none 0 0] 26)) w') => (hE.below ((Below.refl _ _).alloc (Nat.le_refl _) _)).below h)
  have d4 : (((rdL nb.data.toList).length : Int) != 4) = false := by simp; omega
  obtain ⟨x1, x2, x3, x4, hl4, hr4⟩ := row_of h4
  have HR4 := hide hr4
  have hif := oBeam_iff (s := s) hsp hl4
  rw [bytes_back] at hif
  simp only [List.map_nil] at hif
  have HIF := hide hif
  clear hif
  clear e0 e1 hpl hsp hE hr4
  go_enter Tryz.func10, Tryz.ntmps10
  go_wp2_with fail
  refine (splitN s 2 _ (HE.out _ (Below.refl _ _)) hs HPL.out).mono ?_
  rintro e w1 ⟨rfl, hP, hb1⟩
  have HP := hide hP
  obtain ⟨bw, ow, ew, hbw, hw0⟩ := hP 0 k0
  injection ew with ew
  injection ew with ea eb
  subst ea; subst eb
  have hw0 := hw0 0 _ rfl
  obtain ⟨bw, ow, ew, _, hw1⟩ := hP 1 k1
  injection ew with ew
  injection ew with ea eb
  subst ea; subst eb
  have hw1 := hw1 0 _ rfl
  rw [HE0.out] at hw0
  rw [HE1.out] at hw1
  simp at hw0 hw1 hbw
  have HB1 := hide hb1
  have hz1 := hb1.size
  simp at hz1
  clear hP hb1
  go_wp2_with fail
  refine (implReadList nb _ (HE.out _ HB1.out) (by omega)).mono ?_
  rintro e w2 ⟨A2, c2, rfl, hA, hb2⟩
  rw [HR4.out] at hA
  obtain ⟨bn, on, rfl, hbn, hn0⟩ := hA 0 (by simp)
  have hn0 := hn0 0 _ rfl
  obtain ⟨bq1, oq1, eq1, _, hn1⟩ := hA 1 (by simp)
  injection eq1 with eq1
  injection eq1 with ea eb
  subst ea; subst eb
  have hn1 := hn1 0 _ rfl
  obtain ⟨bq2, oq2, eq2, _, hn2⟩ := hA 2 (by simp)
  injection eq2 with eq2
  injection eq2 with ea eb
  subst ea; subst eb
  have hn2 := hn2 0 _ rfl
  obtain ⟨bq3, oq3, eq3, _, hn3⟩ := hA 3 (by simp)
  injection eq3 with eq3
  injection eq3 with ea eb
  subst ea; subst eb
  have hn3 := hn3 0 _ rfl
  simp at hn0 hn1 hn2 hn3
  have hw0' := (hb2.cell (p := ⟨w.heap.size + 1, 0, none⟩) hbw).trans hw0
  have HP2 := hide (HP.out.below hb2)
  have HB2 := hide (HB1.out.trans (hb2.mono (by simpa using hz1)))
  have hz2 := hb2.size
  have hbw2 : w.heap.size + 1 < w2.heap.size := by omega
  clear hw0 hw1 HP hA hb2
  go_upto_region 7 with fail
  go_cut [7] (fun v wx => v = .pointer (some ⟨w2.heap.size, 0, none⟩) ∧ Hid (BmSt w2 wx nm x1 x2 x3 x4 none 0 []))
  case first =>
    have HS0 := hide ((BmSt.start w2 nm x1 x2 x3 x4).below ((Below.refl _ _).drew))
    go_region
    all_goals
      go_wp2_with fail
      go_meet
      exact ⟨rfl, HS0⟩
  case rest =>
    obtain ⟨W3, rfl⟩ : ∃ W3, W3 = wc := ⟨_, rfl⟩
    obtain ⟨rfl, HS0⟩ := hcut
    clear hn0 hn1 hn2 hn3 hw0' hbw2 hbn
    go_wp2_with fail
    go_loopw [50, 9, 10, 11, 12, 13] (fun v _ _ _ _ _ wr => v = .int .i64 0 ∧ Hid (BmSt w2 wr nm x1 x2 x3 x4 none 0 [])) (fun _ _ _ _ _ _ _ => 0)
    case atStart => exact ⟨rfl, HS0⟩
    case round =>
      clear HS0
      obtain ⟨rfl, HS⟩ := hrel
      have hzr := HS.out.lt
      have hx := HB2.out.trans (HS.out.bel.mono (by simp; omega))
      have HX := hide hx
      clear hx
      have HXE := HX
      have HSE := HS
      clear HX HS
      have t0 := HSE.out.cell 0 _ rfl
      have t1 := HSE.out.cell 1 _ rfl
      have t2 := HSE.out.cell 2 _ rfl
      have t3 := HSE.out.cell 3 _ rfl
      have t4 := HSE.out.cell 4 _ rfl
      have t5 := HSE.out.cell 5 _ rfl
      cases hv : vBeam nm x1 x2 x3 x4 []
      · have E := bm_none (l := s.data.toList) (by
          cases h : oBeam s.data.toList with
          | none => rfl
          | some q => have h2 := (HIF.out.2 q h).2.1; rw [hv] at h2; cases h2)
        clear HIF
        go_wp2_with fail
        refine (implValidBeam nm x1 x2 x3 x4 none 0 [] _ HSE.out.slat (by simp) (by unfold maxLen; omega)).mono ?_
        rintro e w4 ⟨rfl, hb4⟩
        have hx2 := HXE.out.trans (hb4.mono (by simp; omega))
        clear hb4
        have q0 := hx2.cell (p := ⟨w.heap.size, 0, none⟩) (by simp)
        have q1 := hx2.cell (p := ⟨w.heap.size, 1, none⟩) (by simp)
        have q2 := hx2.cell (p := ⟨w.heap.size, 2, none⟩) (by simp)
        have q3 := hx2.cell (p := ⟨w.heap.size, 3, none⟩) (by simp)
        have q4 := hx2.cell (p := ⟨w.heap.size, 4, none⟩) (by simp)
        have q5 := hx2.cell (p := ⟨w.heap.size, 5, none⟩) (by simp)
        have y0 := hx2.frozen (p := ⟨w.heap.size, 0, none⟩) (by simp)
        have y1 := hx2.frozen (p := ⟨w.heap.size, 1, none⟩) (by simp)
        have y2 := hx2.frozen (p := ⟨w.heap.size, 2, none⟩) (by simp)
        have y3 := hx2.frozen (p := ⟨w.heap.size, 3, none⟩) (by simp)
        have y4 := hx2.frozen (p := ⟨w.heap.size, 4, none⟩) (by simp)
        have y5 := hx2.frozen (p := ⟨w.heap.size, 5, none⟩) (by simp)
        simp at q0 y0 q1 y1 q2 y2 q3 y3 q4 y4 q5 y5
        have HB1 := hide (Below.trans (show Below w.heap.size w (w.alloc (.cells #[.string ⟨#[]⟩, .int .i64 0, .int .i64 0, .int .i64 0, .int .i64 0, .slice none 0 0] 26)) from (by repeat (first | with_reducible exact Below.refl _ _ | with_reducible assumption | (with_reducible refine Below.drew ?_) | (with_reducible refine below_drewN ?_ _) | ((with_reducible refine Below.alloc ?_ ?_ _); rotate_left; (focus (first | omega | (simp; omega) | simp))) | ((with_reducible refine Below.setCell ?_ ?_ _); rotate_left; (focus (first | omega | (simp; omega) | simp))) | (refine Below.trans ?_ (Below.mono (by assumption) (by first | omega | (simp; omega) | simp)))))) (hx2.mono (by simp)))
        clear hx2
        go_wp2_with fail
        refine bodyPost_ret (v := .tuple #[.agg #[.string ⟨#[]⟩, .int .i64 0, .int .i64 0, .int .i64 0, .int .i64 0, .slice none 0 0], .bool false]) (by simp [results, Tryz.results10, go_sem, q0, q1, q2, q3, q4, q5]) rfl ⟨none, 0, zbm_eq E, zbm_own E, (by repeat (first | with_reducible exact HB1.out | with_reducible exact HB2.out | with_reducible exact HB3.out | with_reducible exact Below.refl _ _ | with_reducible assumption | (with_reducible refine Below.drew ?_) | (with_reducible refine below_drewN ?_ _) | ((with_reducible refine Below.alloc ?_ ?_ _); rotate_left; (focus (first | omega | (simp; omega) | simp))) | ((with_reducible refine Below.setCell ?_ ?_ _); rotate_left; (focus (first | omega | (simp; omega) | simp))) | (refine Below.trans ?_ (Below.mono (by assumption) (by first | omega | (simp; omega) | simp)))))⟩
      · by_cases ht : txBeam nm x1 x2 x3 x4 [] = s
        · have E := bm_some (l := s.data.toList) (HIF.out.1 hv ht)
          have te := str_eq ht
          clear HIF ht
          go_wp2_with fail
          refine (implValidBeam nm x1 x2 x3 x4 none 0 [] _ HSE.out.slat (by simp) (by unfold maxLen; omega)).mono ?_
          rintro e w4 ⟨rfl, hb4⟩
          have HS4 := hide (HSE.out.below hb4)
          have HX4 := hide (HXE.out.trans (hb4.mono (by simp; omega)))
          have t0 := HS4.out.cell 0 _ rfl
          have t1 := HS4.out.cell 1 _ rfl
          have t2 := HS4.out.cell 2 _ rfl
          have t3 := HS4.out.cell 3 _ rfl
          have t4 := HS4.out.cell 4 _ rfl
          have t5 := HS4.out.cell 5 _ rfl
          have hz4 := HS4.out.lt
          clear hb4
          go_wp2_with fail
          refine (implBeamText nm x1 x2 x3 x4 none 0 [] _ HS4.out.slat (HE.out _ HX4.out).t (by simp) (by unfold maxLen; omega)).mono ?_
          rintro e w5 ⟨rfl, hb5⟩
          have HS5 := hide (HS4.out.below hb5)
          have hx2 := HX4.out.trans (hb5.mono (by simp; omega))
          have t0 := HS5.out.cell 0 _ rfl
          have t1 := HS5.out.cell 1 _ rfl
          have t2 := HS5.out.cell 2 _ rfl
          have t3 := HS5.out.cell 3 _ rfl
          have t4 := HS5.out.cell 4 _ rfl
          have t5 := HS5.out.cell 5 _ rfl
          have hz5 := HS5.out.lt
          have q0 := hx2.cell (p := ⟨w.heap.size, 0, none⟩) (by simp)
          have q1 := hx2.cell (p := ⟨w.heap.size, 1, none⟩) (by simp)
          have q2 := hx2.cell (p := ⟨w.heap.size, 2, none⟩) (by simp)
          have q3 := hx2.cell (p := ⟨w.heap.size, 3, none⟩) (by simp)
          have q4 := hx2.cell (p := ⟨w.heap.size, 4, none⟩) (by simp)
          have q5 := hx2.cell (p := ⟨w.heap.size, 5, none⟩) (by simp)
          have y0 := hx2.frozen (p := ⟨w.heap.size, 0, none⟩) (by simp)
          have y1 := hx2.frozen (p := ⟨w.heap.size, 1, none⟩) (by simp)
          have y2 := hx2.frozen (p := ⟨w.heap.size, 2, none⟩) (by simp)
          have y3 := hx2.frozen (p := ⟨w.heap.size, 3, none⟩) (by simp)
          have y4 := hx2.frozen (p := ⟨w.heap.size, 4, none⟩) (by simp)
          have y5 := hx2.frozen (p := ⟨w.heap.size, 5, none⟩) (by simp)
          simp at q0 y0 q1 y1 q2 y2 q3 y3 q4 y4 q5 y5
          have HB1 := hide (Below.trans (show Below w.heap.size w (w.alloc (.cells #[.string ⟨#[]⟩, .int .i64 0, .int .i64 0, .int .i64 0, .int .i64 0, .slice none 0 0] 26)) from (by repeat (first | with_reducible exact Below.refl _ _ | with_reducible assumption | (with_reducible refine Below.drew ?_) | (with_reducible refine below_drewN ?_ _) | ((with_reducible refine Below.alloc ?_ ?_ _); rotate_left; (focus (first | omega | (simp; omega) | simp))) | ((with_reducible refine Below.setCell ?_ ?_ _); rotate_left; (focus (first | omega | (simp; omega) | simp))) | (refine Below.trans ?_ (Below.mono (by assumption) (by first | omega | (simp; omega) | simp)))))) (hx2.mono (by simp)))
          clear hx2 hb5
          go_wp2_with fail
          refine bodyPost_ret (v := .tuple #[.agg #[.string nm, .int .i64 x1, .int .i64 x2, .int .i64 x3, .int .i64 x4, .slice none 0 0], .bool true]) (by simp [results, Tryz.results10, go_sem, q0, q1, q2, q3, q4, q5]) rfl ⟨none, 0, by rw [E.1.out, E.2.out]; rfl, ?_, (by repeat (first | with_reducible exact HB1.out | with_reducible exact HB2.out | with_reducible exact HB3.out | with_reducible exact Below.refl _ _ | with_reducible assumption | (with_reducible refine Below.drew ?_) | (with_reducible refine below_drewN ?_ _) | ((with_reducible refine Below.alloc ?_ ?_ _); rotate_left; (focus (first | omega | (simp; omega) | simp))) | ((with_reducible refine Below.setCell ?_ ?_ _); rotate_left; (focus (first | omega | (simp; omega) | simp))) | (refine Below.trans ?_ (Below.mono (by assumption) (by first | omega | (simp; omega) | simp)))))⟩
          rw [E.1.out]
          refine Own.mono (B := w2.heap.size + 1) ?_ (by omega)
          iterate 6 (refine own_far (by omega) ?_ _ _)
          exact HS5.out.own
        · have E := bm_none (l := s.data.toList) (by
            cases h : oBeam s.data.toList with
            | none => rfl
            | some q => exact absurd (HIF.out.2 q h).2.2 ht)
          have te := str_ne ht
          clear HIF ht
          go_wp2_with fail
          refine (implValidBeam nm x1 x2 x3 x4 none 0 [] _ HSE.out.slat (by simp) (by unfold maxLen; omega)).mono ?_
          rintro e w4 ⟨rfl, hb4⟩
          have HS4 := hide (HSE.out.below hb4)
          have HX4 := hide (HXE.out.trans (hb4.mono (by simp; omega)))
          have t0 := HS4.out.cell 0 _ rfl
          have t1 := HS4.out.cell 1 _ rfl
          have t2 := HS4.out.cell 2 _ rfl
          have t3 := HS4.out.cell 3 _ rfl
          have t4 := HS4.out.cell 4 _ rfl
          have t5 := HS4.out.cell 5 _ rfl
          have hz4 := HS4.out.lt
          clear hb4
          go_wp2_with fail
          refine (implBeamText nm x1 x2 x3 x4 none 0 [] _ HS4.out.slat (HE.out _ HX4.out).t (by simp) (by unfold maxLen; omega)).mono ?_
          rintro e w5 ⟨rfl, hb5⟩
          have hx2 := HX4.out.trans (hb5.mono (by simp; omega))
          clear hb5
          have q0 := hx2.cell (p := ⟨w.heap.size, 0, none⟩) (by simp)
          have q1 := hx2.cell (p := ⟨w.heap.size, 1, none⟩) (by simp)
          have q2 := hx2.cell (p := ⟨w.heap.size, 2, none⟩) (by simp)
          have q3 := hx2.cell (p := ⟨w.heap.size, 3, none⟩) (by simp)
          have q4 := hx2.cell (p := ⟨w.heap.size, 4, none⟩) (by simp)
          have q5 := hx2.cell (p := ⟨w.heap.size, 5, none⟩) (by simp)
          have y0 := hx2.frozen (p := ⟨w.heap.size, 0, none⟩) (by simp)
          have y1 := hx2.frozen (p := ⟨w.heap.size, 1, none⟩) (by simp)
          have y2 := hx2.frozen (p := ⟨w.heap.size, 2, none⟩) (by simp)
          have y3 := hx2.frozen (p := ⟨w.heap.size, 3, none⟩) (by simp)
          have y4 := hx2.frozen (p := ⟨w.heap.size, 4, none⟩) (by simp)
          have y5 := hx2.frozen (p := ⟨w.heap.size, 5, none⟩) (by simp)
          simp at q0 y0 q1 y1 q2 y2 q3 y3 q4 y4 q5 y5
          have HB1 := hide (Below.trans (show Below w.heap.size w (w.alloc (.cells #[.string ⟨#[]⟩, .int .i64 0, .int .i64 0, .int .i64 0, .int .i64 0, .slice none 0 0] 26)) from (by repeat (first | with_reducible exact Below.refl _ _ | with_reducible assumption | (with_reducible refine Below.drew ?_) | (with_reducible refine below_drewN ?_ _) | ((with_reducible refine Below.alloc ?_ ?_ _); rotate_left; (focus (first | omega | (simp; omega) | simp))) | ((with_reducible refine Below.setCell ?_ ?_ _); rotate_left; (focus (first | omega | (simp; omega) | simp))) | (refine Below.trans ?_ (Below.mono (by assumption) (by first | omega | (simp; omega) | simp)))))) (hx2.mono (by simp)))
          clear hx2
          go_wp2_with fail
          refine bodyPost_ret (v := .tuple #[.agg #[.string ⟨#[]⟩, .int .i64 0, .int .i64 0, .int .i64 0, .int .i64 0, .slice none 0 0], .bool false]) (by simp [results, Tryz.results10, go_sem, q0, q1, q2, q3, q4, q5]) rfl ⟨none, 0, zbm_eq E, zbm_own E, (by repeat (first | with_reducible exact HB1.out | with_reducible exact HB2.out | with_reducible exact HB3.out | with_reducible exact Below.refl _ _ | with_reducible assumption | (with_reducible refine Below.drew ?_) | (with_reducible refine below_drewN ?_ _) | ((with_reducible refine Below.alloc ?_ ?_ _); rotate_left; (focus (first | omega | (simp; omega) | simp))) | ((with_reducible refine Below.setCell ?_ ?_ _); rotate_left; (focus (first | omega | (simp; omega) | simp))) | (refine Below.trans ?_ (Below.mono (by assumption) (by first | omega | (simp; omega) | simp)))))⟩
end Go.Proofs.YtajodbhbmfjmjaaGreatDoor
