/- What reads a beam out of a text, reference: a part (printed by genrdbeam.py). Condition: the text is at most 2^20 bytes long. -/
import Derived.Test.YtobcjhbfkanakaaDoorRdBeam
import Derived.Deep.DeepCutAuto
namespace Go.Proofs.YtobcjhbfkanakaaDoor
open Go.RowKit Go.Lib

set_option maxRecDepth 100000 in
set_option maxHeartbeats 8000000 in
theorem l21Read_good (s nm nb : ByteArray) (r : List (List UInt8)) (w : World) (hs : s.size ≤ 1048576) (hsp : splitL 32 s.data.toList = nm.data.toList :: nb.data.toList :: r) (h4 : (rdL nb.data.toList).length = 4) (lsr : List LoadR) (hall : allO ldO r = some lsr) :
    Calls Tryd.prog 36 #[.string s] w fun e w' => ∃ (A : Option Addr) (c : Nat), e = .returned (.tuple #[.agg #[.string (bmV s.data.toList).nm, .int .i64 (bmV s.data.toList).x1, .int .i64 (bmV s.data.toList).x2, .int .i64 (bmV s.data.toList).x3, .int .i64 (bmV s.data.toList).x4, .slice A (bmV s.data.toList).ls.length c], .bool (bmOk s.data.toList)]) ∧
      Own encLoad 2 68 w' w.heap.size (.slice A (bmV s.data.toList).ls.length c) (bmV s.data.toList).ls ∧ Below w.heap.size w w' := by
  have hpl := partsB_len s 32
  have h2 : ¬ (splitL 32 s.data.toList).length < 2 := by rw [hsp]; simp
  have d2 : decide (((partsB s 32).length : Int) < 2) = false := by simp; omega
  have k0 : 0 < (partsB s 32).length := by omega
  have k1 : 1 < (partsB s 32).length := by omega
  have e0 := part_at (s := s) (c := 32) (k := 0) (p := nm.data.toList) (by rw [hsp]; rfl) k0
  have e1 := part_at (s := s) (c := 32) (k := 1) (p := nb.data.toList) (by rw [hsp]; rfl) k1
  rw [bytes_back] at e0 e1
  have hnm : nm.size ≤ s.size := by rw [← e0]; exact part_size s 32 _ (List.getElem_mem k0)
  have hnb : nb.size ≤ s.size := by rw [← e1]; exact part_size s 32 _ (List.getElem_mem k1)
  have HE0 := hide e0
  have HE1 := hide e1
  have HPL := hide hpl
  have hpb := parts_bound s 32
  have HSP := hide hsp
  clear e0 e1 h2 hpl hsp
  obtain ⟨x1, x2, x3, x4, hl4, hr4⟩ := row_of h4
  obtain ⟨f1, f2⟩ := rd_some hl4
  have F2 : rdB nb.data.toList = true := f2.out
  have d4 : (((rdL nb.data.toList).length : Int) != 4) = false := by simp; omega
  have HR4 := hide hr4
  clear hr4 f1 f2
  have HALL := hide (fun k p (h2 : 2 ≤ k) (hg : (splitL 32 s.data.toList)[k]? = some p) => ld_all HSP.out hall h2 hg)
  clear hall
  go_enter Tryd.func36, Tryd.ntmps36
  go_wp2_with fail
  refine (specl01Split s 32 _ hs).mono ?_
  rintro e w1 ⟨A1, cp1, rfl, hO1, hb1⟩
  have HP := hide (Own.at_ (enc := encStr) (sz := 1) (fun _ => rfl) hO1)
  obtain ⟨bw, ow, rfl, hbw, hw0⟩ := HP.out 0 k0
  have hw0 := hw0 0 _ rfl
  obtain ⟨b2, off2, e2, _, hw1⟩ := HP.out 1 k1
  injection e2 with e2
  injection e2 with e3 e4
  subst e3; subst e4
  have hw1 := hw1 0 _ rfl
  rw [HE0.out] at hw0
  rw [HE1.out] at hw1
  simp at hw0 hw1
  have HB1 := hide hb1
  have hz1 := hb1.size
  simp at hz1
  clear hO1 hb1
  go_wp2_with fail
  refine (specReadList nb _ (by omega)).mono ?_
  rintro e w2 ⟨A2, c2, rfl, hA, hb2⟩
  rw [HR4.out] at hA
  obtain ⟨bn, on, rfl, hbn, hn0⟩ := hA 0 (by simp)
  have hn0 := hn0 0 _ rfl
  obtain ⟨bq1, oq1, eq1, _, hn1⟩ := hA 1 (by simp)
  injection eq1 with eq1
  injection eq1 with ea eb
  subst ea; subst eb
  have hn1 := hn1 0 _ rfl
  obtain ⟨bq2, oq2, eq2, _, hn2⟩ := hA 2 (by simp)
  injection eq2 with eq2
  injection eq2 with ea eb
  subst ea; subst eb
  have hn2 := hn2 0 _ rfl
  obtain ⟨bq3, oq3, eq3, _, hn3⟩ := hA 3 (by simp)
  injection eq3 with eq3
  injection eq3 with ea eb
  subst ea; subst eb
  have hn3 := hn3 0 _ rfl
  simp at hn0 hn1 hn2 hn3
  have hw0' := (hb2.cell (p := ⟨bw, ow, none⟩) hbw).trans hw0
  have HP2 := hide (HP.out.below hb2)
  have HB2 := hide (HB1.out.trans (hb2.mono (by simpa using hz1)))
  have hz2 := hb2.size
  have hbw2 : bw < w2.heap.size := by omega
  clear hw0 hw1 HP hA hb2
  go_upto_region 7 with fail
  go_cut [7] (fun v wx => v = .pointer (some ⟨w2.heap.size, 0, none⟩) ∧ Hid (BmSt w2 wx nm x1 x2 x3 x4 none 0 []))
  case first =>
    have HS0 := hide ((BmSt.start w2 nm x1 x2 x3 x4).below ((Below.refl _ _).drew))
    go_region
    all_goals
      go_wp2_with fail
      go_meet
      exact ⟨rfl, HS0⟩
  case rest =>
    obtain ⟨W3, rfl⟩ : ∃ W3, W3 = wc := ⟨_, rfl⟩
    obtain ⟨rfl, HS0⟩ := hcut
    clear hn0 hn1 hn2 hn3 hw0' hbw2 hbn
    go_wp2_with fail
    go_loopw [8, 9, 10, 11, 12, 13] (fun v _ _ _ _ _ wr => ∃ (k : Nat) (A : Option Addr) (c : Nat) (ls : List LoadR), v = .int .i64 k ∧ 2 ≤ k ∧ k ≤ (partsB s 32).length ∧ ls.length + 2 ≤ k ∧ Hid (allO ldO (((splitL 32 s.data.toList).take k).drop 2) = some ls) ∧ Hid (BmSt w2 wr nm x1 x2 x3 x4 A c ls)) (fun v _ _ _ _ _ _ => (partsB s 32).length - (intOf v).toNat)
    case atStart => exact ⟨2, none, 0, [], rfl, by omega, by omega, by simp, by unfold Hid; rw [List.drop_eq_nil_of_le (by rw [List.length_take]; omega)]; rfl, HS0⟩
    case round =>
      clear HS0
      obtain ⟨k, A, c, ls, rfl, hk2, hk, hll, HL, HS⟩ := hrel
      have hzr := HS.out.lt
      have hx := HB2.out.trans (HS.out.bel.mono (by simp; omega))
      have HX := hide hx
      clear hx
      by_cases hlt : k < (partsB s 32).length
      · obtain ⟨bq, oq, eq, hbq, hcq⟩ := HP2.out k hlt
        injection eq with eq
        injection eq with ea eb
        subst ea; subst eb
        have hcw := (HS.out.bel.cell (p := ⟨bw, ow + k * 1 + 0, none⟩) hbq).trans (hcq 0 _ rfl)
        simp only [Nat.mul_one, Nat.add_zero] at hcw
        have hg := partsB_get s 32 k hlt
        have hps := part_size s 32 _ (List.getElem_mem hlt)
        generalize (partsB s 32)[k] = p at *
        have HG := hide hg
        have hpl2 := partsB_len p 64
        clear hg hcq
        obtain ⟨⟨y, x⟩, hld⟩ := HALL.out k _ hk2 HG.out
        have h22 : (splitL 64 p.data.toList).length = 2 := by
          by_cases h : (splitL 64 p.data.toList).length = 2
          · exact h
          · rw [ldO_len h] at hld; cases hld
        obtain ⟨u, v, huv⟩ : ∃ u v : ByteArray, splitL 64 p.data.toList = [u.data.toList, v.data.toList] := by
          match hm : splitL 64 p.data.toList, h22 with
          | [a, b], _ => exact ⟨⟨a.toArray⟩, ⟨b.toArray⟩, rfl⟩
        have j0 : 0 < (partsB p 64).length := by omega
        have j1 : 1 < (partsB p 64).length := by omega
        have i0 := part_at (s := p) (c := 64) (k := 0) (p := u.data.toList) (by rw [huv]; rfl) j0
        have i1 := part_at (s := p) (c := 64) (k := 1) (p := v.data.toList) (by rw [huv]; rfl) j1
        rw [bytes_back] at i0 i1
        have hus : u.size ≤ p.size := by rw [← i0]; exact part_size p 64 _ (List.getElem_mem j0)
        have hvs : v.size ≤ p.size := by rw [← i1]; exact part_size p 64 _ (List.getElem_mem j1)
        have d5 : (((partsB p 64).length : Int) != 2) = false := by simp; omega
        have HI0 := hide i0
        have HI1 := hide i1
        have HUV := hide huv
        clear i0 i1 h22 hpl2 huv
        obtain ⟨hnu, hnv⟩ := ldO_nums HUV.out hld
        have F1 : numB u.data.toList = true := (num_some hnu).2.out
        have G1 : numV u.data.toList = x := (num_some hnu).1.out
        have F2' : numB v.data.toList = true := (num_some hnv).2.out
        have G1 : numV u.data.toList = x := (num_some hnu).1.out
        have G2 : numV v.data.toList = y := (num_some hnv).1.out
        have HL2 := hide (ld_step2 hk2 HL.out HG.out hld)
        clear hnu hnv hld
        go_wp2_with fail
        refine (specl01Split p 64 _ (by omega)).mono ?_
        rintro e w3 ⟨A3, cp3, rfl, hO3, hb3⟩
        have HP3 := hide (Own.at_ (enc := encStr) (sz := 1) (fun _ => rfl) hO3)
        clear hO3
        obtain ⟨br, or_, rfl, hbr, hv0⟩ := HP3.out 0 j0
        have hv0 := hv0 0 _ rfl
        obtain ⟨br2, or2, er, _, hv1⟩ := HP3.out 1 j1
        injection er with er
        injection er with ea eb
        subst ea; subst eb
        have hv1 := hv1 0 _ rfl
        rw [HI0.out] at hv0
        rw [HI1.out] at hv1
        simp at hv0 hv1
        have hz3 := hb3.size
        go_wp2_with fail
        refine (specl01Number u _ (by unfold maxLen; omega)).mono ?_
        rintro e w4 ⟨rfl, hb4⟩
        have hv1' := (hb4.cell (p := ⟨br, or_ + 1, none⟩) hbr).trans hv1
        have hz4 := hb4.size
        go_wp2_with fail
        refine (specl01Number v _ (by unfold maxLen; omega)).mono ?_
        rintro e w5 ⟨rfl, hb5'⟩
        have hb5 := hb3.trans ((hb4.trans (hb5'.mono hz4)).mono hz3)
        clear hb3 hb4 hb5' hv0 hv1 hv1'
        have hz5' := hb5.size
        have HS5 := hide (HS.out.below hb5)
        have c5 := HS5.out.cell 5 _ rfl
        have u5 := HS5.out.froz 5
        have hz5 := HS5.out.lt
        clear hb5 HS HX
        go_wp2_with (at_builtin; go_loud (refine wpList_appLoad rfl _ _ rfl (w2.heap.size + 1) rfl HS5.out.own rfl (by omega) (by omega) ?_; intro A6 c6 w6 ho6 hk6 _hg6; have HS6 := hide (HS5.out.push (x := ⟨y, x⟩) (by simpa using ho6) hk6); have c6' := (hk6.cell (p := ⟨w2.heap.size, 5, none⟩) (by simp)).trans c5; have u6' := (hk6.frozen (p := ⟨w2.heap.size, 5, none⟩) (by simp)).trans u5; clear ho6 hk6))
        go_roundw
        case rel => exact ⟨k + 1, A6, c6, ls ++ [⟨y, x⟩], by go_num, by omega, by omega, by simp; omega, HL2, by simpa using HS6⟩
        case measure => simp [intOf]; omega
      · obtain rfl : k = (partsB s 32).length := by omega
        have hfull : allO ldO r = some ls := by
          have h := HL.out
          rw [List.take_of_length_le (by have := HPL.out; omega), HSP.out] at h
          simpa using h
        have hob := oBeam_loads HSP.out hl4
        rw [hfull] at hob
        simp only at hob
        rw [bytes_back] at hob
        have HX2 := HX
        have HSQ := HS
        clear hfull HL HX HS
        cases hv : vBeam nm x1 x2 x3 x4 ls
        · have E := bm_none (l := s.data.toList) (by rw [hob]; rw [if_neg (by rw [hv]; decide)])
          clear hob
          go_wp2_with fail
          refine (specl21Ok nm x1 x2 x3 x4 A c ls w2.heap.size _ HSQ.out.slat (by omega) (by unfold maxLen; omega) (HSQ.out.cell 0 _ rfl) (HSQ.out.cell 1 _ rfl) (HSQ.out.cell 2 _ rfl) (HSQ.out.cell 3 _ rfl) (HSQ.out.cell 4 _ rfl) (HSQ.out.cell 5 _ rfl)).mono ?_
          rintro e w4 ⟨rfl, hb4⟩
          have hx2 := HX2.out.trans (hb4.mono (by simp; omega))
          clear hb4
          have q0 := hx2.cell (p := ⟨w.heap.size, 0, none⟩) (by simp)
          have q1 := hx2.cell (p := ⟨w.heap.size, 1, none⟩) (by simp)
          have q2 := hx2.cell (p := ⟨w.heap.size, 2, none⟩) (by simp)
          have q3 := hx2.cell (p := ⟨w.heap.size, 3, none⟩) (by simp)
          have q4 := hx2.cell (p := ⟨w.heap.size, 4, none⟩) (by simp)
          have q5 := hx2.cell (p := ⟨w.heap.size, 5, none⟩) (by simp)
          have y0 := hx2.frozen (p := ⟨w.heap.size, 0, none⟩) (by simp)
          have y1 := hx2.frozen (p := ⟨w.heap.size, 1, none⟩) (by simp)
          have y2 := hx2.frozen (p := ⟨w.heap.size, 2, none⟩) (by simp)
          have y3 := hx2.frozen (p := ⟨w.heap.size, 3, none⟩) (by simp)
          have y4 := hx2.frozen (p := ⟨w.heap.size, 4, none⟩) (by simp)
          have y5 := hx2.frozen (p := ⟨w.heap.size, 5, none⟩) (by simp)
          simp at q0 y0 q1 y1 q2 y2 q3 y3 q4 y4 q5 y5
          have HB1 := hide (Below.trans (show Below w.heap.size w (w.alloc (.cells #[.string ⟨#[]⟩, .int .i64 0, .int .i64 0, .int .i64 0, .int .i64 0, .slice none 0 0] 45)) from (by repeat (first | with_reducible exact Below.refl _ _ | with_reducible assumption | (with_reducible refine Below.drew ?_) | (with_reducible refine below_drewN ?_ _) | ((with_reducible refine Below.alloc ?_ ?_ _); rotate_left; (focus (first | omega | (simp; omega) | simp))) | ((with_reducible refine Below.setCell ?_ ?_ _); rotate_left; (focus (first | omega | (simp; omega) | simp))) | (refine Below.trans ?_ (Below.mono (by assumption) (by first | omega | (simp; omega) | simp)))))) (hx2.mono (by simp)))
          clear hx2
          go_wp2_with fail
          refine bodyPost_ret (v := .tuple #[.agg #[.string ⟨#[]⟩, .int .i64 0, .int .i64 0, .int .i64 0, .int .i64 0, .slice none 0 0], .bool false]) (by simp [results, Tryd.results36, go_sem, q0, q1, q2, q3, q4, q5]) rfl ⟨none, 0, zbm_eq E, zbm_own E, (by repeat (first | with_reducible exact HB1.out | with_reducible exact HB2.out | with_reducible exact HB3.out | with_reducible exact Below.refl _ _ | with_reducible assumption | (with_reducible refine Below.drew ?_) | (with_reducible refine below_drewN ?_ _) | ((with_reducible refine Below.alloc ?_ ?_ _); rotate_left; (focus (first | omega | (simp; omega) | simp))) | ((with_reducible refine Below.setCell ?_ ?_ _); rotate_left; (focus (first | omega | (simp; omega) | simp))) | (refine Below.trans ?_ (Below.mono (by assumption) (by first | omega | (simp; omega) | simp)))))⟩
        · have E := bm_some (l := s.data.toList) (by rw [hob]; rw [if_pos hv])
          clear hob
          go_wp2_with fail
          refine (specl21Ok nm x1 x2 x3 x4 A c ls w2.heap.size _ HSQ.out.slat (by omega) (by unfold maxLen; omega) (HSQ.out.cell 0 _ rfl) (HSQ.out.cell 1 _ rfl) (HSQ.out.cell 2 _ rfl) (HSQ.out.cell 3 _ rfl) (HSQ.out.cell 4 _ rfl) (HSQ.out.cell 5 _ rfl)).mono ?_
          rintro e w4 ⟨rfl, hb4⟩
          have hx2 := HX2.out.trans (hb4.mono (by simp; omega))
          have HS4 := hide (HSQ.out.below hb4)
          have t0 := HS4.out.cell 0 _ rfl
          have t1 := HS4.out.cell 1 _ rfl
          have t2 := HS4.out.cell 2 _ rfl
          have t3 := HS4.out.cell 3 _ rfl
          have t4 := HS4.out.cell 4 _ rfl
          have t5 := HS4.out.cell 5 _ rfl
          have hz4 := HS4.out.lt
          have q0 := hx2.cell (p := ⟨w.heap.size, 0, none⟩) (by simp)
          have q1 := hx2.cell (p := ⟨w.heap.size, 1, none⟩) (by simp)
          have q2 := hx2.cell (p := ⟨w.heap.size, 2, none⟩) (by simp)
          have q3 := hx2.cell (p := ⟨w.heap.size, 3, none⟩) (by simp)
          have q4 := hx2.cell (p := ⟨w.heap.size, 4, none⟩) (by simp)
          have q5 := hx2.cell (p := ⟨w.heap.size, 5, none⟩) (by simp)
          have y0 := hx2.frozen (p := ⟨w.heap.size, 0, none⟩) (by simp)
          have y1 := hx2.frozen (p := ⟨w.heap.size, 1, none⟩) (by simp)
          have y2 := hx2.frozen (p := ⟨w.heap.size, 2, none⟩) (by simp)
          have y3 := hx2.frozen (p := ⟨w.heap.size, 3, none⟩) (by simp)
          have y4 := hx2.frozen (p := ⟨w.heap.size, 4, none⟩) (by simp)
          have y5 := hx2.frozen (p := ⟨w.heap.size, 5, none⟩) (by simp)
          simp at q0 y0 q1 y1 q2 y2 q3 y3 q4 y4 q5 y5
          have HB1 := hide (Below.trans (show Below w.heap.size w (w.alloc (.cells #[.string ⟨#[]⟩, .int .i64 0, .int .i64 0, .int .i64 0, .int .i64 0, .slice none 0 0] 45)) from (by repeat (first | with_reducible exact Below.refl _ _ | with_reducible assumption | (with_reducible refine Below.drew ?_) | (with_reducible refine below_drewN ?_ _) | ((with_reducible refine Below.alloc ?_ ?_ _); rotate_left; (focus (first | omega | (simp; omega) | simp))) | ((with_reducible refine Below.setCell ?_ ?_ _); rotate_left; (focus (first | omega | (simp; omega) | simp))) | (refine Below.trans ?_ (Below.mono (by assumption) (by first | omega | (simp; omega) | simp)))))) (hx2.mono (by simp)))
          clear hx2 hb4
          go_wp2_with fail
          refine bodyPost_ret (v := .tuple #[.agg #[.string nm, .int .i64 x1, .int .i64 x2, .int .i64 x3, .int .i64 x4, .slice A ls.length c], .bool true]) (by simp [results, Tryd.results36, go_sem, q0, q1, q2, q3, q4, q5]) rfl ⟨A, c, by rw [E.1.out, E.2.out], ?_, (by repeat (first | with_reducible exact HB1.out | with_reducible exact HB2.out | with_reducible exact HB3.out | with_reducible exact Below.refl _ _ | with_reducible assumption | (with_reducible refine Below.drew ?_) | (with_reducible refine below_drewN ?_ _) | ((with_reducible refine Below.alloc ?_ ?_ _); rotate_left; (focus (first | omega | (simp; omega) | simp))) | ((with_reducible refine Below.setCell ?_ ?_ _); rotate_left; (focus (first | omega | (simp; omega) | simp))) | (refine Below.trans ?_ (Below.mono (by assumption) (by first | omega | (simp; omega) | simp)))))⟩
          rw [E.1.out]
          refine Own.mono (B := w2.heap.size + 1) ?_ (by omega)
          iterate 6 (refine own_far (by omega) ?_ _ _)
          exact HS4.out.own
end Go.Proofs.YtobcjhbfkanakaaDoor
