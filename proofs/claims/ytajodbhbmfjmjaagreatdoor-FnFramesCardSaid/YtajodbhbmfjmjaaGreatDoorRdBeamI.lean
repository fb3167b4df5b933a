/- What reads a beam out of a text, program. Conditions: the text is at most 2^20 bytes long; the library's variables are laid. -/
import Derived.Test.YtajodbhbmfjmjaaGreatDoorRdBeam
import Derived.Test.YtajodbhbmfjmjaaGreatDoorTextBeam2
import Derived.Deep.DeepCutAuto
namespace Go.Proofs.YtajodbhbmfjmjaaGreatDoor
open Go.RowKit Go.Lib

def hdA (s : ByteArray) : ByteArray := ⟨(atL s.data.toList).toArray⟩
def rsA (s : ByteArray) : ByteArray := ⟨(atR s.data.toList).toArray⟩
def fdA (s : ByteArray) : Bool := (Lib.cut s.data.toList [64]).2.2
theorem at_len (l : List UInt8) : (atL l).length ≤ l.length ∧ (atR l).length ≤ l.length := by
  unfold atL atR Lib.cut
  split
  · simp; omega
  · simp
theorem hdA_size (s : ByteArray) : (hdA s).size ≤ s.size ∧ (rsA s).size ≤ s.size := by
  have h := at_len s.data.toList
  have e : s.data.toList.length = s.size := by simp
  have e1 : (hdA s).size = (atL s.data.toList).length := by simp [hdA, ByteArray.size]
  have e2 : (rsA s).size = (atR s.data.toList).length := by simp [rsA, ByteArray.size]
  omega
theorem cutAt64 (s : ByteArray) (w : World) (hE : Env w) (hs : s.size ≤ 1048576) : Calls Tryz.prog 27 #[.string s, .string ⟨#[64]⟩] w fun e w' => e = .returned (.tuple #[.string (hdA s), .string (rsA s), .bool (fdA s)]) ∧ Below w.heap.size w w' := cutAt s ⟨#[64]⟩ w hE (by omega)
theorem splitN (s : ByteArray) (n : Nat) (w : World) (hE : Env w) (hs : s.size ≤ 1048576) (hn : (partsB s 32).length = n) :
    Calls Tryz.prog 25 #[.string s, .string ⟨#[32]⟩] w fun e w' => e = .returned (.slice (some ⟨w.heap.size, 0, none⟩) n n) ∧ SlAt encStr 1 w' (some ⟨w.heap.size, 0, none⟩) (partsB s 32) ∧ Below w.heap.size w w' := by
  subst hn
  exact splitAt1 s 32 w hE (by omega)
set_option maxRecDepth 100000 in
set_option maxHeartbeats 8000000 in
theorem implRead_few (s : ByteArray) (w : World) (hE : Env w) (hs : s.size ≤ 1048576) (h2 : (splitL 32 s.data.toList).length < 2) :
    Calls Tryz.prog 10 #[.string s] w fun e w' => ∃ (A : Option Addr) (c : Nat), e = .returned (.tuple #[.agg #[.string (bmV s.data.toList).nm, .int .i64 (bmV s.data.toList).x1, .int .i64 (bmV s.data.toList).x2, .int .i64 (bmV s.data.toList).x3, .int .i64 (bmV s.data.toList).x4, .slice A (bmV s.data.toList).ls.length c], .bool (bmOk s.data.toList)]) ∧
      Own encLoad 2 31 w' w.heap.size (.slice A (bmV s.data.toList).ls.length c) (bmV s.data.toList).ls ∧ Below w.heap.size w w' := by
  have hpl := partsB_len s 32
  have E := bm_none (oBeam_few h2)
  have HE := hide (hE.below ((Below.refl _ _).alloc (Nat.le_refl _) (.cells #[.string ⟨#[]⟩, .int .i64 0, .int .i64 0, .int .i64 0, .int .i64 0, .slice none 0 0] 26)))
  have d2 : decide (((partsB s 32).length : Int) < 2) = true := by simp; omega
  clear h2 hpl hE
  go_enter Tryz.func10, Tryz.ntmps10
  go_wp2_with fail
  refine (splitN s _ _ HE.out hs rfl).mono ?_
  rintro e w1 ⟨rfl, _, hb1⟩
  have q0 := hb1.cell (p := ⟨w.heap.size, 0, none⟩) (by simp)
  have q1 := hb1.cell (p := ⟨w.heap.size, 1, none⟩) (by simp)
  have q2 := hb1.cell (p := ⟨w.heap.size, 2, none⟩) (by simp)
  have q3 := hb1.cell (p := ⟨w.heap.size, 3, none⟩) (by simp)
  have q4 := hb1.cell (p := ⟨w.heap.size, 4, none⟩) (by simp)
  have q5 := hb1.cell (p := ⟨w.heap.size, 5, none⟩) (by simp)
  have y0 := hb1.frozen (p := ⟨w.heap.size, 0, none⟩) (by simp)
  have y1 := hb1.frozen (p := ⟨w.heap.size, 1, none⟩) (by simp)
  have y2 := hb1.frozen (p := ⟨w.heap.size, 2, none⟩) (by simp)
  have y3 := hb1.frozen (p := ⟨w.heap.size, 3, none⟩) (by simp)
  have y4 := hb1.frozen (p := ⟨w.heap.size, 4, none⟩) (by simp)
  have y5 := hb1.frozen (p := ⟨w.heap.size, 5, none⟩) (by simp)
  simp at q0 y0 q1 y1 q2 y2 q3 y3 q4 y4 q5 y5
  have HB1 := hide (Below.trans (show Below w.heap.size w (w.alloc (.cells #[.string ⟨#[]⟩, .int .i64 0, .int .i64 0, .int .i64 0, .int .i64 0, .slice none 0 0] 26)) from (by repeat (first | with_reducible exact Below.refl _ _ | with_reducible assumption | (with_reducible refine Below.drew ?_) | (with_reducible refine below_drewN ?_ _) | ((with_reducible refine Below.alloc ?_ ?_ _); rotate_left; (focus (first | omega | (simp; omega) | simp))) | ((with_reducible refine Below.setCell ?_ ?_ _); rotate_left; (focus (first | omega | (simp; omega) | simp))) | (refine Below.trans ?_ (Below.mono (by assumption) (by first | omega | (simp; omega) | simp)))))) (hb1.mono (by simp)))
  clear hb1
  go_wp2_with fail
  refine bodyPost_ret (v := .tuple #[.agg #[.string ⟨#[]⟩, .int .i64 0, .int .i64 0, .int .i64 0, .int .i64 0, .slice none 0 0], .bool false]) (by simp [results, Tryz.results10, go_sem, q0, q1, q2, q3, q4, q5]) rfl ⟨none, 0, zbm_eq E, zbm_own E, (by repeat (first | with_reducible exact HB1.out | with_reducible exact HB2.out | with_reducible exact HB3.out | with_reducible exact Below.refl _ _ | with_reducible assumption | (with_reducible refine Below.drew ?_) | (with_reducible refine below_drewN ?_ _) | ((with_reducible refine Below.alloc ?_ ?_ _); rotate_left; (focus (first | omega | (simp; omega) | simp))) | ((with_reducible refine Below.setCell ?_ ?_ _); rotate_left; (focus (first | omega | (simp; omega) | simp))) | (refine Below.trans ?_ (Below.mono (by assumption) (by first | omega | (simp; omega) | simp)))))⟩
set_option maxRecDepth 100000 in
set_option maxHeartbeats 8000000 in
theorem implRead_row (s nm nb : ByteArray) (r : List (List UInt8)) (w : World) (hE : Env w) (hs : s.size ≤ 1048576) (hsp : splitL 32 s.data.toList = nm.data.toList :: nb.data.toList :: r) (h4 : (rdL nb.data.toList).length ≠ 4) :
    Calls Tryz.prog 10 #[.string s] w fun e w' => ∃ (A : Option Addr) (c : Nat), e = .returned (.tuple #[.agg #[.string (bmV s.data.toList).nm, .int .i64 (bmV s.data.toList).x1, .int .i64 (bmV s.data.toList).x2, .int .i64 (bmV s.data.toList).x3, .int .i64 (bmV s.data.toList).x4, .slice A (bmV s.data.toList).ls.length c], .bool (bmOk s.data.toList)]) ∧
      Own encLoad 2 31 w' w.heap.size (.slice A (bmV s.data.toList).ls.length c) (bmV s.data.toList).ls ∧ Below w.heap.size w w' := by
  have hpl : (partsB s 32).length = r.length + 2 := by rw [partsB_len, hsp]; rfl
  have E := bm_none (oBeam_row hsp h4)
  have k1 : 1 < (partsB s 32).length := by omega
  have e1 := part_at (s := s) (c := 32) (k := 1) (p := nb.data.toList) (by rw [hsp]; rfl) k1
  rw [bytes_back] at e1
  have hnb : nb.size ≤ s.size := by rw [← e1]; exact part_size s 32 _ (List.getElem_mem k1)
  have HE1 := hide e1
  have HPL := hide hpl
  have d2 : decide ((r.length : Int) + 2 < 2) = false := by simp; omega
  have HE := hide (fun w' (h : Below (w.alloc (.cells #[.string ⟨#[]⟩, .int .i64 0, .int .i64 0, .int .i64 0, .int .i64 0, .slice none 0 0] 26)).heap.size (w.alloc (.cells #[.string ⟨#[]⟩, .int .i64 0, .int .i64 0, .int .i64 0, .int .i64 0, .slice none 0 0] 26)) w') => (hE.below ((Below.refl _ _).alloc (Nat.le_refl _) _)).below h)
  have d4 : (((rdL nb.data.toList).length : Int) != 4) = true := by simp; omega
  clear e1 hpl hsp hE
  go_enter Tryz.func10, Tryz.ntmps10
  go_wp2_with fail
  refine (splitN s (r.length + 2) _ (HE.out _ (Below.refl _ _)) hs HPL.out).mono ?_
  rintro e w1 ⟨rfl, hP, hb1⟩
  obtain ⟨bw, ow, ew, _, hw1⟩ := hP 1 k1
  injection ew with ew
  injection ew with ea eb
  subst ea; subst eb
  have hw1 := hw1 0 _ rfl
  rw [HE1.out] at hw1
  simp at hw1
  have HB0 := hide hb1
  have hz1 := hb1.size
  simp at hz1
  clear hP hb1
  go_wp2_with fail
  refine (implReadList nb _ (HE.out _ HB0.out) (by omega)).mono ?_
  rintro e w2 ⟨A2, c2, rfl, _, hb2⟩
  have hx2 := HB0.out.trans (hb2.mono (by simpa using hz1))
  clear hb2 hw1
  have q0 := hx2.cell (p := ⟨w.heap.size, 0, none⟩) (by simp)
  have q1 := hx2.cell (p := ⟨w.heap.size, 1, none⟩) (by simp)
  have q2 := hx2.cell (p := ⟨w.heap.size, 2, none⟩) (by simp)
  have q3 := hx2.cell (p := ⟨w.heap.size, 3, none⟩) (by simp)
  have q4 := hx2.cell (p := ⟨w.heap.size, 4, none⟩) (by simp)
  have q5 := hx2.cell (p := ⟨w.heap.size, 5, none⟩) (by simp)
  have y0 := hx2.frozen (p := ⟨w.heap.size, 0, none⟩) (by simp)
  have y1 := hx2.frozen (p := ⟨w.heap.size, 1, none⟩) (by simp)
  have y2 := hx2.frozen (p := ⟨w.heap.size, 2, none⟩) (by simp)
  have y3 := hx2.frozen (p := ⟨w.heap.size, 3, none⟩) (by simp)
  have y4 := hx2.frozen (p := ⟨w.heap.size, 4, none⟩) (by simp)
  have y5 := hx2.frozen (p := ⟨w.heap.size, 5, none⟩) (by simp)
  simp at q0 y0 q1 y1 q2 y2 q3 y3 q4 y4 q5 y5
  have HB1 := hide (Below.trans (show Below w.heap.size w (w.alloc (.cells #[.string ⟨#[]⟩, .int .i64 0, .int .i64 0, .int .i64 0, .int .i64 0, .slice none 0 0] 26)) from (by repeat (first | with_reducible exact Below.refl _ _ | with_reducible assumption | (with_reducible refine Below.drew ?_) | (with_reducible refine below_drewN ?_ _) | ((with_reducible refine Below.alloc ?_ ?_ _); rotate_left; (focus (first | omega | (simp; omega) | simp))) | ((with_reducible refine Below.setCell ?_ ?_ _); rotate_left; (focus (first | omega | (simp; omega) | simp))) | (refine Below.trans ?_ (Below.mono (by assumption) (by first | omega | (simp; omega) | simp)))))) (hx2.mono (by simp)))
  clear hx2
  go_wp2_with fail
  refine bodyPost_ret (v := .tuple #[.agg #[.string ⟨#[]⟩, .int .i64 0, .int .i64 0, .int .i64 0, .int .i64 0, .slice none 0 0], .bool false]) (by simp [results, Tryz.results10, go_sem, q0, q1, q2, q3, q4, q5]) rfl ⟨none, 0, zbm_eq E, zbm_own E, (by repeat (first | with_reducible exact HB1.out | with_reducible exact HB2.out | with_reducible exact HB3.out | with_reducible exact Below.refl _ _ | with_reducible assumption | (with_reducible refine Below.drew ?_) | (with_reducible refine below_drewN ?_ _) | ((with_reducible refine Below.alloc ?_ ?_ _); rotate_left; (focus (first | omega | (simp; omega) | simp))) | ((with_reducible refine Below.setCell ?_ ?_ _); rotate_left; (focus (first | omega | (simp; omega) | simp))) | (refine Below.trans ?_ (Below.mono (by assumption) (by first | omega | (simp; omega) | simp)))))⟩
set_option maxRecDepth 100000 in
set_option maxHeartbeats 8000000 in
theorem implRead_good (s nm nb : ByteArray) (r : List (List UInt8)) (w : World) (hE : Env w) (hs : s.size ≤ 1048576) (hsp : splitL 32 s.data.toList = nm.data.toList :: nb.data.toList :: r) (h4 : (rdL nb.data.toList).length = 4) (hrn : r ≠ []) :
    Calls Tryz.prog 10 #[.string s] w fun e w' => ∃ (A : Option Addr) (c : Nat), e = .returned (.tuple #[.agg #[.string (bmV s.data.toList).nm, .int .i64 (bmV s.data.toList).x1, .int .i64 (bmV s.data.toList).x2, .int .i64 (bmV s.data.toList).x3, .int .i64 (bmV s.data.toList).x4, .slice A (bmV s.data.toList).ls.length c], .bool (bmOk s.data.toList)]) ∧
      Own encLoad 2 31 w' w.heap.size (.slice A (bmV s.data.toList).ls.length c) (bmV s.data.toList).ls ∧ Below w.heap.size w w' := by
  have hpl : (partsB s 32).length = r.length + 2 := by rw [partsB_len, hsp]; rfl
  have hrl : r.length ≤ 1048575 := by have := parts_bound s 32; omega
  have k0 : 0 < (partsB s 32).length := by omega
  have k1 : 1 < (partsB s 32).length := by omega
  have e0 := part_at (s := s) (c := 32) (k := 0) (p := nm.data.toList) (by rw [hsp]; rfl) k0
  have e1 := part_at (s := s) (c := 32) (k := 1) (p := nb.data.toList) (by rw [hsp]; rfl) k1
  rw [bytes_back] at e0 e1
  have hnm : nm.size ≤ s.size := by rw [← e0]; exact part_size s 32 _ (List.getElem_mem k0)
  have hnb : nb.size ≤ s.size := by rw [← e1]; exact part_size s 32 _ (List.getElem_mem k1)
  have HE0 := hide e0
  have HE1 := hide e1
  have HPL := hide hpl
  have d2 : decide ((r.length : Int) + 2 < 2) = false := by simp; omega
  have HSP := hide hsp
  have HE := hide (fun w' (h : Below (w.alloc (.cells #[.string ⟨#[]⟩, .int .i64 0, .int .i64 0, .int .i64 0, .int .i64 0, .slice none 0 0] 26)).heap.size (w.alloc (.cells #[.string ⟨#[]⟩, .int .i64 0, .int .i64 0, .int .i64 0, .int .i64 0, .slice none 0 0] 26)) w') => (hE.below ((Below.refl _ _).alloc (Nat.le_refl _) _)).below h)
  have d4 : (((rdL nb.data.toList).length : Int) != 4) = false := by simp; omega
  obtain ⟨x1, x2, x3, x4, hl4, hr4⟩ := row_of h4
  have HR4 := hide hr4
  have hif := oBeam_iff (s := s) hsp hl4
  rw [bytes_back] at hif
  have HIF := hide hif
  clear hif
  clear e0 e1 hpl hsp hE hr4
  go_enter Tryz.func10, Tryz.ntmps10
  go_wp2_with fail
  refine (splitN s (r.length + 2) _ (HE.out _ (Below.refl _ _)) hs HPL.out).mono ?_
  rintro e w1 ⟨rfl, hP, hb1⟩
  have HP := hide hP
  obtain ⟨bw, ow, ew, hbw, hw0⟩ := hP 0 k0
  injection ew with ew
  injection ew with ea eb
  subst ea; subst eb
  have hw0 := hw0 0 _ rfl
  obtain ⟨bw, ow, ew, _, hw1⟩ := hP 1 k1
  injection ew with ew
  injection ew with ea eb
  subst ea; subst eb
  have hw1 := hw1 0 _ rfl
  rw [HE0.out] at hw0
  rw [HE1.out] at hw1
  simp at hw0 hw1 hbw
  have HB1 := hide hb1
  have hz1 := hb1.size
  simp at hz1
  clear hP hb1
  go_wp2_with fail
  refine (implReadList nb _ (HE.out _ HB1.out) (by omega)).mono ?_
  rintro e w2 ⟨A2, c2, rfl, hA, hb2⟩
  rw [HR4.out] at hA
  obtain ⟨bn, on, rfl, hbn, hn0⟩ := hA 0 (by simp)
  have hn0 := hn0 0 _ rfl
  obtain ⟨bq1, oq1, eq1, _, hn1⟩ := hA 1 (by simp)
  injection eq1 with eq1
  injection eq1 with ea eb
  subst ea; subst eb
  have hn1 := hn1 0 _ rfl
  obtain ⟨bq2, oq2, eq2, _, hn2⟩ := hA 2 (by simp)
  injection eq2 with eq2
  injection eq2 with ea eb
  subst ea; subst eb
  have hn2 := hn2 0 _ rfl
  obtain ⟨bq3, oq3, eq3, _, hn3⟩ := hA 3 (by simp)
  injection eq3 with eq3
  injection eq3 with ea eb
  subst ea; subst eb
  have hn3 := hn3 0 _ rfl
  simp at hn0 hn1 hn2 hn3
  have hw0' := (hb2.cell (p := ⟨w.heap.size + 1, 0, none⟩) hbw).trans hw0
  have HP2 := hide (HP.out.below hb2)
  have HB2 := hide (HB1.out.trans (hb2.mono (by simpa using hz1)))
  have hz2 := hb2.size
  have hbw2 : w.heap.size + 1 < w2.heap.size := by omega
  clear hw0 hw1 HP hA hb2
  go_upto_region 7 with fail
  go_cut [7] (fun v wx => v = .pointer (some ⟨w2.heap.size, 0, none⟩) ∧ Hid (BmSt w2 wx nm x1 x2 x3 x4 none 0 []))
  case first =>
    have HS0 := hide ((BmSt.start w2 nm x1 x2 x3 x4).below ((Below.refl _ _).drew))
    go_region
    all_goals
      go_wp2_with fail
      go_meet
      exact ⟨rfl, HS0⟩
  case rest =>
    obtain ⟨W3, rfl⟩ : ∃ W3, W3 = wc := ⟨_, rfl⟩
    obtain ⟨rfl, HS0⟩ := hcut
    clear hn0 hn1 hn2 hn3 hw0' hbw2 hbn
    go_wp2_with fail
    go_loopw [50, 9, 10, 11, 12, 13] (fun v _ _ _ _ _ wr => ∃ (k : Nat) (A : Option Addr) (c : Nat) (ls : List LoadR), v = .int .i64 k ∧ k ≤ r.length ∧ ls.length ≤ k ∧ Hid (ls = (r.take k).map ldI) ∧ Hid (BmSt w2 wr nm x1 x2 x3 x4 A c ls)) (fun v _ _ _ _ _ _ => r.length - (intOf v).toNat)
    case atStart => exact ⟨0, none, 0, [], rfl, by omega, by simp, rfl, HS0⟩
    case round =>
      clear HS0
      obtain ⟨k, A, c, ls, rfl, hk, hll, HL, HS⟩ := hrel
      have hzr := HS.out.lt
      have hx := HB2.out.trans (HS.out.bel.mono (by simp; omega))
      have HX := hide hx
      clear hx
      by_cases hlt : k < r.length
      · have hk2 : k + 2 < (partsB s 32).length := by have := HPL.out; omega
        obtain ⟨bq, oq, eq, hbq, hcq⟩ := HP2.out (k + 2) hk2
        injection eq with eq
        injection eq with ea eb
        subst ea; subst eb
        have hbq2 : w.heap.size + 1 < w2.heap.size := by simpa using hbq
        have hcq2 : w2.cell? ⟨w.heap.size + 1, 2 + k, none⟩ = some (.string ((partsB s 32)[k + 2])) := by
          rw [Nat.add_comm 2 k]
          have h := hcq 0 _ rfl
          simpa using h
        have hcw := (HS.out.bel.cell (p := ⟨w.heap.size + 1, 2 + k, none⟩) hbq2).trans hcq2
        clear hcq2 hbq
        have hg := partsB_get s 32 (k + 2) hk2
        have hps := part_size s 32 _ (List.getElem_mem hk2)
        generalize (partsB s 32)[k + 2] = p at *
        have hrk : r[k]? = some p.data.toList := by
          rw [HSP.out] at hg
          simpa using hg
        have HL2 := hide (show ls ++ [(⟨numV (rsA p).data.toList, numV (hdA p).data.toList⟩ : LoadR)] = (r.take (k + 1)).map ldI from by
          rw [HL.out, List.take_add_one, hrk]
          simp only [Option.toList_some, List.map_append, List.map_singleton]
          rfl)
        have hds := hdA_size p
        clear hg hcq hk2 hrk
        go_wp2_with fail
        refine (cutAt64 p _ (HE.out _ HX.out) (by omega)).mono ?_
        rintro e w3 ⟨rfl, hb3⟩
        have HS3 := hide (HS.out.below hb3)
        have HX3 := hide (HX.out.trans (hb3.mono (by simp; omega)))
        have hz3 := hb3.size
        clear hb3 HS HX hcw
        go_wp2_with fail
        refine (implReadDecimal (hdA p) _ (HE.out _ (HX3.out.trans (((Below.refl _ _).alloc (Nat.le_refl _) _).mono (by simp; omega)))) (by omega)).mono ?_
        rintro e w4 ⟨rfl, hb4⟩
        have hz4 := hb4.size
        simp at hz4
        have m0 : w4.cell? ⟨w3.heap.size, 0, none⟩ = some (.int .i64 0) := (hb4.cell (p := ⟨w3.heap.size, 0, none⟩) (by simp)).trans (by simp)
        have m1 : w4.cell? ⟨w3.heap.size, 1, none⟩ = some (.int .i64 0) := (hb4.cell (p := ⟨w3.heap.size, 1, none⟩) (by simp)).trans (by simp)
        have n0 : w4.frozen? ⟨w3.heap.size, 0, none⟩ = false := (hb4.frozen (p := ⟨w3.heap.size, 0, none⟩) (by simp)).trans (by simp [go_sem])
        have n1 : w4.frozen? ⟨w3.heap.size, 1, none⟩ = false := (hb4.frozen (p := ⟨w3.heap.size, 1, none⟩) (by simp)).trans (by simp [go_sem])
        have HB4 := hide (show Below w3.heap.size w3 w4 from Below.trans (show Below w3.heap.size w3 (w3.alloc (.cells #[.int .i64 0, .int .i64 0] 31)) from (by repeat (first | with_reducible exact Below.refl _ _ | with_reducible assumption | (with_reducible refine Below.drew ?_) | (with_reducible refine below_drewN ?_ _) | ((with_reducible refine Below.alloc ?_ ?_ _); rotate_left; (focus (first | omega | (simp; omega) | simp))) | ((with_reducible refine Below.setCell ?_ ?_ _); rotate_left; (focus (first | omega | (simp; omega) | simp))) | (refine Below.trans ?_ (Below.mono (by assumption) (by first | omega | (simp; omega) | simp)))))) (hb4.mono (by simp)))
        generalize hwt : numV (hdA p).data.toList = wt at *
        generalize hat : numV (rsA p).data.toList = at_ at *
        clear hb4
        go_wp2_with fail
        refine (implReadDecimal (rsA p) _ (HE.out _ (HX3.out.trans ((HB4.out.setCell (Nat.le_refl _) _).mono (by simp; omega)))) (by omega)).mono ?_
        rintro e w5 ⟨rfl, hb5⟩
        rw [hat]
        have hz5 := hb5.size
        simp at hz5
        have m0' : w5.cell? ⟨w3.heap.size, 0, none⟩ = some (.int .i64 0) := (hb5.cell (p := ⟨w3.heap.size, 0, none⟩) (by simp; omega)).trans (by go_simp)
        have m1' : w5.cell? ⟨w3.heap.size, 1, none⟩ = some (.int .i64 wt) := (hb5.cell (p := ⟨w3.heap.size, 1, none⟩) (by simp; omega)).trans (by go_simp)
        have n0' : w5.frozen? ⟨w3.heap.size, 0, none⟩ = false := (hb5.frozen (p := ⟨w3.heap.size, 0, none⟩) (by simp; omega)).trans (by simp [World.frozen?_setCell, n0])
        have n1' : w5.frozen? ⟨w3.heap.size, 1, none⟩ = false := (hb5.frozen (p := ⟨w3.heap.size, 1, none⟩) (by simp; omega)).trans (by simp [World.frozen?_setCell, n1])
        have HB5 := hide (show Below w3.heap.size w3 (w5.setCell ⟨w3.heap.size, 0, none⟩ (.int .i64 at_)) from ((HB4.out.setCell (Nat.le_refl _) _).trans (hb5.mono (by simp; omega))).setCell (Nat.le_refl _) _)
        have HS6 := hide (HS3.out.below HB5.out)
        have c6 := HS6.out.cell 5 _ rfl
        have u6 := HS6.out.froz 5
        have hz6 := HS6.out.lt
        clear hb5 m0 m1 n0 n1 HB4 HX3 HS3 HB5
        go_wp2_with (at_builtin; go_loud (refine wpList_appLoad rfl _ _ rfl (w2.heap.size + 1) rfl HS6.out.own rfl (by omega) (by omega) ?_; intro A7 c7 w7 ho7 hk7 _hg7; have HS7 := hide (HS6.out.push (x := ⟨at_, wt⟩) (by simpa using ho7) hk7); have c7' := (hk7.cell (p := ⟨w2.heap.size, 5, none⟩) (by simp)).trans c6; have u7' := (hk7.frozen (p := ⟨w2.heap.size, 5, none⟩) (by simp)).trans u6; clear ho7 hk7))
        go_roundw
        case rel => exact ⟨k + 1, A7, c7, ls ++ [⟨at_, wt⟩], by go_num, by omega, by simp; omega, HL2, by simpa using HS7⟩
        case measure => simp [intOf]; omega
      · have hls : ls = r.map ldI := by rw [HL.out, List.take_of_length_le (by omega)]
        rw [← hls] at HIF
        have HXE := HX
        have HSE := HS
        clear HL HX HS hls
        have t0 := HSE.out.cell 0 _ rfl
        have t1 := HSE.out.cell 1 _ rfl
        have t2 := HSE.out.cell 2 _ rfl
        have t3 := HSE.out.cell 3 _ rfl
        have t4 := HSE.out.cell 4 _ rfl
        have t5 := HSE.out.cell 5 _ rfl
        cases hv : vBeam nm x1 x2 x3 x4 ls
        · have E := bm_none (l := s.data.toList) (by
            cases h : oBeam s.data.toList with
            | none => rfl
            | some q => have h2 := (HIF.out.2 q h).2.1; rw [hv] at h2; cases h2)
          clear HIF
          go_wp2_with fail
          refine (implValidBeam nm x1 x2 x3 x4 A c ls _ HSE.out.slat (by omega) (by unfold maxLen; omega)).mono ?_
          rintro e w4 ⟨rfl, hb4⟩
          have hx2 := HXE.out.trans (hb4.mono (by simp; omega))
          clear hb4
          have q0 := hx2.cell (p := ⟨w.heap.size, 0, none⟩) (by simp)
          have q1 := hx2.cell (p := ⟨w.heap.size, 1, none⟩) (by simp)
          have q2 := hx2.cell (p := ⟨w.heap.size, 2, none⟩) (by simp)
          have q3 := hx2.cell (p := ⟨w.heap.size, 3, none⟩) (by simp)
          have q4 := hx2.cell (p := ⟨w.heap.size, 4, none⟩) (by simp)
          have q5 := hx2.cell (p := ⟨w.heap.size, 5, none⟩) (by simp)
          have y0 := hx2.frozen (p := ⟨w.heap.size, 0, none⟩) (by simp)
          have y1 := hx2.frozen (p := ⟨w.heap.size, 1, none⟩) (by simp)
          have y2 := hx2.frozen (p := ⟨w.heap.size, 2, none⟩) (by simp)
          have y3 := hx2.frozen (p := ⟨w.heap.size, 3, none⟩) (by simp)
          have y4 := hx2.frozen (p := ⟨w.heap.size, 4, none⟩) (by simp)
          have y5 := hx2.frozen (p := ⟨w.heap.size, 5, none⟩) (by simp)
          simp at q0 y0 q1 y1 q2 y2 q3 y3 q4 y4 q5 y5
          have HB1 := hide (Below.trans (show Below w.heap.size w (w.alloc (.cells #[.string ⟨#[]⟩, .int .i64 0, .int .i64 0, .int .i64 0, .int .i64 0, .slice none 0 0] 26)) from (by repeat (first | with_reducible exact Below.refl _ _ | with_reducible assumption | (with_reducible refine Below.drew ?_) | (with_reducible refine below_drewN ?_ _) | ((with_reducible refine Below.alloc ?_ ?_ _); rotate_left; (focus (first | omega | (simp; omega) | simp))) | ((with_reducible refine Below.setCell ?_ ?_ _); rotate_left; (focus (first | omega | (simp; omega) | simp))) | (refine Below.trans ?_ (Below.mono (by assumption) (by first | omega | (simp; omega) | simp)))))) (hx2.mono (by simp)))
          clear hx2
          go_wp2_with fail
          refine bodyPost_ret (v := .tuple #[.agg #[.string ⟨#[]⟩, .int .i64 0, .int .i64 0, .int .i64 0, .int .i64 0, .slice none 0 0], .bool false]) (by simp [results, Tryz.results10, go_sem, q0, q1, q2, q3, q4, q5]) rfl ⟨none, 0, zbm_eq E, zbm_own E, (by repeat (first | with_reducible exact HB1.out | with_reducible exact HB2.out | with_reducible exact HB3.out | with_reducible exact Below.refl _ _ | with_reducible assumption | (with_reducible refine Below.drew ?_) | (with_reducible refine below_drewN ?_ _) | ((with_reducible refine Below.alloc ?_ ?_ _); rotate_left; (focus (first | omega | (simp; omega) | simp))) | ((with_reducible refine Below.setCell ?_ ?_ _); rotate_left; (focus (first | omega | (simp; omega) | simp))) | (refine Below.trans ?_ (Below.mono (by assumption) (by first | omega | (simp; omega) | simp)))))⟩
        · by_cases ht : txBeam nm x1 x2 x3 x4 ls = s
          · have E := bm_some (l := s.data.toList) (HIF.out.1 hv ht)
            have te := str_eq ht
            clear HIF ht
            go_wp2_with fail
            refine (implValidBeam nm x1 x2 x3 x4 A c ls _ HSE.out.slat (by omega) (by unfold maxLen; omega)).mono ?_
            rintro e w4 ⟨rfl, hb4⟩
            have HS4 := hide (HSE.out.below hb4)
            have HX4 := hide (HXE.out.trans (hb4.mono (by simp; omega)))
            have t0 := HS4.out.cell 0 _ rfl
            have t1 := HS4.out.cell 1 _ rfl
            have t2 := HS4.out.cell 2 _ rfl
            have t3 := HS4.out.cell 3 _ rfl
            have t4 := HS4.out.cell 4 _ rfl
            have t5 := HS4.out.cell 5 _ rfl
            have hz4 := HS4.out.lt
            clear hb4
            go_wp2_with fail
            refine (implBeamText nm x1 x2 x3 x4 A c ls _ HS4.out.slat (HE.out _ HX4.out).t (by omega) (by unfold maxLen; omega)).mono ?_
            rintro e w5 ⟨rfl, hb5⟩
            have HS5 := hide (HS4.out.below hb5)
            have hx2 := HX4.out.trans (hb5.mono (by simp; omega))
            have t0 := HS5.out.cell 0 _ rfl
            have t1 := HS5.out.cell 1 _ rfl
            have t2 := HS5.out.cell 2 _ rfl
            have t3 := HS5.out.cell 3 _ rfl
            have t4 := HS5.out.cell 4 _ rfl
            have t5 := HS5.out.cell 5 _ rfl
            have hz5 := HS5.out.lt
            have q0 := hx2.cell (p := ⟨w.heap.size, 0, none⟩) (by simp)
            have q1 := hx2.cell (p := ⟨w.heap.size, 1, none⟩) (by simp)
            have q2 := hx2.cell (p := ⟨w.heap.size, 2, none⟩) (by simp)
            have q3 := hx2.cell (p := ⟨w.heap.size, 3, none⟩) (by simp)
            have q4 := hx2.cell (p := ⟨w.heap.size, 4, none⟩) (by simp)
            have q5 := hx2.cell (p := ⟨w.heap.size, 5, none⟩) (by simp)
            have y0 := hx2.frozen (p := ⟨w.heap.size, 0, none⟩) (by simp)
            have y1 := hx2.frozen (p := ⟨w.heap.size, 1, none⟩) (by simp)
            have y2 := hx2.frozen (p := ⟨w.heap.size, 2, none⟩) (by simp)
            have y3 := hx2.frozen (p := ⟨w.heap.size, 3, none⟩) (by simp)
            have y4 := hx2.frozen (p := ⟨w.heap.size, 4, none⟩) (by simp)
            have y5 := hx2.frozen (p := ⟨w.heap.size, 5, none⟩) (by simp)
            simp at q0 y0 q1 y1 q2 y2 q3 y3 q4 y4 q5 y5
            have HB1 := hide (Below.trans (show Below w.heap.size w (w.alloc (.cells #[.string ⟨#[]⟩, .int .i64 0, .int .i64 0, .int .i64 0, .int .i64 0, .slice none 0 0] 26)) from (by repeat (first | with_reducible exact Below.refl _ _ | with_reducible assumption | (with_reducible refine Below.drew ?_) | (with_reducible refine below_drewN ?_ _) | ((with_reducible refine Below.alloc ?_ ?_ _); rotate_left; (focus (first | omega | (simp; omega) | simp))) | ((with_reducible refine Below.setCell ?_ ?_ _); rotate_left; (focus (first | omega | (simp; omega) | simp))) | (refine Below.trans ?_ (Below.mono (by assumption) (by first | omega | (simp; omega) | simp)))))) (hx2.mono (by simp)))
            clear hx2 hb5
            go_wp2_with fail
            refine bodyPost_ret (v := .tuple #[.agg #[.string nm, .int .i64 x1, .int .i64 x2, .int .i64 x3, .int .i64 x4, .slice A ls.length c], .bool true]) (by simp [results, Tryz.results10, go_sem, q0, q1, q2, q3, q4, q5]) rfl ⟨A, c, by rw [E.1.out, E.2.out], ?_, (by repeat (first | with_reducible exact HB1.out | with_reducible exact HB2.out | with_reducible exact HB3.out | with_reducible exact Below.refl _ _ | with_reducible assumption | (with_reducible refine Below.drew ?_) | (with_reducible refine below_drewN ?_ _) | ((with_reducible refine Below.alloc ?_ ?_ _); rotate_left; (focus (first | omega | (simp; omega) | simp))) | ((with_reducible refine Below.setCell ?_ ?_ _); rotate_left; (focus (first | omega | (simp; omega) | simp))) | (refine Below.trans ?_ (Below.mono (by assumption) (by first | omega | (simp; omega) | simp)))))⟩
            rw [E.1.out]
            refine Own.mono (B := w2.heap.size + 1) ?_ (by omega)
            iterate 6 (refine own_far (by omega) ?_ _ _)
            exact HS5.out.own
          · have E := bm_none (l := s.data.toList) (by
              cases h : oBeam s.data.toList with
              | none => rfl
              | some q => exact absurd (HIF.out.2 q h).2.2 ht)
            have te := str_ne ht
            clear HIF ht
            go_wp2_with fail
            refine (implValidBeam nm x1 x2 x3 x4 A c ls _ HSE.out.slat (by omega) (by unfold maxLen; omega)).mono ?_
            rintro e w4 ⟨rfl, hb4⟩
            have HS4 := hide (HSE.out.below hb4)
            have HX4 := hide (HXE.out.trans (hb4.mono (by simp; omega)))
            have t0 := HS4.out.cell 0 _ rfl
            have t1 := HS4.out.cell 1 _ rfl
            have t2 := HS4.out.cell 2 _ rfl
            have t3 := HS4.out.cell 3 _ rfl
            have t4 := HS4.out.cell 4 _ rfl
            have t5 := HS4.out.cell 5 _ rfl
            have hz4 := HS4.out.lt
            clear hb4
            go_wp2_with fail
            refine (implBeamText nm x1 x2 x3 x4 A c ls _ HS4.out.slat (HE.out _ HX4.out).t (by omega) (by unfold maxLen; omega)).mono ?_
            rintro e w5 ⟨rfl, hb5⟩
            have hx2 := HX4.out.trans (hb5.mono (by simp; omega))
            clear hb5
            have q0 := hx2.cell (p := ⟨w.heap.size, 0, none⟩) (by simp)
            have q1 := hx2.cell (p := ⟨w.heap.size, 1, none⟩) (by simp)
            have q2 := hx2.cell (p := ⟨w.heap.size, 2, none⟩) (by simp)
            have q3 := hx2.cell (p := ⟨w.heap.size, 3, none⟩) (by simp)
            have q4 := hx2.cell (p := ⟨w.heap.size, 4, none⟩) (by simp)
            have q5 := hx2.cell (p := ⟨w.heap.size, 5, none⟩) (by simp)
            have y0 := hx2.frozen (p := ⟨w.heap.size, 0, none⟩) (by simp)
            have y1 := hx2.frozen (p := ⟨w.heap.size, 1, none⟩) (by simp)
            have y2 := hx2.frozen (p := ⟨w.heap.size, 2, none⟩) (by simp)
            have y3 := hx2.frozen (p := ⟨w.heap.size, 3, none⟩) (by simp)
            have y4 := hx2.frozen (p := ⟨w.heap.size, 4, none⟩) (by simp)
            have y5 := hx2.frozen (p := ⟨w.heap.size, 5, none⟩) (by simp)
            simp at q0 y0 q1 y1 q2 y2 q3 y3 q4 y4 q5 y5
            have HB1 := hide (Below.trans (show Below w.heap.size w (w.alloc (.cells #[.string ⟨#[]⟩, .int .i64 0, .int .i64 0, .int .i64 0, .int .i64 0, .slice none 0 0] 26)) from (by repeat (first | with_reducible exact Below.refl _ _ | with_reducible assumption | (with_reducible refine Below.drew ?_) | (with_reducible refine below_drewN ?_ _) | ((with_reducible refine Below.alloc ?_ ?_ _); rotate_left; (focus (first | omega | (simp; omega) | simp))) | ((with_reducible refine Below.setCell ?_ ?_ _); rotate_left; (focus (first | omega | (simp; omega) | simp))) | (refine Below.trans ?_ (Below.mono (by assumption) (by first | omega | (simp; omega) | simp)))))) (hx2.mono (by simp)))
            clear hx2
            go_wp2_with fail
            refine bodyPost_ret (v := .tuple #[.agg #[.string ⟨#[]⟩, .int .i64 0, .int .i64 0, .int .i64 0, .int .i64 0, .slice none 0 0], .bool false]) (by simp [results, Tryz.results10, go_sem, q0, q1, q2, q3, q4, q5]) rfl ⟨none, 0, zbm_eq E, zbm_own E, (by repeat (first | with_reducible exact HB1.out | with_reducible exact HB2.out | with_reducible exact HB3.out | with_reducible exact Below.refl _ _ | with_reducible assumption | (with_reducible refine Below.drew ?_) | (with_reducible refine below_drewN ?_ _) | ((with_reducible refine Below.alloc ?_ ?_ _); rotate_left; (focus (first | omega | (simp; omega) | simp))) | ((with_reducible refine Below.setCell ?_ ?_ _); rotate_left; (focus (first | omega | (simp; omega) | simp))) | (refine Below.trans ?_ (Below.mono (by assumption) (by first | omega | (simp; omega) | simp)))))⟩
end Go.Proofs.YtajodbhbmfjmjaaGreatDoor
