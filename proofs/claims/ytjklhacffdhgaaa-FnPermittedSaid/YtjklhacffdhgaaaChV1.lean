/- A visit without a node left; a visit of the first charge that fits, the first one being asked for. -/
import Derived.Test.YtjklhacffdhgaaaChV0
namespace Go.Proofs.Ytjklhacffdhgaaa
open Go.RowKit

set_option maxRecDepth 100000 in
set_option maxHeartbeats 8000000 in
theorem visit_zero (w0 : World) (b : Nat) (A : Option Addr) (c dq : Nat) (xs : List IngotR) (d0 d1 d2 d3 d4 : Int) (first : Bool) (budget : Int) (HX : Hid (SlAt encIngot 5 w0 A xs)) (HV : Hid (∀ x ∈ xs, vIngotX x = true)) (hn : xs.length ≤ 16) (HD : Hid (vDem d0 d1 d2 d3 d4 = true)) (hdq : dq < w0.heap.size) (HQ : Hid (w0.cell? ⟨dq, 0, none⟩ = some (.int .i64 d0) ∧ w0.cell? ⟨dq, 1, none⟩ = some (.int .i64 d1) ∧ w0.cell? ⟨dq, 2, none⟩ = some (.int .i64 d2) ∧ w0.cell? ⟨dq, 3, none⟩ = some (.int .i64 d3) ∧ w0.cell? ⟨dq, 4, none⟩ = some (.int .i64 d4))) (f : Nat) (ih : VisitOK w0 b A c dq xs d0 d1 d2 d3 d4 first budget f) (ch : List Int) (k0 : Nat) (left count : Int) (best : List Int) (least : Int) (w : World) (cv : Option Addr) (cc : Nat) (bv : Option Addr) (bc : Nat) (hf : xs.length < f + 1 + k0)
    (HS : Hid (ChX w0 b A xs.length c dq first budget w cv cc ch (sumB fM xs ch) (sumB fT xs ch) (sumB fO xs ch) bv bc ⟨left, false, count, best, least⟩)) (HG : Hid (GoodCh xs.length ch)) (hck : ch.length ≤ k0) (hk0 : k0 ≤ xs.length) (hmd : sumB fM xs ch ≤ d1) (HE : Hid (Ch.ended first ⟨left, false, count, best, least⟩ = false)) (hl0 : left = 0) :
    Calls Try.prog 148 #[.pointer (some ⟨b, 0, none⟩), .int .i64 k0] w fun e w' => ∃ (s' : Ch.S) (cv' : Option Addr) (cc' : Nat) (bv' : Option Addr) (bc' : Nat), e = .returned (.bool (!Ch.ended first s')) ∧ Ch.srch first (fitC d0 d1 d2 d3 d4 xs) (xs.map fM) d1 (f + 1) ch (sumB fM xs ch) k0 ⟨left, false, count, best, least⟩ = s' ∧ ChX w0 b A xs.length c dq first budget w' cv' cc' ch (sumB fM xs ch) (sumB fT xs ch) (sumB fO xs ch) bv' bc' s' ∧ Fr b w w' (.slice cv ch.length cc) (.slice cv' ch.length cc') := by
  have _u1 := HX
  have _u2 := hdq
  have _u3 := HQ
  have _u4 := ih
  have _u5 := hf
  have _u6 := hmd
  have _u7 := HV
  have _u8 := hn
  have _u9 := HG
  clear _u1 _u2 _u3 _u4 _u5 _u6 _u7 _u8 _u9
  obtain ⟨⟨a0, a1⟩, a2, ⟨a3, a4⟩, a5, a6, a7⟩ := vDem_true HD.out
  have hbd := sums_bd (ch := ch) HV.out HG.out (by omega)
  have hfc : fitC d0 d1 d2 d3 d4 xs ch = fitB d0 d1 d2 d3 d4 (sumB fM xs ch) (sumB fT xs ch) (sumB fO xs ch) := rfl
  have HFC := hide hfc
  clear hfc
  generalize hm : sumB fM xs ch = m at *
  generalize ht : sumB fT xs ch = t at *
  generalize ho : sumB fO xs ch = o at *
  have HM := hide (And.intro hm (And.intro ht ho))
  obtain ⟨⟨m0, m1⟩, ⟨t0, t1⟩, o0, o1⟩ := hbd
  clear hm ht ho
  have hbl := HS.out.lt
  have h1 := HS.out.st
  obtain ⟨l0, l1, l2⟩ := HS.out.inv
  obtain ⟨u0, u1⟩ := HS.out.bud
  simp only at l0 l1 l2 u0
  have hnd : Ch.nodes budget ⟨left, false, count, best, least⟩ = budget - left := by simp [Ch.nodes]
  simp only [hnd] at h1
  have g10 : w.cell? ⟨b, 10, none⟩ = some (.int .i64 (budget - left)) := by simp [World.cell?, h1]
  have g11 : w.cell? ⟨b, 11, none⟩ = some (.int .i64 budget) := by simp [World.cell?, h1]
  have f10 : w.frozen? ⟨b, 10, none⟩ = false := by simp [World.frozen?, h1]
  have hw1 : wrap64 (budget - left + 1) = budget - left + 1 := by simp only [wrap64]; omega
  clear h1 hw1
  subst hl0
  simp only [Int.sub_zero] at g10 hnd
  have HS1 := hide (HS.out.over (nd := budget + 1) (by rw [hnd]))
  have HSP := hide (Ch.srch_spent (fit := fitC d0 d1 d2 d3 d4 xs) (ms := xs.map fM) (most := d1) (f := f) (ch := ch) (mass := m) (k0 := k0) HE.out rfl)
  have hgt : decide (budget < budget + 1) = true := by simp; omega
  have HF1 := hide ((Fr.refl (b := b) (w := w) (v := .slice cv ch.length cc)).set 10 (.int .i64 (budget + 1)))
  clear ih HX HV HD HQ HG HFC HM HS hnd
  go_enter Try.func148, Try.ntmps148
  go_wp2_with fail
  generalize w.setCell ⟨b, 10, none⟩ (.int .i64 (budget + 1)) = w1 at *
  have hst := HS1.out.st
  have hb1 := HS1.out.lt
  have g10 : w1.cell? ⟨b, 10, none⟩ = some (.int .i64 (budget + 1)) := by simp [World.cell?, hst, Ch.nodes]
  have g11 : w1.cell? ⟨b, 11, none⟩ = some (.int .i64 budget) := by simp [World.cell?, hst]
  clear hst
  refine wp_region_kept (by kernel_rfl) (by kernel_rfl) ?_
  intro gc gf gz
  repeat (go_big_quiet_step (fail))
  refine wpQuiet_nil ?_
  intro w2 hw'
  obtain ⟨⟨_, hb2⟩, rfl⟩ := hw'
  clear gc gf gz
  try dsimp only
  have fs2 := hb2.size
  try simp at fs2 hb2
  go_wp2_with fail
  go_ret
  exact ⟨⟨0, true, count, best, least⟩, cv, cc, bv, bc, by simp [Ch.ended], HSP.out, HS1.out.below hb2, HF1.out.below hb2⟩
set_option maxRecDepth 100000 in
set_option maxHeartbeats 8000000 in
theorem visit_first_b (w0 : World) (b : Nat) (A : Option Addr) (c dq : Nat) (xs : List IngotR) (d0 d1 d2 d3 d4 : Int) (first : Bool) (budget : Int) (HX : Hid (SlAt encIngot 5 w0 A xs)) (HV : Hid (∀ x ∈ xs, vIngotX x = true)) (hn : xs.length ≤ 16) (HD : Hid (vDem d0 d1 d2 d3 d4 = true)) (hdq : dq < w0.heap.size) (HQ : Hid (w0.cell? ⟨dq, 0, none⟩ = some (.int .i64 d0) ∧ w0.cell? ⟨dq, 1, none⟩ = some (.int .i64 d1) ∧ w0.cell? ⟨dq, 2, none⟩ = some (.int .i64 d2) ∧ w0.cell? ⟨dq, 3, none⟩ = some (.int .i64 d3) ∧ w0.cell? ⟨dq, 4, none⟩ = some (.int .i64 d4))) (f : Nat) (ih : VisitOK w0 b A c dq xs d0 d1 d2 d3 d4 first budget f) (ch : List Int) (k0 : Nat) (left count : Int) (best : List Int) (least : Int) (w : World) (cv : Option Addr) (cc : Nat) (bv : Option Addr) (bc : Nat) (hf : xs.length < f + 1 + k0)
    (HS : Hid (ChX w0 b A xs.length c dq first budget w cv cc ch (sumB fM xs ch) (sumB fT xs ch) (sumB fO xs ch) bv bc ⟨left, false, count, best, least⟩)) (HG : Hid (GoodCh xs.length ch)) (hck : ch.length ≤ k0) (hk0 : k0 ≤ xs.length) (hmd : sumB fM xs ch ≤ d1) (HE : Hid (Ch.ended first ⟨left, false, count, best, least⟩ = false)) (hl0 : ¬ left = 0) (hfit : fitC d0 d1 d2 d3 d4 xs ch = true) (hbt : Ch.better (sumB fM xs ch) ⟨left - 1, false, count, best, least⟩ = true) (hfi : first = true) :
    Calls Try.prog 148 #[.pointer (some ⟨b, 0, none⟩), .int .i64 k0] w fun e w' => ∃ (s' : Ch.S) (cv' : Option Addr) (cc' : Nat) (bv' : Option Addr) (bc' : Nat), e = .returned (.bool (!Ch.ended first s')) ∧ Ch.srch first (fitC d0 d1 d2 d3 d4 xs) (xs.map fM) d1 (f + 1) ch (sumB fM xs ch) k0 ⟨left, false, count, best, least⟩ = s' ∧ ChX w0 b A xs.length c dq first budget w' cv' cc' ch (sumB fM xs ch) (sumB fT xs ch) (sumB fO xs ch) bv' bc' s' ∧ Fr b w w' (.slice cv ch.length cc) (.slice cv' ch.length cc') := by
  have _u1 := HX
  have _u2 := hdq
  have _u3 := HQ
  have _u4 := ih
  have _u5 := hf
  have _u6 := hmd
  have _u7 := HV
  have _u8 := hn
  have _u9 := HG
  clear _u1 _u2 _u3 _u4 _u5 _u6 _u7 _u8 _u9
  obtain ⟨⟨a0, a1⟩, a2, ⟨a3, a4⟩, a5, a6, a7⟩ := vDem_true HD.out
  have hbd := sums_bd (ch := ch) HV.out HG.out (by omega)
  have hfc : fitC d0 d1 d2 d3 d4 xs ch = fitB d0 d1 d2 d3 d4 (sumB fM xs ch) (sumB fT xs ch) (sumB fO xs ch) := rfl
  have HFC := hide hfc
  clear hfc
  generalize hm : sumB fM xs ch = m at *
  generalize ht : sumB fT xs ch = t at *
  generalize ho : sumB fO xs ch = o at *
  have HM := hide (And.intro hm (And.intro ht ho))
  obtain ⟨⟨m0, m1⟩, ⟨t0, t1⟩, o0, o1⟩ := hbd
  clear hm ht ho
  have hbl := HS.out.lt
  have h1 := HS.out.st
  obtain ⟨l0, l1, l2⟩ := HS.out.inv
  obtain ⟨u0, u1⟩ := HS.out.bud
  simp only at l0 l1 l2 u0
  have hnd : Ch.nodes budget ⟨left, false, count, best, least⟩ = budget - left := by simp [Ch.nodes]
  simp only [hnd] at h1
  have g10 : w.cell? ⟨b, 10, none⟩ = some (.int .i64 (budget - left)) := by simp [World.cell?, h1]
  have g11 : w.cell? ⟨b, 11, none⟩ = some (.int .i64 budget) := by simp [World.cell?, h1]
  have f10 : w.frozen? ⟨b, 10, none⟩ = false := by simp [World.frozen?, h1]
  have hw1 : wrap64 (budget - left + 1) = budget - left + 1 := by simp only [wrap64]; omega
  clear h1 hw1
  have Khfit := hide hfit
  clear hfit
  have Khbt := hide hbt
  clear hbt
  have Khfi := hide hfi
  clear hfi
  have HS1 := hide (HS.out.node (nd := budget - left + 1) hl0 (by rw [hnd]))
  have HL := hide hl0
  have hgt : decide (budget < budget - (left - 1)) = false := by simp; omega
  have HF1 := hide ((Fr.refl (b := b) (w := w) (v := .slice cv ch.length cc)).set 10 (.int .i64 (budget - left + 1)))
  clear HS hnd hl0
  go_enter Try.func148, Try.ntmps148
  go_wp2_with fail
  generalize w.setCell ⟨b, 10, none⟩ (.int .i64 (budget - left + 1)) = w1 at *
  have hst := HS1.out.st
  have hb1 := HS1.out.lt
  have g10' : w1.cell? ⟨b, 10, none⟩ = some (.int .i64 (budget - (left - 1))) := by simp [World.cell?, hst, Ch.nodes]
  have g11' : w1.cell? ⟨b, 11, none⟩ = some (.int .i64 budget) := by simp [World.cell?, hst]
  clear hst g10 g11 f10
  refine wp_region_kept (by kernel_rfl) (by kernel_rfl) ?_
  intro gc gf gz
  repeat (go_big_quiet_step (fail))
  refine wpQuiet_nil ?_
  intro w2 hw'
  obtain ⟨⟨_, hb2⟩, rfl⟩ := hw'
  clear gc gf gz
  try dsimp only
  have fs2 := hb2.size
  try simp at fs2 hb2
  have HS2 := hide (HS1.out.below hb2)
  have HF2 := hide (HF1.out.below hb2)
  clear HS1 HF1 hb2 fs2 hb1 g10' g11'
  have hst := HS2.out.st
  have hb2 := HS2.out.lt
  have g1 : w2.cell? ⟨b, 1, none⟩ = some (.pointer (some ⟨dq, 0, none⟩)) := by simp [World.cell?, hst]
  have g3 : w2.cell? ⟨b, 3, none⟩ = some (.int .i64 m) := by simp [World.cell?, hst]
  have g4 : w2.cell? ⟨b, 4, none⟩ = some (.int .i64 t) := by simp [World.cell?, hst]
  have g5 : w2.cell? ⟨b, 5, none⟩ = some (.int .i64 o) := by simp [World.cell?, hst]
  clear hst
  have hz2 := HS2.out.bel.size
  have hcl := fun (j : Nat) (v : Value) (hv : w0.cell? ⟨dq, j, none⟩ = some v) (u : Kept w2) => (u.h.cell (p := ⟨dq, j, none⟩) (show dq < w2.heap.size by omega)).trans ((HS2.out.bel.cell (p := ⟨dq, j, none⟩) hdq).trans hv)
  have hfit := fun u : Kept w2 => specl13Fits dq 0 d0 d1 d2 d3 d4 m t o u.w' HD.out m0 m1 (hcl 0 _ HQ.out.1 u) (hcl 1 _ HQ.out.2.1 u) (hcl 2 _ HQ.out.2.2.1 u) (hcl 3 _ HQ.out.2.2.2.1 u) (hcl 4 _ HQ.out.2.2.2.2 u)
  rw [← HFC.out] at hfit
  have HFIT := hide hfit
  clear hfit hcl
  go_wp2_with fail
  clear hgt
  refine wp_region_kept (by kernel_rfl) (by kernel_rfl) ?_
  intro gc gf gz
  repeat (go_big_quiet_step ((go_at_call 183; exact Calls.kept (HFIT.out _))))
  refine wpQuiet_nil ?_
  intro w3 hw'
  obtain ⟨⟨_, hb3⟩, rfl⟩ := hw'
  clear gc gf gz
  try dsimp only
  have fs3 := hb3.size
  try simp at fs3 hb3
  have HS3 := hide (HS2.out.below hb3)
  have HF3 := hide (HF2.out.below hb3)
  clear HS2 HF2 HFIT hb3 fs3 hb2 g1 g3 g4 g5 hz2
  have hgo := Ch.srch_goes (fit := fitC d0 d1 d2 d3 d4 xs) (ms := xs.map fM) (most := d1) (f := f) (ch := ch) (mass := m) (k0 := k0) HE.out (by simpa using HL.out)
  rw [List.length_map] at hgo
  simp only at hgo
  have HGO := hide hgo
  have HE1 := hide (show Ch.ended first ⟨left - 1, false, count, best, least⟩ = false from HE.out)
  have hl1 := HL.out
  clear hgo HE HL
  have HFX := Khfit
  have hfit := HFX.out
  rw [hfit]
  have HS4 := hide (HS3.out.count1 (by omega))
  have HF4 := hide (HF3.out.set 9 (.int .i64 (count + 1)))
  have hst := HS3.out.st
  have g9 : w3.cell? ⟨b, 9, none⟩ = some (.int .i64 count) := by simp [World.cell?, hst]
  have f9 : w3.frozen? ⟨b, 9, none⟩ = false := by simp [World.frozen?, hst]
  clear hst HS3 HF3
  go_wp2_with fail
  clear g9 f9 hfit
  generalize w3.setCell ⟨b, 9, none⟩ (.int .i64 (count + 1)) = w4 at *
  have hst := HS4.out.st
  have hb4 := HS4.out.lt
  have g3 : w4.cell? ⟨b, 3, none⟩ = some (.int .i64 m) := by simp [World.cell?, hst]
  have g8 : w4.cell? ⟨b, 8, none⟩ = some (.int .i64 least) := by simp [World.cell?, hst]
  have g9 : w4.cell? ⟨b, 9, none⟩ = some (.int .i64 (count + 1)) := by simp [World.cell?, hst]
  clear hst
  go_upto_region 6 with fail
  go_cut [63] (fun s63 wx => s63 = .bool (Ch.better m ⟨left - 1, false, count, best, least⟩) ∧ Hid (ChX w0 b A xs.length c dq first budget wx cv cc ch m t o bv bc ⟨left - 1, false, count + 1, best, least⟩) ∧ Hid (Fr b w wx (.slice cv ch.length cc) (.slice cv ch.length cc)))
  case first =>
    by_cases hc0 : count = 0
    · subst hc0
      refine wp_region_kept (by kernel_rfl) (by kernel_rfl) ?_
      intro gc gf gz
      repeat (go_big_quiet_step (fail))
      refine wpQuiet_nil ?_
      intro w5 hw'
      obtain ⟨⟨_, hb5⟩, rfl⟩ := hw'
      clear gc gf gz
      try dsimp only
      have fs5 := hb5.size
      try simp at fs5 hb5
      go_wp2_with fail
      go_meet
      exact ⟨by simp [Ch.better], hide (HS4.out.below hb5), hide (HF4.out.below hb5)⟩
    · have hc1 : (count + 1 == 1) = false := by simp; omega
      have hc2 : (count == 0) = false := by simpa using hc0
      refine wp_region_kept (by kernel_rfl) (by kernel_rfl) ?_
      intro gc gf gz
      repeat (go_big_quiet_step (fail))
      refine wpQuiet_nil ?_
      intro w5 hw'
      obtain ⟨⟨_, hb5⟩, rfl⟩ := hw'
      clear gc gf gz
      try dsimp only
      have fs5 := hb5.size
      try simp at fs5 hb5
      go_wp2_with fail
      go_meet
      exact ⟨by simp [Ch.better, hc2], hide (HS4.out.below hb5), hide (HF4.out.below hb5)⟩
  case rest =>
  obtain ⟨rfl, HS5, HF5⟩ := hcut
  obtain ⟨w5, rfl⟩ : ∃ w5, w5 = wc := ⟨_, rfl⟩
  clear HS4 HF4 g3 g8 g9 hb4
  have hbt := Khbt.out
  rw [hbt]
  have HBT := hide hbt
  clear hbt
  have HS6 := hide (HS5.out.least1 m)
  have HF6 := hide (HF5.out.set 8 (.int .i64 m))
  have hst := HS5.out.st
  have g3 : w5.cell? ⟨b, 3, none⟩ = some (.int .i64 m) := by simp [World.cell?, hst]
  have g8 : w5.cell? ⟨b, 8, none⟩ = some (.int .i64 least) := by simp [World.cell?, hst]
  have f8 : w5.frozen? ⟨b, 8, none⟩ = false := by simp [World.frozen?, hst]
  have g2 : w5.cell? ⟨b, 2, none⟩ = some (.slice cv ch.length cc) := by simp [World.cell?, hst]
  clear hst HS5 HF5
  go_wp2_with fail
  clear g3 g8 f8 g2
  generalize w5.setCell ⟨b, 8, none⟩ (.int .i64 m) = w6 at *
  refine (specl00Own (b + 1) cv cc ch _ HS6.out.oc (by omega)).mono ?_
  rintro e w7 ⟨A7, c7, rfl, ho7, hb7⟩
  have HS8 := hide (HS6.out.best1 ho7 hb7)
  have HF8 := hide ((HF6.out.below hb7).set 7 (.slice A7 ch.length c7))
  have hst := (HS6.out.below hb7).st
  have g7 : w7.cell? ⟨b, 7, none⟩ = some (.slice bv best.length bc) := by simp [World.cell?, hst]
  have f7 : w7.frozen? ⟨b, 7, none⟩ = false := by simp [World.frozen?, hst]
  have g6 : w7.cell? ⟨b, 6, none⟩ = some (.bool first) := by simp [World.cell?, hst]
  clear hst ho7 hb7 HS6 HF6
  have hlk : Ch.look (fitC d0 d1 d2 d3 d4 xs ch) ch m ⟨left - 1, false, count, best, least⟩ = ⟨left - 1, false, count + 1, ch, m⟩ := by unfold Ch.look; rw [HFX.out, HBT.out]; rfl
  rw [hlk] at HGO
  have hen : Ch.ended first ⟨left - 1, false, count + 1, ch, m⟩ = first := by
    simp only [Ch.ended, Bool.false_or]
    have : decide (0 < count + 1) = true := by simp; omega
    rw [this, Bool.and_true]
  have HEN := hide hen
  clear hlk hen HE1
  have hfi := Khfi.out
  clear Khfi
  subst hfi
  have hrn := Ch.rounds_ended (fit := fitC d0 d1 d2 d3 d4 xs) (ms := xs.map fM) (most := d1) (f := f) (ch := ch) (mass := m) (xs.length - k0) k0 HEN.out
  have HRN := hide (HGO.out.trans hrn)
  clear hrn
  go_wp2_with fail
  ((try simp only [Exit.inBlock, Exit.then]); refine bodyPost_ret (results_tmp rfl _ _ _) rfl ?_)
  exact ⟨_, cv, cc, A7, c7, by rw [HEN.out]; rfl, HRN.out, HS8.out, HF8.out⟩
set_option maxRecDepth 100000 in
set_option maxHeartbeats 8000000 in
theorem visit_first_n (w0 : World) (b : Nat) (A : Option Addr) (c dq : Nat) (xs : List IngotR) (d0 d1 d2 d3 d4 : Int) (first : Bool) (budget : Int) (HX : Hid (SlAt encIngot 5 w0 A xs)) (HV : Hid (∀ x ∈ xs, vIngotX x = true)) (hn : xs.length ≤ 16) (HD : Hid (vDem d0 d1 d2 d3 d4 = true)) (hdq : dq < w0.heap.size) (HQ : Hid (w0.cell? ⟨dq, 0, none⟩ = some (.int .i64 d0) ∧ w0.cell? ⟨dq, 1, none⟩ = some (.int .i64 d1) ∧ w0.cell? ⟨dq, 2, none⟩ = some (.int .i64 d2) ∧ w0.cell? ⟨dq, 3, none⟩ = some (.int .i64 d3) ∧ w0.cell? ⟨dq, 4, none⟩ = some (.int .i64 d4))) (f : Nat) (ih : VisitOK w0 b A c dq xs d0 d1 d2 d3 d4 first budget f) (ch : List Int) (k0 : Nat) (left count : Int) (best : List Int) (least : Int) (w : World) (cv : Option Addr) (cc : Nat) (bv : Option Addr) (bc : Nat) (hf : xs.length < f + 1 + k0)
    (HS : Hid (ChX w0 b A xs.length c dq first budget w cv cc ch (sumB fM xs ch) (sumB fT xs ch) (sumB fO xs ch) bv bc ⟨left, false, count, best, least⟩)) (HG : Hid (GoodCh xs.length ch)) (hck : ch.length ≤ k0) (hk0 : k0 ≤ xs.length) (hmd : sumB fM xs ch ≤ d1) (HE : Hid (Ch.ended first ⟨left, false, count, best, least⟩ = false)) (hl0 : ¬ left = 0) (hfit : fitC d0 d1 d2 d3 d4 xs ch = true) (hbt : Ch.better (sumB fM xs ch) ⟨left - 1, false, count, best, least⟩ = false) (hfi : first = true) :
    Calls Try.prog 148 #[.pointer (some ⟨b, 0, none⟩), .int .i64 k0] w fun e w' => ∃ (s' : Ch.S) (cv' : Option Addr) (cc' : Nat) (bv' : Option Addr) (bc' : Nat), e = .returned (.bool (!Ch.ended first s')) ∧ Ch.srch first (fitC d0 d1 d2 d3 d4 xs) (xs.map fM) d1 (f + 1) ch (sumB fM xs ch) k0 ⟨left, false, count, best, least⟩ = s' ∧ ChX w0 b A xs.length c dq first budget w' cv' cc' ch (sumB fM xs ch) (sumB fT xs ch) (sumB fO xs ch) bv' bc' s' ∧ Fr b w w' (.slice cv ch.length cc) (.slice cv' ch.length cc') := by
  have _u1 := HX
  have _u2 := hdq
  have _u3 := HQ
  have _u4 := ih
  have _u5 := hf
  have _u6 := hmd
  have _u7 := HV
  have _u8 := hn
  have _u9 := HG
  clear _u1 _u2 _u3 _u4 _u5 _u6 _u7 _u8 _u9
  obtain ⟨⟨a0, a1⟩, a2, ⟨a3, a4⟩, a5, a6, a7⟩ := vDem_true HD.out
  have hbd := sums_bd (ch := ch) HV.out HG.out (by omega)
  have hfc : fitC d0 d1 d2 d3 d4 xs ch = fitB d0 d1 d2 d3 d4 (sumB fM xs ch) (sumB fT xs ch) (sumB fO xs ch) := rfl
  have HFC := hide hfc
  clear hfc
  generalize hm : sumB fM xs ch = m at *
  generalize ht : sumB fT xs ch = t at *
  generalize ho : sumB fO xs ch = o at *
  have HM := hide (And.intro hm (And.intro ht ho))
  obtain ⟨⟨m0, m1⟩, ⟨t0, t1⟩, o0, o1⟩ := hbd
  clear hm ht ho
  have hbl := HS.out.lt
  have h1 := HS.out.st
  obtain ⟨l0, l1, l2⟩ := HS.out.inv
  obtain ⟨u0, u1⟩ := HS.out.bud
  simp only at l0 l1 l2 u0
  have hnd : Ch.nodes budget ⟨left, false, count, best, least⟩ = budget - left := by simp [Ch.nodes]
  simp only [hnd] at h1
  have g10 : w.cell? ⟨b, 10, none⟩ = some (.int .i64 (budget - left)) := by simp [World.cell?, h1]
  have g11 : w.cell? ⟨b, 11, none⟩ = some (.int .i64 budget) := by simp [World.cell?, h1]
  have f10 : w.frozen? ⟨b, 10, none⟩ = false := by simp [World.frozen?, h1]
  have hw1 : wrap64 (budget - left + 1) = budget - left + 1 := by simp only [wrap64]; omega
  clear h1 hw1
  have Khfit := hide hfit
  clear hfit
  have Khbt := hide hbt
  clear hbt
  have Khfi := hide hfi
  clear hfi
  have HS1 := hide (HS.out.node (nd := budget - left + 1) hl0 (by rw [hnd]))
  have HL := hide hl0
  have hgt : decide (budget < budget - (left - 1)) = false := by simp; omega
  have HF1 := hide ((Fr.refl (b := b) (w := w) (v := .slice cv ch.length cc)).set 10 (.int .i64 (budget - left + 1)))
  clear HS hnd hl0
  go_enter Try.func148, Try.ntmps148
  go_wp2_with fail
  generalize w.setCell ⟨b, 10, none⟩ (.int .i64 (budget - left + 1)) = w1 at *
  have hst := HS1.out.st
  have hb1 := HS1.out.lt
  have g10' : w1.cell? ⟨b, 10, none⟩ = some (.int .i64 (budget - (left - 1))) := by simp [World.cell?, hst, Ch.nodes]
  have g11' : w1.cell? ⟨b, 11, none⟩ = some (.int .i64 budget) := by simp [World.cell?, hst]
  clear hst g10 g11 f10
  refine wp_region_kept (by kernel_rfl) (by kernel_rfl) ?_
  intro gc gf gz
  repeat (go_big_quiet_step (fail))
  refine wpQuiet_nil ?_
  intro w2 hw'
  obtain ⟨⟨_, hb2⟩, rfl⟩ := hw'
  clear gc gf gz
  try dsimp only
  have fs2 := hb2.size
  try simp at fs2 hb2
  have HS2 := hide (HS1.out.below hb2)
  have HF2 := hide (HF1.out.below hb2)
  clear HS1 HF1 hb2 fs2 hb1 g10' g11'
  have hst := HS2.out.st
  have hb2 := HS2.out.lt
  have g1 : w2.cell? ⟨b, 1, none⟩ = some (.pointer (some ⟨dq, 0, none⟩)) := by simp [World.cell?, hst]
  have g3 : w2.cell? ⟨b, 3, none⟩ = some (.int .i64 m) := by simp [World.cell?, hst]
  have g4 : w2.cell? ⟨b, 4, none⟩ = some (.int .i64 t) := by simp [World.cell?, hst]
  have g5 : w2.cell? ⟨b, 5, none⟩ = some (.int .i64 o) := by simp [World.cell?, hst]
  clear hst
  have hz2 := HS2.out.bel.size
  have hcl := fun (j : Nat) (v : Value) (hv : w0.cell? ⟨dq, j, none⟩ = some v) (u : Kept w2) => (u.h.cell (p := ⟨dq, j, none⟩) (show dq < w2.heap.size by omega)).trans ((HS2.out.bel.cell (p := ⟨dq, j, none⟩) hdq).trans hv)
  have hfit := fun u : Kept w2 => specl13Fits dq 0 d0 d1 d2 d3 d4 m t o u.w' HD.out m0 m1 (hcl 0 _ HQ.out.1 u) (hcl 1 _ HQ.out.2.1 u) (hcl 2 _ HQ.out.2.2.1 u) (hcl 3 _ HQ.out.2.2.2.1 u) (hcl 4 _ HQ.out.2.2.2.2 u)
  rw [← HFC.out] at hfit
  have HFIT := hide hfit
  clear hfit hcl
  go_wp2_with fail
  clear hgt
  refine wp_region_kept (by kernel_rfl) (by kernel_rfl) ?_
  intro gc gf gz
  repeat (go_big_quiet_step ((go_at_call 183; exact Calls.kept (HFIT.out _))))
  refine wpQuiet_nil ?_
  intro w3 hw'
  obtain ⟨⟨_, hb3⟩, rfl⟩ := hw'
  clear gc gf gz
  try dsimp only
  have fs3 := hb3.size
  try simp at fs3 hb3
  have HS3 := hide (HS2.out.below hb3)
  have HF3 := hide (HF2.out.below hb3)
  clear HS2 HF2 HFIT hb3 fs3 hb2 g1 g3 g4 g5 hz2
  have hgo := Ch.srch_goes (fit := fitC d0 d1 d2 d3 d4 xs) (ms := xs.map fM) (most := d1) (f := f) (ch := ch) (mass := m) (k0 := k0) HE.out (by simpa using HL.out)
  rw [List.length_map] at hgo
  simp only at hgo
  have HGO := hide hgo
  have HE1 := hide (show Ch.ended first ⟨left - 1, false, count, best, least⟩ = false from HE.out)
  have hl1 := HL.out
  clear hgo HE HL
  have HFX := Khfit
  have hfit := HFX.out
  rw [hfit]
  have HS4 := hide (HS3.out.count1 (by omega))
  have HF4 := hide (HF3.out.set 9 (.int .i64 (count + 1)))
  have hst := HS3.out.st
  have g9 : w3.cell? ⟨b, 9, none⟩ = some (.int .i64 count) := by simp [World.cell?, hst]
  have f9 : w3.frozen? ⟨b, 9, none⟩ = false := by simp [World.frozen?, hst]
  clear hst HS3 HF3
  go_wp2_with fail
  clear g9 f9 hfit
  generalize w3.setCell ⟨b, 9, none⟩ (.int .i64 (count + 1)) = w4 at *
  have hst := HS4.out.st
  have hb4 := HS4.out.lt
  have g3 : w4.cell? ⟨b, 3, none⟩ = some (.int .i64 m) := by simp [World.cell?, hst]
  have g8 : w4.cell? ⟨b, 8, none⟩ = some (.int .i64 least) := by simp [World.cell?, hst]
  have g9 : w4.cell? ⟨b, 9, none⟩ = some (.int .i64 (count + 1)) := by simp [World.cell?, hst]
  clear hst
  have hbq : Ch.better m ⟨left - 1, false, count, best, least⟩ = false := Khbt.out
  have hc0 : count ≠ 0 ∧ least ≤ m := by simp [Ch.better] at hbq; omega
  have hc1 : (count + 1 == 1) = false := by simp; omega
  have hml : decide (m < least) = false := by simp; omega
  clear hbq hc0
  refine wp_region_kept (by kernel_rfl) (by kernel_rfl) ?_
  intro gc gf gz
  repeat (go_big_quiet_step (fail))
  refine wpQuiet_nil ?_
  intro w5 hw'
  obtain ⟨⟨_, hb5⟩, rfl⟩ := hw'
  clear gc gf gz
  try dsimp only
  have fs5 := hb5.size
  try simp at fs5 hb5
  have HS5 := hide (HS4.out.below hb5)
  have HF5 := hide (HF4.out.below hb5)
  have hbt := Khbt.out
  clear HS4 HF4 g3 g8 g9 hb4 hb5 fs5
  have HBT := hide hbt
  clear hbt
  have HS8 := HS5
  have HF8 := HF5
  have hst := HS5.out.st
  have g6 : w5.cell? ⟨b, 6, none⟩ = some (.bool first) := by simp [World.cell?, hst]
  clear hst HS5 HF5
  have hlk : Ch.look (fitC d0 d1 d2 d3 d4 xs ch) ch m ⟨left - 1, false, count, best, least⟩ = ⟨left - 1, false, count + 1, best, least⟩ := by unfold Ch.look; rw [HFX.out, HBT.out]; rfl
  rw [hlk] at HGO
  have hen : Ch.ended first ⟨left - 1, false, count + 1, best, least⟩ = first := by
    simp only [Ch.ended, Bool.false_or]
    have : decide (0 < count + 1) = true := by simp; omega
    rw [this, Bool.and_true]
  have HEN := hide hen
  clear hlk hen HE1
  have hfi := Khfi.out
  clear Khfi
  subst hfi
  have hrn := Ch.rounds_ended (fit := fitC d0 d1 d2 d3 d4 xs) (ms := xs.map fM) (most := d1) (f := f) (ch := ch) (mass := m) (xs.length - k0) k0 HEN.out
  have HRN := hide (HGO.out.trans hrn)
  clear hrn
  go_wp2_with fail
  ((try simp only [Exit.inBlock, Exit.then]); refine bodyPost_ret (results_tmp rfl _ _ _) rfl ?_)
  exact ⟨_, cv, cc, bv, bc, by rw [HEN.out]; rfl, HRN.out, HS8.out, HF8.out⟩
end Go.Proofs.Ytjklhacffdhgaaa
