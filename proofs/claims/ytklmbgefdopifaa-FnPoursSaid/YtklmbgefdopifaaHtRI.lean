/- The program's answers about schedules. -/
import Derived.Test.YtklmbgefdopifaaHtI
import Derived.Test.YtklmbgefdopifaaHtP
namespace Go.Proofs.Ytklmbgefdopifaa
open Go.RowKit

/-- What the searching function answers. -/
def RunHI (ps : List PourR) (cs : List CrucR) (budget : Int) (first : Bool) (w : World) (e : Ending) (w' : World) : Prop :=
  ∃ (code : Int) (s : Ht.S) (p : Value), runH ps cs budget first = (code, s) ∧ e = .returned (.tuple #[p, .int .i64 code]) ∧ (code = 0 → ∃ (b : Nat) (w1 : World) (A : Option Addr) (n c : Nat) (A1 : Option Addr) (m c1 : Nat), p = .pointer (some ⟨b, 0, none⟩) ∧ HtI w1 b A n c A1 m c1 first w' s ∧ w.heap.size ≤ b) ∧ Below w.heap.size w w'
set_option maxRecDepth 100000 in
set_option maxHeartbeats 2000000 in
theorem implheated (A A1 : Option Addr) (c c1 : Nat) (ps : List PourR) (cs : List CrucR) (budget : Int) (first : Bool) (w : World) (h : SlAt encPour 4 w A ps) (k : SlAt encCruc 4 w A1 cs) (hn : ps.length ≤ 1048576) (hm : cs.length ≤ 1048576) (hs : ∀ x ∈ ps, x.nm.size ≤ maxLen) (ht : ∀ x ∈ cs, x.nm.size ≤ maxLen) :
    Calls Try.prog 57 #[.slice A ps.length c, .slice A1 cs.length c1, .int .i64 budget, .bool first] w (RunHI ps cs budget first w) := by
  have HX := hide h
  have HY := hide k
  have HS := hide hs
  have HT := hide ht
  clear h k hs ht
  cases hr : rowsB vPourR PourR.nm 12 ps
  · have e := hide (runH_1 (cs := cs) (budget := budget) (first := first) hr)
    go_enter Try.func57, Try.ntmps57
    go_wp2_with fail
    refine (implValidPours A c ps _ HX.out hn HS.out).mono ?_
    rintro e w1 ⟨rfl, hb1⟩
    obtain ⟨fcb1, ffb1, fzb1⟩ := bfacts hb1 (by first | exact Nat.le_refl _ | omega | (simp; omega) | simp); have fsb1 := hb1.size; try simp at fcb1 ffb1 fzb1 fsb1 hb1
    go_wp2_with fail
    go_ret2
    exact ⟨1, _, _, e.out, rfl, fun q => by simp at q, (by repeat (first | with_reducible exact Below.refl _ _ | with_reducible assumption | (with_reducible refine Below.drew ?_) | (with_reducible refine below_drewN ?_ _) | ((with_reducible refine Below.alloc ?_ ?_ _); rotate_left; (focus (first | omega | (simp; omega) | simp))) | ((with_reducible refine Below.setCell ?_ ?_ _); rotate_left; (focus (first | omega | (simp; omega) | simp))) | (refine Below.trans ?_ (Below.mono (by assumption) (by first | omega | (simp; omega) | simp)))))⟩
  · have hcv : ∀ W : World, SlAt encCruc 4 W A1 cs → Calls Try.prog 69 #[.slice A1 cs.length c1] W fun e w' => e = .returned (.bool (okC cs)) ∧ Below W.heap.size W w' := fun W g => implValidCrucibles A1 c1 cs W g hm HT.out
    have HCV := hide hcv
    clear hcv
    cases hd : okC cs
    · have e := hide (runH_2 (ps := ps) (budget := budget) (first := first) hd)
      go_enter Try.func57, Try.ntmps57
      go_wp2_with fail
      refine (implValidPours A c ps _ HX.out hn HS.out).mono ?_
      rintro e w1 ⟨rfl, hb1⟩
      obtain ⟨fcb1, ffb1, fzb1⟩ := bfacts hb1 (by first | exact Nat.le_refl _ | omega | (simp; omega) | simp); have fsb1 := hb1.size; try simp at fcb1 ffb1 fzb1 fsb1 hb1
      go_wp2_with fail
      refine (HCV.out _ (HY.out.below hb1)).mono ?_
      rintro e2 w2 ⟨rfl, hb2⟩
      rw [hd]
      have HB2 := hide (hb1.trans (hb2.mono hb1.size))
      clear hb1 hb2
      go_wp2_with fail
      go_ret2
      exact ⟨1, _, _, e.out, rfl, fun q => by simp at q, HB2.out⟩
    · cases hb : inB budget 1 20000
      · have e := hide (runH_3 (first := first) hr hd hb)
        go_enter Try.func57, Try.ntmps57
        go_wp2_with fail
        refine (implValidPours A c ps _ HX.out hn HS.out).mono ?_
        rintro e w1 ⟨rfl, hb1⟩
        obtain ⟨fcb1, ffb1, fzb1⟩ := bfacts hb1 (by first | exact Nat.le_refl _ | omega | (simp; omega) | simp); have fsb1 := hb1.size; try simp at fcb1 ffb1 fzb1 fsb1 hb1
        go_wp2_with fail
        refine (HCV.out _ (HY.out.below hb1)).mono ?_
        rintro e2 w2 ⟨rfl, hb2⟩
        rw [hd]
        have HB2 := hide (hb1.trans (hb2.mono hb1.size))
        clear hb1 hb2
        go_wp2_with fail
        refine (implisBudget_any _ _).mono ?_; rintro e2 w3 ⟨rfl, rfl⟩
        go_wp2_with fail
        go_ret2
        exact ⟨2, _, _, e.out, rfl, fun q => by simp at q, HB2.out⟩
      · have E4 := hide (fun q => runH_4 (first := first) hr hd hb q)
        have E5 := hide (fun q => runH_5 (first := first) hr hd hb q)
        obtain ⟨rv, rl⟩ := rowsB_okH hr
        obtain ⟨cv, cl, -⟩ := okC_true hd
        have HV := hide rv
        have HW := hide cv
        obtain ⟨u0, u1⟩ := inB_true hb
        clear rv cv
        go_enter Try.func57, Try.ntmps57
        go_wp2_with fail
        refine (implValidPours A c ps _ HX.out hn HS.out).mono ?_
        rintro e w1 ⟨rfl, hb1⟩
        obtain ⟨fcb1, ffb1, fzb1⟩ := bfacts hb1 (by first | exact Nat.le_refl _ | omega | (simp; omega) | simp); have fsb1 := hb1.size; try simp at fcb1 ffb1 fzb1 fsb1 hb1
        go_wp2_with fail
        refine (HCV.out _ (HY.out.below hb1)).mono ?_
        rintro e2 w2 ⟨rfl, hb2⟩
        rw [hd]
        have HB2 := hide (hb1.trans (hb2.mono hb1.size))
        clear hb1 hb2 HCV
        go_wp2_with fail
        refine (implisBudget_any _ _).mono ?_; rintro e2 w3 ⟨rfl, rfl⟩
        have HX2 := hide (HX.out.below HB2.out)
        have HY2 := hide (HY.out.below HB2.out)
        clear hr hd
        go_wp2_with fail
        clear hb
        have hS : HtI w2 w2.heap.size A ps.length c A1 cs.length c1 first (w2.alloc (.cells #[.int .i64 budget, .bool false, .slice A ps.length c, .slice A1 cs.length c1, .bool first, .int .i64 0, .slice none 0 0] 103)) ⟨budget, false, 0, []⟩ :=
          ⟨⟨none, 0, heap_alloc_new w2 _, Own.nil⟩, ⟨by simp only; omega, by simp only; omega, by simp only; omega, by simp⟩, (Below.refl _ _).alloc (Nat.le_refl _) _, Nat.le_refl _⟩
        refine (hsearch_any w2 w2.heap.size A c ps A1 c1 cs first HX2 HY2 HV HW HS HT rl cl (ps.length + 1) [] ⟨budget, false, 0, []⟩ _ none 0 (by simp) (hide hS) (hide Own.nil) (hide (by intro i hi; simp at hi)) (by simp)).mono ?_
        rintro e w4 ⟨rfl, hS4, hg4⟩
        have HS4 : Hid (HtI w2 w2.heap.size A ps.length c A1 cs.length c1 first w4 (lastH ps cs budget first)) := hide hS4
        have HB4 := hide (HB2.out.trans (HS4.out.bel.mono HB2.out.size))
        clear hS hS4 hg4
        obtain ⟨bv, bc, hst, _⟩ := HS4.out.st
        have g1 : w4.cell? ⟨w2.heap.size, 1, none⟩ = some (.bool (lastH ps cs budget first).spent) := by simp [World.cell?, hst]
        have hz2 := HB2.out.size
        clear hst
        cases hsp : (lastH ps cs budget first).spent
        · rw [hsp] at g1
          have e := hide (E5.out hsp)
          clear hsp
          go_wp2_with fail
          go_ret2
          exact ⟨0, _, _, e.out, rfl, fun _ => ⟨_, w2, A, _, c, A1, _, c1, rfl, HS4.out, hz2⟩, HB4.out⟩
        · rw [hsp] at g1
          have e := hide (E4.out hsp)
          clear hsp
          go_wp2_with fail
          go_ret2
          exact ⟨5, _, _, e.out, rfl, fun q => by simp at q, HB4.out⟩
set_option maxRecDepth 100000 in
set_option maxHeartbeats 1000000 in
theorem implbestHeats (A A1 : Option Addr) (c c1 : Nat) (ps : List PourR) (cs : List CrucR) (budget : Int) (first : Bool) (w : World) (h : SlAt encPour 4 w A ps) (k : SlAt encCruc 4 w A1 cs) (hn : ps.length ≤ 1048576) (hm : cs.length ≤ 1048576) (hs : ∀ x ∈ ps, x.nm.size ≤ maxLen) (ht : ∀ x ∈ cs, x.nm.size ≤ maxLen) :
    Calls Try.prog 61 #[.slice A ps.length c, .slice A1 cs.length c1, .int .i64 budget, .bool first] w (SlResH encHeat 4 110 (fun ys code => bestH ps cs budget first = (ys, code)) w) := by
  have hrun := implheated A A1 c c1 ps cs budget first w h k hn hm hs ht
  have HR := hide hrun
  clear h k hs ht hrun
  go_enter Try.func61, Try.ntmps61
  go_wp2_with fail
  refine HR.out.mono ?_
  rintro e w1 ⟨code, s, p, hrun, rfl, hp, hb1⟩
  have HB := hide hb1
  have HRUN := hide hrun
  have HP := hide hp
  clear hb1 hrun hp HR
  by_cases h0 : code = 0
  · subst h0
    obtain ⟨b, w2, A2, n2, c2, A3, m3, c3, rfl, hS, hbz⟩ := HP.out rfl
    have hlen := hS.inv.2.2.2
    obtain ⟨bv, bc, hst, ho⟩ := hS.st
    have g5 : w1.cell? ⟨b, 5, none⟩ = some (.int .i64 s.count) := by simp [World.cell?, hst]
    have g6 : w1.cell? ⟨b, 6, none⟩ = some (.slice bv s.best.length bc) := by simp [World.cell?, hst]
    have HO := hide (ho.mono (B' := w.heap.size) (by omega))
    clear hst hS ho HP
    by_cases hc : s.count = 0
    · have e := hide (show bestH ps cs budget first = ([], 3) from by unfold bestH; rw [HRUN.out]; simp [hc])
      rw [hc] at g5
      clear hc
      go_wp2_with fail
      go_ret2
      exact slResH_nil e.out HB.out
    · have hc1 : (s.count == 0) = false := by simpa using hc
      have e := hide (show bestH ps cs budget first = (s.best, 0) from by unfold bestH; rw [HRUN.out]; simp [hc])
      clear hc
      go_wp2_with fail
      go_ret2
      exact ⟨bv, bc, s.best, 0, rfl, e.out, by omega, HO.out, HB.out⟩
  · have e := hide (show bestH ps cs budget first = ([], code) from by unfold bestH; rw [HRUN.out]; simp [h0])
    have h1 : (code == 0) = false := by simpa using h0
    clear HP h0
    go_wp2_with fail
    go_ret2
    exact slResH_nil e.out HB.out
set_option maxRecDepth 100000 in
theorem implFirstHeats (A A1 : Option Addr) (c c1 : Nat) (ps : List PourR) (cs : List CrucR) (budget : Int) (w : World) (h : SlAt encPour 4 w A ps) (k : SlAt encCruc 4 w A1 cs) (hn : ps.length ≤ 1048576) (hm : cs.length ≤ 1048576) (hs : ∀ x ∈ ps, x.nm.size ≤ maxLen) (ht : ∀ x ∈ cs, x.nm.size ≤ maxLen) :
    Calls Try.prog 32 #[.slice A ps.length c, .slice A1 cs.length c1, .int .i64 budget] w (SlResH encHeat 4 110 (fun ys code => bestH ps cs budget true = (ys, code)) w) := by
  have hrun := implbestHeats A A1 c c1 ps cs budget true w h k hn hm hs ht
  have HR := hide hrun
  clear h k hs ht hrun
  go_enter Try.func32, Try.ntmps32
  go_wp2_with fail
  refine HR.out.mono ?_
  rintro e w1 ⟨A2, c2, ys, code, rfl, hr, hl, ho, hb1⟩
  have HO := hide ho
  have HB := hide hb1
  have HE := hide hr
  clear ho hb1 hr HR
  go_wp2_with fail
  go_ret2
  exact ⟨A2, c2, ys, code, rfl, HE.out, hl, HO.out, HB.out⟩
set_option maxRecDepth 100000 in
theorem implBestHeats (A A1 : Option Addr) (c c1 : Nat) (ps : List PourR) (cs : List CrucR) (budget : Int) (w : World) (h : SlAt encPour 4 w A ps) (k : SlAt encCruc 4 w A1 cs) (hn : ps.length ≤ 1048576) (hm : cs.length ≤ 1048576) (hs : ∀ x ∈ ps, x.nm.size ≤ maxLen) (ht : ∀ x ∈ cs, x.nm.size ≤ maxLen) :
    Calls Try.prog 25 #[.slice A ps.length c, .slice A1 cs.length c1, .int .i64 budget] w (SlResH encHeat 4 110 (fun ys code => bestH ps cs budget false = (ys, code)) w) := by
  have hrun := implbestHeats A A1 c c1 ps cs budget false w h k hn hm hs ht
  have HR := hide hrun
  clear h k hs ht hrun
  go_enter Try.func25, Try.ntmps25
  go_wp2_with fail
  refine HR.out.mono ?_
  rintro e w1 ⟨A2, c2, ys, code, rfl, hr, hl, ho, hb1⟩
  have HO := hide ho
  have HB := hide hb1
  have HE := hide hr
  clear ho hb1 hr HR
  go_wp2_with fail
  go_ret2
  exact ⟨A2, c2, ys, code, rfl, HE.out, hl, HO.out, HB.out⟩
set_option maxRecDepth 100000 in
theorem implCountSchedules (A A1 : Option Addr) (c c1 : Nat) (ps : List PourR) (cs : List CrucR) (budget : Int) (w : World) (h : SlAt encPour 4 w A ps) (k : SlAt encCruc 4 w A1 cs) (hn : ps.length ≤ 1048576) (hm : cs.length ≤ 1048576) (hs : ∀ x ∈ ps, x.nm.size ≤ maxLen) (ht : ∀ x ∈ cs, x.nm.size ≤ maxLen) :
    Calls Try.prog 21 #[.slice A ps.length c, .slice A1 cs.length c1, .int .i64 budget] w fun e w' => e = .returned (two (cntH ps cs budget)) ∧ Below w.heap.size w w' := by
  have hrun := implheated A A1 c c1 ps cs budget false w h k hn hm hs ht
  have HR := hide hrun
  clear h k hs ht hrun
  go_enter Try.func21, Try.ntmps21
  go_wp2_with fail
  refine HR.out.mono ?_
  rintro e w1 ⟨code, s, p, hrun, rfl, hp, hb1⟩
  have HB := hide hb1
  have HRUN := hide hrun
  have HP := hide hp
  clear hb1 hrun hp HR
  by_cases h0 : code = 0
  · subst h0
    obtain ⟨b, w2, A2, n2, c2, A3, m3, c3, rfl, hS, hbz⟩ := HP.out rfl
    obtain ⟨bv, bc, hst, -⟩ := hS.st
    have g5 : w1.cell? ⟨b, 5, none⟩ = some (.int .i64 s.count) := by simp [World.cell?, hst]
    have e := hide (show cntH ps cs budget = (s.count, 0) from by unfold cntH; rw [HRUN.out]; simp)
    clear hst hS HP
    go_wp2_with fail
    go_ret2
    exact ⟨ret_twoH e.out, HB.out⟩
  · have e := hide (show cntH ps cs budget = (0, code) from by unfold cntH; rw [HRUN.out]; simp [h0])
    have h1 : (code == 0) = false := by simpa using h0
    clear HP h0
    go_wp2_with fail
    go_ret2
    exact ⟨ret_twoH e.out, HB.out⟩
end Go.Proofs.Ytklmbgefdopifaa
