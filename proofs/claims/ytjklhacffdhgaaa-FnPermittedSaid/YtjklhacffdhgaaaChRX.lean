/- The reference's answers about charges. -/
import Derived.Test.YtjklhacffdhgaaaChV
import Derived.Test.YtjklhacffdhgaaaChRI
namespace Go.Proofs.Ytjklhacffdhgaaa
open Go.RowKit

/-- What the searching function of the reference answers. -/
def RunX (d0 d1 d2 d3 d4 : Int) (xs : List IngotR) (budget : Int) (first : Bool) (w : World) (e : Ending) (w' : World) : Prop :=
  ∃ (code : Int) (s : Ch.S) (p : Value), runC d0 d1 d2 d3 d4 xs budget first = (code, s) ∧ e = .returned (.tuple #[p, .int .i64 code]) ∧ (∃ q, p = .pointer q) ∧ (code = 0 → ∃ (b : Nat) (w1 : World) (A : Option Addr) (n c dq : Nat) (cv : Option Addr) (cc : Nat) (ch : List Int) (m t o : Int) (bv : Option Addr) (bc : Nat), p = .pointer (some ⟨b, 0, none⟩) ∧ ChX w1 b A n c dq first budget w' cv cc ch m t o bv bc s ∧ w.heap.size ≤ b) ∧ Below w.heap.size w w'
set_option maxRecDepth 100000 in
set_option maxHeartbeats 2000000 in
theorem specl13Run (d0 d1 d2 d3 d4 : Int) (A : Option Addr) (c dq : Nat) (xs : List IngotR) (budget : Int) (first : Bool) (w : World) (h : SlAt encIngot 5 w A xs) (hn : xs.length ≤ 1048576) (hs : ∀ x ∈ xs, x.nm.size ≤ maxLen)
    (q0 : w.cell? ⟨dq, 0, none⟩ = some (.int .i64 d0)) (q1 : w.cell? ⟨dq, 1, none⟩ = some (.int .i64 d1)) (q2 : w.cell? ⟨dq, 2, none⟩ = some (.int .i64 d2)) (q3 : w.cell? ⟨dq, 3, none⟩ = some (.int .i64 d3)) (q4 : w.cell? ⟨dq, 4, none⟩ = some (.int .i64 d4)) :
    Calls Try.prog 75 #[.slice A xs.length c, .pointer (some ⟨dq, 0, none⟩), .int .i64 budget, .bool first] w (RunX d0 d1 d2 d3 d4 xs budget first w) := by
  have hdq : dq < w.heap.size := World.block_lt_of_cell? w _ q0
  have HX := hide h
  have HS := hide hs
  have HQ := hide (And.intro q0 (And.intro q1 (And.intro q2 (And.intro q3 q4))))
  clear h hs q0 q1 q2 q3 q4
  cases hr : rowsB vIngotR IngotR.nm 16 xs
  · have e := hide (runC_1 (d0 := d0) (d1 := d1) (d2 := d2) (d3 := d3) (d4 := d4) (budget := budget) (first := first) hr)
    go_enter Try.func75, Try.ntmps75
    go_wp2_with fail
    refine (specl13Ok A c xs _ HX.out hn HS.out).mono ?_
    rintro e w1 ⟨rfl, hb1⟩
    obtain ⟨fcb1, ffb1, fzb1⟩ := bfacts hb1 (by first | exact Nat.le_refl _ | omega | (simp; omega) | simp); have fsb1 := hb1.size; try simp at fcb1 ffb1 fzb1 fsb1 hb1
    go_wp2_with fail
    go_ret2
    exact ⟨1, _, _, e.out, rfl, ⟨_, rfl⟩, fun q => by simp at q, hb1⟩
  · go_enter Try.func75, Try.ntmps75
    go_wp2_with fail
    refine (specl13Ok A c xs _ HX.out hn HS.out).mono ?_
    rintro e w1 ⟨rfl, hb1⟩
    have HB1 := hide hb1
    have hl1 : dq < w1.heap.size := Nat.lt_of_lt_of_le hdq hb1.size
    have cl := fun (j : Nat) (v : Value) (hv : w.cell? ⟨dq, j, none⟩ = some v) => (hb1.cell (p := ⟨dq, j, none⟩) hdq).trans hv
    have HQ1 := hide (And.intro (cl 0 _ HQ.out.1) (And.intro (cl 1 _ HQ.out.2.1) (And.intro (cl 2 _ HQ.out.2.2.1) (And.intro (cl 3 _ HQ.out.2.2.2.1) (cl 4 _ HQ.out.2.2.2.2)))))
    clear hb1 cl
    have hdem := specl13Demand dq 0 d0 d1 d2 d3 d4 w1 HQ1.out.1 HQ1.out.2.1 HQ1.out.2.2.1 HQ1.out.2.2.2.1 HQ1.out.2.2.2.2
    have HDEM := hide hdem
    clear hdem
    cases hd : vDem d0 d1 d2 d3 d4
    · have e := hide (runC_2 (xs := xs) (budget := budget) (first := first) hd)
      go_wp2_with fail
      refine HDEM.out.mono ?_
      rintro e2 w2 ⟨rfl, hb2⟩
      have HB2 := hide (HB1.out.trans (hb2.mono HB1.out.size))
      clear hb2
      rw [hd]
      go_wp2_with fail
      go_ret2
      exact ⟨1, _, _, e.out, rfl, ⟨_, rfl⟩, fun q => by simp at q, HB2.out⟩
    · go_wp2_with fail
      refine HDEM.out.mono ?_
      rintro e2 w2 ⟨rfl, hb2⟩
      have HB2 := hide (HB1.out.trans (hb2.mono HB1.out.size))
      have hl2 : dq < w2.heap.size := Nat.lt_of_lt_of_le hl1 hb2.size
      have cl := fun (j : Nat) (v : Value) (hv : w1.cell? ⟨dq, j, none⟩ = some v) => (hb2.cell (p := ⟨dq, j, none⟩) hl1).trans hv
      have HQ2 := hide (And.intro (cl 0 _ HQ1.out.1) (And.intro (cl 1 _ HQ1.out.2.1) (And.intro (cl 2 _ HQ1.out.2.2.1) (And.intro (cl 3 _ HQ1.out.2.2.2.1) (cl 4 _ HQ1.out.2.2.2.2)))))
      clear hb2 cl
      rw [hd]
      cases hb : inB budget 1 20000
      · have e := hide (runC_3 (first := first) hr hd hb)
        go_wp2_with fail
        refine (specl00In_any _ _ _ _).mono ?_; rintro e2 w3 ⟨rfl, rfl⟩
        go_wp2_with fail
        go_ret2
        exact ⟨2, _, _, e.out, rfl, ⟨_, rfl⟩, fun q => by simp at q, HB2.out⟩
      · have E4 := hide (fun q => runC_4 (first := first) hr hd hb q)
        have E5 := hide (fun q => runC_5 (first := first) hr hd hb q)
        obtain ⟨rv, rl⟩ := rowsB_ok hr
        have HV := hide rv
        obtain ⟨u0, u1⟩ := inB_true hb
        have HDM := hide hd
        obtain ⟨⟨v0, v1⟩, -⟩ := vDem_true hd
        have HX2 := hide (HX.out.below HB2.out)
        clear rv hr hd
        go_wp2_with fail
        refine (specl00In_any _ _ _ _).mono ?_; rintro e2 w3 ⟨rfl, rfl⟩
        go_wp2_with fail
        clear hb
        have hnd : Ch.nodes budget ⟨budget, false, 0, [], 0⟩ = 0 := by simp [Ch.nodes]
        have hS : ChX w2 w2.heap.size A xs.length c dq first budget (w2.alloc (.cells #[.slice A xs.length c, .pointer (some ⟨dq, 0, none⟩), .slice none 0 0, .int .i64 0, .int .i64 0, .int .i64 0, .bool first, .slice none 0 0, .int .i64 0, .int .i64 0, .int .i64 0, .int .i64 budget] 124)) none 0 [] 0 0 0 none 0 ⟨budget, false, 0, [], 0⟩ :=
          ⟨by rw [hnd]; exact heap_alloc_new w2 _, Own.nil, Own.nil, fun g e => by simp [Value.ownBlock] at e, ⟨by simp only; omega, by simp only; omega, by simp only; omega⟩, ⟨by simp only; omega, u1⟩, (Below.refl _ _).alloc (Nat.le_refl _) _, Nat.le_refl _⟩
        refine (visit_any w2 w2.heap.size A c dq xs d0 d1 d2 d3 d4 first budget HX2 HV rl HDM.out hl2 HQ2.out.1 HQ2.out.2.1 HQ2.out.2.2.1 HQ2.out.2.2.2.1 HQ2.out.2.2.2.2 (xs.length + 1) [] 0 ⟨budget, false, 0, [], 0⟩ _ none 0 none 0 (by omega) hS (hide (by intro i hi; simp at hi)) (by simp) (by omega) (by show (0 : Int) ≤ d1; omega) (hide (by simp [Ch.ended]))).mono ?_
        rintro e w4 ⟨s4, cv4, cc4, bv4, bc4, rfl, hs4, hS4, -⟩
        have hs4' : lastC d0 d1 d2 d3 d4 xs budget first = s4 := hs4
        subst hs4'
        have HS4 := hide hS4
        have HB4 := hide (HB2.out.trans (HS4.out.bel.mono HB2.out.size))
        have hz2 := HB2.out.size
        have hst := HS4.out.st
        obtain ⟨i0, -⟩ := HS4.out.inv
        clear hS hs4 hS4
        cases hsp : (lastC d0 d1 d2 d3 d4 xs budget first).spent
        · have g10 : w4.cell? ⟨w2.heap.size, 10, none⟩ = some (.int .i64 (budget - (lastC d0 d1 d2 d3 d4 xs budget first).left)) := by simp [World.cell?, hst, Ch.nodes, hsp]
          have hgt : decide (budget < budget - (lastC d0 d1 d2 d3 d4 xs budget first).left) = false := by simp; omega
          have e := hide (E5.out hsp)
          clear hst hsp
          go_wp2_with fail
          go_ret2
          exact ⟨0, _, _, e.out, rfl, ⟨_, rfl⟩, fun _ => ⟨_, w2, A, _, c, dq, cv4, cc4, _, _, _, _, bv4, bc4, rfl, HS4.out, hz2⟩, HB4.out⟩
        · have g10 : w4.cell? ⟨w2.heap.size, 10, none⟩ = some (.int .i64 (budget + 1)) := by simp [World.cell?, hst, Ch.nodes, hsp]
          have hgt : decide (budget < budget + 1) = true := by simp; omega
          have e := hide (E4.out hsp)
          clear hst hsp
          go_wp2_with fail
          go_ret2
          exact ⟨5, _, _, e.out, rfl, ⟨_, rfl⟩, fun q => by simp at q, HB4.out⟩
set_option maxRecDepth 100000 in
theorem specl13Found {d0 d1 d2 d3 d4 : Int} {xs : List IngotR} {budget : Int} {first : Bool} {w0 : World} (w : World) {code : Int} {s : Ch.S} {p : Value} (hrun : runC d0 d1 d2 d3 d4 xs budget first = (code, s))
    (hp : code = 0 → ∃ (b : Nat) (w1 : World) (A : Option Addr) (n c dq : Nat) (cv : Option Addr) (cc : Nat) (ch : List Int) (m t o : Int) (bv : Option Addr) (bc : Nat), p = .pointer (some ⟨b, 0, none⟩) ∧ ChX w1 b A n c dq first budget w cv cc ch m t o bv bc s ∧ w0.heap.size ≤ b) (hpn : ∃ q, p = .pointer q) :
    Calls Try.prog 79 #[p, .int .i64 code] w (SlResC encI 1 2 (fun ys code => bestOf d0 d1 d2 d3 d4 xs budget first = (ys, code)) w) := by
  have HRUN := hide hrun
  have HP := hide hp
  clear hp hrun
  by_cases h0 : code = 0
  · subst h0
    obtain ⟨b, w2, A2, n2, c2, dq, cv, cc, ch, m, t, o, bv, bc, rfl, hS, hbz⟩ := HP.out rfl
    have hlen := runC_best (d0 := d0) (d1 := d1) (d2 := d2) (d3 := d3) (d4 := d4) (xs := xs) (budget := budget) (first := first) (by rw [HRUN.out])
    rw [HRUN.out] at hlen
    simp only at hlen
    have hst := hS.st
    have g9 : w.cell? ⟨b, 9, none⟩ = some (.int .i64 s.count) := by simp [World.cell?, hst]
    have g7 : w.cell? ⟨b, 7, none⟩ = some (.slice bv s.best.length bc) := by simp [World.cell?, hst]
    have HO := hide hS.ob
    clear hst hS HP hpn
    by_cases hc : s.count = 0
    · have e := hide (show bestOf d0 d1 d2 d3 d4 xs budget first = ([], 3) from by unfold bestOf; rw [HRUN.out]; simp [hc])
      rw [hc] at g9
      clear hc
      go_enter Try.func79, Try.ntmps79
      go_wp2_with fail
      go_ret2
      exact slResC_nil e.out (Below.refl _ _)
    · have hc1 : (s.count == 0) = false := by simpa using hc
      have e := hide (show bestOf d0 d1 d2 d3 d4 xs budget first = (s.best, 0) from by unfold bestOf; rw [HRUN.out]; simp [hc])
      clear hc
      go_enter Try.func79, Try.ntmps79
      go_wp2_with fail
      refine (specl00Own (b + 1) bv bc s.best _ HO.out (by omega)).mono ?_
      rintro e2 w3 ⟨A3, c3, rfl, ho3, hb3⟩
      have HO3 := hide ho3
      have HB3 := hide hb3
      clear ho3 hb3
      go_wp2_with fail
      go_ret2
      exact ⟨A3, c3, s.best, 0, rfl, e.out, by omega, HO3.out, HB3.out⟩
  · obtain ⟨q, rfl⟩ := hpn
    have e := hide (show bestOf d0 d1 d2 d3 d4 xs budget first = ([], code) from by unfold bestOf; rw [HRUN.out]; simp [h0])
    have h1 : (code == 0) = false := by simpa using h0
    clear HP h0
    go_enter Try.func79, Try.ntmps79
    go_wp2_with fail
    go_ret2
    exact slResC_nil e.out (Below.refl _ _)
set_option maxRecDepth 100000 in
theorem specFirstCharge (d0 d1 d2 d3 d4 : Int) (A : Option Addr) (c : Nat) (xs : List IngotR) (budget : Int) (w : World) (h : SlAt encIngot 5 w A xs) (hn : xs.length ≤ 1048576) (hs : ∀ x ∈ xs, x.nm.size ≤ maxLen) :
    Calls Try.prog 20 #[.slice A xs.length c, .agg #[.int .i64 d0, .int .i64 d1, .int .i64 d2, .int .i64 d3, .int .i64 d4], .int .i64 budget] w (SlResC encI 1 2 (fun ys code => bestOf d0 d1 d2 d3 d4 xs budget true = (ys, code)) w) := by
  have HX := hide (h.below ((Below.refl _ _).alloc (Nat.le_refl _) (.cells #[.int .i64 d0, .int .i64 d1, .int .i64 d2, .int .i64 d3, .int .i64 d4] 30)))
  have HS := hide hs
  clear h hs
  go_enter Try.func20, Try.ntmps20
  go_wp2_with fail
  refine (specl13Run d0 d1 d2 d3 d4 A c _ xs budget true _ HX.out hn HS.out (by simp) (by simp) (by simp) (by simp) (by simp)).mono ?_
  rintro e w1 ⟨code, s, p, hrun, rfl, hpn, hp, hb1⟩
  have HB := hide (show Below w.heap.size w w1 from ((Below.refl _ _).alloc (Nat.le_refl _) _).trans (hb1.mono (by simp)))
  have hf := specl13Found (w0 := w.alloc (.cells #[.int .i64 d0, .int .i64 d1, .int .i64 d2, .int .i64 d3, .int .i64 d4] 30)) w1 hrun hp hpn
  have HF := hide hf
  clear hb1 hrun hp hpn hf HX HS
  go_wp2_with fail
  refine HF.out.mono ?_
  rintro e w2 ⟨A1, c1, ys, code2, rfl, hr, hl, ho, hb2⟩
  have HO := hide (ho.mono (B' := w.heap.size) HB.out.size)
  have HB2 := hide (HB.out.trans (hb2.mono HB.out.size))
  have HR := hide hr
  clear ho hb2 hr
  go_wp2_with fail
  go_ret2
  exact ⟨A1, c1, ys, code2, rfl, HR.out, hl, HO.out, HB2.out⟩
set_option maxRecDepth 100000 in
theorem specLeastCharge (d0 d1 d2 d3 d4 : Int) (A : Option Addr) (c : Nat) (xs : List IngotR) (budget : Int) (w : World) (h : SlAt encIngot 5 w A xs) (hn : xs.length ≤ 1048576) (hs : ∀ x ∈ xs, x.nm.size ≤ maxLen) :
    Calls Try.prog 26 #[.slice A xs.length c, .agg #[.int .i64 d0, .int .i64 d1, .int .i64 d2, .int .i64 d3, .int .i64 d4], .int .i64 budget] w (SlResC encI 1 2 (fun ys code => bestOf d0 d1 d2 d3 d4 xs budget false = (ys, code)) w) := by
  have HX := hide (h.below ((Below.refl _ _).alloc (Nat.le_refl _) (.cells #[.int .i64 d0, .int .i64 d1, .int .i64 d2, .int .i64 d3, .int .i64 d4] 30)))
  have HS := hide hs
  clear h hs
  go_enter Try.func26, Try.ntmps26
  go_wp2_with fail
  refine (specl13Run d0 d1 d2 d3 d4 A c _ xs budget false _ HX.out hn HS.out (by simp) (by simp) (by simp) (by simp) (by simp)).mono ?_
  rintro e w1 ⟨code, s, p, hrun, rfl, hpn, hp, hb1⟩
  have HB := hide (show Below w.heap.size w w1 from ((Below.refl _ _).alloc (Nat.le_refl _) _).trans (hb1.mono (by simp)))
  have hf := specl13Found (w0 := w.alloc (.cells #[.int .i64 d0, .int .i64 d1, .int .i64 d2, .int .i64 d3, .int .i64 d4] 30)) w1 hrun hp hpn
  have HF := hide hf
  clear hb1 hrun hp hpn hf HX HS
  go_wp2_with fail
  refine HF.out.mono ?_
  rintro e w2 ⟨A1, c1, ys, code2, rfl, hr, hl, ho, hb2⟩
  have HO := hide (ho.mono (B' := w.heap.size) HB.out.size)
  have HB2 := hide (HB.out.trans (hb2.mono HB.out.size))
  have HR := hide hr
  clear ho hb2 hr
  go_wp2_with fail
  go_ret2
  exact ⟨A1, c1, ys, code2, rfl, HR.out, hl, HO.out, HB2.out⟩
set_option maxRecDepth 100000 in
theorem specCountCharges (d0 d1 d2 d3 d4 : Int) (A : Option Addr) (c : Nat) (xs : List IngotR) (budget : Int) (w : World) (h : SlAt encIngot 5 w A xs) (hn : xs.length ≤ 1048576) (hs : ∀ x ∈ xs, x.nm.size ≤ maxLen) :
    Calls Try.prog 15 #[.slice A xs.length c, .agg #[.int .i64 d0, .int .i64 d1, .int .i64 d2, .int .i64 d3, .int .i64 d4], .int .i64 budget] w fun e w' => e = .returned (two (cntOf d0 d1 d2 d3 d4 xs budget)) ∧ Below w.heap.size w w' := by
  have HX := hide (h.below ((Below.refl _ _).alloc (Nat.le_refl _) (.cells #[.int .i64 d0, .int .i64 d1, .int .i64 d2, .int .i64 d3, .int .i64 d4] 30)))
  have HS := hide hs
  clear h hs
  go_enter Try.func15, Try.ntmps15
  go_wp2_with fail
  refine (specl13Run d0 d1 d2 d3 d4 A c _ xs budget false _ HX.out hn HS.out (by simp) (by simp) (by simp) (by simp) (by simp)).mono ?_
  rintro e w1 ⟨code, s, p, hrun, rfl, -, hp, hb1⟩
  have HB := hide (show Below w.heap.size w w1 from ((Below.refl _ _).alloc (Nat.le_refl _) _).trans (hb1.mono (by simp)))
  have HRUN := hide hrun
  have HP := hide hp
  clear hb1 hrun hp HX HS
  by_cases h0 : code = 0
  · subst h0
    obtain ⟨b, w2, A2, n2, c2, dq, cv, cc, ch, m, t, o, bv, bc, rfl, hS, hbz⟩ := HP.out rfl
    have hst := hS.st
    have g9 : w1.cell? ⟨b, 9, none⟩ = some (.int .i64 s.count) := by simp [World.cell?, hst]
    have e := hide (show cntOf d0 d1 d2 d3 d4 xs budget = (s.count, 0) from by unfold cntOf; rw [HRUN.out]; simp)
    clear hst hS HP
    go_wp2_with fail
    go_ret2
    exact ⟨ret_twoC e.out, HB.out⟩
  · have e := hide (show cntOf d0 d1 d2 d3 d4 xs budget = (0, code) from by unfold cntOf; rw [HRUN.out]; simp [h0])
    have h1 : (code == 0) = false := by simpa using h0
    clear HP h0
    go_wp2_with fail
    go_ret2
    exact ⟨ret_twoC e.out, HB.out⟩
end Go.Proofs.Ytjklhacffdhgaaa
