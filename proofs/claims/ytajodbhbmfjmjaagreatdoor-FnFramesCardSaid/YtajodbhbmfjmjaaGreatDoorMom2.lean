/- Reactions, moments, stresses and bendings of beams: the program's side. -/
import Derived.Test.YtajodbhbmfjmjaaGreatDoorMom
namespace Go.Proofs.YtajodbhbmfjmjaaGreatDoor
open Go.RowKit

abbrev three (p : Int × Int × Int) : Value := .tuple #[.int .i64 p.1, .int .i64 p.2.1, .int .i64 p.2.2]
theorem ret_three {a b c : Int} {p : Int × Int × Int} (h : p = (a, b, c)) : Ending.returned (.tuple #[.int .i64 a, .int .i64 b, .int .i64 c]) = .returned (three p) := by subst h; rfl
/-- The load with the greatest moment so far, and this moment times the span. -/
def gmStep (span : Int) (ls : List LoadR) (p : Int × Int) (l : LoadR) : Int × Int := if p.2 < momB span l.at_ ls then (l.at_, momB span l.at_ ls) else p
def gmB (span : Int) (ls xs : List LoadR) : Int × Int := xs.foldl (gmStep span ls) (0, 0)
theorem gmB_take {span : Int} {ls : List LoadR} {k : Nat} (h : k < ls.length) : gmB span ls (ls.take (k + 1)) = gmStep span ls (gmB span ls (ls.take k)) ls[k] := by
  unfold gmB; rw [List.take_succ_eq_append_getElem h, List.foldl_append]; rfl
theorem gmB_bd {span wd dp wood : Int} {ls : List LoadR} (hg : GoodB span wd dp wood ls) (k : Nat) : (0 ≤ (gmB span ls (ls.take k)).1 ∧ (gmB span ls (ls.take k)).1 ≤ span) ∧ 0 ≤ (gmB span ls (ls.take k)).2 ∧ (gmB span ls (ls.take k)).2 ≤ 57600000000000 := by
  have s1 := hg.s1
  induction k with
  | zero => simp [gmB]; omega
  | succ k ih =>
    by_cases h : k < ls.length
    · rw [gmB_take h]
      have hl := hg.l ls[k] (List.getElem_mem h)
      have hm := momB_bd hg.s2 hl.1.1 hl.1.2 hg.l hg.n
      unfold gmStep
      split
      · exact ⟨hl.1, hm⟩
      · exact ih
    · rw [List.take_of_length_le (by omega)] at ih ⊢
      exact ih
theorem gmB_bd' {span wd dp wood : Int} {ls : List LoadR} (hg : GoodB span wd dp wood ls) : (0 ≤ (gmB span ls ls).1 ∧ (gmB span ls ls).1 ≤ span) ∧ 0 ≤ (gmB span ls ls).2 ∧ (gmB span ls ls).2 ≤ 57600000000000 := by
  have := gmB_bd hg ls.length
  rwa [List.take_length] at this
def minB (a b : Int) : Int := if b < a then b else a
/-- What a load adds to the bending. -/
def bTerm (span : Int) (l : LoadR) : Int := l.wt * minB l.at_ (span - l.at_) * (3 * span * span - 4 * minB l.at_ (span - l.at_) * minB l.at_ (span - l.at_))
theorem bParts {span a t : Int} (s1 : 1 ≤ span) (s2 : span ≤ 6000) (a0 : 0 ≤ a) (a1 : 2 * a ≤ span) (t0 : 1 ≤ t) (t1 : t ≤ 200000) :
    (0 ≤ t * a ∧ t * a ≤ 600000000) ∧ (0 ≤ 3 * span * span ∧ 3 * span * span ≤ 108000000) ∧ (0 ≤ 4 * a * a ∧ 4 * a * a ≤ 36000000) ∧ (0 ≤ 3 * span * span - 4 * a * a ∧ 3 * span * span - 4 * a * a ≤ 108000000) ∧
    (0 ≤ t * a * (3 * span * span - 4 * a * a) ∧ t * a * (3 * span * span - 4 * a * a) ≤ 64800000000000000) := by
  have p1 := mul_bd (a := t) (b := a) (A := 200000) (B := 3000) (by omega) t1 a0 (by omega)
  have p2 := mul_bd (a := 3 * span) (b := span) (A := 18000) (B := 6000) (by omega) (by omega) (by omega) s2
  have p3 := mul_bd (a := 4 * a) (b := a) (A := 12000) (B := 3000) (by omega) (by omega) a0 (by omega)
  have p4 : 4 * a * a ≤ span * span := by
    have := Int.mul_le_mul (a := 2 * a) (b := 2 * a) (c := span) (d := span) a1 a1 (by omega) (by omega)
    have e : 2 * a * (2 * a) = 4 * a * a := by rw [Int.mul_left_comm, ← Int.mul_assoc, ← Int.mul_assoc]; rfl
    omega
  have p5 : span * span ≤ 3 * span * span := by rw [Int.mul_assoc]; have := Int.mul_nonneg (show 0 ≤ span by omega) (show 0 ≤ span by omega); omega
  have p6 := mul_bd (a := t * a) (b := 3 * span * span - 4 * a * a) (A := 600000000) (B := 108000000) p1.1 (by omega) (by omega) (by omega)
  omega
theorem minB_bd {span a : Int} (a0 : 0 ≤ a) (a1 : a ≤ span) : 0 ≤ minB a (span - a) ∧ 2 * minB a (span - a) ≤ span := by unfold minB; split <;> omega
theorem bTerm_bd {span : Int} {l : LoadR} (s1 : 1 ≤ span) (s2 : span ≤ 6000) (h : (0 ≤ l.at_ ∧ l.at_ ≤ span) ∧ 1 ≤ l.wt ∧ l.wt ≤ 200000) : 0 ≤ bTerm span l ∧ bTerm span l ≤ 64800000000000000 := by
  obtain ⟨⟨a0, a1⟩, t0, t1⟩ := h
  have m := minB_bd a0 a1
  exact (bParts s1 s2 m.1 m.2 t0 t1).2.2.2.2
theorem depth_bd {wd dp wood : Int} (w1 : 20 ≤ wd) (w2 : wd ≤ 1000) (d1 : 20 ≤ dp) (d2 : dp ≤ 1000) (o1 : 1000 ≤ wood) (o2 : wood ≤ 20000) :
    (1 ≤ wd * dp ∧ wd * dp ≤ 1000000) ∧ (1 ≤ wd * dp * dp ∧ wd * dp * dp ≤ 1000000000) ∧ (1 ≤ wood * wd ∧ wood * wd ≤ 20000000) ∧ (1 ≤ wood * wd * dp ∧ wood * wd * dp ≤ 20000000000) ∧ (1 ≤ wood * wd * dp * dp ∧ wood * wd * dp * dp ≤ 20000000000000) ∧ (250 ≤ wood * wd * dp * dp * dp ∧ wood * wd * dp * dp * dp ≤ 20000000000000000) := by
  have lo : ∀ a b A B : Int, 0 ≤ A → A ≤ a → 0 ≤ B → B ≤ b → A * B ≤ a * b := fun a b A B hA ha hB hb => Int.mul_le_mul ha hb hB (by omega)
  have a1 := mul_bd (a := wd) (b := dp) (A := 1000) (B := 1000) (by omega) w2 (by omega) d2
  have a2 := lo wd dp 20 20 (by omega) w1 (by omega) d1
  have b1 := mul_bd (a := wd * dp) (b := dp) (A := 1000000) (B := 1000) (by omega) (by omega) (by omega) d2
  have b2 := lo (wd * dp) dp 400 20 (by omega) (by omega) (by omega) d1
  have c1 := mul_bd (a := wood) (b := wd) (A := 20000) (B := 1000) (by omega) o2 (by omega) w2
  have c2 := lo wood wd 1000 20 (by omega) o1 (by omega) w1
  have e1 := mul_bd (a := wood * wd) (b := dp) (A := 20000000) (B := 1000) (by omega) (by omega) (by omega) d2
  have e2 := lo (wood * wd) dp 20000 20 (by omega) (by omega) (by omega) d1
  have f1 := mul_bd (a := wood * wd * dp) (b := dp) (A := 20000000000) (B := 1000) (by omega) (by omega) (by omega) d2
  have f2 := lo (wood * wd * dp) dp 400000 20 (by omega) (by omega) (by omega) d1
  have g1 := mul_bd (a := wood * wd * dp * dp) (b := dp) (A := 20000000000000) (B := 1000) (by omega) (by omega) (by omega) d2
  have g2 := lo (wood * wd * dp * dp) dp 8000000 20 (by omega) (by omega) (by omega) d1
  omega
@[irreducible] def stressB (span wd dp : Int) (ls : List LoadR) : Int := Pl.nr (6000 * Pl.nr (gmB span ls ls).2 span) (wd * dp * dp)
@[irreducible] def bendB (span wd dp wood : Int) (ls : List LoadR) : Int := Pl.nr (sumB (bTerm span) ls) (wood * wd * dp * dp * dp / 250)
theorem nr_most {span m : Int} (s1 : 1 ≤ span) (h0 : 0 ≤ m) (h1 : m ≤ 57600000000000) : 0 ≤ Pl.nr m span ∧ Pl.nr m span ≤ 57600000000000 :=
  ⟨Pl.nr_nonneg h0 (by omega), Pl.nr_le (by omega) (by have := Int.mul_le_mul_of_nonneg_right (a := 1) (b := span) (c := 57600000000000) s1 (by omega); rw [Int.mul_assoc]; omega) (by omega)⟩

set_option maxRecDepth 100000 in
theorem implgreatestMoment (nm : ByteArray) (span wd dp wood : Int) (A : Option Addr) (c : Nat) (ls : List LoadR) (w : World) (h : SlAt encLoad 2 w A ls) (hg : GoodB span wd dp wood ls) :
    Calls Tryz.prog 24 #[.agg #[.string nm, .int .i64 span, .int .i64 wd, .int .i64 dp, .int .i64 wood, .slice A ls.length c]] w fun e w' => e = .returned (two ((gmB span ls ls).1, Pl.nr (gmB span ls ls).2 span)) ∧ Below w.heap.size w w' := by
  have HX := hide (h.below ((Below.refl _ _).alloc (Nat.le_refl _) (.cells #[.string nm, .int .i64 span, .int .i64 wd, .int .i64 dp, .int .i64 wood, .slice A ls.length c] 26)))
  have HG := hide hg
  have s1 := hg.s1
  have s2 := hg.s2
  have hn := hg.n
  clear h hg
  go_enter Tryz.func24, Tryz.ntmps24
  go_wp2_with fail
  go_loopw [12, 4, 5] (fun v a t wr => ∃ (k : Nat) (p q : Int), v = .int .i64 k ∧ a = .int .i64 p ∧ t = .int .i64 q ∧ k ≤ ls.length ∧ Hid (gmB span ls (ls.take k) = (p, q)) ∧ Below (w.heap.size + 1) (w.alloc (.cells #[.string nm, .int .i64 span, .int .i64 wd, .int .i64 dp, .int .i64 wood, .slice A ls.length c] 26)) wr) (fun v _ _ _ => ls.length - (intOf v).toNat)
  case atStart => exact ⟨0, 0, 0, rfl, rfl, rfl, by omega, rfl, Below.refl _ _⟩
  case round =>
    obtain ⟨k, p, q, rfl, rfl, rfl, hk, hs, hb⟩ := hrel
    have bs := gmB_bd HG.out k
    rw [hs.out] at bs
    obtain ⟨⟨p0, p1⟩, e0, e1⟩ := bs
    simp only at p0 p1 e0 e1
    have q0_0 := hb.cell (p := ⟨w.heap.size, 0, none⟩) (by simp)
    have q0_1 := hb.cell (p := ⟨w.heap.size, 1, none⟩) (by simp)
    have q0_2 := hb.cell (p := ⟨w.heap.size, 2, none⟩) (by simp)
    have q0_3 := hb.cell (p := ⟨w.heap.size, 3, none⟩) (by simp)
    have q0_4 := hb.cell (p := ⟨w.heap.size, 4, none⟩) (by simp)
    have q0_5 := hb.cell (p := ⟨w.heap.size, 5, none⟩) (by simp)
    simp at q0_0 q0_1 q0_2 q0_3 q0_4 q0_5
    have hz := hb.size
    simp at hz
    have hz_0 : w.heap.size < wr.heap.size := by omega
    have HB := hide hb
    by_cases hlt : k < ls.length
    · obtain ⟨b, off, rfl, hbl, hc⟩ := HX.out.below (by simpa using hb) k hlt
      have HXR := hide (HX.out.below (by simpa using hb))
      have c0 := hc 0 _ rfl
      have c1 := hc 1 _ rfl
      simp only [Nat.add_zero] at c0
      have hl := HG.out.l ls[k] (List.getElem_mem hlt)
      have ht := hide ((gmB_take (span := span) hlt).trans (by rw [hs.out]))
      clear hc hb
      generalize ls[k] = y at *
      obtain ⟨a, t⟩ := y
      simp only at c0 c1 hl
      obtain ⟨⟨a0, a1⟩, t0, t1⟩ := hl
      have hm := momB_bd s2 a0 a1 HG.out.l hn
      go_wp2_with fail
      refine (implspanMoment nm span wd dp wood _ c ls _ (HXR.out.below ((Below.refl _ _).alloc (Nat.le_refl _) _)) HG.out a a0 a1).mono ?_
      rintro e w1 ⟨rfl, hb1⟩
      have d0 := hb1.cell (p := ⟨wr.heap.size, 0, none⟩) (by simp)
      have d1 := hb1.cell (p := ⟨wr.heap.size, 1, none⟩) (by simp)
      simp at d0 d1
      have hz1 := hb1.size
      simp at hz1
      have HB1 := hide (HB.out.trans ((((Below.refl _ _).alloc (Nat.le_refl _) _).trans (hb1.mono (by simp)) : Below wr.heap.size wr w1).mono (by omega)))
      clear hb1
      have hst : Hid (gmStep span ls (p, q) ⟨a, t⟩ = if q < momB span a ls then (a, momB span a ls) else (p, q)) := hide rfl
      generalize momB span a ls = m at *
      by_cases hlt2 : q < m
      · have hst2 : Hid (gmB span ls (ls.take (k + 1)) = (a, m)) := hide (by rw [ht.out, hst.out, if_pos hlt2])
        go_wp2_with fail
        go_roundw
        case rel => exact ⟨k + 1, a, m, by go_num, rfl, rfl, by omega, hst2, HB1.out⟩
        case measure => simp [intOf]; omega
      · have hst2 : Hid (gmB span ls (ls.take (k + 1)) = (p, q)) := hide (by rw [ht.out, hst.out, if_neg hlt2])
        go_wp2_with fail
        go_roundw
        case rel => exact ⟨k + 1, p, q, by go_num, rfl, rfl, by omega, hst2, HB1.out⟩
        case measure => simp [intOf]; omega
    · obtain rfl : k = ls.length := by omega
      have e : Hid (gmB span ls ls = (p, q)) := hide (by rw [← hs.out, List.take_length])
      clear hs
      go_wp2_with fail
      refine (nearest_any q span _ (by omega) (by omega) (by omega) (by omega)).mono ?_
      rintro e5 w5 ⟨rfl, n5, rfl⟩
      go_wp2_with fail
      go_ret2
      exact ⟨ret_two (by rw [e.out]), below_drewN (Below.trans ((Below.refl _ _).alloc (Nat.le_refl _) _) (hb.mono (by omega))) _⟩
set_option maxRecDepth 100000 in
theorem implstressOf (nm : ByteArray) (span wd dp wood : Int) (A : Option Addr) (c : Nat) (ls : List LoadR) (w : World) (h : SlAt encLoad 2 w A ls) (hg : GoodB span wd dp wood ls) :
    Calls Tryz.prog 36 #[.agg #[.string nm, .int .i64 span, .int .i64 wd, .int .i64 dp, .int .i64 wood, .slice A ls.length c]] w fun e w' => e = .returned (.int .i64 (stressB span wd dp ls)) ∧ Below w.heap.size w w' := by
  have HX := hide (h.below ((Below.refl _ _).alloc (Nat.le_refl _) (.cells #[.string nm, .int .i64 span, .int .i64 wd, .int .i64 dp, .int .i64 wood, .slice A ls.length c] 26)))
  obtain ⟨⟨x1, x2⟩, ⟨x3, x4⟩, -⟩ := depth_bd hg.w1 hg.w2 hg.d1 hg.d2 hg.o1 hg.o2
  obtain ⟨-, x5, x6⟩ := gmB_bd' hg
  obtain ⟨x7, x8⟩ := nr_most hg.s1 x5 x6
  have e : Hid (stressB span wd dp ls = Pl.nr (6000 * Pl.nr (gmB span ls ls).2 span) (wd * dp * dp)) := by unfold Hid stressB; rfl
  clear h
  go_enter Tryz.func36, Tryz.ntmps36
  go_wp2_with fail
  refine (implgreatestMoment nm span wd dp wood _ c ls _ HX.out hg).mono ?_
  rintro e w1 ⟨rfl, hb1⟩
  obtain ⟨fcb1, ffb1, fzb1⟩ := bfacts hb1 (by first | exact Nat.le_refl _ | omega | (simp; omega) | simp); have fsb1 := hb1.size; try simp at fcb1 ffb1 fzb1 fsb1 hb1
  generalize (gmB span ls ls).2 = m at *
  go_wp2_with fail
  refine (nearest_any (6000 * Pl.nr m span) (wd * dp * dp) _ (by omega) (by omega) (by omega) (by omega)).mono ?_
  rintro e5 w5 ⟨rfl, n5, rfl⟩
  go_wp2_with fail
  go_ret
  exact ⟨ret_int e.out.symm, (by repeat (first | with_reducible exact Below.refl _ _ | with_reducible assumption | (with_reducible refine Below.drew ?_) | (with_reducible refine below_drewN ?_ _) | ((with_reducible refine Below.alloc ?_ ?_ _); rotate_left; (focus (first | omega | (simp; omega) | simp))) | ((with_reducible refine Below.setCell ?_ ?_ _); rotate_left; (focus (first | omega | (simp; omega) | simp))) | (refine Below.trans ?_ (Below.mono (by assumption) (by first | omega | (simp; omega) | simp)))))⟩
set_option maxRecDepth 100000 in
theorem implbendingOf (nm : ByteArray) (span wd dp wood : Int) (A : Option Addr) (c : Nat) (ls : List LoadR) (w : World) (h : SlAt encLoad 2 w A ls) (hg : GoodB span wd dp wood ls) :
    Calls Tryz.prog 37 #[.agg #[.string nm, .int .i64 span, .int .i64 wd, .int .i64 dp, .int .i64 wood, .slice A ls.length c]] w fun e w' => e = .returned (.int .i64 (bendB span wd dp wood ls)) ∧ Below w.heap.size w w' := by
  have HX := hide (h.below ((Below.refl _ _).alloc (Nat.le_refl _) (.cells #[.string nm, .int .i64 span, .int .i64 wd, .int .i64 dp, .int .i64 wood, .slice A ls.length c] 26)))
  have HG := hide hg
  have s1 := hg.s1
  have s2 := hg.s2
  have hn := hg.n
  obtain ⟨-, -, ⟨x1, x2⟩, ⟨x3, x4⟩, ⟨x5, x6⟩, ⟨x7, x8⟩⟩ := depth_bd hg.w1 hg.w2 hg.d1 hg.d2 hg.o1 hg.o2
  have e : Hid (bendB span wd dp wood ls = Pl.nr (sumB (bTerm span) ls) (wood * wd * dp * dp * dp / 250)) := by unfold Hid bendB; rfl
  clear h hg
  go_enter Tryz.func37, Tryz.ntmps37
  go_wp2_with fail
  go_loopw [10, 3] (fun v t wr => ∃ (k : Nat) (s : Int), v = .int .i64 k ∧ t = .int .i64 s ∧ k ≤ ls.length ∧ Hid (s = sumB (bTerm span) (ls.take k)) ∧ Below (w.heap.size + 1) (w.alloc (.cells #[.string nm, .int .i64 span, .int .i64 wd, .int .i64 dp, .int .i64 wood, .slice A ls.length c] 26)) wr) (fun v _ _ => ls.length - (intOf v).toNat)
  case atStart => exact ⟨0, 0, rfl, rfl, by omega, by simp [Hid, sumB], Below.refl _ _⟩
  case round =>
    obtain ⟨k, s, rfl, rfl, hk, hs, hb⟩ := hrel
    have bs := sumB_take_bd (f := bTerm span) k (fun l hl => bTerm_bd s1 s2 (HG.out.l l hl)) (by omega) hn
    rw [← hs.out] at bs
    have q0_0 := hb.cell (p := ⟨w.heap.size, 0, none⟩) (by simp)
    have q0_1 := hb.cell (p := ⟨w.heap.size, 1, none⟩) (by simp)
    have q0_2 := hb.cell (p := ⟨w.heap.size, 2, none⟩) (by simp)
    have q0_3 := hb.cell (p := ⟨w.heap.size, 3, none⟩) (by simp)
    have q0_4 := hb.cell (p := ⟨w.heap.size, 4, none⟩) (by simp)
    have q0_5 := hb.cell (p := ⟨w.heap.size, 5, none⟩) (by simp)
    simp at q0_0 q0_1 q0_2 q0_3 q0_4 q0_5
    have hz := hb.size
    simp at hz
    have hz_0 : w.heap.size < wr.heap.size := by omega
    have HB := hide hb
    by_cases hlt : k < ls.length
    · obtain ⟨b, off, rfl, hbl, hc⟩ := HX.out.below (by simpa using hb) k hlt
      have c0 := hc 0 _ rfl
      have c1 := hc 1 _ rfl
      simp only [Nat.add_zero] at c0
      have hl := HG.out.l ls[k] (List.getElem_mem hlt)
      have ht := hide (sumB_take (f := bTerm span) hlt)
      clear hc hb
      generalize ls[k] = y at *
      obtain ⟨a, t⟩ := y
      simp only at c0 c1 hl
      obtain ⟨⟨a0, a1⟩, t0, t1⟩ := hl
      by_cases hax : span - a < a
      · obtain ⟨⟨m1, m2⟩, ⟨m3, m4⟩, ⟨m5, m6⟩, ⟨m7, m8⟩, ⟨m9, m10⟩⟩ := bParts (a := span - a) s1 s2 (by omega) (by omega) t0 t1
        have hst : Hid (s + t * (span - a) * (3 * span * span - 4 * (span - a) * (span - a)) = sumB (bTerm span) (ls.take (k + 1))) := hide (by rw [ht.out, hs.out]; unfold bTerm minB; simp only [hax, if_true])
        go_wp2_with fail
        go_roundw
        case rel => exact ⟨k + 1, _, by go_num, rfl, by omega, hst, HB.out.alloc (by omega) _⟩
        case measure => simp [intOf]; omega
      · obtain ⟨⟨m1, m2⟩, ⟨m3, m4⟩, ⟨m5, m6⟩, ⟨m7, m8⟩, ⟨m9, m10⟩⟩ := bParts (a := a) s1 s2 (by omega) (by omega) t0 t1
        have hst : Hid (s + t * a * (3 * span * span - 4 * a * a) = sumB (bTerm span) (ls.take (k + 1))) := hide (by rw [ht.out, hs.out]; unfold bTerm minB; simp only [hax, if_false])
        go_wp2_with fail
        go_roundw
        case rel => exact ⟨k + 1, _, by go_num, rfl, by omega, hst, HB.out.alloc (by omega) _⟩
        case measure => simp [intOf]; omega
    · obtain rfl : k = ls.length := by omega
      have e2 : Hid (bendB span wd dp wood ls = Pl.nr s (wood * wd * dp * dp * dp / 250)) := hide (by rw [e.out, hs.out, List.take_length])
      go_wp2_with fail
      refine (nearest_any s (wood * wd * dp * dp * dp / 250) _ (by omega) (by omega) (by omega) (by omega)).mono ?_
      rintro e5 w5 ⟨rfl, n5, rfl⟩
      go_wp2_with fail
      go_ret
      exact ⟨ret_int e2.out.symm, below_drewN (Below.trans ((Below.refl _ _).alloc (Nat.le_refl _) _) (hb.mono (by omega))) _⟩
end Go.Proofs.YtajodbhbmfjmjaaGreatDoor
