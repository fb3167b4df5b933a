/- Two beams compared: the law's walk. -/
import Derived.Test.YtibdclihjipaiaaSame
namespace Go.Proofs.Ytibdclihjipaiaa
open Go.RowKit
set_option maxHeartbeats 4000000 in
set_option maxRecDepth 100000 in
theorem lawSameBeam (nm nm' : ByteArray) (a b c d a' b' c' d' : Int) (A A' : Option Addr) (cp cp' : Nat) (ls ls' : List LoadR) (w : World) (h : SlAt encLoad 2 w A ls) (h' : SlAt encLoad 2 w A' ls') (hn : ls.length ≤ 9223372036854775807) (hn' : ls'.length ≤ 9223372036854775807) (hs : nm.size ≤ maxLen) (hs' : nm'.size ≤ maxLen) :
    Calls Try.prog 3 #[.agg #[.string nm, .int .i64 a, .int .i64 b, .int .i64 c, .int .i64 d, .slice A ls.length cp], .agg #[.string nm', .int .i64 a', .int .i64 b', .int .i64 c', .int .i64 d', .slice A' ls'.length cp']] w fun e w' => e = .returned (.bool true) ∧ Below w.heap.size w w' := by
  have HX := hide (h.below (((Below.refl _ _).alloc (Nat.le_refl _) (.cells #[.string nm, .int .i64 a, .int .i64 b, .int .i64 c, .int .i64 d, .slice A ls.length cp] 24)).alloc (by simp) (.cells #[.string nm', .int .i64 a', .int .i64 b', .int .i64 c', .int .i64 d', .slice A' ls'.length cp'] 24)))
  have HY := hide (h'.below (((Below.refl _ _).alloc (Nat.le_refl _) (.cells #[.string nm, .int .i64 a, .int .i64 b, .int .i64 c, .int .i64 d, .slice A ls.length cp] 24)).alloc (by simp) (.cells #[.string nm', .int .i64 a', .int .i64 b', .int .i64 c', .int .i64 d', .slice A' ls'.length cp'] 24)))
  clear h h'
  go_enter Try.func3, Try.ntmps3
  go_wp2_with fail
  refine (lawsszBeam_any nm a b c d A ls.length cp _ _ hs hn (by omega) (by omega)).mono ?_
  rintro e w1 ⟨r, rfl, r0, r1, hr, hb1⟩
  have HX1 := hide (HX.out.below hb1)
  have HY1 := hide (HY.out.below hb1)
  obtain ⟨fcb1, ffb1, fzb1⟩ := bfacts hb1 (by first | exact Nat.le_refl _ | omega | (simp; omega) | simp); have fsb1 := hb1.size; try simp at fcb1 ffb1 fzb1 fsb1 hb1
  by_cases hq : 0 ≤ r
  · have hl : ls.length ≤ 1048576 := by have := hr hq; omega
    clear hr hn
    go_wp2_with fail
    refine (lawsszBeam_any nm' a' b' c' d' A' ls'.length cp' _ _ hs' hn' (by omega) (by omega)).mono ?_
    rintro e w2 ⟨r', rfl, r0', r1', hr', hb2⟩
    have HX2 := hide (HX1.out.below hb2)
    have HY2 := hide (HY1.out.below hb2)
    have hbn := Below.trans hb1 (hb2.mono fsb1)
    clear hb1 hb2 fcb1 ffb1 fzb1
    have hb2 := hbn
    clear hbn
    obtain ⟨fcb2, ffb2, fzb2⟩ := bfacts hb2 (by first | exact Nat.le_refl _ | omega | (simp; omega) | simp); have fsb2 := hb2.size; try simp at fcb2 ffb2 fzb2 fsb2 hb2
    by_cases hq' : 0 ≤ r'
    · have hl' : ls'.length ≤ 1048576 := by have := hr' hq'; omega
      clear hr' hn'
      go_wp2_with fail
      have p0 := fcb2 w.heap.size 0 (by omega)
      have p1 := fcb2 w.heap.size 1 (by omega)
      have p2 := fcb2 w.heap.size 2 (by omega)
      have p3 := fcb2 w.heap.size 3 (by omega)
      have p4 := fcb2 w.heap.size 4 (by omega)
      have p5 := fcb2 w.heap.size 5 (by omega)
      have q0 := fcb2 (w.heap.size + 1) 0 (by omega)
      have q1 := fcb2 (w.heap.size + 1) 1 (by omega)
      have q2 := fcb2 (w.heap.size + 1) 2 (by omega)
      have q3 := fcb2 (w.heap.size + 1) 3 (by omega)
      have q4 := fcb2 (w.heap.size + 1) 4 (by omega)
      have q5 := fcb2 (w.heap.size + 1) 5 (by omega)
      simp at p0 p1 p2 p3 p4 p5 q0 q1 q2 q3 q4 q5
      have z2 : w.heap.size + 1 < w2.heap.size := by omega
      have P0 : ∀ w', Below w2.heap.size w2 w' → w'.cell? ⟨w.heap.size, 0, none⟩ = some (.string nm) := fun w' h => (h.cell (p := ⟨w.heap.size, 0, none⟩) (by first | omega | (simp; omega))).trans p0
      have P1 : ∀ w', Below w2.heap.size w2 w' → w'.cell? ⟨w.heap.size, 1, none⟩ = some (.int .i64 a) := fun w' h => (h.cell (p := ⟨w.heap.size, 1, none⟩) (by first | omega | (simp; omega))).trans p1
      have P2 : ∀ w', Below w2.heap.size w2 w' → w'.cell? ⟨w.heap.size, 2, none⟩ = some (.int .i64 b) := fun w' h => (h.cell (p := ⟨w.heap.size, 2, none⟩) (by first | omega | (simp; omega))).trans p2
      have P3 : ∀ w', Below w2.heap.size w2 w' → w'.cell? ⟨w.heap.size, 3, none⟩ = some (.int .i64 c) := fun w' h => (h.cell (p := ⟨w.heap.size, 3, none⟩) (by first | omega | (simp; omega))).trans p3
      have P4 : ∀ w', Below w2.heap.size w2 w' → w'.cell? ⟨w.heap.size, 4, none⟩ = some (.int .i64 d) := fun w' h => (h.cell (p := ⟨w.heap.size, 4, none⟩) (by first | omega | (simp; omega))).trans p4
      have P5 : ∀ w', Below w2.heap.size w2 w' → w'.cell? ⟨w.heap.size, 5, none⟩ = some (.slice A ls.length cp) := fun w' h => (h.cell (p := ⟨w.heap.size, 5, none⟩) (by first | omega | (simp; omega))).trans p5
      have Q0 : ∀ w', Below w2.heap.size w2 w' → w'.cell? ⟨w.heap.size + 1, 0, none⟩ = some (.string nm') := fun w' h => (h.cell (p := ⟨w.heap.size + 1, 0, none⟩) (by first | omega | (simp; omega))).trans q0
      have Q1 : ∀ w', Below w2.heap.size w2 w' → w'.cell? ⟨w.heap.size + 1, 1, none⟩ = some (.int .i64 a') := fun w' h => (h.cell (p := ⟨w.heap.size + 1, 1, none⟩) (by first | omega | (simp; omega))).trans q1
      have Q2 : ∀ w', Below w2.heap.size w2 w' → w'.cell? ⟨w.heap.size + 1, 2, none⟩ = some (.int .i64 b') := fun w' h => (h.cell (p := ⟨w.heap.size + 1, 2, none⟩) (by first | omega | (simp; omega))).trans q2
      have Q3 : ∀ w', Below w2.heap.size w2 w' → w'.cell? ⟨w.heap.size + 1, 3, none⟩ = some (.int .i64 c') := fun w' h => (h.cell (p := ⟨w.heap.size + 1, 3, none⟩) (by first | omega | (simp; omega))).trans q3
      have Q4 : ∀ w', Below w2.heap.size w2 w' → w'.cell? ⟨w.heap.size + 1, 4, none⟩ = some (.int .i64 d') := fun w' h => (h.cell (p := ⟨w.heap.size + 1, 4, none⟩) (by first | omega | (simp; omega))).trans q4
      have Q5 : ∀ w', Below w2.heap.size w2 w' → w'.cell? ⟨w.heap.size + 1, 5, none⟩ = some (.slice A' ls'.length cp') := fun w' h => (h.cell (p := ⟨w.heap.size + 1, 5, none⟩) (by first | omega | (simp; omega))).trans q5
      have HBW := hide (show Below w.heap.size w w2 from (by repeat (first | with_reducible exact Below.refl _ _ | with_reducible assumption | (with_reducible refine Below.drew ?_) | (with_reducible refine below_drewN ?_ _) | ((with_reducible refine Below.alloc ?_ ?_ _); rotate_left; (focus (first | omega | (simp; omega) | simp))) | ((with_reducible refine Below.setCell ?_ ?_ _); rotate_left; (focus (first | omega | (simp; omega) | simp))) | (refine Below.trans ?_ (Below.mono (by assumption) (by first | omega | (simp; omega) | simp))))))
      clear hb2 fcb2 ffb2 fzb2 p0 p1 p2 p3 p4 p5 q0 q1 q2 q3 q4 q5
      go_region_held3 (fun w' => Below w2.heap.size w2 w')
        ((first | exact (Below.refl _ _).drew | exact Below.trans (by assumption) (hbK.mono (Below.size (by assumption : Below w2.heap.size w2 _)))))
        (first
          | (go_at_call 17; refine (lawstoBeam _ _ _ _ _ _ _ _ _ ?_ ?_).mono ?_; (focus (first | exact HX2.out.below (by assumption) | exact HY2.out.below (by assumption))); (focus (first | exact hl | exact hl')); rintro e wK ⟨b6, rfl, hS6, hle6, hlt6, hbK⟩)
          | (go_at_call 16; refine (specSameBeam nm nm' a b c d a' b' c' d' _ _ _ _ ls ls' _ ?_ ?_ hl hl').mono ?_; (focus (first | assumption | exact SlAt.below (by assumption) hbK)); (focus (first | assumption | exact SlAt.below (by assumption) hbK)); rintro e wK ⟨rfl, hbK⟩))
      have hbE : Below w2.heap.size w2 wK := by first | assumption | (go_split_ands; assumption)
      have zE := hbE.size
      have HX3 := hide (HX2.out.below hbE)
      have HY3 := hide (HY2.out.below hbE)
      have p0 := P0 _ hbE
      have p1 := P1 _ hbE
      have p2 := P2 _ hbE
      have p3 := P3 _ hbE
      have p4 := P4 _ hbE
      have p5 := P5 _ hbE
      have q0 := Q0 _ hbE
      have q1 := Q1 _ hbE
      have q2 := Q2 _ hbE
      have q3 := Q3 _ hbE
      have q4 := Q4 _ hbE
      have q5 := Q5 _ hbE
      have HE := hide hbE
      clear hbE
      go_wp2_with fail
      refine (lawstoBeam nm a b c d A cp ls _ HX3.out hl).mono ?_
      rintro e w4 ⟨b4, rfl, hS4, hle4, hlt4, hb4⟩
      have zF := hb4.size
      have z4 : w.heap.size + 1 < w4.heap.size := by omega
      have z4' : w.heap.size < w4.heap.size := by omega
      have hE4 := Below.trans HE.out (hb4.mono (by omega))
      have HX4 := hide (HX2.out.below hE4)
      have HY4 := hide (HY2.out.below hE4)
      have HS4 := hide hS4
      have p0 := P0 _ hE4
      have p1 := P1 _ hE4
      have p2 := P2 _ hE4
      have p3 := P3 _ hE4
      have p4 := P4 _ hE4
      have p5 := P5 _ hE4
      have q0 := Q0 _ hE4
      have q1 := Q1 _ hE4
      have q2 := Q2 _ hE4
      have q3 := Q3 _ hE4
      have q4 := Q4 _ hE4
      have q5 := Q5 _ hE4
      have HE4 := hide hE4
      clear hE4 hb4 hS4 hle4 hlt4 HX3 HY3
      go_wp2_with fail
      refine (lawstoBeam nm' a' b' c' d' A' cp' ls' _ (HY4.out.below ((Below.refl _ _).alloc (Nat.le_refl _) _)) hl').mono ?_
      rintro e w5 ⟨b5, rfl, hS5, hle5, hlt5, hb5⟩
      have u0 := hb5.cell (p := ⟨w4.heap.size, 0, none⟩) (by simp)
      have u1 := hb5.cell (p := ⟨w4.heap.size, 1, none⟩) (by simp)
      have u2 := hb5.cell (p := ⟨w4.heap.size, 2, none⟩) (by simp)
      have u3 := hb5.cell (p := ⟨w4.heap.size, 3, none⟩) (by simp)
      have u4 := hb5.cell (p := ⟨w4.heap.size, 4, none⟩) (by simp)
      have u5 := hb5.cell (p := ⟨w4.heap.size, 5, none⟩) (by simp)
      simp at u0 u1 u2 u3 u4 u5
      have y5 := hb5.size
      simp at y5
      have z5 : w.heap.size + 1 < w5.heap.size := by omega
      have z5' : w.heap.size < w5.heap.size := by omega
      have z6 : w4.heap.size < w5.heap.size := by omega
      have hE5 := Below.trans (HE4.out.alloc (by omega) _) (hb5.mono (by simp; omega))
      have HX5 := hide (HX2.out.below hE5)
      have HY5 := hide (HY2.out.below hE5)
      have HS45 := hide ((HS4.out.below ((Below.refl _ _).alloc (Nat.le_refl _) _)).below hb5)
      have HS5 := hide hS5
      have p0 := P0 _ hE5
      have p1 := P1 _ hE5
      have p2 := P2 _ hE5
      have p3 := P3 _ hE5
      have p4 := P4 _ hE5
      have p5 := P5 _ hE5
      have q0 := Q0 _ hE5
      have q1 := Q1 _ hE5
      have q2 := Q2 _ hE5
      have q3 := Q3 _ hE5
      have q4 := Q4 _ hE5
      have q5 := Q5 _ hE5
      have HE5 := hide hE5
      clear hE5 hb5 hS5 hle5 hlt5 HX4 HY4
      go_wp2_with fail
      refine (implSameBeam nm nm' a b c d a' b' c' d' _ _ _ _ ls ls' _ (HS45.out.below ((Below.refl _ _).alloc (Nat.le_refl _) _)) (HS5.out.below ((Below.refl _ _).alloc (Nat.le_refl _) _)) hl hl').mono ?_
      rintro e w6 ⟨rfl, hb6⟩
      have r0' := ((hb6.cell (p := ⟨w4.heap.size, 0, none⟩) (by simp; omega)).trans ((((Below.refl w5.heap.size w5).alloc (Nat.le_refl _) _).cell (p := ⟨w4.heap.size, 0, none⟩) z6).trans u0))
      have r1' := ((hb6.cell (p := ⟨w4.heap.size, 1, none⟩) (by simp; omega)).trans ((((Below.refl w5.heap.size w5).alloc (Nat.le_refl _) _).cell (p := ⟨w4.heap.size, 1, none⟩) z6).trans u1))
      have r2' := ((hb6.cell (p := ⟨w4.heap.size, 2, none⟩) (by simp; omega)).trans ((((Below.refl w5.heap.size w5).alloc (Nat.le_refl _) _).cell (p := ⟨w4.heap.size, 2, none⟩) z6).trans u2))
      have r3' := ((hb6.cell (p := ⟨w4.heap.size, 3, none⟩) (by simp; omega)).trans ((((Below.refl w5.heap.size w5).alloc (Nat.le_refl _) _).cell (p := ⟨w4.heap.size, 3, none⟩) z6).trans u3))
      have r4' := ((hb6.cell (p := ⟨w4.heap.size, 4, none⟩) (by simp; omega)).trans ((((Below.refl w5.heap.size w5).alloc (Nat.le_refl _) _).cell (p := ⟨w4.heap.size, 4, none⟩) z6).trans u4))
      have r5' := ((hb6.cell (p := ⟨w4.heap.size, 5, none⟩) (by simp; omega)).trans ((((Below.refl w5.heap.size w5).alloc (Nat.le_refl _) _).cell (p := ⟨w4.heap.size, 5, none⟩) z6).trans u5))
      have s0' := (hb6.cell (p := ⟨w5.heap.size, 0, none⟩) (by simp))
      have s1' := (hb6.cell (p := ⟨w5.heap.size, 1, none⟩) (by simp))
      have s2' := (hb6.cell (p := ⟨w5.heap.size, 2, none⟩) (by simp))
      have s3' := (hb6.cell (p := ⟨w5.heap.size, 3, none⟩) (by simp))
      have s4' := (hb6.cell (p := ⟨w5.heap.size, 4, none⟩) (by simp))
      have s5' := (hb6.cell (p := ⟨w5.heap.size, 5, none⟩) (by simp))
      simp at s0' s1' s2' s3' s4' s5'
      have R0 : ∀ w', Below w6.heap.size w6 w' → w'.cell? ⟨w4.heap.size, 0, none⟩ = some (.string nm) := fun w' h => (h.cell (p := ⟨w4.heap.size, 0, none⟩) (by show w4.heap.size < w6.heap.size; have := hb6.size; simp at this; omega)).trans r0'
      have R1 : ∀ w', Below w6.heap.size w6 w' → w'.cell? ⟨w4.heap.size, 1, none⟩ = some (.int .i64 a) := fun w' h => (h.cell (p := ⟨w4.heap.size, 1, none⟩) (by show w4.heap.size < w6.heap.size; have := hb6.size; simp at this; omega)).trans r1'
      have R2 : ∀ w', Below w6.heap.size w6 w' → w'.cell? ⟨w4.heap.size, 2, none⟩ = some (.int .i64 b) := fun w' h => (h.cell (p := ⟨w4.heap.size, 2, none⟩) (by show w4.heap.size < w6.heap.size; have := hb6.size; simp at this; omega)).trans r2'
      have R3 : ∀ w', Below w6.heap.size w6 w' → w'.cell? ⟨w4.heap.size, 3, none⟩ = some (.int .i64 c) := fun w' h => (h.cell (p := ⟨w4.heap.size, 3, none⟩) (by show w4.heap.size < w6.heap.size; have := hb6.size; simp at this; omega)).trans r3'
      have R4 : ∀ w', Below w6.heap.size w6 w' → w'.cell? ⟨w4.heap.size, 4, none⟩ = some (.int .i64 d) := fun w' h => (h.cell (p := ⟨w4.heap.size, 4, none⟩) (by show w4.heap.size < w6.heap.size; have := hb6.size; simp at this; omega)).trans r4'
      have R5 : ∀ w', Below w6.heap.size w6 w' → w'.cell? ⟨w4.heap.size, 5, none⟩ = some (.slice (some ⟨b4, 0, none⟩) ls.length ls.length) := fun w' h => (h.cell (p := ⟨w4.heap.size, 5, none⟩) (by show w4.heap.size < w6.heap.size; have := hb6.size; simp at this; omega)).trans r5'
      have T0 : ∀ w', Below w6.heap.size w6 w' → w'.cell? ⟨w5.heap.size, 0, none⟩ = some (.string nm') := fun w' h => (h.cell (p := ⟨w5.heap.size, 0, none⟩) (by show w5.heap.size < w6.heap.size; have := hb6.size; simp at this; omega)).trans s0'
      have T1 : ∀ w', Below w6.heap.size w6 w' → w'.cell? ⟨w5.heap.size, 1, none⟩ = some (.int .i64 a') := fun w' h => (h.cell (p := ⟨w5.heap.size, 1, none⟩) (by show w5.heap.size < w6.heap.size; have := hb6.size; simp at this; omega)).trans s1'
      have T2 : ∀ w', Below w6.heap.size w6 w' → w'.cell? ⟨w5.heap.size, 2, none⟩ = some (.int .i64 b') := fun w' h => (h.cell (p := ⟨w5.heap.size, 2, none⟩) (by show w5.heap.size < w6.heap.size; have := hb6.size; simp at this; omega)).trans s2'
      have T3 : ∀ w', Below w6.heap.size w6 w' → w'.cell? ⟨w5.heap.size, 3, none⟩ = some (.int .i64 c') := fun w' h => (h.cell (p := ⟨w5.heap.size, 3, none⟩) (by show w5.heap.size < w6.heap.size; have := hb6.size; simp at this; omega)).trans s3'
      have T4 : ∀ w', Below w6.heap.size w6 w' → w'.cell? ⟨w5.heap.size, 4, none⟩ = some (.int .i64 d') := fun w' h => (h.cell (p := ⟨w5.heap.size, 4, none⟩) (by show w5.heap.size < w6.heap.size; have := hb6.size; simp at this; omega)).trans s4'
      have T5 : ∀ w', Below w6.heap.size w6 w' → w'.cell? ⟨w5.heap.size, 5, none⟩ = some (.slice (some ⟨b5, 0, none⟩) ls'.length ls'.length) := fun w' h => (h.cell (p := ⟨w5.heap.size, 5, none⟩) (by show w5.heap.size < w6.heap.size; have := hb6.size; simp at this; omega)).trans s5'
      have HU := hide ((HS45.out.below ((Below.refl _ _).alloc (Nat.le_refl _) (.cells #[.string nm', .int .i64 a', .int .i64 b', .int .i64 c', .int .i64 d', .slice (some ⟨b5, 0, none⟩) ls'.length ls'.length] 29))).below hb6)
      have HV := hide ((HS5.out.below ((Below.refl _ _).alloc (Nat.le_refl _) (.cells #[.string nm', .int .i64 a', .int .i64 b', .int .i64 c', .int .i64 d', .slice (some ⟨b5, 0, none⟩) ls'.length ls'.length] 29))).below hb6)
      have hE6 : Below w2.heap.size w2 w6 := (HE5.out.alloc (by omega) _).trans (hb6.mono (by simp; omega))
      have z6' : w4.heap.size < w6.heap.size := by have := hb6.size; simp at this; omega
      have z6'' : w5.heap.size < w6.heap.size := by have := hb6.size; simp at this; omega
      have p0 := P0 _ hE6
      have p1 := P1 _ hE6
      have p2 := P2 _ hE6
      have p3 := P3 _ hE6
      have p4 := P4 _ hE6
      have p5 := P5 _ hE6
      have q0 := Q0 _ hE6
      have q1 := Q1 _ hE6
      have q2 := Q2 _ hE6
      have q3 := Q3 _ hE6
      have q4 := Q4 _ hE6
      have q5 := Q5 _ hE6
      have hx6 : w2.heap.size ≤ w6.heap.size := hE6.size
      have HE6 := hide hE6
      have hr6 : Below w6.heap.size w6 w6 := Below.refl _ _
      have HR6 := hide hr6
      clear hb6 hE6 hr6 u0 u1 u2 u3 u4 u5 HX5 HY5 HS45 HS5 HE5 HE4 HE
      generalize sameBm nm nm' a b c d a' b' c' d' ls ls' = res
      go_wp2_with fail
      go_region_held3 (fun w' => Below w2.heap.size w2 w' ∧ Below w6.heap.size w6 w')
        ((first | exact ⟨HE6.out.drew, HR6.out.drew⟩ | (go_split_ands; exact ⟨Below.trans (by assumption : Below w2.heap.size w2 _) (hbK.mono (Below.size (by assumption : Below w2.heap.size w2 _))), Below.trans (by assumption : Below w6.heap.size w6 _) (hbK.mono (Below.size (by assumption : Below w6.heap.size w6 _)))⟩)))
        (first
          | (go_at_call 17; refine (lawstoBeam nm a b c d _ _ _ _ ?_ hl).mono ?_; (focus (go_split_ands; exact HX2.out.below (by assumption))); rintro e wK ⟨b6, rfl, hS6, hle6, hlt6, hbK⟩)
          | (go_at_call 19; refine (lawseqBeam_same nm a b c d _ _ _ _ ls _ ?_ ?_ hl).mono ?_; (focus (go_split_ands; first | assumption | exact HU.out.below (by assumption))); (focus (go_split_ands; first | assumption | exact HU.out.below (by assumption))); rintro e wK ⟨rfl, hbK⟩))
      have h2E : Below w2.heap.size w2 wK := by go_split_ands; assumption
      have h6E : Below w6.heap.size w6 wK := by go_split_ands; assumption
      have HE7 := hide h2E
      have HR7 := hide h6E
      have p0 := P0 _ h2E
      have q0 := Q0 _ h2E
      have zE1 := h2E.size
      have zE2 := h6E.size
      clear h2E h6E
      go_wp2_with fail
      go_region_held3 (fun w' => Below w2.heap.size w2 w' ∧ Below w6.heap.size w6 w')
        ((first | exact ⟨HE7.out.drew, HR7.out.drew⟩ | (go_split_ands; exact ⟨Below.trans (by assumption : Below w2.heap.size w2 _) (hbK.mono (Below.size (by assumption : Below w2.heap.size w2 _))), Below.trans (by assumption : Below w6.heap.size w6 _) (hbK.mono (Below.size (by assumption : Below w6.heap.size w6 _)))⟩)))
        (first
          | (go_at_call 17; refine (lawstoBeam nm' a' b' c' d' _ _ _ _ ?_ hl').mono ?_; (focus (go_split_ands; exact HY2.out.below (by assumption))); rintro e wK ⟨b6, rfl, hS6, hle6, hlt6, hbK⟩)
          | (go_at_call 19; refine (lawseqBeam_same nm' a' b' c' d' _ _ _ _ ls' _ ?_ ?_ hl').mono ?_; (focus (go_split_ands; first | assumption | exact HV.out.below (by assumption))); (focus (go_split_ands; first | assumption | exact HV.out.below (by assumption))); rintro e wK ⟨rfl, hbK⟩))
      have h2E : Below w2.heap.size w2 wK := by go_split_ands; assumption
      have hbF : Below w.heap.size w wK := HBW.out.trans (h2E.mono (by omega))
      clear h2E
      go_wp2_with fail
      go_ret
      exact ⟨rfl, hbF⟩
    · go_wp2_with fail
      go_ret
      exact ⟨rfl, (by repeat (first | with_reducible exact Below.refl _ _ | with_reducible assumption | (with_reducible refine Below.drew ?_) | (with_reducible refine below_drewN ?_ _) | ((with_reducible refine Below.alloc ?_ ?_ _); rotate_left; (focus (first | omega | (simp; omega) | simp))) | ((with_reducible refine Below.setCell ?_ ?_ _); rotate_left; (focus (first | omega | (simp; omega) | simp))) | (refine Below.trans ?_ (Below.mono (by assumption) (by first | omega | (simp; omega) | simp)))))⟩
  · go_wp2_with fail
    go_ret
    exact ⟨rfl, (by repeat (first | with_reducible exact Below.refl _ _ | with_reducible assumption | (with_reducible refine Below.drew ?_) | (with_reducible refine below_drewN ?_ _) | ((with_reducible refine Below.alloc ?_ ?_ _); rotate_left; (focus (first | omega | (simp; omega) | simp))) | ((with_reducible refine Below.setCell ?_ ?_ _); rotate_left; (focus (first | omega | (simp; omega) | simp))) | (refine Below.trans ?_ (Below.mono (by assumption) (by first | omega | (simp; omega) | simp)))))⟩
end Go.Proofs.Ytibdclihjipaiaa
