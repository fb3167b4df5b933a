/- The law of charges, walked out of contracts. -/
import Derived.Test.YtjklhacffdhgaaaChF
namespace Go.Proofs.Ytjklhacffdhgaaa
open Go.RowKit

theorem ByAt.mono {w : World} {B B' : Nat} {A : Option Addr} {n : Nat} (h : ByAt w B A n) (hB : B ≤ B') : ByAt w B' A n := fun k hk => by
  obtain ⟨b, off, x, e, hl, hc, hx⟩ := h k hk
  exact ⟨b, off, x, e, by omega, hc, hx⟩
theorem bestOf_say {d0 d1 d2 d3 d4 : Int} {xs : List IngotR} {first : Bool} (h1 : rowsB vIngotR IngotR.nm 16 xs = true) (h2 : vDem d0 d1 d2 d3 d4 = true) (h4 : (lastC d0 d1 d2 d3 d4 xs 1000 first).spent = false) :
    bestOf d0 d1 d2 d3 d4 xs 1000 first = if (lastC d0 d1 d2 d3 d4 xs 1000 first).count = 0 then ([], 3) else ((lastC d0 d1 d2 d3 d4 xs 1000 first).best, 0) := by
  unfold bestOf
  rw [runC_5 h1 h2 (by decide) h4]
  simp
theorem cntOf_say {d0 d1 d2 d3 d4 : Int} {xs : List IngotR} (h1 : rowsB vIngotR IngotR.nm 16 xs = true) (h2 : vDem d0 d1 d2 d3 d4 = true) (h4 : (lastC d0 d1 d2 d3 d4 xs 1000 false).spent = false) :
    cntOf d0 d1 d2 d3 d4 xs 1000 = ((lastC d0 d1 d2 d3 d4 xs 1000 false).count, 0) := by
  unfold cntOf
  rw [runC_5 h1 h2 (by decide) h4]
  simp
theorem fitC_least {d0 d1 d2 d3 d4 : Int} {xs : List IngotR} {ch : List Int} (h : fitC d0 d1 d2 d3 d4 xs ch = true) : d0 ≤ sumB fM xs ch := by
  unfold fitC fitB at h
  simp only [Bool.and_eq_true] at h
  exact (inB_true h.1.1).1
/-- What the searches find, put for the law. -/
theorem charges_law {d0 d1 d2 d3 d4 : Int} {xs : List IngotR} (h7 : xs.length ≤ 7) (h1 : rowsB vIngotR IngotR.nm 16 xs = true) (h2 : vDem d0 d1 d2 d3 d4 = true) :
    (bestOf d0 d1 d2 d3 d4 xs 1000 true = ([], 3) ∧ bestOf d0 d1 d2 d3 d4 xs 1000 false = ([], 3) ∧ cntOf d0 d1 d2 d3 d4 xs 1000 = (0, 0)) ∨
    ∃ (f l : List Int) (n : Int), bestOf d0 d1 d2 d3 d4 xs 1000 true = (f, 0) ∧ bestOf d0 d1 d2 d3 d4 xs 1000 false = (l, 0) ∧ cntOf d0 d1 d2 d3 d4 xs 1000 = (n, 0) ∧ 0 < n ∧ n ≤ 128 ∧
      Ch.rising 0 xs.length f ∧ Ch.rising 0 xs.length l ∧ fitC d0 d1 d2 d3 d4 xs f = true ∧ fitC d0 d1 d2 d3 d4 xs l = true ∧ sumB fM xs l ≤ sumB fM xs f ∧ (1 < n ∨ f = l) := by
  obtain ⟨a1, a2, a3, a4, a5⟩ := charges_say (d0 := d0) (d1 := d1) (d2 := d2) (d3 := d3) (d4 := d4) h7
  rw [bestOf_say h1 h2 a1, bestOf_say h1 h2 a2, cntOf_say h1 h2 a2]
  rcases a5 with ⟨b1, b2⟩ | ⟨b1, b2, b3, b4, b5, b6, b7, b8⟩
  · left
    rw [b1, b2]
    simp
  · right
    refine ⟨_, _, _, ?_, ?_, rfl, b2, a4, b3, b4, b5, b6, b7, b8⟩
    · rw [b1]; simp
    · rw [if_neg (by omega)]
theorem lawsr8LongC (A A' : Option Addr) (n c n' c' : Nat) (w : World) : Calls Try.prog 28 #[.slice A n c, .slice A' n' c'] w fun e w' => e = .returned (.bool (decide ((1048576 : Int) < n) || decide ((1048576 : Int) < n'))) ∧ w = w' := by
  by_cases h : (1048576 : Int) < n <;> by_cases h' : (1048576 : Int) < n'
  all_goals
    have e : Hid (decide ((1048576 : Int) < n) || decide ((1048576 : Int) < n')) = (decide ((1048576 : Int) < n) || decide ((1048576 : Int) < n')) := rfl
    go_enter Try.func28, Try.ntmps28
    go_wp2
    go_ret
    exact ⟨by simp [*], rfl⟩
def DemAt (w : World) (q : Nat) (d0 d1 d2 d3 d4 : Int) : Prop := w.heap[q]? = some (.cells #[.int .i64 d0, .int .i64 d1, .int .i64 d2, .int .i64 d3, .int .i64 d4] 30 (0, 0))
theorem DemAt.cells {w : World} {q : Nat} {d0 d1 d2 d3 d4 : Int} (h : DemAt w q d0 d1 d2 d3 d4) : w.cell? ⟨q, 0, none⟩ = some (.int .i64 d0) ∧ w.cell? ⟨q, 1, none⟩ = some (.int .i64 d1) ∧ w.cell? ⟨q, 2, none⟩ = some (.int .i64 d2) ∧ w.cell? ⟨q, 3, none⟩ = some (.int .i64 d3) ∧ w.cell? ⟨q, 4, none⟩ = some (.int .i64 d4) := by
  unfold DemAt at h
  simp [World.cell?, h]
set_option maxRecDepth 100000 in
set_option maxHeartbeats 1000000 in
theorem lawFnCharges (A A' : Option Addr) (n c n' c' : Nat) (w : World) (h : ByAt w w.heap.size A n) (h' : ByAt w w.heap.size A' n') (hn : n ≤ 9223372036854775807) (hn' : n' ≤ 9223372036854775807) :
    Calls Try.prog 6 #[.slice A n c, .slice A' n' c'] w fun e w' => e = .returned (.bool true) ∧ Below w.heap.size w w' := by
  have HX := hide h
  have HY := hide h'
  clear h h'
  go_enter Try.func6, Try.ntmps6
  go_wp2_with fail
  refine (lawsr8LongC A A' n c n' c' w).mono ?_
  rintro e w0 ⟨rfl, rfl⟩
  cases hq : (decide ((1048576 : Int) < n) || decide ((1048576 : Int) < n'))
  · clear hq
    go_wp2_with fail
    refine (specR8Ingots A n c w HX.out hn).mono ?_
    rintro e w1 ⟨A1, c1, xs, rfl, hl, hrw, hnm, hms, hA, hb1⟩
    have HA1 := hide hA
    have HY1 := hide ((HY.out.below hb1).mono hb1.size)
    have HB1 := hide hb1
    have HRW := hide hrw
    have HNM := hide (show ∀ x ∈ xs, x.nm.size ≤ maxLen from fun x hx => Nat.le_trans (hnm x hx) (by decide))
    have z1 := hb1.size
    clear hA hb1 hrw hnm hms HX HY
    go_wp2_with fail
    refine (specR8Demand A' n' c' w1 HY1.out hn').mono ?_
    rintro e w2 ⟨d0, d1, d2, rfl, hdm, hb2⟩
    have HA2 := hide ((HA1.out.below hb2).below (w' := w2.alloc (.cells #[.int .i64 d0, .int .i64 d1, .int .i64 d2, .int .i64 260000, .int .i64 20000] 30)) (by repeat (first | with_reducible exact Below.refl _ _ | with_reducible assumption | (with_reducible refine Below.drew ?_) | (with_reducible refine below_drewN ?_ _) | ((with_reducible refine Below.alloc ?_ ?_ _); rotate_left; (focus (first | omega | (simp; omega) | simp))) | ((with_reducible refine Below.setCell ?_ ?_ _); rotate_left; (focus (first | omega | (simp; omega) | simp))) | (refine Below.trans ?_ (Below.mono (by assumption) (by first | omega | (simp; omega) | simp))))))
    have HB2 := hide ((HB1.out.trans (hb2.mono z1)).alloc (Nat.le_trans z1 hb2.size) (.cells #[.int .i64 d0, .int .i64 d1, .int .i64 d2, .int .i64 260000, .int .i64 20000] 30))
    have HD2 := hide (show DemAt (w2.alloc (.cells #[.int .i64 d0, .int .i64 d1, .int .i64 d2, .int .i64 260000, .int .i64 20000] 30)) w2.heap.size d0 d1 d2 260000 20000 from heap_alloc_new _ _)
    have HDM := hide hdm
    obtain ⟨⟨m0, m1⟩, m2, -⟩ := vDem_true hdm
    have z2 := hb2.size
    clear hdm hb2 HA1 HY1 HB1
    go_wp2_with fail
    refine (implFirstCharge d0 d1 d2 260000 20000 A1 c1 xs 1000 _ HA2.out (by omega) HNM.out).mono ?_
    rintro e w3 ⟨Af, cf, f, a, rfl, hbf, hlf, hof, hb3⟩
    have HBF := hide hbf
    have HA3 := hide (HA2.out.below hb3)
    have HB3 := hide (HB2.out.trans (hb3.mono (by simp; omega)))
    have HD3 := hide (show DemAt w3 w2.heap.size d0 d1 d2 260000 20000 from (hb3.block _ (by simp)).trans HD2.out)
    have HF3 := hide (Own.at_ (enc := encI) (sz := 1) (fun _ => rfl) hof)
    have z3 : w2.heap.size < w3.heap.size := by have := hb3.size; simp at this; omega
    obtain ⟨c30, c31, c32, c33, c34⟩ := HD3.out.cells
    clear hbf hof hb3 HA2 HB2 HD2
    go_wp2_with fail
    refine (implLeastCharge d0 d1 d2 260000 20000 A1 c1 xs 1000 _ HA3.out (by omega) HNM.out).mono ?_
    rintro e w4 ⟨Al, cl, l, b, rfl, hbl, hll, hol, hb4⟩
    have HBL := hide hbl
    have HA4 := hide (HA3.out.below hb4)
    have HB4 := hide (HB3.out.trans (hb4.mono (by omega)))
    have HD4 := hide (show DemAt w4 w2.heap.size d0 d1 d2 260000 20000 from (hb4.block _ z3).trans HD3.out)
    have HF4 := hide (HF3.out.below hb4)
    have HL4 := hide (Own.at_ (enc := encI) (sz := 1) (fun _ => rfl) hol)
    have z4 : w2.heap.size < w4.heap.size := Nat.lt_of_lt_of_le z3 hb4.size
    obtain ⟨c40, c41, c42, c43, c44⟩ := HD4.out.cells
    clear hbl hol hb4 HA3 HB3 HD3 HF3 c30 c31 c32 c33 c34
    go_wp2_with fail
    refine (implCountCharges d0 d1 d2 260000 20000 A1 c1 xs 1000 _ HA4.out (by omega) HNM.out).mono ?_
    rintro e w5 ⟨rfl, hb5⟩
    have HA5 := hide (HA4.out.below hb5)
    have HB5 := hide (HB4.out.trans (hb5.mono (by omega)))
    have HD5 := hide (show DemAt w5 w2.heap.size d0 d1 d2 260000 20000 from (hb5.block _ z4).trans HD4.out)
    have HF5 := hide (HF4.out.below hb5)
    have HL5 := hide (HL4.out.below hb5)
    have z5 : w2.heap.size < w5.heap.size := Nat.lt_of_lt_of_le z4 hb5.size
    clear hb5 HA4 HB4 HD4 HF4 HL4 c40 c41 c42 c43 c44
    rcases charges_law hl HRW.out HDM.out with ⟨e1, e2, e3⟩ | ⟨f', l', k, e1, e2, e3, k0, k1, rf, rl, ff, fl, hle, hk⟩
    · obtain ⟨-, rfl⟩ := pair_detC HBF.out e1
      obtain ⟨-, rfl⟩ := pair_detC HBL.out e2
      rw [e3]
      clear e1 e2 e3
      go_wp2_with fail
      go_ret
      exact ⟨rfl, HB5.out⟩
    · obtain ⟨rfl, rfl⟩ := pair_detC HBF.out e1
      obtain ⟨rfl, rfl⟩ := pair_detC HBL.out e2
      rw [e3]
      have mf := fitC_least ff
      have ml := fitC_least fl
      have HRF := hide rf
      have HRL := hide rl
      have HFF := hide ff
      have HFL := hide fl
      have HLE := hide hle
      have HK := hide hk
      clear e1 e2 e3 rf rl ff fl hle hk
      go_wp2_with fail
      refine (specMixOf_ok A1 Af c1 cf xs f _ HA5.out HF5.out HRW.out HNM.out HRF.out (by omega)).mono ?_
      rintro e w6 ⟨u0, u1, u2, rfl, hb6⟩
      have HA6 := hide ((HA5.out.below hb6).below (w' := w6.alloc (.cells #[.int .i64 u0, .int .i64 u1, .int .i64 u2] 45)) (by repeat (first | with_reducible exact Below.refl _ _ | with_reducible assumption | (with_reducible refine Below.drew ?_) | (with_reducible refine below_drewN ?_ _) | ((with_reducible refine Below.alloc ?_ ?_ _); rotate_left; (focus (first | omega | (simp; omega) | simp))) | ((with_reducible refine Below.setCell ?_ ?_ _); rotate_left; (focus (first | omega | (simp; omega) | simp))) | (refine Below.trans ?_ (Below.mono (by assumption) (by first | omega | (simp; omega) | simp))))))
      have HL6 := hide ((HL5.out.below hb6).below (w' := w6.alloc (.cells #[.int .i64 u0, .int .i64 u1, .int .i64 u2] 45)) (by repeat (first | with_reducible exact Below.refl _ _ | with_reducible assumption | (with_reducible refine Below.drew ?_) | (with_reducible refine below_drewN ?_ _) | ((with_reducible refine Below.alloc ?_ ?_ _); rotate_left; (focus (first | omega | (simp; omega) | simp))) | ((with_reducible refine Below.setCell ?_ ?_ _); rotate_left; (focus (first | omega | (simp; omega) | simp))) | (refine Below.trans ?_ (Below.mono (by assumption) (by first | omega | (simp; omega) | simp))))))
      have HF6 := hide ((HF5.out.below hb6).below (w' := w6.alloc (.cells #[.int .i64 u0, .int .i64 u1, .int .i64 u2] 45)) (by repeat (first | with_reducible exact Below.refl _ _ | with_reducible assumption | (with_reducible refine Below.drew ?_) | (with_reducible refine below_drewN ?_ _) | ((with_reducible refine Below.alloc ?_ ?_ _); rotate_left; (focus (first | omega | (simp; omega) | simp))) | ((with_reducible refine Below.setCell ?_ ?_ _); rotate_left; (focus (first | omega | (simp; omega) | simp))) | (refine Below.trans ?_ (Below.mono (by assumption) (by first | omega | (simp; omega) | simp))))))
      have z6 : w2.heap.size < w6.heap.size := Nat.lt_of_lt_of_le z5 hb6.size
      have HB6 := hide ((HB5.out.trans (hb6.mono (by omega))).alloc (by omega) (.cells #[.int .i64 u0, .int .i64 u1, .int .i64 u2] 45))
      have HD6 := hide (show DemAt (w6.alloc (.cells #[.int .i64 u0, .int .i64 u1, .int .i64 u2] 45)) w2.heap.size d0 d1 d2 260000 20000 from (heap_alloc_old _ _ z6).trans ((hb6.block _ z5).trans HD5.out))
      clear hb6 HA5 HB5 HD5 HF5 HL5
      go_wp2_with fail
      refine (specMixOf_ok A1 Al c1 cl xs l _ HA6.out HL6.out HRW.out HNM.out HRL.out (by omega)).mono ?_
      rintro e w7 ⟨v0, v1, v2, rfl, hb7⟩
      have z7 : w2.heap.size < w7.heap.size := by have := hb7.size; simp at this; omega
      have HA7 := hide ((HA6.out.below hb7).below (w' := w7.alloc (.cells #[.int .i64 v0, .int .i64 v1, .int .i64 v2] 45)) (by repeat (first | with_reducible exact Below.refl _ _ | with_reducible assumption | (with_reducible refine Below.drew ?_) | (with_reducible refine below_drewN ?_ _) | ((with_reducible refine Below.alloc ?_ ?_ _); rotate_left; (focus (first | omega | (simp; omega) | simp))) | ((with_reducible refine Below.setCell ?_ ?_ _); rotate_left; (focus (first | omega | (simp; omega) | simp))) | (refine Below.trans ?_ (Below.mono (by assumption) (by first | omega | (simp; omega) | simp))))))
      have HL7 := hide ((HL6.out.below hb7).below (w' := w7.alloc (.cells #[.int .i64 v0, .int .i64 v1, .int .i64 v2] 45)) (by repeat (first | with_reducible exact Below.refl _ _ | with_reducible assumption | (with_reducible refine Below.drew ?_) | (with_reducible refine below_drewN ?_ _) | ((with_reducible refine Below.alloc ?_ ?_ _); rotate_left; (focus (first | omega | (simp; omega) | simp))) | ((with_reducible refine Below.setCell ?_ ?_ _); rotate_left; (focus (first | omega | (simp; omega) | simp))) | (refine Below.trans ?_ (Below.mono (by assumption) (by first | omega | (simp; omega) | simp))))))
      have HF7 := hide ((HF6.out.below hb7).below (w' := w7.alloc (.cells #[.int .i64 v0, .int .i64 v1, .int .i64 v2] 45)) (by repeat (first | with_reducible exact Below.refl _ _ | with_reducible assumption | (with_reducible refine Below.drew ?_) | (with_reducible refine below_drewN ?_ _) | ((with_reducible refine Below.alloc ?_ ?_ _); rotate_left; (focus (first | omega | (simp; omega) | simp))) | ((with_reducible refine Below.setCell ?_ ?_ _); rotate_left; (focus (first | omega | (simp; omega) | simp))) | (refine Below.trans ?_ (Below.mono (by assumption) (by first | omega | (simp; omega) | simp))))))
      have HB7 := hide ((HB6.out.trans (hb7.mono (by simp; omega))).alloc (by omega) (.cells #[.int .i64 v0, .int .i64 v1, .int .i64 v2] 45))
      have HD7 := hide (show DemAt (w7.alloc (.cells #[.int .i64 v0, .int .i64 v1, .int .i64 v2] 45)) w2.heap.size d0 d1 d2 260000 20000 from (heap_alloc_old _ _ z7).trans ((hb7.block _ (by simp; omega)).trans HD6.out))
      have z7' : w2.heap.size < (w7.alloc (.cells #[.int .i64 v0, .int .i64 v1, .int .i64 v2] 45)).heap.size := by simp; omega
      clear hb7 HA6 HB6 HD6 HF6 HL6
      obtain ⟨c70, c71, c72, c73, c74⟩ := HD7.out.cells
      have HDM1 := HDM
      go_wp2_with fail
      refine (implFitsDemand_ok A1 Af c1 cf xs f d0 d1 d2 260000 20000 _ HA7.out HF7.out HRW.out HNM.out HRF.out HDM1.out HFF.out).mono ?_
      rintro e w8 ⟨rfl, hb8⟩
      have HA8 := hide (HA7.out.below hb8)
      have HL8 := hide (HL7.out.below hb8)
      have HF8 := hide (HF7.out.below hb8)
      have HB8 := hide (HB7.out.trans (hb8.mono (by simp; omega)))
      have HD8 := hide (show DemAt w8 w2.heap.size d0 d1 d2 260000 20000 from (hb8.block _ z7').trans HD7.out)
      have z8 : w2.heap.size < w8.heap.size := Nat.lt_of_lt_of_le z7' hb8.size
      clear hb8 HA7 HB7 HD7 HF7 HL7 z7' c70 c71 c72 c73 c74
      obtain ⟨c80, c81, c82, c83, c84⟩ := HD8.out.cells
      go_wp2_with fail
      refine (implFitsDemand_ok A1 Al c1 cl xs l d0 d1 d2 260000 20000 _ HA8.out HL8.out HRW.out HNM.out HRL.out HDM1.out HFL.out).mono ?_
      rintro e w9 ⟨rfl, hb9⟩
      have HL9 := hide (HL8.out.below hb9)
      have HF9 := hide (HF8.out.below hb9)
      have HB9 := hide (HB8.out.trans (hb9.mono (by omega)))
      have HD9 := hide (show DemAt w9 w2.heap.size d0 d1 d2 260000 20000 from (hb9.block _ z8).trans HD8.out)
      have z9 : w2.heap.size < w9.heap.size := Nat.lt_of_lt_of_le z8 hb9.size
      clear hb9 HA8 HB8 HD8 HF8 HL8 c80 c81 c82 c83 c84
      obtain ⟨c90, -, -, -, -⟩ := HD9.out.cells
      have t1 : decide (sumB fM xs l ≤ sumB fM xs f) = true := by simpa using HLE.out
      have t2 : decide (d0 ≤ sumB fM xs l) = true := by simpa using ml
      by_cases h1 : 1 < k
      · have t3 : decide (1 < k) = true := by simpa using h1
        go_wp2_with fail
        go_ret
        exact ⟨rfl, HB9.out⟩
      · have t3 : decide (1 < k) = false := by simpa using h1
        have hfl : f = l := HK.out.resolve_left h1
        have HSM := hide (fun W (q1 : SlAt encI 1 W Af f) (q2 : SlAt encI 1 W Al l) => show Calls Try.prog 33 #[.slice Af f.length cf, .slice Al l.length cl] W fun e w' => e = .returned (.bool true) ∧ Below W.heap.size W w' from by
          subst hfl
          exact lawsr8Same Af Al cf cl f W q1 q2 (by have := rising_len HRF.out; omega))
        clear hfl
        go_wp2_with fail
        refine (HSM.out _ HF9.out HL9.out).mono ?_
        rintro e wA ⟨rfl, hbA⟩
        have HBA := hide (HB9.out.trans (hbA.mono (by omega)))
        clear hbA
        go_wp2_with fail
        go_ret
        exact ⟨rfl, HBA.out⟩
  · go_wp2_with fail
    go_ret
    exact ⟨rfl, (by repeat (first | with_reducible exact Below.refl _ _ | with_reducible assumption | (with_reducible refine Below.drew ?_) | (with_reducible refine below_drewN ?_ _) | ((with_reducible refine Below.alloc ?_ ?_ _); rotate_left; (focus (first | omega | (simp; omega) | simp))) | ((with_reducible refine Below.setCell ?_ ?_ _); rotate_left; (focus (first | omega | (simp; omega) | simp))) | (refine Below.trans ?_ (Below.mono (by assumption) (by first | omega | (simp; omega) | simp)))))⟩
end Go.Proofs.Ytjklhacffdhgaaa
