/- The walk of laws.FnPermitted out of contracts. -/
import Derived.Test.YtjklhacffdhgaaaPmW
namespace Go.Proofs.Ytjklhacffdhgaaa
open Go.RowKit

theorem lawsb10LongP (A : Option Addr) (n c : Nat) (w : World) : Calls Try.prog 44 #[.slice A n c] w fun e w' => e = .returned (.bool (decide ((1048576 : Int) < n))) ∧ w = w' := by
  by_cases h : (1048576 : Int) < n
  all_goals
    go_enter Try.func44, Try.ntmps44
    go_wp2
    go_ret
    exact ⟨by simp [*], rfl⟩
theorem implIsPermitted_sel {nm : ByteArray} {sw dp sf lim : Int} {A : Option Addr} {c : Nat} {xs : List SwingR} {l : List Nat} (w : World) (hs : nm.size ≤ maxLen) (h : SlAt encSwing 3 w A (selS xs l)) (hx : Small xs) (hn : l.length ≤ 1000) (hv : vTower nm sw dp sf lim = true) (hr : rowsB vSwingR SwingR.nm 16 xs = true) (hl : IncN xs.length l) {b : Bool} (hb : decide (Pm.sumA (amps sw dp sf xs) l ≤ lim) = b) :
    Calls Try.prog 47 #[.agg #[.string nm, .int .i64 sw, .int .i64 dp, .int .i64 sf, .int .i64 lim], .slice A (selS xs l).length c] w fun e w' => e = .returned (.bool b) ∧ Below w.heap.size w w' := by
  have q := implIsPermitted nm sw dp sf lim A c (selS xs l) w hs h (by rw [selS_len]; omega) (fun x hx2 => by
    unfold selS at hx2
    rw [List.mem_map] at hx2
    obtain ⟨k, hk, rfl⟩ := hx2
    have hkl := hl.2 k hk
    simp only [List.getD_eq_getElem?_getD, List.getElem?_eq_getElem hkl, Option.getD_some]
    have := hx _ (List.getElem_mem hkl)
    unfold maxLen
    omega)
  rw [totR_sel hv hr hl] at q
  subst hb
  simpa using q
set_option maxRecDepth 100000 in
set_option maxHeartbeats 4000000 in
theorem lawFnPermitted (A : Option Addr) (n c : Nat) (w : World) (h : ByAt w w.heap.size A n) (hn : n ≤ 9223372036854775807) :
    Calls Try.prog 9 #[.slice A n c] w fun e w' => e = .returned (.bool true) ∧ Below w.heap.size w w' := by
  have HX := hide h
  clear h
  by_cases k1 : (1048576 : Int) < n
  · have q1 : decide ((1048576 : Int) < n) = true := by simp [k1]
    clear k1
    go_enter Try.func9, Try.ntmps9
    go_wp2_with (go_at_call 44; refine (lawsb10LongP _ _ _ _).mono ?_; rintro e w0 ⟨rfl, rfl⟩)
    go_ret
    exact ⟨rfl, Below.refl _ _⟩
  have q1 : decide ((1048576 : Int) < n) = false := by simp; omega
  clear k1
  go_enter Try.func9, Try.ntmps9
  go_wp2_with fail
  refine (lawsb10LongP _ _ _ _).mono ?_
  rintro e w0 ⟨rfl, rfl⟩
  go_wp2_with fail
  clear q1
  refine (specDrawGreatestForce A n c _ HX.out hn).mono ?_
  rintro e w1 ⟨nm, a1, a2, a3, a4, A1, c1, xs, bud, rfl, hnm, hA1, hxl, hsm, hb1⟩
  have HA1 := hide hA1
  have HB1 := hide hb1
  have HSM := hide hsm
  clear hA1 hb1 hsm HX
  go_upto_region 4 with fail
  have HAW := hide (fun (W : World) (h : Below (w1.heap.size + 1) (w1.alloc (.cells #[.string nm, .int .i64 a1, .int .i64 a2, .int .i64 a3, .int .i64 a4] 56)) W) => (show SlAt encSwing 3 W A1 xs from (HA1.out.below ((Below.refl _ _).alloc (Nat.le_refl _) (.cells #[.string nm, .int .i64 a1, .int .i64 a2, .int .i64 a3, .int .i64 a4] 56))).below (by simpa using h)))
  have HTW := hide (fun (W : World) (h : Below (w1.heap.size + 1) (w1.alloc (.cells #[.string nm, .int .i64 a1, .int .i64 a2, .int .i64 a3, .int .i64 a4] 56)) W) => (show W.cell? ⟨w1.heap.size, 0, none⟩ = some (.string nm) ∧ W.cell? ⟨w1.heap.size, 1, none⟩ = some (.int .i64 a1) ∧ W.cell? ⟨w1.heap.size, 2, none⟩ = some (.int .i64 a2) ∧ W.cell? ⟨w1.heap.size, 3, none⟩ = some (.int .i64 a3) ∧ W.cell? ⟨w1.heap.size, 4, none⟩ = some (.int .i64 a4) from by
    have hb : W.heap[w1.heap.size]? = some (.cells #[.string nm, .int .i64 a1, .int .i64 a2, .int .i64 a3, .int .i64 a4] 56 (0, 0)) := (h.block w1.heap.size (by omega)).trans (heap_alloc_new w1 _)
    simp [World.cell?, hb]))
  have HBW := hide (fun (W : World) (h : Below (w1.heap.size + 1) (w1.alloc (.cells #[.string nm, .int .i64 a1, .int .i64 a2, .int .i64 a3, .int .i64 a4] 56)) W) => (show Below w.heap.size w W from (HB1.out.alloc HB1.out.size _).trans (h.mono (by have := HB1.out.size; omega))))
  have hz2 : w1.heap.size + 1 = (w1.alloc (.cells #[.string nm, .int .i64 a1, .int .i64 a2, .int .i64 a3, .int .i64 a4] 56)).heap.size := by simp
  have B2 := hide (show Below (w1.heap.size + 1) (w1.alloc (.cells #[.string nm, .int .i64 a1, .int .i64 a2, .int .i64 a3, .int .i64 a4] 56)) (w1.alloc (.cells #[.string nm, .int .i64 a1, .int .i64 a2, .int .i64 a3, .int .i64 a4] 56)) from Below.refl _ _)
  clear HA1 HB1
  generalize (w1.alloc (.cells #[.string nm, .int .i64 a1, .int .i64 a2, .int .i64 a3, .int .i64 a4] 56)) = w2 at *
  generalize w1.heap.size = bt at *
  have hmx : nm.size ≤ maxLen := by unfold maxLen; omega
  have HSM2 := hide (show ∀ x ∈ xs, x.nm.size ≤ maxLen from fun x hx => by have := HSM.out x hx; unfold maxLen; omega)
  obtain ⟨t0, t1, t2, t3, t4⟩ := HTW.out _ B2.out
  go_wp2_with fail
  refine (implMostBells nm a1 a2 a3 a4 A1 c1 xs _ hmx (HAW.out _ B2.out) (by omega) HSM2.out).mono ?_
  rintro e w3 ⟨A6, c6, ys, code, rfl, hR, hyl, hO, hb3⟩
  have hz3 := hb3.size
  have B3 := hide (B2.out.trans (hb3.mono (by omega)))
  have HO3 := hide hO
  have HR3 := hide hR
  clear hO hb3 hR t0 t1 t2 t3 t4
  obtain ⟨t0, t1, t2, t3, t4⟩ := HTW.out _ B3.out
  go_wp2_with fail
  refine (implGreatestForce nm a1 a2 a3 a4 A1 c1 xs bud _ hmx (HAW.out _ B3.out) (by omega) HSM2.out).mono ?_
  rintro e w4 ⟨A8, c8, zs, v, code2, rfl, hR, hzl, hO, hb4⟩
  have hz4 := hb4.size
  have B4 := hide (B3.out.trans (hb4.mono (by omega)))
  have HO4 := hide hO
  have HR4 := hide hR
  have HM4 := hide (HO3.out.below hb4)
  clear hO hb4 hR t0 t1 t2 t3 t4 HO3
  cases hv : vTower nm a1 a2 a3 a4
  · have e1 := HR3.out
    have e2 := HR4.out
    rw [mostR_1 hv] at e1
    rw [frcR_1 hv] at e2
    injection e1 with e1 e3
    injection e2 with e2 e4
    injection e4 with e4 e5
    subst e1; subst e2; subst e3; subst e4; subst e5
    clear HR3 HR4
    go_wp2_with fail
    go_ret
    exact ⟨rfl, HBW.out _ B4.out⟩
  cases hr : rowsB vSwingR SwingR.nm 16 xs
  · have e1 := HR3.out
    have e2 := HR4.out
    rw [mostR_2 hr] at e1
    rw [frcR_2 hr] at e2
    injection e1 with e1 e3
    injection e2 with e2 e4
    injection e4 with e4 e5
    subst e1; subst e2; subst e3; subst e4; subst e5
    clear HR3 HR4
    go_wp2_with fail
    go_ret
    exact ⟨rfl, HBW.out _ B4.out⟩
  obtain ⟨T, eT, hi, hsum, hmore, hgreat⟩ := most_says hv hr
  have e1 := HR3.out
  rw [eT] at e1
  injection e1 with e1 e3
  subst e1
  subst e3
  have HV := hide (And.intro hv hr)
  have HI := hide hi
  have HSUM := hide hsum
  have HMORE := hide hmore
  have HGREAT := hide hgreat
  have hTl : (castL T).length = T.length := by simp
  have hT16 : T.length ≤ 1000 := by rw [hTl] at hyl; have := (selS_len xs T); have := (rowsB_true (rows_sel hr hi)).2.1; omega
  rw [hTl] at HM4 ⊢
  clear hv hr eT hi hsum hmore hgreat HR3 hyl hTl
  have HMW := hide (fun (W : World) (h : Below w4.heap.size w4 W) => (show SlAt encI 1 W A6 (castL T) from (Own.at_ (enc := encI) (sz := 1) (fun _ => rfl) (by rw [show (castL T).length = T.length by simp]; exact HM4.out)).below h))
  have hz24 : bt + 1 ≤ w4.heap.size := by omega
  have HCM := hide (fun (W : World) (h : Below w4.heap.size w4 W) => lawsb10Chosen A1 A6 c1 c6 xs T W (HAW.out W (B4.out.trans (h.mono hz24))) (HMW.out W h) hxl hT16 HI.out)
  go_wp2_with fail
  refine (HCM.out _ (Below.refl _ _)).mono ?_
  rintro e w5 ⟨A5, c5, rfl, ho5, hb5⟩
  have B5 := hide (B4.out.trans (hb5.mono hz24))
  have hz5 := hb5.size
  have B45 := hide hb5
  have HA5 := hide (Own.at_ (enc := encSwing) (sz := 3) (fun _ => rfl) ho5)
  have hsl := selS_len xs T
  rw [hsl]
  clear ho5 hb5
  obtain ⟨t0, t1, t2, t3, t4⟩ := HTW.out _ B5.out
  have dn : ((T.length : Int) != (T.length : Int)) = false := by simp
  have HP5 := implIsPermitted_sel (A := A5) (c := c5) w5 hmx HA5.out HSM.out hT16 HV.out.1 HV.out.2 HI.out (b := true) (by simpa using HSUM.out)
  rw [hsl] at HP5
  have HPH := hide HP5
  clear HP5
  have HFS := hide (force_says (bud := bud) HV.out.1 HV.out.2)
  go_upto_region 11 with (go_at_call 47; refine HPH.out.mono ?_; rintro e w6 ⟨rfl, hb6⟩)
  have B56 := hide hb6
  have B46 := hide (B45.out.trans (hb6.mono hz5))
  clear hb6 t0 t1 t2 t3 t4 HPH
  by_cases hlt : T.length < xs.length
  · have hltz : decide (T.length < xs.length) = true := by simp; omega
    go_wp2_with fail
    clear hltz
    go_loopw [12, 13] (fun v _ wr => ∃ k : Nat, v = .int .i64 k ∧ k ≤ xs.length ∧ Hid (Below w4.heap.size w4 wr) ∧ Hid (Below w5.heap.size w5 wr)) (fun v _ _ => xs.length - (intOf v).toNat)
    case atStart => exact ⟨0, rfl, by omega, B46, B56⟩
    case round =>
      obtain ⟨k, rfl, hk, HB, HB5⟩ := hrel
      have B4R := hide (B4.out.trans (HB.out.mono hz24))
      have hzr := HB.out.size
      have hzr5 := HB5.out.size
      by_cases hlk : k < xs.length
      · have hpw : (castL T).Pairwise (· < ·) := by
          unfold castL
          rw [List.pairwise_map]
          exact HI.out.1.imp fun q => by omega
        have hw := lawsb10With A6 c6 (castL T) (k : Int) wr (HMW.out wr HB.out) (by simp; omega) hpw
        rw [show (castL T).length = T.length by simp] at hw
        have HWI := hide hw
        clear hw hpw
        by_cases hin : k ∈ T
        · have HPT := hide (put_in (x := (k : Int)) (show (castL T).Pairwise (· < ·) from by unfold castL; rw [List.pairwise_map]; exact HI.out.1.imp fun q => by omega) (by unfold castL; exact List.mem_map.2 ⟨k, hin, rfl⟩))
          clear hin
          go_wp2_with fail
          refine HWI.out.mono ?_
          rintro e w7 ⟨A7, c7, rfl, ho7, hb7⟩
          rw [HPT.out] at ho7 ⊢
          rw [show (castL T).length = T.length by simp] at ho7 ⊢
          have HB7 := hide (HB.out.trans (hb7.mono hzr))
          have HB57 := hide (HB5.out.trans (hb7.mono hzr5))
          have hz7 := hb7.size
          have HCH := hide (lawsb10Chosen A1 A7 c1 c7 xs T w7 (HAW.out w7 (B4.out.trans (HB7.out.mono hz24))) (Own.at_ (enc := encI) (sz := 1) (fun _ => rfl) (by rw [show (castL T).length = T.length by simp]; exact ho7)) hxl hT16 HI.out)
          clear ho7 hb7
          go_wp2_with fail
          refine HCH.out.mono ?_
          rintro e w8 ⟨A9, c9, rfl, ho8, hb8⟩
          rw [selS_len]
          have HB8 := hide (HB7.out.trans (hb8.mono HB7.out.size))
          have HB58 := hide (HB57.out.trans (hb8.mono HB57.out.size))
          have dne : ((T.length : Int) == (T.length : Int) + 1) = false := by simp; omega
          clear ho8 hb8
          go_wp2_with fail
          go_roundw
          case rel => exact ⟨k + 1, by go_num, by omega, HB8, HB58⟩
          case measure => simp [intOf]; omega
        · obtain ⟨T', eT', pT', iT'⟩ := put_inc HI.out hlk hin
          have hlT' : T'.length = T.length + 1 := by rw [pT'.length_eq]; rfl
          have hsT' : a4 < Pm.sumA (amps a1 a2 a3 xs) T' := by
            rw [Pm.sumA_perm pT']
            have := HMORE.out k hlk hin
            simp only [Pm.sumA]
            omega
          have HPT := hide eT'
          have HLT := hide hlT'
          have HIT := hide iT'
          have HST := hide hsT'
          clear hin eT' pT' iT' hlT' hsT'
          go_wp2_with fail
          refine HWI.out.mono ?_
          rintro e w7 ⟨A7, c7, rfl, ho7, hb7⟩
          rw [HPT.out] at ho7 ⊢
          rw [show (castL T').length = T'.length by simp] at ho7 ⊢
          have HB7 := hide (HB.out.trans (hb7.mono hzr))
          have HB57 := hide (HB5.out.trans (hb7.mono hzr5))
          have hz7 := hb7.size
          have HCH := hide (lawsb10Chosen A1 A7 c1 c7 xs T' w7 (HAW.out w7 (B4.out.trans (HB7.out.mono hz24))) (Own.at_ (enc := encI) (sz := 1) (fun _ => rfl) (by rw [show (castL T').length = T'.length by simp]; exact ho7)) hxl (by rw [HLT.out]; omega) HIT.out)
          clear ho7 hb7
          go_wp2_with fail
          refine HCH.out.mono ?_
          rintro e w8 ⟨A9, c9, rfl, ho8, hb8⟩
          have HB8 := hide (HB7.out.trans (hb8.mono HB7.out.size))
          have HB58 := hide (HB57.out.trans (hb8.mono HB57.out.size))
          have hz8 := HB8.out.size
          have hz58 := HB58.out.size
          have HP8 := implIsPermitted_sel (A := A9) (c := c9) w8 hmx (Own.at_ (enc := encSwing) (sz := 3) (fun _ => rfl) ho8) HSM.out (by rw [HLT.out]; omega) HV.out.1 HV.out.2 HIT.out (b := false) (by have := HST.out; simpa using this)
          rw [selS_len, HLT.out] at HP8
          rw [selS_len, HLT.out]
          have HPJ := hide HP8
          obtain ⟨t0, t1, t2, t3, t4⟩ := HTW.out _ (B4.out.trans (HB8.out.mono hz24))
          have dne : (((T.length + 1 : Nat) : Int) == (T.length : Int) + 1) = true := by simp
          have dne2 : ((T.length : Int) + 1 == (T.length : Int) + 1) = true := by simp
          clear ho8 hb8 HP8
          go_wp2_with (go_at_call 47; refine HPJ.out.mono ?_; rintro e w9 ⟨rfl, hb9⟩)
          have HB9 := hide (HB8.out.trans (hb9.mono hz8))
          have HB59 := hide (HB58.out.trans (hb9.mono hz58))
          clear hb9
          go_roundw
          case rel => exact ⟨k + 1, by go_num, by omega, HB9, HB59⟩
          case measure => simp [intOf]; omega
      · obtain rfl : k = xs.length := by omega
        have B4W := hide (B4.out.trans (HB.out.mono hz24))
        rcases HFS.out with ⟨code, ef, hc0⟩ | ⟨T2, ef, hi2, hs2, hbest⟩
        · have e2 := HR4.out
          rw [ef] at e2
          injection e2 with e2 e4
          injection e4 with e4 e5
          subst e2; subst e4; subst e5
          have dc : (code != 0) = true := by simp; omega
          clear hc0 ef HR4
          go_wp2_with fail
          go_ret
          exact ⟨rfl, HBW.out _ B4W.out⟩
        · have e2 := HR4.out
          rw [ef] at e2
          injection e2 with e2 e4
          injection e4 with e4 e5
          subst e2; subst e4; subst e5
          have HI2 := hide hi2
          have HS2 := hide hs2
          have HBE := hide (hbest T HI.out HSUM.out)
          have HLE := hide (HGREAT.out T2 (List.nodup_iff_pairwise_ne.2 (hi2.1.imp fun q => by omega)) hi2.2 hs2)
          have hT2l : (castL T2).length = T2.length := by simp
          have hT2c : T2.length ≤ 1000 := by have := HLE.out; omega
          rw [hT2l] at HO4 ⊢
          have HZW := hide (SlAt.below (Own.at_ (enc := encI) (sz := 1) (fun _ => rfl) (show OwnI w4 _ (.slice A8 (castL T2).length c8) (castL T2) by rw [show (castL T2).length = T2.length by simp]; exact HO4.out)) HB.out)
          have HCZ := hide (lawsb10Chosen A1 A8 c1 c8 xs T2 wr (HAW.out wr B4W.out) HZW.out hxl hT2c HI2.out)
          clear hi2 hs2 hbest ef HR4 hT2l
          go_wp2_with fail
          refine HCZ.out.mono ?_
          rintro e w8 ⟨A9, c9, rfl, ho9, hb9⟩
          have hz9 := hb9.size
          have B9 := hide (HB.out.trans (hb9.mono HB.out.size))
          have B49 := hide (B4.out.trans (B9.out.mono hz24))
          have HA9 := hide (Own.at_ (enc := encSwing) (sz := 3) (fun _ => rfl) ho9)
          have hsl2 := selS_len xs T2
          have HB8X := hide hb9
          clear ho9 hb9 HCZ
          have HP9 := implIsPermitted_sel (A := A9) (c := c9) w8 hmx HA9.out HSM.out hT2c HV.out.1 HV.out.2 HI2.out (b := true) (by simpa using HS2.out)
          rw [hsl2] at HP9 ⊢
          have HPI := hide HP9
          clear HP9
          obtain ⟨t0, t1, t2, t3, t4⟩ := HTW.out _ B49.out
          have HFF := hide (fun (l : List Nat) (hl : IncN xs.length l) => (show ∀ x ∈ selS xs l, 0 ≤ x.force ∧ x.force ≤ 1000000 from fun x hx => by
            have := vSwing_true _ _ _ ((rowsB_true (rows_sel HV.out.2 hl)).1 x hx)
            omega))
          have HF1 := hide (fun (W : World) (h : Below w8.heap.size w8 W) => (show Calls Try.prog 49 #[.slice A9 T2.length c9] W fun e w' => e = .returned (.int .i64 (Pm.sumA (frcs xs) T2)) ∧ W = w' from by
            have q := lawsb10Force A9 c9 (selS xs T2) W (HA9.out.below h) (by rw [selS_len]; omega) (HFF.out T2 HI2.out)
            rw [sumF_sel HI2.out.2, selS_len] at q
            exact q))
          have HF2 := hide (fun (W : World) (h : Below w5.heap.size w5 W) => (show Calls Try.prog 49 #[.slice A5 T.length c5] W fun e w' => e = .returned (.int .i64 (Pm.sumA (frcs xs) T)) ∧ W = w' from by
            have q := lawsb10Force A5 c5 (selS xs T) W (HA5.out.below h) (by rw [selS_len]; omega) (HFF.out T HI.out)
            rw [sumF_sel HI.out.2, selS_len] at q
            exact q))
          have dn2 : ((T2.length : Int) != (T2.length : Int)) = false := by simp
          have df : decide (Pm.sumA (frcs xs) T2 < Pm.sumA (frcs xs) T) = false := by have := HBE.out; simp; omega
          have dl : decide (T2.length ≤ T.length) = true := by have := HLE.out; simp; omega
          generalize Pm.sumA (frcs xs) T2 = f2 at *
          generalize Pm.sumA (frcs xs) T = f1 at *
          have df2 : (f2 != f2) = false := by simp
          have B59 := hide (HB5.out.trans (HB8X.out.mono HB5.out.size))
          go_wp2_with (first | (go_at_call 47; refine HPI.out.mono ?_; rintro e w10 ⟨rfl, hb10⟩) | (go_at_call 49; with_reducible refine (HF1.out _ hb10).mono ?_; rintro e wz ⟨rfl, rfl⟩) | (go_at_call 49; with_reducible refine (HF2.out _ (B59.out.trans (hb10.mono B59.out.size))).mono ?_; rintro e wz ⟨rfl, rfl⟩))
          go_ret
          exact ⟨rfl, HBW.out _ (B49.out.trans (hb10.mono (by have := B49.out.size; omega)))⟩
  · have hltz : decide (T.length < xs.length) = false := by simp; omega
    have hlt2 : xs.length ≤ T.length := by omega
    clear hlt
    have B4W := hide (B4.out.trans (B46.out.mono hz24))
    rcases HFS.out with ⟨code, ef, hc0⟩ | ⟨T2, ef, hi2, hs2, hbest⟩
    · have e2 := HR4.out
      rw [ef] at e2
      injection e2 with e2 e4
      injection e4 with e4 e5
      subst e2; subst e4; subst e5
      have dc : (code != 0) = true := by simp; omega
      clear hc0 ef HR4
      go_wp2_with fail
      go_ret
      exact ⟨rfl, HBW.out _ B4W.out⟩
    · have e2 := HR4.out
      rw [ef] at e2
      injection e2 with e2 e4
      injection e4 with e4 e5
      subst e2; subst e4; subst e5
      have HI2 := hide hi2
      have HS2 := hide hs2
      have HBE := hide (hbest T HI.out HSUM.out)
      have HLE := hide (HGREAT.out T2 (List.nodup_iff_pairwise_ne.2 (hi2.1.imp fun q => by omega)) hi2.2 hs2)
      have hT2l : (castL T2).length = T2.length := by simp
      have hT2c : T2.length ≤ 1000 := by have := HLE.out; omega
      rw [hT2l] at HO4 ⊢
      have HZW := hide (SlAt.below (Own.at_ (enc := encI) (sz := 1) (fun _ => rfl) (show OwnI w4 _ (.slice A8 (castL T2).length c8) (castL T2) by rw [show (castL T2).length = T2.length by simp]; exact HO4.out)) B46.out)
      have HCZ := hide (lawsb10Chosen A1 A8 c1 c8 xs T2 w6 (HAW.out w6 B4W.out) HZW.out hxl hT2c HI2.out)
      clear hi2 hs2 hbest ef HR4 hT2l
      go_wp2_with fail
      refine HCZ.out.mono ?_
      rintro e w8 ⟨A9, c9, rfl, ho9, hb9⟩
      have hz9 := hb9.size
      have B9 := hide (B46.out.trans (hb9.mono B46.out.size))
      have B49 := hide (B4.out.trans (B9.out.mono hz24))
      have HA9 := hide (Own.at_ (enc := encSwing) (sz := 3) (fun _ => rfl) ho9)
      have hsl2 := selS_len xs T2
      have HB8X := hide hb9
      clear ho9 hb9 HCZ
      have HP9 := implIsPermitted_sel (A := A9) (c := c9) w8 hmx HA9.out HSM.out hT2c HV.out.1 HV.out.2 HI2.out (b := true) (by simpa using HS2.out)
      rw [hsl2] at HP9 ⊢
      have HPI := hide HP9
      clear HP9
      obtain ⟨t0, t1, t2, t3, t4⟩ := HTW.out _ B49.out
      have HFF := hide (fun (l : List Nat) (hl : IncN xs.length l) => (show ∀ x ∈ selS xs l, 0 ≤ x.force ∧ x.force ≤ 1000000 from fun x hx => by
        have := vSwing_true _ _ _ ((rowsB_true (rows_sel HV.out.2 hl)).1 x hx)
        omega))
      have HF1 := hide (fun (W : World) (h : Below w8.heap.size w8 W) => (show Calls Try.prog 49 #[.slice A9 T2.length c9] W fun e w' => e = .returned (.int .i64 (Pm.sumA (frcs xs) T2)) ∧ W = w' from by
        have q := lawsb10Force A9 c9 (selS xs T2) W (HA9.out.below h) (by rw [selS_len]; omega) (HFF.out T2 HI2.out)
        rw [sumF_sel HI2.out.2, selS_len] at q
        exact q))
      have HF2 := hide (fun (W : World) (h : Below w5.heap.size w5 W) => (show Calls Try.prog 49 #[.slice A5 T.length c5] W fun e w' => e = .returned (.int .i64 (Pm.sumA (frcs xs) T)) ∧ W = w' from by
        have q := lawsb10Force A5 c5 (selS xs T) W (HA5.out.below h) (by rw [selS_len]; omega) (HFF.out T HI.out)
        rw [sumF_sel HI.out.2, selS_len] at q
        exact q))
      have dn2 : ((T2.length : Int) != (T2.length : Int)) = false := by simp
      have df : decide (Pm.sumA (frcs xs) T2 < Pm.sumA (frcs xs) T) = false := by have := HBE.out; simp; omega
      have dl : decide (T2.length ≤ T.length) = true := by have := HLE.out; simp; omega
      generalize Pm.sumA (frcs xs) T2 = f2 at *
      generalize Pm.sumA (frcs xs) T = f1 at *
      have df2 : (f2 != f2) = false := by simp
      have B59 := hide (B56.out.trans (HB8X.out.mono B56.out.size))
      go_wp2_with (first | (go_at_call 47; refine HPI.out.mono ?_; rintro e w10 ⟨rfl, hb10⟩) | (go_at_call 49; with_reducible refine (HF1.out _ hb10).mono ?_; rintro e wz ⟨rfl, rfl⟩) | (go_at_call 49; with_reducible refine (HF2.out _ (B59.out.trans (hb10.mono B59.out.size))).mono ?_; rintro e wz ⟨rfl, rfl⟩))
      go_ret
      exact ⟨rfl, HBW.out _ (B49.out.trans (hb10.mono (by have := B49.out.size; omega)))⟩
end Go.Proofs.Ytjklhacffdhgaaa
