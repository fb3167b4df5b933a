/- What laws.FnPermitted calls beside the two searches: the draw, the chosen swings, a further place, the sum of forces. -/
import Derived.Test.YtjklhacffdhgaaaPmT
import Derived.Test.YtjklhacffdhgaaaDrawSw
import Derived.Deep.AppendLies
import Derived.Deep.RegionLaw
namespace Go.Proofs.Ytjklhacffdhgaaa
open Go.RowKit

set_option maxRecDepth 100000 in
theorem specl16DrawBudget (B b N : Nat) (w : World) (h : Src w B b N) (hN : N ≤ 1000) :
    Calls Try.prog 115 #[.pointer (some ⟨b, 0, none⟩)] w fun e w' => ∃ r : Int, e = .returned (.int .i64 r) ∧ Src w' B b (N + 4) ∧ Below B w w' ∧ w.grownBy w' (some b) := by
  have HS := hide h
  have hB : B ≤ w.heap.size := by have := h.lt; have := h.1; omega
  clear h
  go_enter Try.func115, Try.ntmps115
  go_wp2_with fail
  refine (srcOne B b N 6 _ HS.out (by omega) (by omega)).mono ?_
  rintro e w1 ⟨d, rfl, hS1, hb1, hg1⟩
  have HS1 := hide hS1
  have HB1 := hide hb1
  have HG1 := hide hg1
  have hz1 := hb1.size
  clear hS1 hb1 hg1 HS
  cases d
  · go_wp2_with fail
    refine (srcPick B b (N + 2) 300 _ HS1.out (by omega) (by omega)).mono ?_
    rintro e w2 ⟨r, rfl, r0, r1, hS2, hb2, hg2⟩
    have H2 := hide (And.intro hS2 (And.intro hb2 hg2))
    have r2 := r1 (by omega)
    clear hS2 hb2 hg2 r1
    go_wp2_with fail
    go_ret
    exact ⟨_, rfl, H2.out.1, HB1.out.trans H2.out.2.1, grown_trans HG1.out H2.out.2.2⟩
  · go_wp2_with fail
    have HA := hide (show Src (w1.alloc (.cells #[.int .i64 0, .int .i64 1, .int .i64 4, .int .i64 20000, .int .i64 20001] 2)) B b (N + 2) from HS1.out.below (by repeat (first | with_reducible exact Below.refl _ _ | with_reducible assumption | (with_reducible refine Below.drew ?_) | (with_reducible refine below_drewN ?_ _) | ((with_reducible refine Below.alloc ?_ ?_ _); rotate_left; (focus (first | omega | (simp; omega) | simp))) | ((with_reducible refine Below.setCell ?_ ?_ _); rotate_left; (focus (first | omega | (simp; omega) | simp))) | (refine Below.trans ?_ (Below.mono (by assumption) (by first | omega | (simp; omega) | simp))))))
    have hlb : b < w1.heap.size := HS1.out.lt
    refine (srcamong B b (N + 2) (some ⟨w1.heap.size, 0, none⟩) _ [0, 1, 4, 20000, 20001] _ HA.out (by omega) ?_ ?_ (by decide) (by decide)).mono ?_
    · exact slat_new (enc := encI) (sz := 1) (fun _ => rfl) w1 [0, 1, 4, 20000, 20001] #[.int .i64 0, .int .i64 1, .int .i64 4, .int .i64 20000, .int .i64 20001] 2 rfl
    · intro b2 off e
      injection e with e; injection e with e _; omega
    rintro e w2 ⟨x, rfl, -, hS2, hb2, hg2⟩
    have H2 := hide (And.intro hS2 (And.intro (show Below B w w2 from (HB1.out.alloc (by omega) _).trans hb2) (show w.grownBy w2 (some b) from grown_trans (grown_alloc HG1.out _) hg2)))
    clear hS2 hb2 hg2
    go_wp2_with fail
    go_ret
    exact ⟨_, rfl, H2.out.1, H2.out.2.1, H2.out.2.2⟩
set_option maxRecDepth 100000 in
theorem lawsb10Force (A : Option Addr) (c : Nat) (xs : List SwingR) (w : World) (h : SlAt encSwing 3 w A xs) (hn : xs.length ≤ 1000) (hv : ∀ x ∈ xs, 0 ≤ x.force ∧ x.force ≤ 1000000) :
    Calls Try.prog 49 #[.slice A xs.length c] w fun e w' => e = .returned (.int .i64 (Pu.sumF (frcs xs))) ∧ w = w' := by
  have HX := hide h
  have HV := hide hv
  clear h hv
  go_enter Try.func49, Try.ntmps49
  go_wp2_with fail
  go_loop [4, 3] (fun v t => ∃ (k : Nat) (s : Int), v = .int .i64 k ∧ t = .int .i64 s ∧ k ≤ xs.length ∧ 0 ≤ s ∧ s ≤ 1000000 * k ∧ Hid (s + Pu.sumF (frcs (xs.drop k)) = Pu.sumF (frcs xs))) (fun v _ => xs.length - (intOf v).toNat)
  case atStart => exact ⟨0, 0, rfl, rfl, by omega, by omega, by omega, hide (by simp)⟩
  case round =>
    obtain ⟨k, s, rfl, rfl, hk, s0, s1, hs⟩ := hrel
    by_cases hlt : k < xs.length
    · obtain ⟨b, off, rfl, hbl, hc⟩ := HX.out k hlt
      have hc2 := hc 2 _ rfl
      have hvk := HV.out xs[k] (List.getElem_mem hlt)
      have hd := List.drop_eq_getElem_cons hlt
      have HS2 := hide (show (s + xs[k].force) + Pu.sumF (frcs (xs.drop (k + 1))) = Pu.sumF (frcs xs) from by rw [← hs.out, hd]; simp only [frcs, List.map_cons, Pu.sumF]; omega)
      clear hc hd
      generalize xs[k] = x at *
      obtain ⟨x0, x1, x2⟩ := x
      simp only at hc2 hvk HS2
      go_wp2_with fail
      go_round
      case rel => exact ⟨k + 1, s + x2, by go_num, by go_num, by omega, by omega, by omega, HS2⟩
      case measure => simp [intOf]; omega
    · obtain rfl : k = xs.length := by omega
      have e := hs.out
      rw [List.drop_length] at e
      have e2 : s = Pu.sumF (frcs xs) := by rw [← e]; simp [frcs, Pu.sumF]
      have HE := hide e2
      clear e e2
      go_wp2_with fail
      go_ret
      exact ⟨by rw [← HE.out]; rfl, rfl⟩
set_option maxRecDepth 100000 in
/-- A further place among rising ones. -/
theorem lawsb10With (A : Option Addr) (c : Nat) (l : List Int) (x : Int) (w : World) (h : SlAt encI 1 w A l) (hl : l.length ≤ 1000) (hp : l.Pairwise (· < ·)) :
    Calls Try.prog 48 #[.slice A l.length c, .int .i64 x] w (CopyI (Mo.put x l) w) := by
  have HX := hide h
  have HPW := hide hp
  clear h hp
  go_enter Try.func48, Try.ntmps48
  go_wp2_with fail
  go_loopw [7, 6, 5] (fun v d t wr => ∃ (i : Nat) (b : Bool) (A' : Option Addr) (c' : Nat) (ys : List Int), v = .int .i64 i ∧ d = .bool b ∧ t = .slice A' ys.length c' ∧ i ≤ l.length ∧ ys.length ≤ i + b.toNat ∧ Hid (OwnI wr w.heap.size (.slice A' ys.length c') ys) ∧ Hid (Below w.heap.size w wr) ∧ Hid (Mo.put x l = ys ++ if b then l.drop i else Mo.put x (l.drop i)) ∧ Hid (b = true → ∀ y ∈ l.drop i, x < y)) (fun v _ _ _ => l.length - (intOf v).toNat)
  case atStart => exact ⟨0, false, some ⟨w.heap.size, 0, none⟩, 0, [], rfl, rfl, rfl, by omega, by simp, hide (own_made w rfl (Nat.le_refl _)), hide ((Below.refl _ _).alloc (Nat.le_refl _) _), hide (by simp), hide (fun h => by cases h)⟩
  case round =>
    obtain ⟨i, b, A', c', ys, rfl, rfl, rfl, hi, hyl, HO, HB, HF, HQ⟩ := hrel
    have hz := HB.out.size
    by_cases hlt : i < l.length
    · obtain ⟨bl, ol, rfl, hbl, hc⟩ := HX.out.below HB.out i hlt
      have hbl0 : bl < w.heap.size := by
        obtain ⟨b2, o2, e2, hb2, _⟩ := HX.out i hlt
        injection e2 with e2
        injection e2 with e2
        omega
      have y0 := hc 0 _ rfl
      simp only [Nat.add_zero, Nat.mul_one] at y0
      have hp := put_at (x := x) hlt
      have hd := List.drop_eq_getElem_cons hlt
      have hgt : ∀ y ∈ l.drop (i + 1), l[i] < y := fun y hy => by
        have q := HPW.out.sublist (List.drop_sublist i l)
        rw [hd] at q
        exact (List.pairwise_cons.1 q).1 y hy
      have HP := hide hp
      have HD := hide hd
      have HGT := hide hgt
      have hq := HQ.out
      rw [hd] at hq
      have HQ2 := hide hq
      clear hc hp hd hgt hq
      generalize l[i] = y at *
      have ho := HO.out
      cases b <;> simp only [Bool.toNat_false, Bool.toNat_true] at hyl
      · by_cases h1 : y < x
        · have HF2 : Hid (Mo.put x l = (ys ++ [y]) ++ if false = true then l.drop (i + 1) else Mo.put x (l.drop (i + 1))) := hide (by rw [HF.out]; simp [HP.out, h1])
          have dq : decide (x ≤ y) = false := by simp; omega
          have dn : (y != x) = true := by simp; omega
          go_wp2_with (at_builtin; refine wpList_appI rfl _ _ rfl w.heap.size rfl ho rfl (by omega) ?_ ?_; (focus omega); intro A1 c1 w1 ho1 hb1 _hg1)
          go_roundw
          case rel => exact ⟨i + 1, false, A1, c1, ys ++ [y], by go_num, rfl, by simp, by omega, by simp; omega, by simpa using hide ho1, hide (HB.out.trans hb1), HF2, hide (fun h => by cases h)⟩
          case measure => simp [intOf]; omega
        · have dq : decide (x ≤ y) = true := by simp; omega
          by_cases h2 : x < y
          · have HF2 : Hid (Mo.put x l = (ys ++ [x] ++ [y]) ++ if true = true then l.drop (i + 1) else Mo.put x (l.drop (i + 1))) := hide (by rw [HF.out]; simp [HP.out, h1, h2])
            have HQ3 := hide (show (true = true → ∀ z ∈ l.drop (i + 1), x < z) from fun _ z hz => by have := HGT.out z hz; omega)
            have dn : (y != x) = true := by simp; omega
            go_wp2_with (at_builtin; first | (refine wpList_appI rfl _ _ rfl w.heap.size rfl ho1 rfl (by simp; omega) ?_ ?_; (focus omega); intro A2 c2 w2 ho2 hb2 _hg2) | (refine wpList_appI rfl _ _ rfl w.heap.size rfl ho rfl (by omega) ?_ ?_; (focus omega); intro A1 c1 w1 ho1' hb1 _hg1; have ho1 : OwnI w1 w.heap.size (.slice A1 (ys.length + 1) c1) (ys ++ [x]) := ho1'; have y1 := (hb1.cell (p := ⟨bl, ol + i, none⟩) hbl0).trans y0; have hz1 := hb1.size))
            go_roundw
            case rel => exact ⟨i + 1, true, A2, c2, ys ++ [x] ++ [y], by go_num, rfl, by simp, by omega, by simp; omega, by simpa using hide ho2, hide ((HB.out.trans hb1).trans hb2), HF2, HQ3⟩
            case measure => simp [intOf]; omega
          · obtain rfl : x = y := by omega
            have HF2 : Hid (Mo.put x l = (ys ++ [x]) ++ if true = true then l.drop (i + 1) else Mo.put x (l.drop (i + 1))) := hide (by rw [HF.out]; simp [HP.out])
            have HQ3 := hide (show (true = true → ∀ z ∈ l.drop (i + 1), x < z) from fun _ z hz => by have := HGT.out z hz; omega)
            clear h1 h2
            go_wp2_with (at_builtin; refine wpList_appI rfl _ _ rfl w.heap.size rfl ho rfl (by omega) ?_ ?_; (focus omega); intro A1 c1 w1 ho1 hb1 _hg1; have y1 := (hb1.cell (p := ⟨bl, ol + i, none⟩) hbl0).trans y0)
            go_roundw
            case rel => exact ⟨i + 1, true, A1, c1, ys ++ [x], by go_num, rfl, by simp, by omega, by simp; omega, by simpa using hide ho1, hide (HB.out.trans hb1), HF2, HQ3⟩
            case measure => simp [intOf]; omega
      · have HF2 : Hid (Mo.put x l = (ys ++ [y]) ++ if true = true then l.drop (i + 1) else Mo.put x (l.drop (i + 1))) := hide (by rw [HF.out]; simp [HD.out])
        have hxy : x < y := HQ2.out rfl y (by simp)
        have dn : (y != x) = true := by simp; omega
        have HQ3 := hide (show (true = true → ∀ z ∈ l.drop (i + 1), x < z) from fun _ z hz => HQ2.out rfl z (by simp [hz]))
        go_wp2_with (at_builtin; refine wpList_appI rfl _ _ rfl w.heap.size rfl ho rfl (by omega) ?_ ?_; (focus omega); intro A1 c1 w1 ho1 hb1 _hg1)
        go_roundw
        case rel => exact ⟨i + 1, true, A1, c1, ys ++ [y], by go_num, rfl, by simp, by omega, by simp; omega, by simpa using hide ho1, hide (HB.out.trans hb1), HF2, HQ3⟩
        case measure => simp [intOf]; omega
    · obtain rfl : i = l.length := by omega
      have ho := HO.out
      cases b <;> simp only [Bool.toNat_false, Bool.toNat_true] at hyl
      · have hf : Mo.put x l = ys ++ [x] := by rw [HF.out]; simp [Mo.put]
        have HF2 := hide hf
        clear hf
        go_wp2_with (at_builtin; refine wpList_appI rfl _ _ rfl w.heap.size rfl ho rfl (by omega) ?_ ?_; (focus omega); intro A1 c1 w1 ho1 hb1 _hg1)
        go_ret
        exact ⟨A1, c1, by rw [HF2.out]; simp, by rw [HF2.out]; simpa using ho1, HB.out.trans hb1⟩
      · have hf : Mo.put x l = ys := by rw [HF.out]; simp
        have HF2 := hide hf
        clear hf
        go_wp2_with fail
        go_ret
        exact ⟨A', c', by rw [HF2.out]; rfl, by rw [HF2.out]; exact ho, HB.out⟩
theorem selS_take {xs : List SwingR} {l : List Nat} {k : Nat} (h : k < l.length) (hx : l[k] < xs.length) : selS xs (l.take (k + 1)) = selS xs (l.take k) ++ [xs[l[k]]] := by
  unfold selS
  rw [List.take_succ_eq_append_getElem h, List.map_append]
  simp [hx]
/-- A slice of swings of the call's own. -/
def CopySw (ys : List SwingR) (w : World) (e : Ending) (w' : World) : Prop := ∃ (A : Option Addr) (c : Nat), e = .returned (.slice A ys.length c) ∧ Own encSwing 3 77 w' w.heap.size (.slice A ys.length c) ys ∧ Below w.heap.size w w'
set_option maxRecDepth 100000 in
set_option maxHeartbeats 1000000 in
theorem lawsb10Chosen (A A2 : Option Addr) (c c2 : Nat) (xs : List SwingR) (l : List Nat) (w : World) (h : SlAt encSwing 3 w A xs) (h2 : SlAt encI 1 w A2 (castL l)) (_hn : xs.length ≤ 1000) (hl : l.length ≤ 1000) (hi : IncN xs.length l) :
    Calls Try.prog 46 #[.slice A xs.length c, .slice A2 l.length c2] w (CopySw (selS xs l) w) := by
  have HX := hide h
  have H2 := hide h2
  have HI := hide hi
  clear h h2 hi
  go_enter Try.func46, Try.ntmps46
  go_wp2_with fail
  go_loopw [6, 5] (fun v t wr => ∃ (k : Nat) (A' : Option Addr) (c' : Nat) (ys : List SwingR), v = .int .i64 k ∧ t = .slice A' ys.length c' ∧ k ≤ l.length ∧ ys.length ≤ k ∧ Hid (ys = selS xs (l.take k)) ∧ Hid (Own encSwing 3 77 wr w.heap.size (.slice A' ys.length c') ys) ∧ Hid (Below w.heap.size w wr)) (fun v _ _ => l.length - (intOf v).toNat)
  case atStart => exact ⟨0, some ⟨w.heap.size, 0, none⟩, 0, [], rfl, rfl, by omega, by simp, hide (by simp [selS]), hide (own_made w rfl (Nat.le_refl _)), hide ((Below.refl _ _).alloc (Nat.le_refl _) _)⟩
  case round =>
    obtain ⟨k, A', c', ys, rfl, rfl, hk, hyl, HY, HO, HB⟩ := hrel
    have hz := HB.out.size
    by_cases hlt : k < l.length
    · obtain ⟨bl, ol, eA2, hbl, hc⟩ := H2.out.below HB.out k (by simpa using hlt)
      subst eA2
      have y0 := hc 0 _ rfl
      simp only [Nat.add_zero, Nat.mul_one] at y0
      have hck : (castL l)[k]'(by simpa using hlt) = ((l[k] : Nat) : Int) := by simp [castL]
      rw [hck] at y0
      have hxl := HI.out.2 l[k] (List.getElem_mem hlt)
      obtain ⟨bx, ox, eA, hbx, hcx⟩ := HX.out.below HB.out l[k] hxl
      subst eA
      have x0 := hcx 0 _ rfl
      have x1 := hcx 1 _ rfl
      have x2 := hcx 2 _ rfl
      simp only [Nat.add_zero] at x0
      have HT := hide (selS_take hlt hxl)
      have HPV := hide (show ∀ h : 0 < k, wr.cell? ⟨bl, ol + (k - 1), none⟩ = some (.int .i64 ((l[k - 1]'(by omega) : Nat) : Int)) ∧ l[k - 1]'(by omega) < l[k] from fun h => by
        obtain ⟨b3, o3, e3, _, hc3⟩ := H2.out.below HB.out (k - 1) (by simp; omega)
        injection e3 with e3
        injection e3 with e3 e4
        subst e3
        subst e4
        have q := hc3 0 _ rfl
        simp only [Nat.add_zero, Nat.mul_one] at q
        have hck2 : (castL l)[k - 1]'(by simp; omega) = ((l[k - 1]'(by omega) : Nat) : Int) := by simp [castL]
        rw [hck2] at q
        exact ⟨q, List.pairwise_iff_getElem.1 HI.out.1 (k - 1) k (by omega) hlt (by omega)⟩)
      clear hc hck hcx
      have HXK := hide (rfl : xs[l[k]] = xs[l[k]])
      generalize hxk : xs[l[k]] = x at *
      clear hxk HXK
      generalize l[k] = m at *
      obtain ⟨n0, n1, n2⟩ := x
      simp only at x0 x1 x2
      have dm : decide ((m : Int) < (xs.length : Int)) = true := by simp; omega
      have d0 : decide ((0 : Int) ≤ (m : Int)) = true := by simp
      match k with
      | 0 =>
        have HYL := hide (show ys.length = 0 by omega)
        simp only [Nat.add_zero] at y0
        have hl0 : (0 : Int) < (l.length : Int) := by omega
        go_wp2_with fail
        refine wp_region_kept (by kernel_rfl) (by kernel_rfl) ?_
        intro gc gf gz
        repeat (go_big_quiet_step (fail))
        refine wpQuiet_nil ?_
        intro w5 hw'
        obtain ⟨⟨_, hb5⟩, rfl⟩ := hw'
        clear gc gf gz
        try dsimp only
        have fs5 := hb5.size
        try simp at fs5 hb5
        have q0 := (hb5.cell (p := ⟨bl, ol, none⟩) hbl).trans y0
        have z0 := (hb5.cell (p := ⟨bx, ox + m * 3, none⟩) hbx).trans x0
        have z1 := (hb5.cell (p := ⟨bx, ox + m * 3 + 1, none⟩) hbx).trans x1
        have z2 := (hb5.cell (p := ⟨bx, ox + m * 3 + 2, none⟩) hbx).trans x2
        have HO5 := hide (HO.out.below hb5)
        have HB5 := hide (HB.out.trans (hb5.mono hz))
        have hz5 := HB5.out.size
        clear hb5 y0 x0 x1 x2
        go_wp2_with (at_builtin; go_loud (refine wpList_appSwing rfl _ _ rfl w.heap.size rfl HO5.out rfl (by omega) ?_ ?_; (focus omega); intro A1 c1 w6 ho6 hb6 _hg6))
        go_roundw
        case rel => exact ⟨0 + 1, A1, c1, ys ++ [⟨n0, n1, n2⟩], by go_num, by simp, by omega, by rw [List.length_append, HYL.out]; simp, hide (by rw [HT.out, ← HY.out]), by simpa using hide ho6, hide (HB5.out.trans hb6)⟩
        case measure => simp [intOf]; omega
      | k + 1 =>
        have hpv := HPV.out (by omega)
        simp only [Nat.add_sub_cancel] at hpv
        obtain ⟨yp, hpl⟩ := hpv
        generalize l[k]'(by omega) = mp at *
        have dp : decide ((mp : Int) < (m : Int)) = true := by simp; omega
        have hl1 : (k : Int) + 1 < (l.length : Int) := by omega
        have dk : ((k : Int) + 1 == 0) = false := by simp; omega
        have kS : IntKind.i64.wrap ((k : Int) + 1 - 1) = (k : Int) := by rw [show (k : Int) + 1 - 1 = (k : Int) by omega]; exact IntWalk.i64_in _ (by omega)
        go_wp2_with fail
        refine wp_region_kept (by kernel_rfl) (by kernel_rfl) ?_
        intro gc gf gz
        repeat (go_big_quiet_step (fail))
        refine wpQuiet_nil ?_
        intro w5 hw'
        obtain ⟨⟨_, hb5⟩, rfl⟩ := hw'
        clear gc gf gz
        try dsimp only
        have fs5 := hb5.size
        try simp at fs5 hb5
        have q0 := (hb5.cell (p := ⟨bl, ol + (k + 1), none⟩) hbl).trans y0
        have z0 := (hb5.cell (p := ⟨bx, ox + m * 3, none⟩) hbx).trans x0
        have z1 := (hb5.cell (p := ⟨bx, ox + m * 3 + 1, none⟩) hbx).trans x1
        have z2 := (hb5.cell (p := ⟨bx, ox + m * 3 + 2, none⟩) hbx).trans x2
        have HO5 := hide (HO.out.below hb5)
        have HB5 := hide (HB.out.trans (hb5.mono hz))
        have hz5 := HB5.out.size
        clear hb5 y0 x0 x1 x2 yp
        go_wp2_with (at_builtin; go_loud (refine wpList_appSwing rfl _ _ rfl w.heap.size rfl HO5.out rfl (by omega) ?_ ?_; (focus omega); intro A1 c1 w6 ho6 hb6 _hg6))
        go_roundw
        case rel => exact ⟨(k + 1) + 1, A1, c1, ys ++ [⟨n0, n1, n2⟩], by go_num, by simp, by omega, by simp; omega, hide (by rw [HT.out, ← HY.out]), by simpa using hide ho6, hide (HB5.out.trans hb6)⟩
        case measure => simp [intOf]; omega
    · obtain rfl : k = l.length := by omega
      have e := HY.out
      rw [List.take_length] at e
      have HE := hide e
      have ho := HO.out
      clear e
      go_wp2_with fail
      go_ret
      exact ⟨A', c', by rw [← HE.out]; rfl, by rw [← HE.out]; exact ho, HB.out⟩
set_option maxRecDepth 100000 in
set_option maxHeartbeats 1000000 in
theorem specDrawGreatestForce (A : Option Addr) (n c : Nat) (w : World) (h : ByAt w w.heap.size A n) (hn : n ≤ 9223372036854775807) :
    Calls Try.prog 45 #[.slice A n c] w fun e w' => ∃ (nm : ByteArray) (a1 a2 a3 a4 : Int) (A' : Option Addr) (c' : Nat) (xs : List SwingR) (bud : Int), e = .returned (.tuple #[.agg #[.string nm, .int .i64 a1, .int .i64 a2, .int .i64 a3, .int .i64 a4], .slice A' xs.length c', .int .i64 bud]) ∧ nm.size ≤ 100 ∧ SlAt encSwing 3 w' A' xs ∧ xs.length ≤ 1000 ∧ Small xs ∧ Below w.heap.size w w' := by
  have HX := hide h
  clear h
  go_enter Try.func45, Try.ntmps45
  go_wp2_with fail
  refine (specl00From_at w.heap.size A n c _ (HX.out.alloc (Nat.le_refl _) _) hn (by simp)).mono ?_
  rintro e w1 ⟨rfl, hS1, hb1⟩
  have HR1 := hide (show w1.heap[w.heap.size]? = some (.cells #[.string ⟨#[]⟩, .int .i64 0, .int .i64 0, .int .i64 0, .int .i64 0] 56 (0, 0)) from (hb1.block w.heap.size (by simp)).trans (heap_alloc_new w _))
  have HS1 := hide (show Src w1 w.heap.size (w.heap.size + 1) 0 by simpa using hS1)
  have HB1 := hide (show Below w.heap.size w w1 from ((Below.refl _ _).alloc (Nat.le_refl _) _).trans (hb1.mono (by simp)))
  have hz1 := HS1.out.lt
  clear hS1 hb1
  go_wp2_with fail
  refine (specl22DrawTower w.heap.size (w.heap.size + 1) 0 _ HS1.out (by omega)).mono ?_
  rintro e w2 ⟨nm, a1, a2, a3, a4, rfl, hnm, hS2, hb2, hg2⟩
  have HR2 := hide ((hg2.block w.heap.size (by omega) (by simp)).trans HR1.out)
  have HS2 := hide hS2
  have HB2 := hide (HB1.out.trans hb2)
  clear hS2 hb2 hg2 HR1 HS1 HB1
  go_wp2_with fail
  refine (specl22BendTower w.heap.size (w.heap.size + 1) 10 nm a1 a2 a3 a4 _ HS2.out (by omega) hnm).mono ?_
  rintro e w3 ⟨nm', b1, b2, b3, b4, rfl, hnm', hS3, hb3, hg3⟩
  have hz3 := hS3.lt
  have HR3 := hide ((hg3.block w.heap.size (by have := HS2.out.lt; omega) (by simp)).trans HR2.out)
  have HB3 := hide (HB2.out.trans hb3)
  have HD := hide (show DrawSt 56 w.heap.size (w.heap.size + 1) w.heap.size w3.heap.size #[.string ⟨#[]⟩, .int .i64 0, .int .i64 0, .int .i64 0, .int .i64 0] w (w3.alloc (.cells #[.string nm', .int .i64 b1, .int .i64 b2, .int .i64 b3, .int .i64 b4] 56)) 14 #[.string nm', .int .i64 b1, .int .i64 b2, .int .i64 b3, .int .i64 b4] from
    ⟨hS3.below (by repeat (first | with_reducible exact Below.refl _ _ | with_reducible assumption | (with_reducible refine Below.drew ?_) | (with_reducible refine below_drewN ?_ _) | ((with_reducible refine Below.alloc ?_ ?_ _); rotate_left; (focus (first | omega | (simp; omega) | simp))) | ((with_reducible refine Below.setCell ?_ ?_ _); rotate_left; (focus (first | omega | (simp; omega) | simp))) | (refine Below.trans ?_ (Below.mono (by assumption) (by first | omega | (simp; omega) | simp))))), HB3.out.alloc (by omega) _, (heap_alloc_old _ _ (by omega)).trans HR3.out, heap_alloc_new w3 _⟩)
  clear hS3 hb3 hg3 HR2 HS2 HB2 HR3 HB3 hnm hz1
  go_wp2_with fail
  generalize w3.alloc (.cells #[.string nm', .int .i64 b1, .int .i64 b2, .int .i64 b3, .int .i64 b4] 56) = w4 at HD ⊢
  have hRb0 : w.heap.size ≠ w.heap.size + 1 := by omega
  have hQb0 : w3.heap.size ≠ w.heap.size + 1 := by have := HD.out.src.lt; omega
  refine (specl22Draw w.heap.size (w.heap.size + 1) 14 _ HD.out.src (by omega)).mono ?_
  rintro e w5 ⟨A', c', xs, rfl, hA, hAg, hxl, hsm, hS, hb, hg⟩
  have HD5 := hide (HD.out.call hRb0 hQb0 hS hb hg)
  have HAX := hide (And.intro hA (And.intro hAg hsm))
  have HB4 := hide (show w.heap.size + 1 < w4.heap.size from HD.out.src.lt)
  clear HD hA hAg hsm hS hb hg
  go_wp2_with fail
  have hD := HD5.out.below (w' := w5.drew) (Below.refl _ _).drew
  have HDd := hide hD
  have e0 := hD.cell 0 _ rfl
  have e1 := hD.cell 1 _ rfl
  have e2 := hD.cell 2 _ rfl
  have e3 := hD.cell 3 _ rfl
  have e4 := hD.cell 4 _ rfl
  have t0 := hD.rcell 0 _ rfl
  have t1 := hD.rcell 1 _ rfl
  have t2 := hD.rcell 2 _ rfl
  have t3 := hD.rcell 3 _ rfl
  have t4 := hD.rcell 4 _ rfl
  have y0 := hD.rfroz 0
  have y1 := hD.rfroz 1
  have y2 := hD.rfroz 2
  have y3 := hD.rfroz 3
  have y4 := hD.rfroz 4
  have hQl : w3.heap.size < w5.drew.heap.size := heap_lt hD.q
  have hRb : w.heap.size ≠ w.heap.size + 1 := by omega
  have hRl : w.heap.size < w5.drew.heap.size := by omega
  have HS5 := hide (((((hD.src.setR (Nat.le_refl _) hRb 0 (.string nm')).setR (Nat.le_refl _) hRb 1 (.int .i64 b1)).setR (Nat.le_refl _) hRb 2 (.int .i64 b2)).setR (Nat.le_refl _) hRb 3 (.int .i64 b3)).setR (Nat.le_refl _) hRb 4 (.int .i64 b4))
  clear hD HD5
  go_region_law (first
    | (go_simp; go_at_call 115; refine (specl16DrawBudget w.heap.size (w.heap.size + 1) 114 _ (by first | exact HDd.out.src | exact HS5.out) (by omega)).mono ?_; rintro e w6 ⟨bud, rfl, _hS, hb, hg⟩; have fcQ := fun j => World.cell?_of_block (a := ⟨w3.heap.size, j, none⟩) (hg.block w3.heap.size (by first | exact hQl | simpa using hQl) (by simp; omega)); have fcR := fun j => World.cell?_of_block (a := ⟨w.heap.size, j, none⟩) (hg.block w.heap.size (by first | exact hRl | simpa using hRl) (by simp)); have ffR := fun j => World.frozen?_of_block (a := ⟨w.heap.size, j, none⟩) (hg.block w.heap.size (by first | exact hRl | simpa using hRl) (by simp))))
  all_goals
    go_wp2_with fail
    refine bodyPost_ret (v := .tuple #[.agg #[.string nm', .int .i64 b1, .int .i64 b2, .int .i64 b3, .int .i64 b4], .slice A' xs.length c', .int .i64 bud]) (by simp [results, Try.results45, go_sem, fcR, t0, t1, t2, t3, t4]) rfl ⟨nm', _, _, _, _, A', c', xs, bud, rfl, hnm', ?_, hxl, HAX.out.2.2, ?_⟩
    · have hl4 : w.heap.size + 1 < w4.heap.size := HB4.out
      have hA6 : SlAt encSwing 3 w6 A' xs := SlAt.grown (row := some (w.heap.size + 1)) (show SlAt encSwing 3 w5.drew A' xs from HAX.out.1) hg fun g o e q => by
        injection q with q
        have hq := HAX.out.2.1 g o e
        omega
      refine SlAt.grown (row := some w.heap.size) hA6 (by repeat (first | exact grown_refl _ _ | refine grown_set ?_ _ _)) fun g o e q => ?_
      injection q with q
      have hq := HAX.out.2.1 g o e
      omega
    · have hbel := HDd.out.bel
      exact (by repeat (first | with_reducible exact Below.refl _ _ | with_reducible assumption | (with_reducible refine Below.drew ?_) | (with_reducible refine below_drewN ?_ _) | ((with_reducible refine Below.alloc ?_ ?_ _); rotate_left; (focus (first | omega | (simp; omega) | simp))) | ((with_reducible refine Below.setCell ?_ ?_ _); rotate_left; (focus (first | omega | (simp; omega) | simp))) | (refine Below.trans ?_ (Below.mono (by assumption) (by first | omega | (simp; omega) | simp)))))
end Go.Proofs.Ytjklhacffdhgaaa
