/- The program's greedy schedule: where it answers, it is a schedule. -/
import Derived.Test.YtklmbgefdopifaaHtI
import Derived.Test.YtklmbgefdopifaaHtO
import Derived.Test.YtklmbgefdopifaaHtT
namespace Go.Proofs.Ytklmbgefdopifaa
open Go.RowKit

theorem own_apartK {α β : Type} {e1 : α → List Value} {e2 : β → List Value} {z1 z2 B1 B2 : Nat} {T1 T2 : TypeId} {w : World} {v1 v2 : Value} {xs : List α} {ys : List β} (h1 : Own e1 z1 T1 w B1 v1 xs) (h2 : Own e2 z2 T2 w B2 v2 ys) (hT : T1 ≠ T2) : v1.ownBlock = none ∨ v1.ownBlock ≠ v2.ownBlock := by
  rcases h1.2 with ⟨e, _⟩ | ⟨g, cap, cur, e, _, hc, _⟩
  · left; rw [e]; rfl
  · right
    intro q
    rcases h2.2 with ⟨e', _⟩ | ⟨g', cap', cur', e', _, hc', _⟩
    · rw [e, e'] at q; cases q
    · rw [e, e'] at q
      injection q with q
      have q : g = g' := q
      subst q
      rw [hc] at hc'
      injection hc' with hc'
      injection hc' with _ h3 _
      exact hT h3
/-- A heat's four cells are written. -/
theorem heat_set {w : World} {b : Nat} {u0 u1 u2 u3 : Value} {T : TypeId} (v0 v1 v2 v3 : Value) (h : w.heap[b]? = some (.cells #[u0, u1, u2, u3] T (0, 0))) : ((((w.setCell ⟨b, 0, none⟩ v0).setCell ⟨b, 1, none⟩ v1).setCell ⟨b, 2, none⟩ v2).setCell ⟨b, 3, none⟩ v3).heap[b]? = some (.cells #[v0, v1, v2, v3] T (0, 0)) := by
  have q := heap_set (j := 3) v3 (heap_set (j := 2) v2 (heap_set (j := 1) v1 (heap_set (j := 0) v0 h)))
  simpa using q
theorem heat_own {α : Type} {enc : α → List Value} {sz : Nat} {T : TypeId} {w : World} {b B : Nat} {v : Value} {xs : List α} (v0 v1 v2 v3 : Value) (h : Own enc sz T w B v xs) (hb : ∀ g, v.ownBlock = some g → g < b) : Own enc sz T ((((w.setCell ⟨b, 0, none⟩ v0).setCell ⟨b, 1, none⟩ v1).setCell ⟨b, 2, none⟩ v2).setCell ⟨b, 3, none⟩ v3) B v xs := by
  refine h.kept (grown_set (grown_set (grown_set (grown_set (grown_refl w (some b)) 0 v0) 1 v1) 2 v2) 3 v3) ?_
  cases e : v.ownBlock with
  | none => exact .inl rfl
  | some g => exact .inr fun q => by injection q with q; have := hb g e; omega
theorem heat_below {w w0 : World} {b B : Nat} (v0 v1 v2 v3 : Value) (h : Below B w0 w) (hb : B ≤ b) : Below B w0 ((((w.setCell ⟨b, 0, none⟩ v0).setCell ⟨b, 1, none⟩ v1).setCell ⟨b, 2, none⟩ v2).setCell ⟨b, 3, none⟩ v3) := (((h.setCell hb _).setCell hb _).setCell hb _).setCell hb _
theorem range_snoc (k : Nat) : ((List.range k).map fun i : Nat => (i : Int)) ++ [(k : Int)] = (List.range (k + 1)).map fun i : Nat => (i : Int) := by rw [List.range_succ, List.map_append]; rfl
set_option maxRecDepth 100000 in
set_option maxHeartbeats 8000000 in
theorem implGreedyHeats (A A1 : Option Addr) (c c1 : Nat) (ps : List PourR) (cs : List CrucR) (w : World) (h : SlAt encPour 4 w A ps) (k : SlAt encCruc 4 w A1 cs) (hr : rowsB vPourR PourR.nm 12 ps = true) (hd : okC cs = true) (hs : ∀ x ∈ ps, x.nm.size ≤ maxLen) (ht : ∀ x ∈ cs, x.nm.size ≤ maxLen) :
    Calls Try.prog 36 #[.slice A ps.length c, .slice A1 cs.length c1] w fun e w' => ∃ (A2 : Option Addr) (c2 : Nat) (hs : List HeatR) (code : Int), e = .returned (.tuple #[.slice A2 hs.length c2, .int .i64 code]) ∧ (code = 0 → Plan ps cs hs) ∧ hs.length ≤ 12 ∧ OwnH w' w.heap.size (.slice A2 hs.length c2) hs ∧ Below w.heap.size w w' := by
  obtain ⟨rv, rl⟩ := rowsB_okH hr
  obtain ⟨cv, cl, -⟩ := okC_true hd
  have HV := hide rv
  have HW := hide cv
  have HS0 := hide hs
  have HS1 := hide ht
  have HBQ := hide (fun (W : World) (g : Below (w.heap.size + 1) (w.alloc (.cells #[.slice A ps.length c] 45)) W) => (show W.cell? ⟨w.heap.size, 0, none⟩ = some (.slice A ps.length c) ∧ w.heap.size + 1 ≤ W.heap.size ∧ Below w.heap.size w W from by
    have z : (w.alloc (.cells #[.slice A ps.length c] 45)).heap.size = w.heap.size + 1 := by simp
    have q := (g.block w.heap.size (by omega)).trans (heap_alloc_new w (.cells #[.slice A ps.length c] 45))
    exact ⟨by simp [World.cell?, q], by have := g.size; omega, ((Below.refl _ _).alloc (Nat.le_refl _) _).trans (g.mono (by omega))⟩))
  have HXW := hide (fun (W : World) (g : Below (w.heap.size + 1) (w.alloc (.cells #[.slice A ps.length c] 45)) W) => (show SlAt encPour 4 W A ps ∧ SlAt encCruc 4 W A1 cs from ⟨h.below (HBQ.out W g).2.2, k.below (HBQ.out W g).2.2⟩))
  have B0 := hide (Below.refl (w.heap.size + 1) (w.alloc (.cells #[.slice A ps.length c] 45)))
  have hcv : ∀ W : World, SlAt encCruc 4 W A1 cs → Calls Try.prog 69 #[.slice A1 cs.length c1] W fun e w' => e = .returned (.bool true) ∧ Below W.heap.size W w' := fun W g => by rw [← hd]; exact implValidCrucibles A1 c1 cs W g (by omega) ht
  have hpv : ∀ W : World, SlAt encPour 4 W A ps → Calls Try.prog 68 #[.slice A ps.length c] W fun e w' => e = .returned (.bool true) ∧ Below W.heap.size W w' := fun W g => by rw [← hr]; exact implValidPours A c ps W g (by omega) hs
  have HCV := hide hcv
  have HPV := hide hpv
  clear h k hs ht rv cv hcv hpv hr hd
  go_enter Try.func36, Try.ntmps36
  go_wp2_with fail
  refine (HPV.out _ (HXW.out _ B0.out).1).mono ?_
  rintro e w1 ⟨rfl, hb1⟩
  generalize hW0 : w.alloc (.cells #[.slice A ps.length c] 45) = W0 at *
  have hz0 : W0.heap.size = w.heap.size + 1 := by rw [← hW0]; simp
  have B1 := hide (B0.out.trans (hb1.mono (by omega)))
  clear hb1 B0 HPV hW0
  go_wp2_with fail
  refine (HCV.out _ (HXW.out _ B1.out).2).mono ?_
  rintro e w2 ⟨rfl, hb2⟩
  have B2 := hide (B1.out.trans (hb2.mono (HBQ.out _ B1.out).2.1))
  clear hb2 B1 HCV
  obtain ⟨g0, hz2, -⟩ := HBQ.out _ B2.out
  go_wp2_with fail
  clear g0
  go_loopw [26, 6] (fun v a wr => ∃ (i : Nat) (A2 : Option Addr) (c2 : Nat), v = .int .i64 i ∧ a = .slice A2 i c2 ∧ i ≤ ps.length ∧ Hid (OwnI wr (w.heap.size + 1) (.slice A2 i c2) ((List.range i).map fun i : Nat => (i : Int))) ∧ Hid (Below (w.heap.size + 1) W0 wr)) (fun v _ _ => ps.length - (intOf v).toNat)
  case atStart => exact ⟨0, none, 0, rfl, rfl, by omega, hide (by simpa using Own.nil), B2⟩
  case round =>
    clear B2
    obtain ⟨i, A2, c2, rfl, rfl, hi, HO, HB⟩ := hrel
    obtain ⟨g0, hzr, -⟩ := HBQ.out _ HB.out
    by_cases hlt : i < ps.length
    · have hll : ((List.range i).map fun i : Nat => (i : Int)).length = i := by simp
      have hsn := range_snoc i
      generalize ((List.range i).map fun i : Nat => (i : Int)) = ys at *
      have HSN := hide hsn
      have HLL := hide hll
      have HO2 : Hid (OwnI wr (w.heap.size + 1) (.slice A2 ys.length c2) ys) := hide (by rw [hll]; exact HO.out)
      clear hsn HO g0
      go_wp2_with (at_builtin; refine wpList_appI rfl _ _ rfl (w.heap.size + 1) (by rw [HLL.out]; rfl) HO2.out rfl (by omega) ?_ ?_; (focus (exact hzr)); intro A3 c3 w3 ho3 hb3 _hg3; have HO3 := hide ho3; have HB3 := hide hb3; clear ho3 hb3)
      go_roundw
      case rel => exact ⟨i + 1, A3, c3, by go_num, by first | rfl | rw [HLL.out], by omega, hide (by have q := HO3.out; rw [HLL.out, HSN.out] at q; exact q), hide (HB.out.trans HB3.out)⟩
      case measure => simp [intOf]; omega
    · obtain rfl : i = ps.length := by omega
      obtain ⟨w3, rfl⟩ : ∃ w3, w3 = wr := ⟨_, rfl⟩
      have hcl := fun (W : World) (i j : Nat) (g : Below (w.heap.size + 1) w3 W) (hi : i < ps.length) (hj : j < ps.length) => greedy1 ps A c w.heap.size i j W (HXW.out _ (HB.out.trans g)).1 (HBQ.out _ (HB.out.trans g)).1 hi hj
      have hsort := sortStable (w.heap.size + 1) w.heap.size ps ps.length A2 c2 _ w3 HO.out (List.Perm.refl _) rl hcl hzr
      have HST := hide hsort
      clear hcl hsort g0 HO hi hlt
      go_wp2_with fail
      refine HST.out.mono ?_
      rintro e w4 ⟨rfl, ys, ho4, hp4, hb4⟩
      have HO4 := hide ho4
      have HP4 := hide hp4
      have B4 := hide (HB.out.trans hb4)
      clear ho4 hp4 hb4 HST HB
      go_wp2_with fail
      go_loopw [39, 8] (fun v a wr => ∃ (i : Nat) (A8 : Option Addr) (c8 : Nat) (hs : List HeatR), v = .int .i64 i ∧ a = .slice A8 hs.length c8 ∧ i ≤ ps.length ∧ hs.length = i ∧ Hid (OwnH wr (w.heap.size + 1) (.slice A8 hs.length c8) hs) ∧ Hid (Ht.Path (Ht.nx ps cs) ps.length cs.length hs) ∧ Hid (Ht.GoodH ps cs hs) ∧ Hid (∀ x : Int, Ht.hasP hs x = decide (x ∈ ys.take i)) ∧ Hid (OwnI wr (w.heap.size + 1) (.slice A2 ps.length c2) ys) ∧ Hid (Below (w.heap.size + 1) W0 wr)) (fun v _ _ => ps.length - (intOf v).toNat)
      case atStart => exact ⟨0, none, 0, [], rfl, rfl, by omega, rfl, hide Own.nil, hide Ht.path_nil, hide (by intro x hx; simp at hx), hide (by intro x; simp [Ht.hasP]), HO4, B4⟩
      case round =>
        clear HO4 B4
        obtain ⟨i, A8, c8, hs, rfl, rfl, hi, hlen, HO, HPA, HG, HH, HY, HB⟩ := hrel
        have hl8 : hs.length ≤ 12 := by omega
        replace hlen := hide hlen
        obtain ⟨wo, rfl⟩ : ∃ wo, wo = wr := ⟨_, rfl⟩
        obtain ⟨g0, hzo, -⟩ := HBQ.out _ HB.out
        by_cases hlt : i < ps.length
        · have hyl := HP4.out.len
          obtain ⟨go, rfl, -, hgol, e0, -⟩ := own_get1 (f := Value.int .i64) (fun _ => rfl) HY.out (show i < ys.length by omega)
          obtain ⟨kk, hk, hkn⟩ := HP4.out.mem (List.getElem_mem (show i < ys.length by omega))
          rw [hk] at e0
          have htk := List.take_succ_eq_append_getElem (show i < ys.length by omega)
          rw [hk] at htk
          have hnd : Ht.hasP hs kk = false := by
            rw [HH.out kk]
            have hnn := HP4.out.nodup
            rw [← List.take_append_drop (i + 1) ys, htk] at hnn
            have q := (List.nodup_append.1 (List.nodup_append.1 hnn).1).2.2
            have hne : (kk : Int) ∉ ys.take i := fun hm => (q _ hm _ (by simp)) rfl
            simpa using hne
          have HND := hide hnd
          have HTK := hide htk
          have HLT8 := hide (fun g e => (HO.out.lt g e).2)
          have HLTY := hide (fun g e => (HY.out.lt g e).2)
          have hmB := hide (heap_alloc_new wo (.cells #[.int .i64 0, .int .i64 0, .int .i64 0, .int .i64 (-1)] 110))
          have HOa := hide (HO.out.below (w' := wo.alloc (.cells #[.int .i64 0, .int .i64 0, .int .i64 0, .int .i64 (-1)] 110)) ((Below.refl _ _).alloc (Nat.le_refl _) _))
          have HYa := hide (HY.out.below (w' := wo.alloc (.cells #[.int .i64 0, .int .i64 0, .int .i64 0, .int .i64 (-1)] 110)) ((Below.refl _ _).alloc (Nat.le_refl _) _))
          have HBa := hide (HB.out.alloc hzo (.cells #[.int .i64 0, .int .i64 0, .int .i64 0, .int .i64 (-1)] 110))
          clear hnd htk hk hyl HO HY HB
          go_wp2_with (go_at_call 73; refine (sizeCrucible _ _ _ _).mono ?_; rintro e w5 ⟨rfl, rfl⟩)
          generalize hwa : wo.alloc (.cells #[.int .i64 0, .int .i64 0, .int .i64 0, .int .i64 (-1)] 110) = wa at *
          generalize hbB : wo.heap.size = bB at *
          clear hwa hbB g0 hgol e0
          go_loopw [46] (fun v wr => ∃ (q : Nat) (b0 b1 b2 be : Int), v = .int .i64 q ∧ q ≤ cs.length ∧ Hid (wr.heap[bB]? = some (.cells #[.int .i64 b0, .int .i64 b1, .int .i64 b2, .int .i64 be] 110 (0, 0))) ∧ Hid (OwnH wr (w.heap.size + 1) (.slice A8 hs.length c8) hs) ∧ Hid (OwnI wr (w.heap.size + 1) (.slice (some ⟨go, 0, none⟩) ps.length c2) ys) ∧ Hid (Below (w.heap.size + 1) W0 wr) ∧ Hid (be = -1 ∨ (0 ≤ be ∧ ∃ cc : Nat, cc < cs.length ∧ b0 = kk ∧ b1 = cc ∧ (Ht.ck cs cc).fr ≤ be ∧ be ≤ 10000 ∧ Ht.nx ps cs kk cc hs = (b2, be, 0)))) (fun v _ => cs.length - (intOf v).toNat)
          case atStart => exact ⟨0, 0, 0, 0, -1, rfl, by omega, hmB, HOa, HYa, HBa, hide (.inl rfl)⟩
          case round =>
            clear hmB HOa HYa HBa
            obtain ⟨q, b0, b1, b2, be, rfl, hq, HM, HO, HY, HB, HE⟩ := hrel
            obtain ⟨g0, hzr, -⟩ := HBQ.out _ HB.out
            have hm := HM.out
            have hbr : bB < wr.heap.size := (Array.getElem?_eq_some_iff.1 hm).1
            have hql : w.heap.size < wr.heap.size := by omega
            by_cases hlc : q < cs.length
            · generalize hnxq : Ht.nx ps cs kk q hs = nxv
              obtain ⟨a, b', cd⟩ := nxv
              have hnxe := hide hnxq
              obtain ⟨bp, op, rfl, hbp, hc⟩ := (HXW.out _ HB.out).1 kk hkn
              have p0 := hc 0 _ rfl
              have p1 := hc 1 _ rfl
              have p2 := hc 2 _ rfl
              have p3 := hc 3 _ rfl
              simp only [Nat.add_zero] at p0
              obtain ⟨bq, oq, rfl, hbq, hd⟩ := (HXW.out _ HB.out).2 q hlc
              have q0 := hd 0 _ rfl
              have q1 := hd 1 _ rfl
              have q2 := hd 2 _ rfl
              have q3 := hd 3 _ rfl
              simp only [Nat.add_zero] at q0
              have hvx := HV.out ps[kk] (List.getElem_mem hkn)
              have hvy := HW.out cs[q] (List.getElem_mem hlc)
              have hsx := HS0.out ps[kk] (List.getElem_mem hkn)
              have hsy := HS1.out cs[q] (List.getElem_mem hlc)
              have hpk : Ht.pk ps kk = ps[kk] := by unfold Ht.pk; rw [Int.toNat_natCast, List.getD_eq_getElem?_getD, List.getElem?_eq_getElem hkn]; rfl
              have hck : Ht.ck cs q = cs[q] := by unfold Ht.ck; rw [Int.toNat_natCast, List.getD_eq_getElem?_getD, List.getElem?_eq_getElem hlc]; rfl
              have hfra := fun u : Kept wr => implfreeAfter (some ⟨bq, oq, none⟩) A8 c1 c8 cs hs q u.w' (((HXW.out _ HB.out).2).below u.h) ((HO.out.below u.h).at_ (fun _ => rfl)) hlc (by omega)
              have hvb := vCruc_true _ _ _ _ hvy
              have hvp := vPour_true hvx
              have hfb := Ht.free_bd (c := q) HG.out (b := (Ht.ck cs q).fr) (Int.le_refl _) (by rw [hck]; omega)
              unfold Ht.nx at hnxq
              rw [hpk] at hnxq
              rw [hck] at hnxq hfra hfb
              generalize Ht.freeOf hs q cs[q].fr = fr at *
              have HCK := hide hck
              clear hpk hck hc hd
              generalize ps[kk] = x at *
              generalize cs[q] = y at *
              have hnb : cd = 0 → (y.fr ≤ b' ∧ b' ≤ 10000) ∧ 0 ≤ b' := fun e => by subst e; have := Ht.nxR_ok hnxq; omega
              have HNB := hide hnb
              have HFR := hide hfra
              have hnh := fun u : Kept wr => nextHeat_is (x := x) (y := y) u.w' hvx hvy hsx hsy hfb.1 hfb.2 hnxq
              have HNH := hide hnh
              clear hnb hfra hnh hnxq hvx hvy hsx hsy hvb hvp hfb hm
              go_upto_region 18 with fail
              go_cut [13, 14, 15] (fun u v z wx => u = .int .i64 a ∧ v = .int .i64 b' ∧ z = .int .i64 cd ∧ Hid (Below wr.heap.size wr wx))
              case first =>
                refine wp_region_kept (by kernel_rfl) (by kernel_rfl) ?_
                intro gc gf gz
                repeat (go_big_quiet_step ((first | (go_at_call 75; exact Calls.kept (HFR.out _)) | (go_at_call 74; exact Calls.kept (HNH.out _)))))
                refine wpQuiet_nil ?_
                intro w5 hw'
                obtain ⟨⟨_, hb5⟩, rfl⟩ := hw'
                clear gc gf gz
                try dsimp only
                have fs5 := hb5.size
                try simp at fs5 hb5
                go_wp2_with fail
                go_meet
                exact ⟨rfl, rfl, rfl, hide hb5⟩
              case rest =>
                obtain ⟨rfl, rfl, rfl, HB5⟩ := hcut
                obtain ⟨w5, rfl⟩ : ∃ w5, w5 = wc := ⟨_, rfl⟩
                have HM5 := hide ((HB5.out.block bB hbr).trans HM.out)
                have HO5 := hide (HO.out.below HB5.out)
                have HY5 := hide (HY.out.below HB5.out)
                have HBB5 := hide (HB.out.trans (HB5.out.mono hzr))
                have hz5 := HB5.out.size
                clear HM HO HY HB HB5 g0 p0 p1 p2 p3 q0 q1 q2 q3 HFR HNH hbp hbq
                have hm := HM5.out
                have hb5 : bB < w5.heap.size := (Array.getElem?_eq_some_iff.1 hm).1
                have m0 : w5.cell? ⟨bB, 0, none⟩ = some (.int .i64 b0) := by simp [World.cell?, hm]
                have m1 : w5.cell? ⟨bB, 1, none⟩ = some (.int .i64 b1) := by simp [World.cell?, hm]
                have m2 : w5.cell? ⟨bB, 2, none⟩ = some (.int .i64 b2) := by simp [World.cell?, hm]
                have m3 : w5.cell? ⟨bB, 3, none⟩ = some (.int .i64 be) := by simp [World.cell?, hm]
                have n0 : w5.frozen? ⟨bB, 0, none⟩ = false := by simp [World.frozen?, hm]
                have n1 : w5.frozen? ⟨bB, 1, none⟩ = false := by simp [World.frozen?, hm]
                have n2 : w5.frozen? ⟨bB, 2, none⟩ = false := by simp [World.frozen?, hm]
                have n3 : w5.frozen? ⟨bB, 3, none⟩ = false := by simp [World.frozen?, hm]
                clear hm
                by_cases hcd : cd = 0
                · subst hcd
                  have HNEW := hide (show (be : Int) = be ∧ 0 ≤ b' ∧ ∃ cc : Nat, cc < cs.length ∧ (kk : Int) = kk ∧ (q : Int) = cc ∧ (Ht.ck cs cc).fr ≤ b' ∧ b' ≤ 10000 ∧ Ht.nx ps cs kk cc hs = (a, b', 0) from ⟨rfl, (HNB.out rfl).2, q, hlc, rfl, rfl, by rw [HCK.out]; exact (HNB.out rfl).1.1, (HNB.out rfl).1.2, hnxe.out⟩)
                  have HM6 := hide (heat_set (.int .i64 kk) (.int .i64 q) (.int .i64 a) (.int .i64 b') HM5.out)
                  have HO6 := hide (heat_own (.int .i64 kk) (.int .i64 q) (.int .i64 a) (.int .i64 b') HO5.out HLT8.out)
                  have HY6 := hide (heat_own (.int .i64 kk) (.int .i64 q) (.int .i64 a) (.int .i64 b') HY5.out HLTY.out)
                  have HB6 := hide (heat_below (.int .i64 kk) (.int .i64 q) (.int .i64 a) (.int .i64 b') HBB5.out hzo)
                  by_cases hneg : be < 0
                  · have hng : decide (be < 0) = true := by simp [hneg]
                    clear hneg
                    go_wp2_with fail
                    go_roundw
                    case rel => exact ⟨q + 1, kk, q, a, b', by go_num, by omega, HM6, HO6, HY6, HB6, hide (.inr HNEW.out.2)⟩
                    case measure => simp [intOf]; omega
                  · have hng : decide (be < 0) = false := by simp; omega
                    clear hneg
                    by_cases hlt2 : b' < be
                    · have hl2 : decide (b' < be) = true := by simp [hlt2]
                      clear hlt2
                      go_wp2_with fail
                      go_roundw
                      case rel => exact ⟨q + 1, kk, q, a, b', by go_num, by omega, HM6, HO6, HY6, HB6, hide (.inr HNEW.out.2)⟩
                      case measure => simp [intOf]; omega
                    · have hl2 : decide (b' < be) = false := by simp; omega
                      clear hlt2
                      go_wp2_with fail
                      go_roundw
                      case rel => exact ⟨q + 1, b0, b1, b2, be, by go_num, by omega, HM5, HO5, HY5, HBB5, HE⟩
                      case measure => simp [intOf]; omega
                · have hc2 : (cd == 0) = false := by simpa using hcd
                  clear hcd
                  go_wp2_with fail
                  go_roundw
                  case rel => exact ⟨q + 1, b0, b1, b2, be, by go_num, by omega, HM5, HO5, HY5, HBB5, HE⟩
                  case measure => simp [intOf]; omega
            · have m0 : wr.cell? ⟨bB, 0, none⟩ = some (.int .i64 b0) := by simp [World.cell?, hm]
              have m1 : wr.cell? ⟨bB, 1, none⟩ = some (.int .i64 b1) := by simp [World.cell?, hm]
              have m2 : wr.cell? ⟨bB, 2, none⟩ = some (.int .i64 b2) := by simp [World.cell?, hm]
              have m3 : wr.cell? ⟨bB, 3, none⟩ = some (.int .i64 be) := by simp [World.cell?, hm]
              clear hm g0
              by_cases hneg : be < 0
              · have hng : decide (be < 0) = true := by simp [hneg]
                clear hneg
                go_wp2_with fail
                go_ret2
                exact ⟨none, 0, [], 3, rfl, fun e => by simp at e, by simp, Own.nil, (HBQ.out _ HB.out).2.2⟩
              · have hng : decide (be < 0) = false := by simp; omega
                have hbe : 0 ≤ be ∧ ∃ cc : Nat, cc < cs.length ∧ b0 = kk ∧ b1 = cc ∧ (Ht.ck cs cc).fr ≤ be ∧ be ≤ 10000 ∧ Ht.nx ps cs kk cc hs = (b2, be, 0) := by
                  rcases HE.out with e | e
                  · omega
                  · exact e
                obtain ⟨-, cc, hcc, rfl, rfl, hf1, hf2, hnx⟩ := hbe
                have HPN := hide (Ht.path_snoc HPA.out hkn hcc HND.out hnx)
                have HGN := hide (HG.out.snoc (p := kk) (c := cc) (a := b2) (b := be) hkn hcc hf1 hf2)
                clear hneg HE hf1 hf2 hnx
                go_wp2_with (at_builtin; refine wpList_appHeat rfl _ _ rfl (w.heap.size + 1) rfl HO.out rfl (by omega) ?_ ?_; (focus (exact hzr)); intro A9 c9 w9 ho9 hb9 hg9; have HO9 := hide ho9; have HB9 := hide (HB.out.trans hb9); have HY9 := hide (HY.out.kept hg9 (own_apartK HY.out HO.out (by decide))); clear ho9 hb9 hg9)
                go_roundw
                case rel => exact ⟨i + 1, A9, c9, hs ++ [⟨kk, cc, b2, be⟩], by go_num, by simp, by omega, by rw [List.length_append, hlen.out]; rfl, hide (by rw [List.length_append]; exact HO9.out), HPN, HGN, hide (fun x => by rw [Ht.hasP_snoc, HH.out x, HTK.out, Bool.eq_iff_iff]; simp [List.mem_append, @eq_comm _ (kk : Int) x]), HY9, HB9⟩
                case measure => simp [intOf]; omega
        · obtain rfl : i = ps.length := by omega
          go_wp2_with fail
          go_ret2
          exact ⟨A8, c8, hs, 0, rfl, fun _ => ⟨HPA.out, hlen.out⟩, by omega, HO.out.mono (by omega), (HBQ.out _ HB.out).2.2⟩
end Go.Proofs.Ytklmbgefdopifaa
