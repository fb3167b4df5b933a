/- Schedules are possible: what the program says of one. -/
import Derived.Test.YtklmbgefdopifaaHtI
import Derived.Test.YtklmbgefdopifaaHtT
namespace Go.Proofs.Ytklmbgefdopifaa
open Go.RowKit

theorem two_oldM (w : World) (o1 o2 : Obj) : ((w.alloc o1).alloc o2).heap[w.heap.size]? = some o1 := (heap_alloc_old _ _ (by simp)).trans (heap_alloc_new w o1)
theorem two_newM (w : World) (o1 o2 : Obj) : ((w.alloc o1).alloc o2).heap[w.heap.size + 1]? = some o2 := by
  have := heap_alloc_new (w.alloc o1) o2
  simpa using this
set_option maxRecDepth 100000 in
set_option maxHeartbeats 4000000 in
theorem implisPossible (A A1 A2 : Option Addr) (c c1 c2 nb : Nat) (ps : List PourR) (cs : List CrucR) (bs : List HeatR) (p q : Nat) (a e : Int) (w : World) (h : SlAt encPour 4 w A ps) (k : SlAt encCruc 4 w A1 cs) (l : SlAt encHeat 4 w A2 bs) (hnb : nb = bs.length) (hbl : bs.length ≤ 12) (hv : ∀ x ∈ ps, vPourR x = true) (hw : ∀ y ∈ cs, vCrucR y = true) (hn : ps.length ≤ 12) (hm : cs.length ≤ 4)
    (hp : p < ps.length) (hq : q < cs.length) (hh : Ht.hasP bs p = false) (hx : Ht.nx ps cs p q bs = (a, e, 0)) (hg : Ht.GoodH ps cs bs) :
    Calls Try.prog 97 #[.slice A ps.length c, .slice A1 cs.length c1, .slice A2 nb c2, .agg #[.int .i64 p, .int .i64 q, .int .i64 a, .int .i64 e]] w fun en w' => en = .returned (.bool true) ∧ Below w.heap.size w w' := by
  subst hnb
  have hb0 : Below w.heap.size w (w.alloc (.cells #[.int .i64 p, .int .i64 q, .int .i64 a, .int .i64 e] 110)) := (Below.refl _ _).alloc (Nat.le_refl _) _
  have HX := hide (h.below hb0)
  have HY := hide (k.below hb0)
  have HZ := hide (l.below hb0)
  have hnew := hide (heap_alloc_new w (.cells #[.int .i64 p, .int .i64 q, .int .i64 a, .int .i64 e] 110))
  have HB0 := hide hb0
  have hzn : w.heap.size < (w.alloc (.cells #[.int .i64 p, .int .i64 q, .int .i64 a, .int .i64 e] 110)).heap.size := by simp
  have w1' : inB (p : Int) 0 ((ps.length : Int) - 1) = true := inB_mk (by omega) (by omega)
  have w2' : inB (q : Int) 0 ((cs.length : Int) - 1) = true := inB_mk (by omega) (by omega)
  have k1 : IntKind.i64.wrap ((ps.length : Int) - 1) = (ps.length : Int) - 1 := IntWalk.i64_in _ (by omega)
  have k2 : IntKind.i64.wrap ((cs.length : Int) - 1) = (cs.length : Int) - 1 := IntWalk.i64_in _ (by omega)
  have hpk : Ht.pk ps p = ps[p] := by unfold Ht.pk; rw [Int.toNat_natCast, List.getD_eq_getElem?_getD, List.getElem?_eq_getElem hp]; rfl
  have hck : Ht.ck cs q = cs[q] := by unfold Ht.ck; rw [Int.toNat_natCast, List.getD_eq_getElem?_getD, List.getElem?_eq_getElem hq]; rfl
  have hvb := vCruc_true _ _ _ _ (hw cs[q] (List.getElem_mem hq))
  have hvp := vPour_true (hv ps[p] (List.getElem_mem hp))
  have hfb := Ht.free_bd (c := q) hg (b := (Ht.ck cs q).fr) (Int.le_refl _) (by rw [hck]; omega)
  unfold Ht.nx at hx
  have hok := Ht.nxR_ok hx
  rw [hpk, hck] at hok
  rw [hck] at hfb
  have HOK := hide hok
  clear hok
  have HG := hide hg
  have HCK := hide hck
  clear h k l hb0 hv hw hpk hx hg hck
  go_enter Try.func97, Try.ntmps97
  go_upto_region 1 with fail
  generalize (w.alloc (.cells #[.int .i64 p, .int .i64 q, .int .i64 a, .int .i64 e] 110)) = w1 at *
  generalize hbhe : w.heap.size = bh at *
  have HBH := hide hbhe
  clear hbhe
  have hc := hnew.out
  have h0 : w1.cell? ⟨bh, 0, none⟩ = some (.int .i64 p) := by simp [World.cell?, hc]
  have h1 : w1.cell? ⟨bh, 1, none⟩ = some (.int .i64 q) := by simp [World.cell?, hc]
  clear hc
  have hhp := fun u : Kept w1 => hasPour_is A2 c2 bs p false u.w' (HZ.out.below u.h) (by omega) hh
  have HHP := hide hhp
  clear hhp
  refine wp_region_kept (by kernel_rfl) (by kernel_rfl) ?_
  intro gc gf gz
  repeat (go_big_quiet_step ((first | (go_at_call 106; exact Calls.kept_same (sizePour _ _ _ _)) | (go_at_call 73; exact Calls.kept_same (sizeCrucible _ _ _ _)) | (go_at_call 80; exact Calls.kept_same (implwithin_is _ _ _ _ (by assumption) _)) | (go_at_call 107; exact Calls.kept (HHP.out _)))))
  refine wpQuiet_nil ?_
  intro w2 hw'
  obtain ⟨⟨_, hb2⟩, rfl⟩ := hw'
  clear gc gf gz
  try dsimp only
  have fs2 := hb2.size
  try simp at fs2 hb2
  have HX2 := hide (HX.out.below hb2)
  have HY2 := hide (HY.out.below hb2)
  have HZ2 := hide (HZ.out.below hb2)
  have hnew2 := hide ((hb2.block bh hzn).trans hnew.out)
  have HB2 := hide (HB0.out.trans (hb2.mono (by omega)))
  have hzn2 : bh < w2.heap.size := by omega
  clear HX HY HZ hnew HB0 hzn hb2 fs2 h0 h1 HHP w1' w2' k1 k2
  obtain ⟨bp, op, rfl, hbp, hcx⟩ := HX2.out p hp
  have p0 := hcx 0 _ rfl
  have p1 := hcx 1 _ rfl
  have p2 := hcx 2 _ rfl
  have p3 := hcx 3 _ rfl
  simp only [Nat.add_zero] at p0
  obtain ⟨bq, oq, rfl, hbq, hdx⟩ := HY2.out q hq
  have q0 := hdx 0 _ rfl
  have q1 := hdx 1 _ rfl
  have q2 := hdx 2 _ rfl
  have q3 := hdx 3 _ rfl
  simp only [Nat.add_zero] at q0
  clear hcx hdx
  generalize ps[p] = x at *
  generalize hcsq : cs[q] = y at *
  clear hcsq
  obtain ⟨x0, x1, x2, x3⟩ := x
  obtain ⟨y0, y1, y2, y3⟩ := y
  simp only at p0 p1 p2 p3 q0 q1 q2 q3 hfb hvp hvb
  have hc := hnew2.out
  have h0 : w2.cell? ⟨bh, 0, none⟩ = some (.int .i64 p) := by simp [World.cell?, hc]
  have h1 : w2.cell? ⟨bh, 1, none⟩ = some (.int .i64 q) := by simp [World.cell?, hc]
  clear hc
  have hok := HOK.out
  simp only at hok
  have hms : decide (x1 ≤ y1) = true := by simp; omega
  have hwe : inB e x2 x3 = true := inB_mk (by omega) (by omega)
  have hee : (e == a + y2) = true := by simp; omega
  have ke : IntKind.i64.wrap (a + y2) = a + y2 := IntWalk.i64_in _ (by omega)
  have hfr : ∃ fr, Ht.freeOf bs q y3 = fr ∧ inB a fr 10000 = true := ⟨_, rfl, inB_mk (by omega) (by omega)⟩
  clear hok HOK
  go_upto_region 3 with fail
  go_cut [9, 10] (fun u v wx => ∃ b9 b10 : Nat, u = .pointer (some ⟨b9, 0, none⟩) ∧ v = .pointer (some ⟨b10, 0, none⟩) ∧ Hid (wx.heap[b9]? = some (.cells #[.string x0, .int .i64 x1, .int .i64 x2, .int .i64 x3] 93 (0, 0))) ∧ Hid (wx.heap[b10]? = some (.cells #[.string y0, .int .i64 y1, .int .i64 y2, .int .i64 y3] 95 (0, 0))) ∧ Hid (Below w2.heap.size w2 wx))
  case first =>
    go_region
    all_goals
      go_wp2_with fail
      go_meet
      first
        | exact ⟨_, _, rfl, rfl, hide (two_oldM _ _ _), hide (two_newM _ _ _), hide (by repeat (first | with_reducible exact Below.refl _ _ | with_reducible assumption | (with_reducible refine Below.drew ?_) | (with_reducible refine below_drewN ?_ _) | ((with_reducible refine Below.alloc ?_ ?_ _); rotate_left; (focus (first | omega | (simp; omega) | simp))) | ((with_reducible refine Below.setCell ?_ ?_ _); rotate_left; (focus (first | omega | (simp; omega) | simp))) | (refine Below.trans ?_ (Below.mono (by assumption) (by first | omega | (simp; omega) | simp)))))⟩
        | exact ⟨_, _, rfl, rfl, hide (two_newM _ _ _), hide (two_oldM _ _ _), hide (by repeat (first | with_reducible exact Below.refl _ _ | with_reducible assumption | (with_reducible refine Below.drew ?_) | (with_reducible refine below_drewN ?_ _) | ((with_reducible refine Below.alloc ?_ ?_ _); rotate_left; (focus (first | omega | (simp; omega) | simp))) | ((with_reducible refine Below.setCell ?_ ?_ _); rotate_left; (focus (first | omega | (simp; omega) | simp))) | (refine Below.trans ?_ (Below.mono (by assumption) (by first | omega | (simp; omega) | simp)))))⟩
  case rest =>
    obtain ⟨b9, b10, rfl, rfl, H9, H10, HB3⟩ := hcut
    obtain ⟨w3, rfl⟩ : ∃ w3, w3 = wc := ⟨_, rfl⟩
    have HY3 := hide (HY2.out.below HB3.out)
    have HZ3 := hide (HZ2.out.below HB3.out)
    have hc := (HB3.out.block bh hzn2).trans hnew2.out
    have HBE := hide (HB2.out.trans (HB3.out.mono (by omega)))
    have hz3 := HB3.out.size
    have hl3 : bh < w3.heap.size := by omega
    have h9 := H9.out
    have h10 := H10.out
    have l9 : b9 < w3.heap.size := (Array.getElem?_eq_some_iff.1 h9).1
    have l10 : b10 < w3.heap.size := (Array.getElem?_eq_some_iff.1 h10).1
    obtain ⟨fr, hfre, hwf⟩ := hfr
    have hfra := fun u : Kept w3 => implfreeAfter (some ⟨bq, oq, none⟩) A2 c1 c2 cs bs q u.w' (HY3.out.below u.h) (HZ3.out.below u.h) hq (by omega)
    rw [HCK.out] at hfra
    simp only at hfra
    rw [hfre] at hfra
    have HFR := hide hfra
    have i1 : w3.cell? ⟨bh, 1, none⟩ = some (.int .i64 q) := by simp [World.cell?, hc]
    have i2 : w3.cell? ⟨bh, 2, none⟩ = some (.int .i64 a) := by simp [World.cell?, hc]
    have i3 : w3.cell? ⟨bh, 3, none⟩ = some (.int .i64 e) := by simp [World.cell?, hc]
    have j1 : w3.cell? ⟨b9, 1, none⟩ = some (.int .i64 x1) := by simp [World.cell?, h9]
    have j2 : w3.cell? ⟨b9, 2, none⟩ = some (.int .i64 x2) := by simp [World.cell?, h9]
    have j3 : w3.cell? ⟨b9, 3, none⟩ = some (.int .i64 x3) := by simp [World.cell?, h9]
    have t1 : w3.cell? ⟨b10, 1, none⟩ = some (.int .i64 y1) := by simp [World.cell?, h10]
    have t2 : w3.cell? ⟨b10, 2, none⟩ = some (.int .i64 y2) := by simp [World.cell?, h10]
    clear hc h9 h10 H9 H10 hfra hfre HB3 HB2 hnew2 HX2 HY2 HZ2 h0 h1 p0 p1 p2 p3 q0 q1 q2 q3 hvb hvp hfb
    go_upto_region 4 with fail
    refine wp_region_kept (by kernel_rfl) (by kernel_rfl) ?_
    intro gc gf gz
    repeat (go_big_quiet_step ((first | (go_at_call 75; exact Calls.kept (HFR.out _)) | (go_at_call 80; exact Calls.kept_same (implwithin_is _ _ _ _ (by assumption) _)))))
    refine wpQuiet_nil ?_
    intro w4 hw'
    obtain ⟨⟨_, hb4⟩, rfl⟩ := hw'
    clear gc gf gz
    try dsimp only
    have fs4 := hb4.size
    try simp at fs4 hb4
    have HBF := hide (HBE.out.trans (hb4.mono (by omega)))
    clear hb4
    go_wp2_with fail
    go_ret
    exact ⟨rfl, by rw [HBH.out]; exact HBF.out⟩
/-- What a schedule says of one of its heats. -/
theorem plan_at {ps : List PourR} {cs : List CrucR} {hs : List HeatR} (h : Ht.Path (Ht.nx ps cs) ps.length cs.length hs) (hv : ∀ x ∈ ps, vPourR x = true) (hw : ∀ y ∈ cs, vCrucR y = true) : Ht.GoodH ps cs hs := by
  have key : ∀ i, i ≤ hs.length → Ht.GoodH ps cs (hs.take i) := by
    intro i
    induction i with
    | zero => intro _ x hx; simp at hx
    | succ i ih =>
      intro hi
      have g := ih (by omega)
      obtain ⟨p, c, h1, h2, h3, h4, h5, h6⟩ := h i (by omega)
      have e : hs[i] = ⟨p, c, hs[i].st, hs[i].en⟩ := by rw [← h3, ← h4]
      rw [List.take_succ_eq_append_getElem (by omega), e]
      have hpk : Ht.pk ps p = ps[p] := by unfold Ht.pk; rw [Int.toNat_natCast, List.getD_eq_getElem?_getD, List.getElem?_eq_getElem h1]; rfl
      have hck : Ht.ck cs c = cs[c] := by unfold Ht.ck; rw [Int.toNat_natCast, List.getD_eq_getElem?_getD, List.getElem?_eq_getElem h2]; rfl
      have hvb := vCruc_true _ _ _ _ (hw cs[c] (List.getElem_mem h2))
      have hvp := vPour_true (hv ps[p] (List.getElem_mem h1))
      have hfb := Ht.free_bd (c := c) g (b := (Ht.ck cs c).fr) (Int.le_refl _) (by rw [hck]; omega)
      unfold Ht.nx at h6
      have hok := Ht.nxR_ok h6
      rw [hpk, hck] at hok
      rw [hck] at hfb
      exact g.snoc h1 h2 (by rw [hck]; omega) (by omega)
  have := key hs.length (Nat.le_refl _)
  rwa [List.take_length] at this
set_option maxRecDepth 100000 in
set_option maxHeartbeats 2000000 in
theorem implfirstWrong (B : Nat) (A A1 A2 : Option Addr) (c c1 c2 : Nat) (ps : List PourR) (cs : List CrucR) (hs : List HeatR) (w : World) (h : SlAt encPour 4 w A ps) (k : SlAt encCruc 4 w A1 cs) (l : OwnH w B (.slice A2 hs.length c2) hs) (hv : ∀ x ∈ ps, vPourR x = true) (hw : ∀ y ∈ cs, vCrucR y = true) (hn : ps.length ≤ 12) (hm : cs.length ≤ 4) (hl : hs.length ≤ 12)
    (hp : Ht.Path (Ht.nx ps cs) ps.length cs.length hs) :
    Calls Try.prog 76 #[.slice A ps.length c, .slice A1 cs.length c1, .slice A2 hs.length c2] w fun en w' => en = .returned (.int .i64 (-1)) ∧ Below w.heap.size w w' := by
  have HX := hide h
  have HY := hide k
  have HZ := hide l
  have HV := hide hv
  have HW := hide hw
  have HP := hide hp
  have HG := hide (plan_at hp hv hw)
  clear h k l hv hw hp
  go_enter Try.func76, Try.ntmps76
  go_wp2_with fail
  go_loopw [11, 7, 8] (fun v _ _ wr => ∃ i : Nat, v = .int .i64 i ∧ i ≤ hs.length ∧ Hid (Below w.heap.size w wr)) (fun v _ _ _ => hs.length - (intOf v).toNat)
  case atStart => exact ⟨0, rfl, by omega, hide (Below.refl _ _)⟩
  case round =>
    obtain ⟨i, rfl, hi, HB⟩ := hrel
    have hz := HB.out.size
    by_cases hlt : i < hs.length
    · obtain ⟨p, q, h1, h2, h3, h4, h5, h6⟩ := HP.out i hlt
      have HO := hide (HZ.out.below HB.out)
      have hat := (Own.at_ (enc := encHeat) (sz := 4) (fun _ => rfl) HO.out) i hlt
      obtain ⟨g, o, rfl, hgl, hc⟩ := hat
      have c0 := hc 0 _ rfl
      have c1' := hc 1 _ rfl
      have c2' := hc 2 _ rfl
      have c3 := hc 3 _ rfl
      simp only [Nat.add_zero] at c0
      rw [h3] at c0
      rw [h4] at c1'
      obtain ⟨g', hcv, hcap⟩ : ∃ g', some (⟨g, o, none⟩ : Addr) = some ⟨g', 0, none⟩ ∧ hs.length ≤ c2 := by
        rcases HO.out.2 with ⟨e, e0⟩ | ⟨g2, cap, cur, e, _, _, hcc, _⟩
        · omega
        · injection e with e1 e2 e3
          exact ⟨g2, e1, by rw [e3]; exact hcc⟩
      injection hcv with hcv
      injection hcv with e1 e2
      subst e1; subst e2
      simp only [Nat.zero_add] at c0 c1' c2' c3
      have htk : OwnH wr B (.slice (some ⟨g, 0, none⟩) (hs.take i).length c2) (hs.take i) := by
        have q := HO.out
        have e : hs = hs.take i ++ hs.drop i := (List.take_append_drop i hs).symm
        unfold OwnH at q
        rw [e] at q
        exact own_short (fun _ => rfl) q (by rw [List.take_append_drop])
      have htl : (hs.take i).length = i := by rw [List.length_take]; omega
      have hposs := fun u : Kept (wr.alloc (.cells #[.int .i64 p, .int .i64 q, .int .i64 hs[i].st, .int .i64 hs[i].en] 110)) => implisPossible A A1 (some ⟨g, 0, none⟩) c c1 c2 i ps cs (hs.take i) p q hs[i].st hs[i].en u.w' (((HX.out.below HB.out).below ((Below.refl _ _).alloc (Nat.le_refl _) _)).below u.h) (((HY.out.below HB.out).below ((Below.refl _ _).alloc (Nat.le_refl _) _)).below u.h) (((htk.below ((Below.refl _ _).alloc (Nat.le_refl _) _)).below u.h).at_ (fun _ => rfl)) htl.symm (by omega) HV.out HW.out hn hm h1 h2 h5 h6 (fun x hx => HG.out x (List.mem_of_mem_take hx))
      have HPO := hide hposs
      have hnew := hide (heap_alloc_new wr (.cells #[.int .i64 p, .int .i64 q, .int .i64 hs[i].st, .int .i64 hs[i].en] 110))
      have hBa := hide (HB.out.alloc hz (.cells #[.int .i64 p, .int .i64 q, .int .i64 hs[i].st, .int .i64 hs[i].en] 110))
      have hzn : wr.heap.size < (wr.alloc (.cells #[.int .i64 p, .int .i64 q, .int .i64 hs[i].st, .int .i64 hs[i].en] 110)).heap.size := by simp
      have hic : i ≤ c2 := by omega
      clear hposs htk htl hc h3 h4 h5 h6 HO
      generalize hs[i].st = st at *
      generalize hs[i].en = en at *
      go_upto_region 4 with fail
      clear c0 c1' c2' c3
      generalize (wr.alloc (.cells #[.int .i64 p, .int .i64 q, .int .i64 st, .int .i64 en] 110)) = wa at *
      generalize wr.heap.size = bh at *
      have hc := hnew.out
      have c0 : wa.cell? ⟨bh, 0, none⟩ = some (.int .i64 p) := by simp [World.cell?, hc]
      have c1' : wa.cell? ⟨bh, 1, none⟩ = some (.int .i64 q) := by simp [World.cell?, hc]
      have c2' : wa.cell? ⟨bh, 2, none⟩ = some (.int .i64 st) := by simp [World.cell?, hc]
      have c3 : wa.cell? ⟨bh, 3, none⟩ = some (.int .i64 en) := by simp [World.cell?, hc]
      clear hc
      refine wp_region_kept (by kernel_rfl) (by kernel_rfl) ?_
      intro gc gf gz
      repeat (go_big_quiet_step ((go_at_call 97; exact Calls.kept (HPO.out _))))
      refine wpQuiet_nil ?_
      intro w5 hw'
      obtain ⟨⟨_, hb5⟩, rfl⟩ := hw'
      clear gc gf gz
      try dsimp only
      have fs5 := hb5.size
      try simp at fs5 hb5
      have HB5 := hide (hBa.out.trans (hb5.mono (by omega)))
      clear hb5 fs5 c0 c1' c2' c3 HPO hnew
      go_wp2_with fail
      go_roundw
      case rel => exact ⟨i + 1, by go_num, by omega, HB5⟩
      case measure => simp [intOf]; omega
    · go_wp2_with fail
      go_ret
      exact ⟨rfl, HB.out⟩
end Go.Proofs.Ytklmbgefdopifaa
