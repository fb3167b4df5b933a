/- Contracts: zones of rings, profiles that are turned, on both sides. -/
import Derived.Test.YtnefgafmnpblpaaGreatPnT
namespace Go.Proofs.YtnefgafmnpblpaaGreat
open Go.RowKit Pn

set_option maxRecDepth 100000 in
theorem implzoneEnd (nm : ByteArray) (A : Option Addr) (n c : Nat) (Az : Option Addr) (cz : Nat) (zs : List Int) (z : Nat) (w : World) (hz : SlAt encI 1 w Az zs) (hn : zs.length ≤ 1048576) (hzl : z < zs.length) :
    Calls Tryz.prog 113 #[.agg #[.string nm, .slice A n c], .slice Az zs.length cz, .int .i64 z] w fun e w' => e = .returned (.int .i64 (endZ zs n z)) ∧ Below w.heap.size w w' := by
  have HZ := hide (hz.below ((Below.refl _ _).alloc (Nat.le_refl _) (.cells #[.string nm, .slice A n c] 30)))
  clear hz
  by_cases h : z + 1 < zs.length
  · have E := hide (show endZ zs n z = ig zs (z + 1) by unfold endZ; rw [if_pos h])
    obtain ⟨b, o, rfl, hb, hc⟩ := HZ.out.getA (by omega)
    have hc1 := hc (z + 1) h
    have hzi : (z : Int) + 1 < zs.length := by omega
    clear hc
    generalize ig zs (z + 1) = x at *
    go_enter Tryz.func113, Tryz.ntmps113
    go_wp2_with fail
    go_ret
    exact ⟨ret_int E.out.symm, (by repeat (first | with_reducible exact Below.refl _ _ | with_reducible assumption | (with_reducible refine Below.drew ?_) | (with_reducible refine below_drewN ?_ _) | ((with_reducible refine Below.alloc ?_ ?_ _); rotate_left; (focus (first | omega | (simp; omega) | simp))) | ((with_reducible refine Below.setCell ?_ ?_ _); rotate_left; (focus (first | omega | (simp; omega) | simp))) | (refine Below.trans ?_ (Below.mono (by assumption) (by first | omega | (simp; omega) | simp)))))⟩
  · have E := hide (show endZ zs n z = n by unfold endZ; rw [if_neg h])
    have hzi : ¬ (z : Int) + 1 < zs.length := by omega
    go_enter Tryz.func113, Tryz.ntmps113
    go_wp2_with (go_at_call 162; refine (implsizeimplRing_is _ _ _ _).mono ?_; rintro e w2 ⟨rfl, rfl⟩)
    go_ret
    exact ⟨ret_int E.out.symm, (by repeat (first | with_reducible exact Below.refl _ _ | with_reducible assumption | (with_reducible refine Below.drew ?_) | (with_reducible refine below_drewN ?_ _) | ((with_reducible refine Below.alloc ?_ ?_ _); rotate_left; (focus (first | omega | (simp; omega) | simp))) | ((with_reducible refine Below.setCell ?_ ?_ _); rotate_left; (focus (first | omega | (simp; omega) | simp))) | (refine Below.trans ?_ (Below.mono (by assumption) (by first | omega | (simp; omega) | simp)))))⟩
set_option maxRecDepth 100000 in
theorem specl09Zone (Az : Option Addr) (cz : Nat) (zs : List Int) (r : Int) (w : World) (hz : SlAt encI 1 w Az zs) (hn : zs.length ≤ 1048576) :
    Calls Tryz.prog 149 #[.slice Az zs.length cz, .int .i64 r] w fun e w' => e = .returned (.int .i64 (zoneAt zs r)) ∧ w = w' := by
  have HZ := hide hz
  have HF := hide (show zoneAt zs r = lastZ zs r zs.length by unfold zoneAt; rfl)
  clear hz
  go_enter Tryz.func149, Tryz.ntmps149
  go_wp2_with fail
  go_loopw [6, 5] (fun v s wr => ∃ i k : Nat, v = .int .i64 i ∧ s = .int .i64 k ∧ i ≤ zs.length ∧ Hid (k = lastZ zs r i) ∧ w = wr) (fun v _ _ => zs.length - (intOf v).toNat)
  case atStart => exact ⟨0, 0, rfl, rfl, by omega, hide rfl, rfl⟩
  case round =>
    obtain ⟨i, k, rfl, rfl, hi, HK, rfl⟩ := hrel
    by_cases hlt : i < zs.length
    · obtain ⟨b, o, rfl, hb, hc⟩ := HZ.out.getA (by omega)
      have hci := hc i hlt
      have HS := hide (show lastZ zs r (i + 1) = if ig zs i ≤ r then i else k from by rw [HK.out]; rfl)
      clear hc
      generalize ig zs i = x at *
      by_cases hx : x ≤ r
      · have E := hide (show i = lastZ zs r (i + 1) from by rw [HS.out, if_pos hx])
        clear HS
        go_wp2_with fail
        go_roundw
        case rel => exact ⟨i + 1, i, by go_num, rfl, by omega, E, trivial⟩
        case measure => simp [intOf]; omega
      · have E := hide (show k = lastZ zs r (i + 1) from by rw [HS.out, if_neg hx])
        clear HS
        go_wp2_with fail
        go_roundw
        case rel => exact ⟨i + 1, k, by go_num, rfl, by omega, E, trivial⟩
        case measure => simp [intOf]; omega
    · obtain rfl : i = zs.length := by omega
      have E := hide (show (k : Int) = (zoneAt zs r : Nat) from by rw [HF.out, HK.out])
      go_wp2_with fail
      go_ret
      exact ⟨ret_int E.out, rfl⟩
theorem turnTo_succ (zs st : List Int) (rs : List RingR) (m : Nat) (h : m < rs.length) :
    turnTo zs st rs (m + 1) = (turnTo zs st rs m).set m ⟨(rg (turnTo zs st rs m) m).outer, (rg (turnTo zs st rs m) m).inner + 10 * ig st (zoneAt zs (m : Int)), (rg (turnTo zs st rs m) m).hgt⟩ := by
  have e : rg (turnTo zs st rs m) m = rg rs m := by rw [rg_turnTo zs st rs m m h, if_neg (by omega)]
  rw [e]
  refine List.ext_getElem (by simp [turnTo]) fun i h1 h2 => ?_
  simp only [turnTo, List.length_mapIdx] at h1
  rw [List.getElem_set]
  by_cases hi : m = i
  · subst hi
    rw [if_pos rfl]
    simp [turnTo, cutR, h1]
  · rw [if_neg hi]
    simp only [turnTo, List.getElem_mapIdx]
    by_cases h3 : i < m
    · rw [if_pos (by omega), if_pos h3]
    · rw [if_neg (by omega), if_neg h3]
theorem inner_turnTo {zs st : List Int} {rs : List RingR} {m : Nat} (h : m < rs.length) : (rg (turnTo zs st rs m) m).inner = (rg rs m).inner := by rw [rg_turnTo zs st rs m m h, if_neg (by omega)]
/-- Where a zone begins, or the profile ends. -/
def startZ (zs : List Int) (n : Nat) (z : Nat) : Nat := if z < zs.length then (ig zs z).toNat else n
theorem startZ_zero {zs : List Int} {n : Nat} (h : ZonesOK zs n) : startZ zs n 0 = 0 := by
  unfold startZ; rw [if_pos (by have := h.len1; omega), h.z0]; rfl
theorem startZ_next {zs : List Int} {n : Nat} (h : ZonesOK zs n) {z : Nat} : ((startZ zs n (z + 1) : Nat) : Int) = endZ zs n z := by
  unfold startZ endZ
  split
  · exact Int.toNat_of_nonneg (h.nonneg ‹_›)
  · rfl
theorem startZ_at {zs : List Int} {n : Nat} (h : ZonesOK zs n) {z : Nat} (hz : z < zs.length) : ((startZ zs n z : Nat) : Int) = ig zs z := by
  unfold startZ; rw [if_pos hz]; exact Int.toNat_of_nonneg (h.nonneg hz)
/-- Steps are small. -/
def SmallI (st : List Int) : Prop := ∀ k, 0 ≤ ig st k ∧ ig st k ≤ 1000
def InnerOK (rs : List RingR) : Prop := ∀ k, k < rs.length → 0 ≤ (rg rs k).inner ∧ (rg rs k).inner ≤ 150000
theorem Pn.RingsOK.inner {rs : List RingR} (h : RingsOK rs) : InnerOK rs := fun k hk => by have := (h.ring k hk).i; have := (h.ring k hk).o; omega
set_option maxRecDepth 100000 in
set_option maxHeartbeats 1000000 in
theorem specl09Turned (bp : Nat) (nm : ByteArray) (A : Option Addr) (c : Nat) (rs : List RingR) (Az As : Option Addr) (cz cs : Nat) (zs st : List Int) (w : World) (h : ProfAt w bp nm A c rs) (hz : SlAt encI 1 w Az zs) (hst : SlAt encI 1 w As st)
    (hn : rs.length ≤ 32) (h0 : 0 < rs.length) (hzn : 1 ≤ zs.length) (hzl : zs.length ≤ st.length) (hsl : st.length ≤ 64) (HS : Hid (SmallI st)) (HI : Hid (InnerOK rs)) :
    Calls Tryz.prog 90 #[.pointer (some ⟨bp, 0, none⟩), .slice Az zs.length cz, .slice As st.length cs] w (TurnRes nm (turn zs st rs) w) := by
  have hb0 : Below w.heap.size w (w.alloc (.cells #[.string ⟨#[]⟩, .slice none 0 0] 30)) := (by repeat (first | with_reducible exact Below.refl _ _ | with_reducible assumption | (with_reducible refine Below.drew ?_) | (with_reducible refine below_drewN ?_ _) | ((with_reducible refine Below.alloc ?_ ?_ _); rotate_left; (focus (first | omega | (simp; omega) | simp))) | ((with_reducible refine Below.setCell ?_ ?_ _); rotate_left; (focus (first | omega | (simp; omega) | simp))) | (refine Below.trans ?_ (Below.mono (by assumption) (by first | omega | (simp; omega) | simp)))))
  have hRR := heap_alloc_new w (.cells #[.string ⟨#[]⟩, .slice none 0 0] 30)
  have HP := hide (h.below hb0)
  have HZ := hide (hz.below hb0)
  have HT := hide (hst.below hb0)
  have HB0 := hide hb0
  clear h hz hst hb0
  go_enter Tryz.func90, Tryz.ntmps90
  go_wp2_with fail
  generalize hw0 : w.alloc (.cells #[.string ⟨#[]⟩, .slice none 0 0] 30) = w0 at *
  have hz0 : w0.heap.size = w.heap.size + 1 := by rw [← hw0]; simp
  have HZ0 := hide hz0
  have HRR := hide hRR
  clear hw0 hz0 hRR
  refine (specl05Own bp nm A c rs w0 HP.out (by omega) h0).mono ?_
  rintro e w1 ⟨A1, c1, rfl, ho1, hb1⟩
  have HO := hide ho1
  have HB1 := hide hb1
  clear ho1 hb1
  have H2 := hide (show PrOwn w0 (w1.alloc (.cells #[.string nm, .slice A1 (turnTo zs st rs 0).length c1] 30)) w1.heap.size nm A1 c1 (turnTo zs st rs 0) from ⟨heap_alloc_new w1 _, by rw [turnTo_zero]; exact HO.out.below ((Below.refl _ _).alloc (Nat.le_refl _) _), HB1.out.alloc HB1.out.size _, HB1.out.size⟩)
  have HQ1 := hide HB1.out.size
  obtain ⟨q, hq⟩ : ∃ q, q = w1.heap.size := ⟨_, rfl⟩
  have HQ := hide hq
  rw [turnTo_length] at H2
  go_wp2_with fail
  rw [← hq] at H2 ⊢
  clear hq HO HB1
  generalize w1.alloc (.cells #[.string nm, .slice A1 rs.length c1] 30) = w2 at *
  go_loopw [8] (fun v wr => ∃ i : Nat, v = .int .i64 i ∧ i ≤ rs.length ∧ Hid (PrOwn w0 wr q nm A1 c1 (turnTo zs st rs i))) (fun v _ => rs.length - (intOf v).toNat)
  case atStart => exact ⟨0, rfl, by omega, H2⟩
  case round =>
    obtain ⟨i, rfl, hi, HR⟩ := hrel
    have g1 := HR.out.at_.c1
    rw [turnTo_length] at g1
    by_cases hlt : i < rs.length
    · obtain ⟨g, hA, hg1, hg2, -, g2, g3⟩ := HR.out.cells (i := i) (by rw [turnTo_length]; exact hlt)
      subst hA
      rw [inner_turnTo hlt] at g2
      have HN := hide (fun v : Int => HR.out.set (i := i) (by rw [turnTo_length]; exact hlt) v)
      have HS1 := hide (turnTo_succ zs st rs i hlt)
      rw [inner_turnTo hlt] at HS1
      obtain ⟨hx0, hx1⟩ := HI.out i hlt
      have HZr := hide (HZ.out.below HR.out.bel)
      obtain ⟨zz, hzz⟩ : ∃ zz, zz = zoneAt zs (i : Int) := ⟨_, rfl⟩
      have hzlt : zz < zs.length := by rw [hzz]; exact zoneAt_lt hzn
      obtain ⟨bs, os, rfl, hbs, hcs⟩ := (HT.out.below HR.out.bel).getA (by omega)
      have hcz := hcs zz (by omega)
      obtain ⟨hs0, hs1⟩ := HS.out zz
      have HZZ := hide hzz
      rw [← hzz] at HS1
      clear hcs hzz HT
      generalize ig st zz = s at *
      generalize (rg rs i).inner = x at *
      have hz2 : zz < st.length := by omega
      clear hzlt
      have kw1 : IntKind.i64.wrap (10 * s) = 10 * s := IntWalk.i64_in _ (by omega)
      have kw2 : IntKind.i64.wrap (x + 10 * s) = x + 10 * s := IntWalk.i64_in _ (by omega)
      have hil : (i : Int) < rs.length := by omega
      have hi0 : (0 : Int) ≤ i := by omega
      have hq0 := HR.out.lt
      go_upto_region 5 with fail
      go_region_with (go_at_call 149; refine (specl09Zone _ _ zs _ _ (HZr.out.below (Below.refl _ _).drew) (by omega)).mono ?_; rintro e w4 ⟨rfl, rfl⟩; rw [← HZZ.out])
      all_goals
        go_wp2_with fail
        go_roundw
        case rel => exact ⟨i + 1, by go_num, by omega, hide (by rw [HS1.out]; exact (HN.out _).below (Below.refl _ _).drew)⟩
        case measure => simp [intOf]; omega
    · obtain rfl : i = rs.length := by omega
      have ht := turnTo_all zs st rs (Nat.le_refl rs.length)
      rw [ht] at HR
      have e0 := HR.out.at_.c0
      have hrb : wr.heap[w.heap.size]? = some (.cells #[.string ⟨#[]⟩, .slice none 0 0] 30 (0, 0)) := (HR.out.bel.block (w.heap.size) (by have := HZ0.out; omega)).trans HRR.out
      have r0 : wr.cell? ⟨w.heap.size, 0, none⟩ = some (.string ⟨#[]⟩) := by simp [World.cell?, hrb]
      have r1 : wr.cell? ⟨w.heap.size, 1, none⟩ = some (.slice none 0 0) := by simp [World.cell?, hrb]
      have y0 : wr.frozen? ⟨w.heap.size, 0, none⟩ = false := by simp [World.frozen?, hrb]
      have y1 : wr.frozen? ⟨w.heap.size, 1, none⟩ = false := by simp [World.frozen?, hrb]
      have HO := hide HR.out.row
      rw [HZ0.out] at HO
      have hsz := HR.out.bel.size
      have hwz : w.heap.size < wr.heap.size := by have := HZ0.out; omega
      have hB := (HB0.out.trans (HR.out.bel.mono HB0.out.size))
      have HBB := hide hB
      clear hrb ht hB hsz
      go_wp2_with fail
      refine bodyPost_ret (v := .agg #[.string nm, .slice A1 (turn zs st rs).length c1]) (by simp [results, Tryz.results90, go_sem, r0, r1, turn_length]) rfl ⟨A1, c1, rfl, ?_, (HBB.out.setCell (by simp) _).setCell (by simp) _⟩
      exact (own_far' HO.out (grown_set (grown_set (grown_refl wr (some (w.heap.size))) 0 (.string nm)) 1 (.slice A1 rs.length c1))).mono (by omega)
set_option maxRecDepth 100000 in
set_option maxHeartbeats 1000000 in
theorem implturned (nm : ByteArray) (A : Option Addr) (c : Nat) (rs : List RingR) (Az As : Option Addr) (cz cs : Nat) (zs st : List Int) (w : World) (h : SlAt encRing 3 w A rs) (hz : SlAt encI 1 w Az zs) (hst : SlAt encI 1 w As st)
    (hn : rs.length ≤ 32) (h0 : 0 < rs.length) (HZO : Hid (ZonesOK zs rs.length)) (hzl : zs.length ≤ st.length) (hsl : st.length ≤ 64) (HS : Hid (SmallI st)) (HI : Hid (InnerOK rs)) :
    Calls Tryz.prog 57 #[.agg #[.string nm, .slice A rs.length c], .slice Az zs.length cz, .slice As st.length cs] w (TurnRes nm (turn zs st rs) w) := by
  obtain ⟨w0, hw0⟩ : ∃ w0, w0 = (w.alloc (.cells #[.string nm, .slice A rs.length c] 30)).alloc (.cells #[.string ⟨#[]⟩, .slice none 0 0] 30) := ⟨_, rfl⟩
  have hb0 : Below w.heap.size w w0 := by rw [hw0]; exact (by repeat (first | with_reducible exact Below.refl _ _ | with_reducible assumption | (with_reducible refine Below.drew ?_) | (with_reducible refine below_drewN ?_ _) | ((with_reducible refine Below.alloc ?_ ?_ _); rotate_left; (focus (first | omega | (simp; omega) | simp))) | ((with_reducible refine Below.setCell ?_ ?_ _); rotate_left; (focus (first | omega | (simp; omega) | simp))) | (refine Below.trans ?_ (Below.mono (by assumption) (by first | omega | (simp; omega) | simp)))))
  have hP : ProfAt w0 w.heap.size nm A c rs := by rw [hw0]; exact (ProfAt.new h).below ((Below.refl _ _).alloc (Nat.le_refl _) _)
  have hRR : w0.heap[w.heap.size + 1]? = some (.cells #[.string ⟨#[]⟩, .slice none 0 0] 30 (0, 0)) := by rw [hw0]; simpa using heap_alloc_new (w.alloc (.cells #[.string nm, .slice A rs.length c] 30)) (.cells #[.string ⟨#[]⟩, .slice none 0 0] 30)
  have hz0 : w0.heap.size = w.heap.size + 1 + 1 := by rw [hw0]; simp
  have HP := hide hP
  have HZ := hide (hz.below hb0)
  have HT := hide (hst.below hb0)
  have HB0 := hide hb0
  have HZ0 := hide hz0
  have HRR := hide hRR
  have c0 := hP.c0
  have c1' := hP.c1
  have hpl := hP.lt
  have hzn := HZO.out.len1
  have hz8 := HZO.out.len8
  clear h hz hst hb0 hz0 hRR hP
  go_enter Tryz.func57, Tryz.ntmps57
  go_wp2_with fail
  rw [← hw0]
  clear hw0
  refine (implcopyProfile nm A c rs w0 HP.out.sl (by omega) h0).mono ?_
  rintro e w1 ⟨A1, c1, rfl, ho1, hb1⟩
  have HO := hide ho1
  have HB1 := hide hb1
  clear ho1 hb1 c0 c1' hpl
  have H2 := hide (show PrOwn w0 (w1.alloc (.cells #[.string nm, .slice A1 (turnTo zs st rs 0).length c1] 30)) w1.heap.size nm A1 c1 (turnTo zs st rs 0) from ⟨heap_alloc_new w1 _, by rw [turnTo_zero]; exact HO.out.below ((Below.refl _ _).alloc (Nat.le_refl _) _), HB1.out.alloc HB1.out.size _, HB1.out.size⟩)
  obtain ⟨q, hq⟩ : ∃ q, q = w1.heap.size := ⟨_, rfl⟩
  rw [turnTo_length] at H2
  go_wp2_with fail
  rw [← hq] at H2 ⊢
  clear hq HO HB1
  generalize w1.alloc (.cells #[.string nm, .slice A1 rs.length c1] 30) = w2 at *
  go_loopw [15, 8, 9, 10] (fun v _ _ _ wr => ∃ z : Nat, v = .int .i64 z ∧ z ≤ zs.length ∧ Hid (PrOwn w0 wr q nm A1 c1 (turnTo zs st rs (startZ zs rs.length z)))) (fun v _ _ _ _ => zs.length - (intOf v).toNat)
  case atStart => exact ⟨0, rfl, by omega, by rw [startZ_zero HZO.out]; exact H2⟩
  case round =>
    obtain ⟨z, rfl, hz, HR⟩ := hrel
    by_cases hlt : z < zs.length
    · have HZr := hide (HZ.out.below HR.out.bel)
      obtain ⟨bz, oz, hAz, hbz, hcz⟩ := HZr.out.getA (by omega)
      have hczz := hcz z hlt
      subst hAz
      have hst2 := startZ_at HZO.out hlt
      have HSN := hide (startZ_next HZO.out (z := z))
      rw [← hst2] at hczz
      have hzr : z < wr.heap.size + zs.length := by omega
      clear hcz hst2
      go_wp2_with fail
      go_loopw [10] (fun v wk => ∃ k : Nat, v = .int .i64 k ∧ startZ zs rs.length z ≤ k ∧ (k : Int) ≤ endZ zs rs.length z ∧ Hid (PrOwn w0 wk q nm A1 c1 (turnTo zs st rs k))) (fun v _ => rs.length - (intOf v).toNat)
      case atStart => exact ⟨_, rfl, Nat.le_refl _, by have := HZO.out.endZ_lt hlt; have := startZ_at HZO.out hlt; omega, HR⟩
      case round =>
        obtain ⟨k, rfl, hk1, hk2, HK⟩ := hrel
        have HPk := hide (HP.out.below HK.out.bel)
        have p0 := HPk.out.c0
        have p1 := HPk.out.c1
        have pl := HPk.out.lt
        go_wp2_with fail
        refine (implzoneEnd nm A rs.length c _ cz zs z wr (HZ.out.below HK.out.bel) (by omega) hlt).mono ?_
        rintro e w3 ⟨rfl, hb3⟩
        have HK3 := hide (HK.out.below hb3)
        have HEND := hide (HZO.out.endZ_lt hlt).2
        obtain ⟨en, hen⟩ : ∃ en, en = endZ zs rs.length z := ⟨_, rfl⟩
        rw [← hen] at hk2 HEND HSN ⊢
        have HEN := hide hen
        clear hb3 p0 p1 pl HPk hen HK
        by_cases hkl : (k : Int) < en
        · have hkr : k < rs.length := by have := HEND.out; omega
          obtain ⟨g, hA, hg1, hg2, g1, g2, g3⟩ := HK3.out.cells (i := k) (by rw [turnTo_length]; exact hkr)
          subst hA
          rw [turnTo_length] at g1
          rw [inner_turnTo hkr] at g2
          have HN := hide (fun v : Int => HK3.out.set (i := k) (by rw [turnTo_length]; exact hkr) v)
          have HS1 := hide (turnTo_succ zs st rs k hkr)
          rw [inner_turnTo hkr, zoneAt_eq HZO.out hlt (by have := startZ_at HZO.out hlt; omega) (by rw [← HEN.out]; exact hkl)] at HS1
          obtain ⟨hx0, hx1⟩ := HI.out k hkr
          obtain ⟨bs, os, rfl, hbs, hcs⟩ := (HT.out.below HK3.out.bel).getA (by omega)
          have hcz := hcs z (by omega)
          obtain ⟨hs0, hs1⟩ := HS.out z
          clear hcs
          generalize ig st z = s at *
          generalize (rg rs k).inner = x at *
          have hz2 : z < st.length := by omega
          have kw1 : IntKind.i64.wrap (10 * s) = 10 * s := IntWalk.i64_in _ (by omega)
          have kw2 : IntKind.i64.wrap (x + 10 * s) = x + 10 * s := IntWalk.i64_in _ (by omega)
          have hil : (k : Int) < rs.length := by omega
          have hi0 : (0 : Int) ≤ k := by omega
          have hq0 := HK3.out.lt
          go_upto_region 8 with fail
          go_region
          all_goals
            go_wp2_with fail
            go_roundw
            case rel => exact ⟨k + 1, by go_num, by omega, by first | (rw [← HEN.out]; omega) | omega, hide (by rw [HS1.out]; exact (HN.out _).below (Below.refl _ _).drew)⟩
            case measure => simp [intOf]; omega
        · have hke : k = startZ zs rs.length (z + 1) := by have := HSN.out; omega
          have HKE := hide hke
          clear hke
          go_wp2_with fail
          go_roundw
          case rel => exact ⟨z + 1, by go_num, by omega, by rw [← HKE.out]; exact HK3⟩
          case measure => simp [intOf]; omega
    · obtain rfl : z = zs.length := by omega
      have hsz0 : startZ zs rs.length zs.length = rs.length := by unfold startZ; rw [if_neg (by omega)]
      rw [hsz0] at HR
      have ht := turnTo_all zs st rs (Nat.le_refl rs.length)
      rw [ht] at HR
      have e0 := HR.out.at_.c0
      have e1 := HR.out.at_.c1
      have hql := HR.out.lt
      have hrb : wr.heap[w.heap.size + 1]? = some (.cells #[.string ⟨#[]⟩, .slice none 0 0] 30 (0, 0)) := (HR.out.bel.block (w.heap.size + 1) (by have := HZ0.out; omega)).trans HRR.out
      have r0 : wr.cell? ⟨w.heap.size + 1, 0, none⟩ = some (.string ⟨#[]⟩) := by simp [World.cell?, hrb]
      have r1 : wr.cell? ⟨w.heap.size + 1, 1, none⟩ = some (.slice none 0 0) := by simp [World.cell?, hrb]
      have y0 : wr.frozen? ⟨w.heap.size + 1, 0, none⟩ = false := by simp [World.frozen?, hrb]
      have y1 : wr.frozen? ⟨w.heap.size + 1, 1, none⟩ = false := by simp [World.frozen?, hrb]
      have HO := hide HR.out.row
      rw [HZ0.out] at HO
      have hsz := HR.out.bel.size
      have hwz : w.heap.size + 1 < wr.heap.size := by have := HZ0.out; omega
      have HBB := hide (HB0.out.trans (HR.out.bel.mono HB0.out.size))
      rw [turn_length] at e1
      clear hrb ht hsz
      go_wp2_with fail
      refine bodyPost_ret (v := .agg #[.string nm, .slice A1 (turn zs st rs).length c1]) (by simp [results, Tryz.results57, go_sem, r0, r1, turn_length]) rfl ⟨A1, c1, rfl, ?_, (HBB.out.setCell (by simp) _).setCell (by simp) _⟩
      exact (own_far' HO.out (grown_set (grown_set (grown_refl wr (some (w.heap.size + 1))) 0 (.string nm)) 1 (.slice A1 rs.length c1))).mono (by omega)
end Go.Proofs.YtnefgafmnpblpaaGreat
