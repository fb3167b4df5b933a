/- A visit of the reference's search: without a node left; of a whole schedule. -/
import Derived.Test.YtklmbgefdopifaaHtX
namespace Go.Proofs.Ytklmbgefdopifaa
open Go.RowKit

/-- What a visit of the reference's search is to show. -/
def HVisit (w0 : World) (b : Nat) (A : Option Addr) (c : Nat) (ps : List PourR) (A1 : Option Addr) (c1 : Nat) (cs : List CrucR) (fA : Option Addr) (fc : Nat) (dA : Option Addr) (dc : Nat) (first : Bool) (budget : Int) (f : Nat) : Prop :=
  ∀ (hs : List HeatR) (s : Ht.S) (w : World) (hv : Option Addr) (hc : Nat) (bv : Option Addr) (bc : Nat), ps.length < f + hs.length → Hid (HtX w0 b A ps.length c A1 cs.length c1 fA fc dA dc first budget w hv hc hs bv bc (Ht.frees cs hs) (Ht.dones ps.length hs) (Ht.lastE s.best) s) → Hid (Ht.GoodH ps cs hs) → hs.length ≤ ps.length → Hid (Ht.ended first s = false) →
    Calls Try.prog 89 #[.pointer (some ⟨b, 0, none⟩)] w fun e w' => ∃ (s' : Ht.S) (hv' : Option Addr) (hc' : Nat) (bv' : Option Addr) (bc' : Nat), e = .returned (.bool (!Ht.ended first s')) ∧ Ht.srch first (Ht.nx ps cs) ps.length cs.length f hs s = s' ∧ HtX w0 b A ps.length c A1 cs.length c1 fA fc dA dc first budget w' hv' hc' hs bv' bc' (Ht.frees cs hs) (Ht.dones ps.length hs) (Ht.lastE s'.best) s'
set_option maxRecDepth 100000 in
set_option maxHeartbeats 8000000 in
theorem hvisit_zero (w0 : World) (b : Nat) (A : Option Addr) (c : Nat) (ps : List PourR) (A1 : Option Addr) (c1 : Nat) (cs : List CrucR) (fA : Option Addr) (fc : Nat) (dA : Option Addr) (dc : Nat) (first : Bool) (budget : Int) (HX : Hid (SlAt encPour 4 w0 A ps)) (HY : Hid (SlAt encCruc 4 w0 A1 cs)) (HV : Hid (∀ x ∈ ps, vPourR x = true)) (HW : Hid (∀ y ∈ cs, vCrucR y = true)) (hn : ps.length ≤ 12) (hm : cs.length ≤ 4) (f : Nat) (ih : HVisit w0 b A c ps A1 c1 cs fA fc dA dc first budget f) (hs : List HeatR) (left count : Int) (best : List HeatR) (w : World) (hv : Option Addr) (hc : Nat) (bv : Option Addr) (bc : Nat) (hf : ps.length < f + 1 + hs.length)
    (HS : Hid (HtX w0 b A ps.length c A1 cs.length c1 fA fc dA dc first budget w hv hc hs bv bc (Ht.frees cs hs) (Ht.dones ps.length hs) (Ht.lastE best) ⟨left, false, count, best⟩)) (HG : Hid (Ht.GoodH ps cs hs)) (hle : hs.length ≤ ps.length) (HE : Hid (Ht.ended first ⟨left, false, count, best⟩ = false)) (hl0 : left = 0) :
    Calls Try.prog 89 #[.pointer (some ⟨b, 0, none⟩)] w fun e w' => ∃ (s' : Ht.S) (hv' : Option Addr) (hc' : Nat) (bv' : Option Addr) (bc' : Nat), e = .returned (.bool (!Ht.ended first s')) ∧ Ht.srch first (Ht.nx ps cs) ps.length cs.length (f + 1) hs ⟨left, false, count, best⟩ = s' ∧ HtX w0 b A ps.length c A1 cs.length c1 fA fc dA dc first budget w' hv' hc' hs bv' bc' (Ht.frees cs hs) (Ht.dones ps.length hs) (Ht.lastE s'.best) s' := by
  have _u1 := HX
  have _u2 := HY
  have _u3 := HV
  have _u4 := HW
  have _u5 := hn
  have _u6 := hm
  have _u7 := ih
  have _u8 := hf
  have _u9 := HG
  have _u10 := hle
  clear _u1 _u2 _u3 _u4 _u5 _u6 _u7 _u8 _u9 _u10
  have hbl := HS.out.lt
  have h1 := HS.out.st
  obtain ⟨l0, l1, l2, l3⟩ := HS.out.inv
  obtain ⟨u0, u1⟩ := HS.out.bud
  simp only at l0 l1 l2 l3 u0
  have hnd : Ht.nodes budget ⟨left, false, count, best⟩ = budget - left := by simp [Ht.nodes]
  simp only [hnd] at h1
  have g9 : w.cell? ⟨b, 9, none⟩ = some (.int .i64 (budget - left)) := by simp [World.cell?, h1]
  have g10 : w.cell? ⟨b, 10, none⟩ = some (.int .i64 budget) := by simp [World.cell?, h1]
  have f9 : w.frozen? ⟨b, 9, none⟩ = false := by simp [World.frozen?, h1]
  clear h1
  subst hl0
  simp only [Int.sub_zero] at g9 hnd
  have HS1 := hide (HS.out.over (nd := budget + 1) (by rw [hnd]))
  have HSP := hide (Ht.srch_spent (nx := Ht.nx ps cs) (n := ps.length) (m := cs.length) (f := f) (hs := hs) HE.out rfl)
  have hgt : decide (budget < budget + 1) = true := by simp; omega
  clear ih HX HY HV HW HG HS hnd
  go_enter Try.func89, Try.ntmps89
  go_wp2_with fail
  generalize w.setCell ⟨b, 9, none⟩ (.int .i64 (budget + 1)) = w1 at *
  have hst := HS1.out.st
  have hb1 := HS1.out.lt
  have g9 : w1.cell? ⟨b, 9, none⟩ = some (.int .i64 (budget + 1)) := by simp [World.cell?, hst, Ht.nodes]
  have g10 : w1.cell? ⟨b, 10, none⟩ = some (.int .i64 budget) := by simp [World.cell?, hst]
  clear hst
  refine wp_region_kept (by kernel_rfl) (by kernel_rfl) ?_
  intro gc gf gz
  repeat (go_big_quiet_step (fail))
  refine wpQuiet_nil ?_
  intro w2 hw'
  obtain ⟨⟨_, hb2⟩, rfl⟩ := hw'
  clear gc gf gz
  try dsimp only
  have fs2 := hb2.size
  try simp at fs2 hb2
  go_wp2_with fail
  go_ret
  exact ⟨⟨0, true, count, best⟩, hv, hc, bv, bc, by simp [Ht.ended], HSP.out, HS1.out.below hb2⟩
set_option maxRecDepth 100000 in
set_option maxHeartbeats 8000000 in
theorem hvisit_full_b (w0 : World) (b : Nat) (A : Option Addr) (c : Nat) (ps : List PourR) (A1 : Option Addr) (c1 : Nat) (cs : List CrucR) (fA : Option Addr) (fc : Nat) (dA : Option Addr) (dc : Nat) (first : Bool) (budget : Int) (HX : Hid (SlAt encPour 4 w0 A ps)) (HY : Hid (SlAt encCruc 4 w0 A1 cs)) (HV : Hid (∀ x ∈ ps, vPourR x = true)) (HW : Hid (∀ y ∈ cs, vCrucR y = true)) (hn : ps.length ≤ 12) (hm : cs.length ≤ 4) (f : Nat) (ih : HVisit w0 b A c ps A1 c1 cs fA fc dA dc first budget f) (hs : List HeatR) (left count : Int) (best : List HeatR) (w : World) (hv : Option Addr) (hc : Nat) (bv : Option Addr) (bc : Nat) (hf : ps.length < f + 1 + hs.length)
    (HS : Hid (HtX w0 b A ps.length c A1 cs.length c1 fA fc dA dc first budget w hv hc hs bv bc (Ht.frees cs hs) (Ht.dones ps.length hs) (Ht.lastE best) ⟨left, false, count, best⟩)) (HG : Hid (Ht.GoodH ps cs hs)) (hle : hs.length ≤ ps.length) (HE : Hid (Ht.ended first ⟨left, false, count, best⟩ = false)) (hl0 : ¬ left = 0) (hfull : hs.length = ps.length) (hbt : Ht.better hs ⟨left - 1, false, count, best⟩ = true) :
    Calls Try.prog 89 #[.pointer (some ⟨b, 0, none⟩)] w fun e w' => ∃ (s' : Ht.S) (hv' : Option Addr) (hc' : Nat) (bv' : Option Addr) (bc' : Nat), e = .returned (.bool (!Ht.ended first s')) ∧ Ht.srch first (Ht.nx ps cs) ps.length cs.length (f + 1) hs ⟨left, false, count, best⟩ = s' ∧ HtX w0 b A ps.length c A1 cs.length c1 fA fc dA dc first budget w' hv' hc' hs bv' bc' (Ht.frees cs hs) (Ht.dones ps.length hs) (Ht.lastE s'.best) s' := by
  have hfl := Ht.srch_full (first := first) (nx := Ht.nx ps cs) (m := cs.length) (f := f) (hs := hs) (s := ⟨left, false, count, best⟩) HE.out hl0 hfull
  have HFL := hide hfl
  have hfu : ((hs.length : Int) == ps.length) = true := by simp; omega
  have Khbt := hide hbt
  have hl12 : hs.length ≤ 12 := by omega
  have hen : ∀ bs : List HeatR, Ht.ended first ⟨left - 1, false, count + 1, bs⟩ = first := fun bs => by
    have hl1 := HS.out.inv.2.1
    simp only at hl1
    simp only [Ht.ended, Bool.false_or]
    have : decide (0 < count + 1) = true := by simp; omega
    rw [this, Bool.and_true]
  have HEN := hide hen
  clear hfl hfull hbt hen
  have _u1 := HX
  have _u2 := HY
  have _u3 := HV
  have _u4 := HW
  have _u5 := hn
  have _u6 := hm
  have _u7 := ih
  have _u8 := hf
  have _u9 := HG
  have _u10 := hle
  clear _u1 _u2 _u3 _u4 _u5 _u6 _u7 _u8 _u9 _u10
  have hbl := HS.out.lt
  have h1 := HS.out.st
  obtain ⟨l0, l1, l2, l3⟩ := HS.out.inv
  obtain ⟨u0, u1⟩ := HS.out.bud
  simp only at l0 l1 l2 l3 u0
  have hnd : Ht.nodes budget ⟨left, false, count, best⟩ = budget - left := by simp [Ht.nodes]
  simp only [hnd] at h1
  have g9 : w.cell? ⟨b, 9, none⟩ = some (.int .i64 (budget - left)) := by simp [World.cell?, h1]
  have g10 : w.cell? ⟨b, 10, none⟩ = some (.int .i64 budget) := by simp [World.cell?, h1]
  have f9 : w.frozen? ⟨b, 9, none⟩ = false := by simp [World.frozen?, h1]
  clear h1
  have HS1 := hide (HS.out.node (nd := budget - left + 1) hl0 (by rw [hnd]))
  have hgt : decide (budget < budget - left + 1) = false := by simp; omega
  have HL := hide hl0
  clear HS hnd hl0
  go_enter Try.func89, Try.ntmps89
  go_wp2_with fail
  generalize w.setCell ⟨b, 9, none⟩ (.int .i64 (budget - left + 1)) = w1 at *
  have hst := HS1.out.st
  have hb1 := HS1.out.lt
  have hnd1 : Ht.nodes budget ⟨left - 1, false, count, best⟩ = budget - left + 1 := by simp [Ht.nodes]; omega
  simp only [hnd1] at hst
  have g9' : w1.cell? ⟨b, 9, none⟩ = some (.int .i64 (budget - left + 1)) := by simp [World.cell?, hst]
  have g10' : w1.cell? ⟨b, 10, none⟩ = some (.int .i64 budget) := by simp [World.cell?, hst]
  clear hst hnd1 g9 g10 f9
  refine wp_region_kept (by kernel_rfl) (by kernel_rfl) ?_
  intro gc gf gz
  repeat (go_big_quiet_step (fail))
  refine wpQuiet_nil ?_
  intro w2 hw'
  obtain ⟨⟨_, hb2⟩, rfl⟩ := hw'
  clear gc gf gz
  try dsimp only
  have fs2 := hb2.size
  try simp at fs2 hb2
  have HS2 := hide (HS1.out.below hb2)
  clear HS1 hb2 fs2 hb1 g9' g10'
  have hst := HS2.out.st
  have hb2 := HS2.out.lt
  have g0 : w2.cell? ⟨b, 0, none⟩ = some (.slice A ps.length c) := by simp [World.cell?, hst]
  have g4 : w2.cell? ⟨b, 4, none⟩ = some (.slice hv hs.length hc) := by simp [World.cell?, hst]
  clear hst
  go_wp2_with fail
  clear hgt
  refine wp_region_kept (by kernel_rfl) (by kernel_rfl) ?_
  intro gc gf gz
  repeat (go_big_quiet_step (fail))
  refine wpQuiet_nil ?_
  intro w3 hw'
  obtain ⟨⟨_, hb3⟩, rfl⟩ := hw'
  clear gc gf gz
  try dsimp only
  have fs3 := hb3.size
  try simp at fs3 hb3
  have HS3 := hide (HS2.out.below hb3)
  clear HS2 hb3 fs3 hb2 g0 g4
  have hlq := HL.out
  have HS4 := hide (HS3.out.count1 (by omega))
  have hst := HS3.out.st
  have hb3 := HS3.out.lt
  have g4 : w3.cell? ⟨b, 4, none⟩ = some (.slice hv hs.length hc) := by simp [World.cell?, hst]
  have g6 : w3.cell? ⟨b, 6, none⟩ = some (.int .i64 count) := by simp [World.cell?, hst]
  have f6 : w3.frozen? ⟨b, 6, none⟩ = false := by simp [World.frozen?, hst]
  clear hst HS3 hlq
  clear ih HX HY HV HW HG
  go_wp2_with fail
  clear g4 g6 f6 hb3 hfu
  generalize w3.setCell ⟨b, 6, none⟩ (.int .i64 (count + 1)) = w4 at *
  refine (specl17Last hv hc hs _ (HS4.out.oh.at_ (fun _ => rfl)) (by omega)).mono ?_
  rintro e w5 ⟨rfl, rfl⟩
  have hst := HS4.out.st
  have hb4 := HS4.out.lt
  have g6 : w4.cell? ⟨b, 6, none⟩ = some (.int .i64 (count + 1)) := by simp [World.cell?, hst]
  have g8 : w4.cell? ⟨b, 8, none⟩ = some (.int .i64 (Ht.lastE best)) := by simp [World.cell?, hst]
  have g5 : w4.cell? ⟨b, 5, none⟩ = some (.bool first) := by simp [World.cell?, hst]
  by_cases hc0 : count = 0
  · have hc1 : (count + 1 == 1) = true := by simp [hc0]
    clear hc0
    have f8 : w4.frozen? ⟨b, 8, none⟩ = false := by simp [World.frozen?, hst]
    clear hst
    have HS6 := hide (HS4.out.leastTo (Ht.lastE hs))
    clear HS4
    go_upto_region 9 with fail
    clear g5 g6 g8 f8 hb4
    generalize w4.setCell ⟨b, 8, none⟩ (.int .i64 (Ht.lastE hs)) = w6 at *
    have hst := HS6.out.st
    have hb6 := HS6.out.lt
    have g4 : w6.cell? ⟨b, 4, none⟩ = some (.slice hv hs.length hc) := by simp [World.cell?, hst]
    have g5 : w6.cell? ⟨b, 5, none⟩ = some (.bool first) := by simp [World.cell?, hst]
    have g7 : w6.cell? ⟨b, 7, none⟩ = some (.slice bv best.length bc) := by simp [World.cell?, hst]
    have f7 : w6.frozen? ⟨b, 7, none⟩ = false := by simp [World.frozen?, hst]
    clear hst
    have H := hide (HS6.out.oh.below (w' := w6.alloc (.cells #[] 110)) ((Below.refl _ _).alloc (Nat.le_refl _) _))
    have H0 := hide (own_made (enc := encHeat) (sz := 4) (T := 110) w6 rfl (Nat.le_refl _))
    go_wp2_with (at_builtin; refine wpList_appHs (xs := []) rfl _ _ rfl w6.heap.size (b + 1) rfl H0.out rfl H.out (by simp; omega) (by simp) ?_; intro A7 c7 w7 ho7 hb7 _hg7; have hb7' : Below w6.heap.size w6 w7 := Below.trans ((Below.refl w6.heap.size w6).alloc (Nat.le_refl _) (.cells #[] 110)) hb7; have HP7 := hide (HS6.out.best1 (by simpa using ho7) hb7' hl12); have g5' : w7.cell? ⟨b, 5, none⟩ = some (.bool first) := (hb7'.cell (p := ⟨b, 5, none⟩) hb6).trans g5; have g7' : w7.cell? ⟨b, 7, none⟩ = some (.slice bv best.length bc) := (hb7'.cell (p := ⟨b, 7, none⟩) hb6).trans g7; have f7' : w7.frozen? ⟨b, 7, none⟩ = false := (hb7'.frozen (p := ⟨b, 7, none⟩) hb6).trans f7; clear ho7 hb7 hb7')
    go_ret
    refine ⟨⟨left - 1, false, count + 1, hs⟩, hv, hc, A7, c7, by rw [HEN.out]; rfl, ?_, by simpa using HP7.out⟩
    rw [HFL.out]; unfold Ht.look; rw [Khbt.out]; rfl
  · have hc1 : (count + 1 == 1) = false := by simp; omega
    have hlt : decide (Ht.lastE hs < Ht.lastE best) = true := by
      have q := Khbt.out
      have : (count == 0) = false := by simpa using hc0
      unfold Ht.better at q
      simp only at q
      rw [this, Bool.false_or] at q
      exact q
    clear hc0
    have f8 : w4.frozen? ⟨b, 8, none⟩ = false := by simp [World.frozen?, hst]
    clear hst
    have HS6 := hide (HS4.out.leastTo (Ht.lastE hs))
    clear HS4
    go_upto_region 9 with fail
    clear g5 g6 g8 f8 hb4
    generalize w4.setCell ⟨b, 8, none⟩ (.int .i64 (Ht.lastE hs)) = w6 at *
    have hst := HS6.out.st
    have hb6 := HS6.out.lt
    have g4 : w6.cell? ⟨b, 4, none⟩ = some (.slice hv hs.length hc) := by simp [World.cell?, hst]
    have g5 : w6.cell? ⟨b, 5, none⟩ = some (.bool first) := by simp [World.cell?, hst]
    have g7 : w6.cell? ⟨b, 7, none⟩ = some (.slice bv best.length bc) := by simp [World.cell?, hst]
    have f7 : w6.frozen? ⟨b, 7, none⟩ = false := by simp [World.frozen?, hst]
    clear hst
    have H := hide (HS6.out.oh.below (w' := w6.alloc (.cells #[] 110)) ((Below.refl _ _).alloc (Nat.le_refl _) _))
    have H0 := hide (own_made (enc := encHeat) (sz := 4) (T := 110) w6 rfl (Nat.le_refl _))
    go_wp2_with (at_builtin; refine wpList_appHs (xs := []) rfl _ _ rfl w6.heap.size (b + 1) rfl H0.out rfl H.out (by simp; omega) (by simp) ?_; intro A7 c7 w7 ho7 hb7 _hg7; have hb7' : Below w6.heap.size w6 w7 := Below.trans ((Below.refl w6.heap.size w6).alloc (Nat.le_refl _) (.cells #[] 110)) hb7; have HP7 := hide (HS6.out.best1 (by simpa using ho7) hb7' hl12); have g5' : w7.cell? ⟨b, 5, none⟩ = some (.bool first) := (hb7'.cell (p := ⟨b, 5, none⟩) hb6).trans g5; have g7' : w7.cell? ⟨b, 7, none⟩ = some (.slice bv best.length bc) := (hb7'.cell (p := ⟨b, 7, none⟩) hb6).trans g7; have f7' : w7.frozen? ⟨b, 7, none⟩ = false := (hb7'.frozen (p := ⟨b, 7, none⟩) hb6).trans f7; clear ho7 hb7 hb7')
    go_ret
    refine ⟨⟨left - 1, false, count + 1, hs⟩, hv, hc, A7, c7, by rw [HEN.out]; rfl, ?_, by simpa using HP7.out⟩
    rw [HFL.out]; unfold Ht.look; rw [Khbt.out]; rfl
set_option maxRecDepth 100000 in
set_option maxHeartbeats 8000000 in
theorem hvisit_full_n (w0 : World) (b : Nat) (A : Option Addr) (c : Nat) (ps : List PourR) (A1 : Option Addr) (c1 : Nat) (cs : List CrucR) (fA : Option Addr) (fc : Nat) (dA : Option Addr) (dc : Nat) (first : Bool) (budget : Int) (HX : Hid (SlAt encPour 4 w0 A ps)) (HY : Hid (SlAt encCruc 4 w0 A1 cs)) (HV : Hid (∀ x ∈ ps, vPourR x = true)) (HW : Hid (∀ y ∈ cs, vCrucR y = true)) (hn : ps.length ≤ 12) (hm : cs.length ≤ 4) (f : Nat) (ih : HVisit w0 b A c ps A1 c1 cs fA fc dA dc first budget f) (hs : List HeatR) (left count : Int) (best : List HeatR) (w : World) (hv : Option Addr) (hc : Nat) (bv : Option Addr) (bc : Nat) (hf : ps.length < f + 1 + hs.length)
    (HS : Hid (HtX w0 b A ps.length c A1 cs.length c1 fA fc dA dc first budget w hv hc hs bv bc (Ht.frees cs hs) (Ht.dones ps.length hs) (Ht.lastE best) ⟨left, false, count, best⟩)) (HG : Hid (Ht.GoodH ps cs hs)) (hle : hs.length ≤ ps.length) (HE : Hid (Ht.ended first ⟨left, false, count, best⟩ = false)) (hl0 : ¬ left = 0) (hfull : hs.length = ps.length) (hbt : Ht.better hs ⟨left - 1, false, count, best⟩ = false) :
    Calls Try.prog 89 #[.pointer (some ⟨b, 0, none⟩)] w fun e w' => ∃ (s' : Ht.S) (hv' : Option Addr) (hc' : Nat) (bv' : Option Addr) (bc' : Nat), e = .returned (.bool (!Ht.ended first s')) ∧ Ht.srch first (Ht.nx ps cs) ps.length cs.length (f + 1) hs ⟨left, false, count, best⟩ = s' ∧ HtX w0 b A ps.length c A1 cs.length c1 fA fc dA dc first budget w' hv' hc' hs bv' bc' (Ht.frees cs hs) (Ht.dones ps.length hs) (Ht.lastE s'.best) s' := by
  have hfl := Ht.srch_full (first := first) (nx := Ht.nx ps cs) (m := cs.length) (f := f) (hs := hs) (s := ⟨left, false, count, best⟩) HE.out hl0 hfull
  have HFL := hide hfl
  have hfu : ((hs.length : Int) == ps.length) = true := by simp; omega
  have Khbt := hide hbt
  have hl12 : hs.length ≤ 12 := by omega
  have hen : ∀ bs : List HeatR, Ht.ended first ⟨left - 1, false, count + 1, bs⟩ = first := fun bs => by
    have hl1 := HS.out.inv.2.1
    simp only at hl1
    simp only [Ht.ended, Bool.false_or]
    have : decide (0 < count + 1) = true := by simp; omega
    rw [this, Bool.and_true]
  have HEN := hide hen
  clear hfl hfull hbt hen
  have _u1 := HX
  have _u2 := HY
  have _u3 := HV
  have _u4 := HW
  have _u5 := hn
  have _u6 := hm
  have _u7 := ih
  have _u8 := hf
  have _u9 := HG
  have _u10 := hle
  clear _u1 _u2 _u3 _u4 _u5 _u6 _u7 _u8 _u9 _u10
  have hbl := HS.out.lt
  have h1 := HS.out.st
  obtain ⟨l0, l1, l2, l3⟩ := HS.out.inv
  obtain ⟨u0, u1⟩ := HS.out.bud
  simp only at l0 l1 l2 l3 u0
  have hnd : Ht.nodes budget ⟨left, false, count, best⟩ = budget - left := by simp [Ht.nodes]
  simp only [hnd] at h1
  have g9 : w.cell? ⟨b, 9, none⟩ = some (.int .i64 (budget - left)) := by simp [World.cell?, h1]
  have g10 : w.cell? ⟨b, 10, none⟩ = some (.int .i64 budget) := by simp [World.cell?, h1]
  have f9 : w.frozen? ⟨b, 9, none⟩ = false := by simp [World.frozen?, h1]
  clear h1
  have HS1 := hide (HS.out.node (nd := budget - left + 1) hl0 (by rw [hnd]))
  have hgt : decide (budget < budget - left + 1) = false := by simp; omega
  have HL := hide hl0
  clear HS hnd hl0
  go_enter Try.func89, Try.ntmps89
  go_wp2_with fail
  generalize w.setCell ⟨b, 9, none⟩ (.int .i64 (budget - left + 1)) = w1 at *
  have hst := HS1.out.st
  have hb1 := HS1.out.lt
  have hnd1 : Ht.nodes budget ⟨left - 1, false, count, best⟩ = budget - left + 1 := by simp [Ht.nodes]; omega
  simp only [hnd1] at hst
  have g9' : w1.cell? ⟨b, 9, none⟩ = some (.int .i64 (budget - left + 1)) := by simp [World.cell?, hst]
  have g10' : w1.cell? ⟨b, 10, none⟩ = some (.int .i64 budget) := by simp [World.cell?, hst]
  clear hst hnd1 g9 g10 f9
  refine wp_region_kept (by kernel_rfl) (by kernel_rfl) ?_
  intro gc gf gz
  repeat (go_big_quiet_step (fail))
  refine wpQuiet_nil ?_
  intro w2 hw'
  obtain ⟨⟨_, hb2⟩, rfl⟩ := hw'
  clear gc gf gz
  try dsimp only
  have fs2 := hb2.size
  try simp at fs2 hb2
  have HS2 := hide (HS1.out.below hb2)
  clear HS1 hb2 fs2 hb1 g9' g10'
  have hst := HS2.out.st
  have hb2 := HS2.out.lt
  have g0 : w2.cell? ⟨b, 0, none⟩ = some (.slice A ps.length c) := by simp [World.cell?, hst]
  have g4 : w2.cell? ⟨b, 4, none⟩ = some (.slice hv hs.length hc) := by simp [World.cell?, hst]
  clear hst
  go_wp2_with fail
  clear hgt
  refine wp_region_kept (by kernel_rfl) (by kernel_rfl) ?_
  intro gc gf gz
  repeat (go_big_quiet_step (fail))
  refine wpQuiet_nil ?_
  intro w3 hw'
  obtain ⟨⟨_, hb3⟩, rfl⟩ := hw'
  clear gc gf gz
  try dsimp only
  have fs3 := hb3.size
  try simp at fs3 hb3
  have HS3 := hide (HS2.out.below hb3)
  clear HS2 hb3 fs3 hb2 g0 g4
  have hlq := HL.out
  have HS4 := hide (HS3.out.count1 (by omega))
  have hst := HS3.out.st
  have hb3 := HS3.out.lt
  have g4 : w3.cell? ⟨b, 4, none⟩ = some (.slice hv hs.length hc) := by simp [World.cell?, hst]
  have g6 : w3.cell? ⟨b, 6, none⟩ = some (.int .i64 count) := by simp [World.cell?, hst]
  have f6 : w3.frozen? ⟨b, 6, none⟩ = false := by simp [World.frozen?, hst]
  clear hst HS3 hlq
  clear ih HX HY HV HW HG
  go_wp2_with fail
  clear g4 g6 f6 hb3 hfu
  generalize w3.setCell ⟨b, 6, none⟩ (.int .i64 (count + 1)) = w4 at *
  refine (specl17Last hv hc hs _ (HS4.out.oh.at_ (fun _ => rfl)) (by omega)).mono ?_
  rintro e w5 ⟨rfl, rfl⟩
  have hst := HS4.out.st
  have hb4 := HS4.out.lt
  have g6 : w4.cell? ⟨b, 6, none⟩ = some (.int .i64 (count + 1)) := by simp [World.cell?, hst]
  have g8 : w4.cell? ⟨b, 8, none⟩ = some (.int .i64 (Ht.lastE best)) := by simp [World.cell?, hst]
  have g5 : w4.cell? ⟨b, 5, none⟩ = some (.bool first) := by simp [World.cell?, hst]
  have hc0 : count ≠ 0 := fun q => by have := Khbt.out; subst q; simp [Ht.better] at this
  have hc1 : (count + 1 == 1) = false := by simp; omega
  have hlt : decide (Ht.lastE hs < Ht.lastE best) = false := by
    have q := Khbt.out
    have : (count == 0) = false := by simpa using hc0
    unfold Ht.better at q
    simp only at q
    rw [this, Bool.false_or] at q
    exact q
  clear hc0
  clear hst
  go_wp2_with fail
  go_ret
  refine ⟨⟨left - 1, false, count + 1, best⟩, hv, hc, bv, bc, by rw [HEN.out]; rfl, ?_, HS4.out⟩
  rw [HFL.out]; unfold Ht.look; rw [Khbt.out]; rfl
end Go.Proofs.Ytklmbgefdopifaa
