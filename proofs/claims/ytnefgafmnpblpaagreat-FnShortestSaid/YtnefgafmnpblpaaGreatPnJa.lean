/- Contracts: cuts that a search has found are applied, on both sides. Contracts: the program's SoundOf, DeviationsAfter and IsPlan at cuts that a search has found. Contracts: the program's IsPlan at cuts that a search has found. -/
import Derived.Test.YtnefgafmnpblpaaGreatPnJ1
import Derived.Test.YtnefgafmnpblpaaGreatPnI9
namespace Go.Proofs.YtnefgafmnpblpaaGreat
open Go.RowKit Pn

/-- A search's arguments and cuts that it has found. -/
structure CutIn (x : Cx) (l : List Int) (xs : List CutR) : Prop where
  ask : AskOK x.zs x.ws x.bs x.nm x.rs
  goal : GoalOK x.t x.tol x.most
  full : Full x l
  of : CutsOf x.zs.length l xs
section
variable {x : Cx} {l : List Int} {xs : List CutR}
theorem CutIn.turn (h : CutIn x l xs) : turn x.zs (sumL xs xs.length) x.rs = turn x.zs l x.rs := turn_congr h.of.sum
theorem CutIn.ring (h : CutIn x l xs) : RingsOK (Pn.turn x.zs l x.rs) := turn_ok h.ask.r h.ask.z.len1 (Pre.fit h.full.pre)
theorem CutIn.prof (h : CutIn x l xs) : profB x.nm (Pn.turn x.zs l x.rs) = true := profB_ok h.ask.n h.ring
theorem CutIn.pz (h : CutIn x l xs) : pzB x.nm x.rs x.zs = true := by unfold pzB; rw [profB_ok h.ask.n h.ask.r, dc_true h.ask.z]; rfl
theorem CutIn.bd (h : CutIn x l xs) (k : Nat) : 0 ≤ ig (sumL xs xs.length) k ∧ ig (sumL xs xs.length) k ≤ x.most := by
  rw [h.of.sum]
  have hm := h.goal.most
  refine ⟨(h.full.bd hm.1 k).1, ?_⟩
  by_cases hk : k < l.length
  · have a := (h.full.pre.at_ k hk).2
    have hz : k < x.zs.length := by rw [← h.full.len]; exact hk
    rw [Cx.lim, limB_get _ _ _ hz] at a
    omega
  · rw [ig_out (by omega)]; exact hm.1
theorem CutIn.small (h : CutIn x l xs) : SmallI (sumL xs xs.length) := fun k => by
  have := h.bd k; have := h.goal.most; omega
theorem CutIn.len8 (_ : CutIn x l xs) : (sumL xs xs.length).length = 8 := sumL_length _ (Nat.le_refl _)
end
/-- A profile of the call's own, and OK. -/
def ApRes (nm : ByteArray) (rs : List RingR) (w : World) (e : Ending) (w' : World) : Prop :=
  ∃ (A : Option Addr) (c : Nat), e = .returned (.tuple #[.agg #[.string nm, .slice A rs.length c], .int .i64 0]) ∧ OwnR w' w.heap.size (.slice A rs.length c) rs ∧ Below w.heap.size w w'
set_option maxRecDepth 100000 in
set_option maxHeartbeats 1000000 in
theorem implorState_ok (nm : ByteArray) (A : Option Addr) (c : Nat) (rs : List RingR) (w : World) (h : SlAt encRing 3 w A rs) (hn : rs.length ≤ 1048576) (hs : nm.size ≤ maxLen) (HPB : Hid (profB nm rs = true)) :
    Calls Tryz.prog 124 #[.agg #[.string nm, .slice A rs.length c]] w fun e w' => e = .returned (.tuple #[.agg #[.string nm, .slice A rs.length c], .int .i64 0]) ∧ Below w.heap.size w w' := by
  obtain ⟨w0, hw0⟩ : ∃ w0, w0 = (w.alloc (.cells #[.string nm, .slice A rs.length c] 30)).alloc (.cells #[.string ⟨#[]⟩, .slice none 0 0] 30) := ⟨_, rfl⟩
  have hb0 : Below w.heap.size w w0 := by rw [hw0]; exact (by repeat (first | with_reducible exact Below.refl _ _ | with_reducible assumption | (with_reducible refine Below.drew ?_) | (with_reducible refine below_drewN ?_ _) | ((with_reducible refine Below.alloc ?_ ?_ _); rotate_left; (focus (first | omega | (simp; omega) | simp))) | ((with_reducible refine Below.setCell ?_ ?_ _); rotate_left; (focus (first | omega | (simp; omega) | simp))) | (refine Below.trans ?_ (Below.mono (by assumption) (by first | omega | (simp; omega) | simp)))))
  have hP : ProfAt w0 w.heap.size nm A c rs := by rw [hw0]; exact (ProfAt.new h).below ((Below.refl _ _).alloc (Nat.le_refl _) _)
  have hRR : w0.heap[w.heap.size + 1]? = some (.cells #[.string ⟨#[]⟩, .slice none 0 0] 30 (0, 0)) := by rw [hw0]; simpa using heap_alloc_new (w.alloc (.cells #[.string nm, .slice A rs.length c] 30)) (.cells #[.string ⟨#[]⟩, .slice none 0 0] 30)
  have hz0 : w0.heap.size = w.heap.size + 1 + 1 := by rw [hw0]; simp
  have HP := hide hP
  have HB0 := hide hb0
  have HZ0 := hide hz0
  have HRR := hide hRR
  have c0 := hP.c0
  have c1' := hP.c1
  have hpl := hP.lt
  clear h hb0 hP hRR hz0
  go_enter Tryz.func124, Tryz.ntmps124
  go_wp2_with fail
  rw [← hw0]
  clear hw0
  first
    | refine (implValidProfile nm A c rs w0 HP.out.sl hn hs).mono ?_
    | refine (specl05Ok w.heap.size nm A c rs w0 HP.out hn hs).mono ?_
  rintro e w1 ⟨rfl, hb1⟩
  rw [HPB.out]
  have HP1 := hide (HP.out.below hb1)
  have hrb : w1.heap[w.heap.size + 1]? = some (.cells #[.string ⟨#[]⟩, .slice none 0 0] 30 (0, 0)) := (hb1.block (w.heap.size + 1) (by have := HZ0.out; omega)).trans HRR.out
  have HB1 := hide (HB0.out.trans (hb1.mono HB0.out.size))
  have hwz : w.heap.size + 1 < w1.heap.size := by have := HZ0.out; have := hb1.size; omega
  have d0 := HP1.out.c0
  have d1 := HP1.out.c1
  have dl := HP1.out.lt
  have r0 : w1.cell? ⟨w.heap.size + 1, 0, none⟩ = some (.string ⟨#[]⟩) := by simp [World.cell?, hrb]
  have r1 : w1.cell? ⟨w.heap.size + 1, 1, none⟩ = some (.slice none 0 0) := by simp [World.cell?, hrb]
  have y0 : w1.frozen? ⟨w.heap.size + 1, 0, none⟩ = false := by simp [World.frozen?, hrb]
  have y1 : w1.frozen? ⟨w.heap.size + 1, 1, none⟩ = false := by simp [World.frozen?, hrb]
  clear hb1 hrb c0 c1' hpl HP HRR HZ0
  go_wp2_with fail
  refine bodyPost_ret (v := .tuple #[.agg #[.string nm, .slice A rs.length c], .int .i64 0]) (by simp [results, Tryz.results124, go_sem, r0, r1]) rfl ⟨rfl, (HB1.out.setCell (by simp) _).setCell (by simp) _⟩
set_option maxRecDepth 100000 in
set_option maxHeartbeats 1000000 in
theorem specl07Done_ok (nm : ByteArray) (A : Option Addr) (c : Nat) (rs : List RingR) (w : World) (h : SlAt encRing 3 w A rs) (hn : rs.length ≤ 1048576) (hs : nm.size ≤ maxLen) (HPB : Hid (profB nm rs = true)) :
    Calls Tryz.prog 116 #[.agg #[.string nm, .slice A rs.length c]] w fun e w' => e = .returned (.tuple #[.agg #[.string nm, .slice A rs.length c], .int .i64 0]) ∧ Below w.heap.size w w' := by
  obtain ⟨w0, hw0⟩ : ∃ w0, w0 = (w.alloc (.cells #[.string nm, .slice A rs.length c] 30)).alloc (.cells #[.string ⟨#[]⟩, .slice none 0 0] 30) := ⟨_, rfl⟩
  have hb0 : Below w.heap.size w w0 := by rw [hw0]; exact (by repeat (first | with_reducible exact Below.refl _ _ | with_reducible assumption | (with_reducible refine Below.drew ?_) | (with_reducible refine below_drewN ?_ _) | ((with_reducible refine Below.alloc ?_ ?_ _); rotate_left; (focus (first | omega | (simp; omega) | simp))) | ((with_reducible refine Below.setCell ?_ ?_ _); rotate_left; (focus (first | omega | (simp; omega) | simp))) | (refine Below.trans ?_ (Below.mono (by assumption) (by first | omega | (simp; omega) | simp)))))
  have hP : ProfAt w0 w.heap.size nm A c rs := by rw [hw0]; exact (ProfAt.new h).below ((Below.refl _ _).alloc (Nat.le_refl _) _)
  have hRR : w0.heap[w.heap.size + 1]? = some (.cells #[.string ⟨#[]⟩, .slice none 0 0] 30 (0, 0)) := by rw [hw0]; simpa using heap_alloc_new (w.alloc (.cells #[.string nm, .slice A rs.length c] 30)) (.cells #[.string ⟨#[]⟩, .slice none 0 0] 30)
  have hz0 : w0.heap.size = w.heap.size + 1 + 1 := by rw [hw0]; simp
  have HP := hide hP
  have HB0 := hide hb0
  have HZ0 := hide hz0
  have HRR := hide hRR
  have c0 := hP.c0
  have c1' := hP.c1
  have hpl := hP.lt
  clear h hb0 hP hRR hz0
  go_enter Tryz.func116, Tryz.ntmps116
  go_wp2_with fail
  rw [← hw0]
  clear hw0
  first
    | refine (implValidProfile nm A c rs w0 HP.out.sl hn hs).mono ?_
    | refine (specl05Ok w.heap.size nm A c rs w0 HP.out hn hs).mono ?_
  rintro e w1 ⟨rfl, hb1⟩
  rw [HPB.out]
  have HP1 := hide (HP.out.below hb1)
  have hrb : w1.heap[w.heap.size + 1]? = some (.cells #[.string ⟨#[]⟩, .slice none 0 0] 30 (0, 0)) := (hb1.block (w.heap.size + 1) (by have := HZ0.out; omega)).trans HRR.out
  have HB1 := hide (HB0.out.trans (hb1.mono HB0.out.size))
  have hwz : w.heap.size + 1 < w1.heap.size := by have := HZ0.out; have := hb1.size; omega
  have d0 := HP1.out.c0
  have d1 := HP1.out.c1
  have dl := HP1.out.lt
  have r0 : w1.cell? ⟨w.heap.size + 1, 0, none⟩ = some (.string ⟨#[]⟩) := by simp [World.cell?, hrb]
  have r1 : w1.cell? ⟨w.heap.size + 1, 1, none⟩ = some (.slice none 0 0) := by simp [World.cell?, hrb]
  have y0 : w1.frozen? ⟨w.heap.size + 1, 0, none⟩ = false := by simp [World.frozen?, hrb]
  have y1 : w1.frozen? ⟨w.heap.size + 1, 1, none⟩ = false := by simp [World.frozen?, hrb]
  clear hb1 hrb c0 c1' hpl HP HRR HZ0
  go_wp2_with fail
  refine bodyPost_ret (v := .tuple #[.agg #[.string nm, .slice A rs.length c], .int .i64 0]) (by simp [results, Tryz.results116, go_sem, r0, r1]) rfl ⟨rfl, (HB1.out.setCell (by simp) _).setCell (by simp) _⟩
set_option maxRecDepth 100000 in
set_option maxHeartbeats 1000000 in
theorem specl09Ask_ok {x : Cx} {l : List Int} {xs : List CutR} (bp : Nat) (A : Option Addr) (c : Nat) (w : World) (hp : ProfAt w bp x.nm x.A x.c x.rs) (hz : SlAt encI 1 w x.Az x.zs) (h : SlAt encCut 2 w A xs) (hs : x.nm.size ≤ maxLen) (HC : Hid (CutIn x l xs)) :
    Calls Tryz.prog 115 #[.pointer (some ⟨bp, 0, none⟩), .slice x.Az x.zs.length x.cz, .slice A xs.length c] w fun e w' => e = .returned (.int .i64 0) ∧ Below w.heap.size w w' := by
  have HP := hide hp
  have HZ := hide hz
  have HX := hide h
  have HCO := hide HC.out.of.ok
  have hx8 := HC.out.of.ok.len
  have hz8 := HC.out.ask.z.len8
  have hr32 := HC.out.ask.r.len32
  clear hp hz h
  go_enter Tryz.func115, Tryz.ntmps115
  go_wp2_with fail
  refine (specl09Zones bp x.nm x.A x.c x.rs x.Az x.cz x.zs w HP.out (by omega) hs HZ.out (by omega)).mono ?_
  rintro e w1 ⟨rfl, hb1⟩
  rw [HC.out.pz]
  have HX1 := hide (HX.out.below hb1)
  have HB1 := hide hb1
  clear hb1 HP HZ HX
  go_wp2_with fail
  refine (specl09Cuts_ok A c _ xs w1 HX1.out HCO).mono ?_
  rintro e w2 ⟨rfl, rfl⟩
  go_wp2_with fail
  go_loopw [7] (fun v wr => ∃ k : Nat, v = .int .i64 k ∧ k ≤ xs.length ∧ w1 = wr) (fun v _ => xs.length - (intOf v).toNat)
  case atStart => exact ⟨0, rfl, by omega, rfl⟩
  case round =>
    obtain ⟨k, rfl, hk, rfl⟩ := hrel
    by_cases hlt : k < xs.length
    · obtain ⟨b, o, rfl, hb, hc⟩ := HX1.out.getC (by omega)
      obtain ⟨q0, q1⟩ := hc k hlt
      have hok1 := (HCO.out.get hlt).zone
      clear hc
      generalize cg xs k = y at *
      obtain ⟨x0, x1⟩ := y
      simp only at hok1 q0 q1
      have hkl : (k : Int) < xs.length := by omega
      go_wp2_with fail
      go_roundw
      case rel => exact ⟨k + 1, by go_num, by omega, trivial⟩
      case measure => simp [intOf]; omega
    · obtain rfl : k = xs.length := by omega
      go_wp2_with fail
      refine (specl09Sums_ok A c _ xs w1 HX1.out HCO).mono ?_
      rintro e w3 ⟨A3, c3, rfl, ho3, hb3⟩
      have HS3 := hide (OwnI.sl ho3 HC.out.len8.symm)
      have HB3 := hide (HB1.out.trans (hb3.mono HB1.out.size))
      clear ho3 hb3
      go_wp2_with fail
      refine (specl09Fits_ok A3 c3 (sumL xs xs.length) w3 HS3.out HC.out.len8 (hide fun k => by have := HC.out.bd k; have := HC.out.goal.most; omega)).mono ?_
      rintro e w4 ⟨rfl, rfl⟩
      go_wp2_with fail
      go_ret
      exact ⟨rfl, HB3.out⟩
set_option maxRecDepth 100000 in
set_option maxHeartbeats 1000000 in
theorem specl09Apply_ok {x : Cx} {l : List Int} {xs : List CutR} (bp : Nat) (A : Option Addr) (c : Nat) (w : World) (hp : ProfAt w bp x.nm x.A x.c x.rs) (hz : SlAt encI 1 w x.Az x.zs) (h : SlAt encCut 2 w A xs) (hs : x.nm.size ≤ maxLen) (HC : Hid (CutIn x l xs)) :
    Calls Tryz.prog 61 #[.pointer (some ⟨bp, 0, none⟩), .slice x.Az x.zs.length x.cz, .slice A xs.length c] w (ApRes x.nm (turn x.zs l x.rs) w) := by
  obtain ⟨w0, hw0⟩ : ∃ w0, w0 = w.alloc (.cells #[.string ⟨#[]⟩, .slice none 0 0] 30) := ⟨_, rfl⟩
  have hb0 : Below w.heap.size w w0 := by rw [hw0]; exact (by repeat (first | with_reducible exact Below.refl _ _ | with_reducible assumption | (with_reducible refine Below.drew ?_) | (with_reducible refine below_drewN ?_ _) | ((with_reducible refine Below.alloc ?_ ?_ _); rotate_left; (focus (first | omega | (simp; omega) | simp))) | ((with_reducible refine Below.setCell ?_ ?_ _); rotate_left; (focus (first | omega | (simp; omega) | simp))) | (refine Below.trans ?_ (Below.mono (by assumption) (by first | omega | (simp; omega) | simp)))))
  have hRR : w0.heap[w.heap.size]? = some (.cells #[.string ⟨#[]⟩, .slice none 0 0] 30 (0, 0)) := by rw [hw0]; exact heap_alloc_new w _
  have hz0 : w0.heap.size = w.heap.size + 1 := by rw [hw0]; simp
  have HP := hide (hp.below hb0)
  have HZ := hide (hz.below hb0)
  have HX := hide (h.below hb0)
  have HB0 := hide hb0
  have HZ0 := hide hz0
  have HRR := hide hRR
  have HCO := hide HC.out.of.ok
  have hx8 := HC.out.of.ok.len
  have hz8 := HC.out.ask.z.len8
  have hr32 := HC.out.ask.r.len32
  have HT := hide (fun W (hb : Below w0.heap.size w0 W) (As : Option Addr) (cs : Nat) (hst : SlAt encI 1 W As (sumL xs xs.length)) => by
    have hcon := specl09Turned bp x.nm x.A x.c x.rs x.Az As x.cz cs x.zs (sumL xs xs.length) W (HP.out.below hb) (HZ.out.below hb) hst HC.out.ask.r.len32 HC.out.ask.r.len1 HC.out.ask.z.len1 (by rw [HC.out.len8]; exact HC.out.ask.z.len8) (by rw [HC.out.len8]; omega) (hide HC.out.small) (hide HC.out.ask.r.inner)
    rw [HC.out.turn, HC.out.len8] at hcon
    exact hcon)
  clear hp hz h hb0 hRR hz0
  go_enter Tryz.func61, Tryz.ntmps61
  go_wp2_with fail
  rw [← hw0]
  clear hw0
  refine (specl09Ask_ok bp A c w0 HP.out HZ.out HX.out hs HC).mono ?_
  rintro e w1 ⟨rfl, hb1⟩
  have HB1 := hide hb1
  clear hb1
  go_wp2_with fail
  refine (specl09Sums_ok A c _ xs w1 (HX.out.below HB1.out) HCO).mono ?_
  rintro e w2 ⟨A2, c2, rfl, ho2, hb2⟩
  have HB2 := hide (HB1.out.trans (hb2.mono HB1.out.size))
  have HS2 := hide (OwnI.sl ho2 HC.out.len8.symm)
  clear ho2 hb2
  go_wp2_with fail
  refine (HT.out w2 HB2.out A2 c2 HS2.out).mono ?_
  rintro e w3 ⟨A3, c3, rfl, ho3, hb3⟩
  have HB3 := hide (HB2.out.trans (hb3.mono HB2.out.size))
  have HO3 := hide (ho3.mono (B' := w.heap.size + 1) (by have := HB2.out.size; have := HZ0.out; omega))
  have HSL := hide (Own.at_ (enc := encRing) (fun _ => rfl) ho3)
  clear ho3 hb3 HT
  go_wp2_with fail
  refine (specl07Done_ok x.nm A3 c3 (turn x.zs l x.rs) w3 HSL.out (by rw [turn_length]; omega) hs (hide HC.out.prof)).mono ?_
  rintro e w4 ⟨rfl, hb4⟩
  have HO4 := hide (HO3.out.below hb4)
  have HB4 := hide (HB3.out.trans (hb4.mono HB3.out.size))
  have hrb : w4.heap[w.heap.size]? = some (.cells #[.string ⟨#[]⟩, .slice none 0 0] 30 (0, 0)) := (HB4.out.block w.heap.size (by have := HZ0.out; omega)).trans HRR.out
  have hwz : w.heap.size < w4.heap.size := by have := HZ0.out; have := HB4.out.size; omega
  have HBB := hide (HB0.out.trans (HB4.out.mono HB0.out.size))
  have r0 : w4.cell? ⟨w.heap.size, 0, none⟩ = some (.string ⟨#[]⟩) := by simp [World.cell?, hrb]
  have r1 : w4.cell? ⟨w.heap.size, 1, none⟩ = some (.slice none 0 0) := by simp [World.cell?, hrb]
  have y0 : w4.frozen? ⟨w.heap.size, 0, none⟩ = false := by simp [World.frozen?, hrb]
  have y1 : w4.frozen? ⟨w.heap.size, 1, none⟩ = false := by simp [World.frozen?, hrb]
  clear hb4 hrb
  go_wp2_with fail
  refine bodyPost_ret (v := .tuple #[.agg #[.string x.nm, .slice A3 (turn x.zs l x.rs).length c3], .int .i64 0]) (by simp [results, Tryz.results61, go_sem, r0, r1]) rfl ⟨A3, c3, rfl, ?_, (HBB.out.setCell (by simp) _).setCell (by simp) _⟩
  exact (own_far' HO4.out (grown_set (grown_set (grown_refl w4 (some (w.heap.size))) 0 (.string x.nm)) 1 (.slice A3 (turn x.zs l x.rs).length c3))).mono (by omega)
set_option maxRecDepth 100000 in
set_option maxHeartbeats 1000000 in
theorem specApplyCuts_ok {x : Cx} {l : List Int} {xs : List CutR} (A : Option Addr) (c : Nat) (w : World) (hp : SlAt encRing 3 w x.A x.rs) (hz : SlAt encI 1 w x.Az x.zs) (h : SlAt encCut 2 w A xs) (hs : x.nm.size ≤ maxLen) (HC : Hid (CutIn x l xs)) :
    Calls Tryz.prog 19 #[.agg #[.string x.nm, .slice x.A x.rs.length x.c], .slice x.Az x.zs.length x.cz, .slice A xs.length c] w (ApRes x.nm (turn x.zs l x.rs) w) := by
  obtain ⟨w0, hw0⟩ : ∃ w0, w0 = (w.alloc (.cells #[.string x.nm, .slice x.A x.rs.length x.c] 30)).alloc (.cells #[.string ⟨#[]⟩, .slice none 0 0] 30) := ⟨_, rfl⟩
  have hb0 : Below w.heap.size w w0 := by rw [hw0]; exact (by repeat (first | with_reducible exact Below.refl _ _ | with_reducible assumption | (with_reducible refine Below.drew ?_) | (with_reducible refine below_drewN ?_ _) | ((with_reducible refine Below.alloc ?_ ?_ _); rotate_left; (focus (first | omega | (simp; omega) | simp))) | ((with_reducible refine Below.setCell ?_ ?_ _); rotate_left; (focus (first | omega | (simp; omega) | simp))) | (refine Below.trans ?_ (Below.mono (by assumption) (by first | omega | (simp; omega) | simp)))))
  have hP : ProfAt w0 w.heap.size x.nm x.A x.c x.rs := by rw [hw0]; exact (ProfAt.new hp).below ((Below.refl _ _).alloc (Nat.le_refl _) _)
  have hRR : w0.heap[w.heap.size + 1]? = some (.cells #[.string ⟨#[]⟩, .slice none 0 0] 30 (0, 0)) := by rw [hw0]; simpa using heap_alloc_new (w.alloc (.cells #[.string x.nm, .slice x.A x.rs.length x.c] 30)) (.cells #[.string ⟨#[]⟩, .slice none 0 0] 30)
  have hz0 : w0.heap.size = w.heap.size + 1 + 1 := by rw [hw0]; simp
  have HP := hide hP
  have HZ := hide (hz.below hb0)
  have HX := hide (h.below hb0)
  have HB0 := hide hb0
  have HZ0 := hide hz0
  have HRR := hide hRR
  clear hp hz h hb0 hP hRR hz0
  go_enter Tryz.func19, Tryz.ntmps19
  go_wp2_with fail
  rw [← hw0]
  clear hw0
  refine (specl09Apply_ok w.heap.size A c w0 HP.out HZ.out HX.out hs HC).mono ?_
  rintro e w4 ⟨A3, c3, rfl, ho4, hb4⟩
  have HO4 := hide ho4
  rw [HZ0.out] at HO4
  have hrb : w4.heap[w.heap.size + 1]? = some (.cells #[.string ⟨#[]⟩, .slice none 0 0] 30 (0, 0)) := (hb4.block (w.heap.size + 1) (by have := HZ0.out; omega)).trans HRR.out
  have hwz : w.heap.size + 1 < w4.heap.size := by have := HZ0.out; have := hb4.size; omega
  have HBB := hide (HB0.out.trans (hb4.mono HB0.out.size))
  have r0 : w4.cell? ⟨w.heap.size + 1, 0, none⟩ = some (.string ⟨#[]⟩) := by simp [World.cell?, hrb]
  have r1 : w4.cell? ⟨w.heap.size + 1, 1, none⟩ = some (.slice none 0 0) := by simp [World.cell?, hrb]
  have y0 : w4.frozen? ⟨w.heap.size + 1, 0, none⟩ = false := by simp [World.frozen?, hrb]
  have y1 : w4.frozen? ⟨w.heap.size + 1, 1, none⟩ = false := by simp [World.frozen?, hrb]
  clear ho4 hb4 hrb
  go_wp2_with fail
  refine bodyPost_ret (v := .tuple #[.agg #[.string x.nm, .slice A3 (turn x.zs l x.rs).length c3], .int .i64 0]) (by simp [results, Tryz.results19, go_sem, r0, r1]) rfl ⟨A3, c3, rfl, ?_, (HBB.out.setCell (by simp) _).setCell (by simp) _⟩
  exact (own_far' HO4.out (grown_set (grown_set (grown_refl w4 (some (w.heap.size + 1))) 0 (.string x.nm)) 1 (.slice A3 (turn x.zs l x.rs).length c3))).mono (by omega)
set_option maxRecDepth 100000 in
theorem specValidProfile_is (nm : ByteArray) (A : Option Addr) (c : Nat) (rs : List RingR) (w : World) (h : SlAt encRing 3 w A rs) (hn : rs.length ≤ 1048576) (hs : nm.size ≤ maxLen) :
    Calls Tryz.prog 21 #[.agg #[.string nm, .slice A rs.length c]] w fun e w' => e = .returned (.bool (profB nm rs)) ∧ Below w.heap.size w w' := by
  have HP := hide (ProfAt.new (nm := nm) (c := c) h)
  have HB0 := hide (show Below w.heap.size w (w.alloc (.cells #[.string nm, .slice A rs.length c] 30)) from (by repeat (first | with_reducible exact Below.refl _ _ | with_reducible assumption | (with_reducible refine Below.drew ?_) | (with_reducible refine below_drewN ?_ _) | ((with_reducible refine Below.alloc ?_ ?_ _); rotate_left; (focus (first | omega | (simp; omega) | simp))) | ((with_reducible refine Below.setCell ?_ ?_ _); rotate_left; (focus (first | omega | (simp; omega) | simp))) | (refine Below.trans ?_ (Below.mono (by assumption) (by first | omega | (simp; omega) | simp))))))
  clear h
  go_enter Tryz.func21, Tryz.ntmps21
  go_wp2_with fail
  refine (specl05Ok w.heap.size nm A c rs _ HP.out hn hs).mono ?_
  rintro e w1 ⟨rfl, hb1⟩
  have HB1 := hide (HB0.out.trans (hb1.mono HB0.out.size))
  clear hb1
  go_wp2_with fail
  go_ret
  exact ⟨rfl, HB1.out⟩
theorem slicesMax8 (A : Option Addr) (c : Nat) (st : List Int) (b : Int) (w : World) (h : SlAt encI 1 w A st) (h8 : st.length = 8) (HB : Hid (∀ k, ig st k ≤ b)) :
    Calls Tryz.prog 54 #[.slice A 8 c] w fun e w' => ∃ m, e = .returned (.int .i64 m) ∧ m ≤ b ∧ w = w' := by
  have hcon := slicesMax A c st w h (by omega) (by omega)
  rw [h8] at hcon
  refine hcon.mono ?_
  rintro e w1 ⟨m, rfl, ⟨k, _, hk⟩, _, rfl⟩
  exact ⟨m, rfl, by rw [← hk]; exact HB.out k, rfl⟩
set_option maxRecDepth 100000 in
set_option maxHeartbeats 1000000 in
theorem implApplyCuts_ok {x : Cx} {l : List Int} {xs : List CutR} (A : Option Addr) (c : Nat) (w : World) (hp : SlAt encRing 3 w x.A x.rs) (hz : SlAt encI 1 w x.Az x.zs) (h : SlAt encCut 2 w A xs) (hs : x.nm.size ≤ maxLen) (HC : Hid (CutIn x l xs)) :
    Calls Tryz.prog 63 #[.agg #[.string x.nm, .slice x.A x.rs.length x.c], .slice x.Az x.zs.length x.cz, .slice A xs.length c] w (ApRes x.nm (turn x.zs l x.rs) w) := by
  obtain ⟨w0, hw0⟩ : ∃ w0, w0 = ((w.alloc (.cells #[.string x.nm, .slice x.A x.rs.length x.c] 30)).alloc (.cells #[.slice x.Az x.zs.length x.cz] 24)).alloc (.cells #[.string ⟨#[]⟩, .slice none 0 0] 30) := ⟨_, rfl⟩
  have hb0 : Below w.heap.size w w0 := by rw [hw0]; exact (by repeat (first | with_reducible exact Below.refl _ _ | with_reducible assumption | (with_reducible refine Below.drew ?_) | (with_reducible refine below_drewN ?_ _) | ((with_reducible refine Below.alloc ?_ ?_ _); rotate_left; (focus (first | omega | (simp; omega) | simp))) | ((with_reducible refine Below.setCell ?_ ?_ _); rotate_left; (focus (first | omega | (simp; omega) | simp))) | (refine Below.trans ?_ (Below.mono (by assumption) (by first | omega | (simp; omega) | simp)))))
  have hP : ProfAt w0 w.heap.size x.nm x.A x.c x.rs := by rw [hw0]; exact ((ProfAt.new hp).below ((Below.refl _ _).alloc (Nat.le_refl _) _)).below ((Below.refl _ _).alloc (Nat.le_refl _) _)
  have hRR : w0.heap[w.heap.size + 1 + 1]? = some (.cells #[.string ⟨#[]⟩, .slice none 0 0] 30 (0, 0)) := by rw [hw0]; simpa using heap_alloc_new ((w.alloc (.cells #[.string x.nm, .slice x.A x.rs.length x.c] 30)).alloc (.cells #[.slice x.Az x.zs.length x.cz] 24)) (.cells #[.string ⟨#[]⟩, .slice none 0 0] 30)
  have hzc : w0.cell? ⟨w.heap.size + 1, 0, none⟩ = some (.slice x.Az x.zs.length x.cz) := by rw [hw0]; go_simp
  have hz0 : w0.heap.size = w.heap.size + 1 + 1 + 1 := by rw [hw0]; simp
  have HP := hide hP
  have HZ := hide (hz.below hb0)
  have HX := hide (h.below hb0)
  have HB0 := hide hb0
  have HZ0 := hide hz0
  have HRR := hide hRR
  have HZC := hide hzc
  have HCO := hide HC.out.of.ok
  have HAN := hide HC.out.of.ok.any2
  have hx8 := HC.out.of.ok.len
  have hz8 := HC.out.ask.z.len8
  have hr32 := HC.out.ask.r.len32
  have HT := hide (fun W (hb : Below w0.heap.size w0 W) (As : Option Addr) (cs : Nat) (hst : SlAt encI 1 W As (sumL xs xs.length)) => by
    have hcon := implturned x.nm x.A x.c x.rs x.Az As x.cz cs x.zs (sumL xs xs.length) W (HP.out.below hb).sl (HZ.out.below hb) hst HC.out.ask.r.len32 HC.out.ask.r.len1 (hide HC.out.ask.z) (by rw [HC.out.len8]; exact HC.out.ask.z.len8) (by rw [HC.out.len8]; omega) (hide HC.out.small) (hide HC.out.ask.r.inner)
    rw [HC.out.turn, HC.out.len8] at hcon
    exact hcon)
  have c0 := hP.c0
  have c1' := hP.c1
  have hpl := hP.lt
  have hzl : w.heap.size + 1 < w0.heap.size := by omega
  clear hp hz h hb0 hRR hz0 hP
  go_enter Tryz.func63, Tryz.ntmps63
  go_wp2_with fail
  rw [← hw0]
  clear hw0
  refine (implValidZones x.nm x.A x.c x.rs x.Az x.cz x.zs w0 HP.out.sl (by omega) hs HZ.out (by omega)).mono ?_
  rintro e w1 ⟨rfl, hb1⟩
  rw [HC.out.pz]
  have HB1 := hide hb1
  clear hb1 c0 c1' hpl hzc
  go_wp2_with fail
  refine (implValidCuts_ok A c _ xs w1 (HX.out.below HB1.out) HCO).mono ?_
  rintro e w2 ⟨rfl, hb2⟩
  have HB2 := hide (HB1.out.trans (hb2.mono HB1.out.size))
  clear hb2
  go_wp2_with fail
  refine (implstepsOf_ok A c _ xs w2 (HX.out.below HB2.out) HCO).mono ?_
  rintro e w3 ⟨A3, c3, rfl, ho3, hb3⟩
  have HB3 := hide (HB2.out.trans (hb3.mono HB2.out.size))
  have HS3 := hide (OwnI.sl ho3 HC.out.len8.symm)
  clear ho3 hb3
  go_wp2_with fail
  refine (acc_is A c xs (w.heap.size + 1) x.Az x.zs.length x.cz false w3 (HX.out.below HB3.out) ((HB3.out.cell (p := ⟨w.heap.size + 1, 0, none⟩) hzl).trans HZC.out) (by omega) HAN).mono ?_
  rintro e w4 ⟨rfl, hb4⟩
  have HB4 := hide (HB3.out.trans (hb4.mono HB3.out.size))
  have HS4 := hide (HS3.out.below hb4)
  clear hb4
  go_wp2_with fail
  refine (slicesMax8 A3 c3 (sumL xs xs.length) 20 w4 HS4.out HC.out.len8 (hide fun k => by have := HC.out.bd k; have := HC.out.goal.most; omega)).mono ?_
  rintro e w5 ⟨m, rfl, hm, rfl⟩
  have HP4 := hide (HP.out.below HB4.out)
  have d0 := HP4.out.c0
  have d1 := HP4.out.c1
  have dl := HP4.out.lt
  have dz := (HB4.out.cell (p := ⟨w.heap.size + 1, 0, none⟩) hzl).trans HZC.out
  have dzl : w.heap.size + 1 < w4.heap.size := by have := HB4.out.size; omega
  go_wp2_with fail
  refine (HT.out w4 HB4.out A3 c3 HS4.out).mono ?_
  rintro e w6 ⟨A6, c6, rfl, ho6, hb6⟩
  have HB6 := hide (HB4.out.trans (hb6.mono HB4.out.size))
  have HO6 := hide (ho6.mono (B' := w.heap.size + 1 + 1 + 1) (by have := HB4.out.size; have := HZ0.out; omega))
  have HSL := hide (Own.at_ (enc := encRing) (fun _ => rfl) ho6)
  clear ho6 hb6 HT d0 d1 dl dz dzl HP4
  go_wp2_with fail
  refine (implorState_ok x.nm A6 c6 (turn x.zs l x.rs) w6 HSL.out (by rw [turn_length]; omega) hs (hide HC.out.prof)).mono ?_
  rintro e w7 ⟨rfl, hb7⟩
  have HO7 := hide (HO6.out.below hb7)
  have HB7 := hide (HB6.out.trans (hb7.mono HB6.out.size))
  have hrb : w7.heap[w.heap.size + 1 + 1]? = some (.cells #[.string ⟨#[]⟩, .slice none 0 0] 30 (0, 0)) := (HB7.out.block (w.heap.size + 1 + 1) (by have := HZ0.out; omega)).trans HRR.out
  have hwz : w.heap.size + 1 + 1 < w7.heap.size := by have := HZ0.out; have := HB7.out.size; omega
  have HBB := hide (HB0.out.trans (HB7.out.mono HB0.out.size))
  have r0 : w7.cell? ⟨w.heap.size + 1 + 1, 0, none⟩ = some (.string ⟨#[]⟩) := by simp [World.cell?, hrb]
  have r1 : w7.cell? ⟨w.heap.size + 1 + 1, 1, none⟩ = some (.slice none 0 0) := by simp [World.cell?, hrb]
  have y0 : w7.frozen? ⟨w.heap.size + 1 + 1, 0, none⟩ = false := by simp [World.frozen?, hrb]
  have y1 : w7.frozen? ⟨w.heap.size + 1 + 1, 1, none⟩ = false := by simp [World.frozen?, hrb]
  clear hb7 hrb
  go_wp2_with fail
  refine bodyPost_ret (v := .tuple #[.agg #[.string x.nm, .slice A6 (turn x.zs l x.rs).length c6], .int .i64 0]) (by simp [results, Tryz.results63, go_sem, r0, r1]) rfl ⟨A6, c6, rfl, ?_, (HBB.out.setCell (by simp; omega) _).setCell (by simp; omega) _⟩
  exact (own_far' HO7.out (grown_set (grown_set (grown_refl w7 (some (w.heap.size + 1 + 1))) 0 (.string x.nm)) 1 (.slice A6 (turn x.zs l x.rs).length c6))).mono (by omega)
end Go.Proofs.YtnefgafmnpblpaaGreat
namespace Go.Proofs.YtnefgafmnpblpaaGreat
open Go.RowKit Pn

theorem aim_zero {x : Cx} {l : List Int} {xs : List CutR} (h : CutIn x l xs) : aimB x.zs x.ws x.bs x.nm x.rs x.t x.tol x.most = 0 := by
  unfold aimB
  rw [dc_true h.goal]
  exact ask_ok (dc_true h.ask.m) (profB_ok h.ask.n h.ask.r) h.pz
theorem CutIn.ask2 {x : Cx} {l : List Int} {xs : List CutR} (h : CutIn x l xs) : askB x.zs x.ws x.bs x.nm (Pn.turn x.zs l x.rs) = 0 := by
  refine ask_ok (dc_true h.ask.m) h.prof ?_
  unfold pzB
  rw [h.prof, dc_true (zones_turn h.ask.z)]
  rfl
set_option maxRecDepth 100000 in
set_option maxHeartbeats 1000000 in
theorem implSoundOf_ok {x : Cx} {l : List Int} {xs : List CutR} (A1 : Option Addr) (c1 : Nat) (w : World) (HI : Hid (x.In w)) (hr : SlAt encRing 3 w A1 (turn x.zs l x.rs)) (hcap : (turn x.zs l x.rs).length ≤ c1) (HC : Hid (CutIn x l xs)) (HSN : Hid (x.snd l = true)) :
    Calls Tryz.prog 64 #[.agg #[.slice x.Az x.zs.length x.cz, .slice x.Aw x.ws.length x.cw, .slice x.Ab x.bs.length x.cb], .agg #[.string x.nm, .slice A1 (turn x.zs l x.rs).length c1]] w fun e w' => e = .returned (.tuple #[.agg #[.int .i64 (ig (x.raw l) 0), .int .i64 (ig (x.raw l) 1), .int .i64 (ig (x.raw l) 2), .int .i64 (ig (x.raw l) 3), .int .i64 (ig (x.raw l) 4)], .int .i64 0]) ∧ Below w.heap.size w w' := by
  obtain ⟨w0, hw0⟩ : ∃ w0, w0 = ((w.alloc (.cells #[.slice x.Az x.zs.length x.cz, .slice x.Aw x.ws.length x.cw, .slice x.Ab x.bs.length x.cb] 27)).alloc (.cells #[.string x.nm, .slice A1 (turn x.zs l x.rs).length c1] 30)).alloc (.cells #[.int .i64 0, .int .i64 0, .int .i64 0, .int .i64 0, .int .i64 0] 32) := ⟨_, rfl⟩
  have hX : Boxes2 w w0 w.heap.size x.Az x.cz x.Aw x.cw x.Ab x.cb x.zs x.ws x.bs x.nm A1 c1 (turn x.zs l x.rs) := by rw [hw0]; exact (boxes2 HI.out.md hr).below ((Below.refl _ _).alloc (Nat.le_refl _) _)
  have hRR : w0.heap[w.heap.size + 1 + 1]? = some (.cells #[.int .i64 0, .int .i64 0, .int .i64 0, .int .i64 0, .int .i64 0] 32 (0, 0)) := by rw [hw0]; simpa using heap_alloc_new ((w.alloc (.cells #[.slice x.Az x.zs.length x.cz, .slice x.Aw x.ws.length x.cw, .slice x.Ab x.bs.length x.cb] 27)).alloc (.cells #[.string x.nm, .slice A1 (turn x.zs l x.rs).length c1] 30)) (.cells #[.int .i64 0, .int .i64 0, .int .i64 0, .int .i64 0, .int .i64 0] 32)
  have hz0 : w0.heap.size = w.heap.size + 1 + 1 + 1 := by rw [hw0]; simp
  have HX := hide hX
  have HRR := hide hRR
  have HZ0 := hide hz0
  have c0 := hX.m.c0
  have c1a := hX.m.c1
  have c2 := hX.m.c2
  have ml := hX.m.lt
  have p0 := hX.p.c0
  have p1 := hX.p.c1
  have pl := hX.p.lt
  have hl1 : 0 < (turn x.zs l x.rs).length := by rw [turn_length]; exact HC.out.ask.r.len1
  have hl32 : (turn x.zs l x.rs).length ≤ 32 := by rw [turn_length]; exact HC.out.ask.r.len32
  have HWL := hide HC.out.ring.walls
  have HZT := hide (zones_turn (st := l) HC.out.ask.z)
  have HA2 := hide HC.out.ask2
  clear hr hX hRR hz0
  go_enter Tryz.func64, Tryz.ntmps64
  go_wp2_with fail
  rw [← hw0]
  clear hw0
  refine (implmodelled x.Az x.Aw x.Ab x.cz x.cw x.cb x.zs x.ws x.bs x.nm A1 c1 (turn x.zs l x.rs) w0 HX.out.m.md (hide HI.out.sz) HX.out.p.sl (by omega) HI.out.nm).mono ?_
  rintro e w1 ⟨rfl, hb1⟩
  rw [HA2.out]
  have HX1 := hide (HX.out.below hb1)
  have HB1 := hide hb1
  clear hb1 c0 c1a c2 ml p0 p1 pl
  have c0 := HX1.out.m.c0
  have c1a := HX1.out.m.c1
  have c2 := HX1.out.m.c2
  have ml := HX1.out.m.lt
  have p0 := HX1.out.p.c0
  have p1 := HX1.out.p.c1
  have pl := HX1.out.p.lt
  go_wp2_with fail
  refine (implrawPartials x.Az x.Aw x.Ab x.cz x.cw x.cb x.zs x.ws x.bs x.nm A1 c1 (turn x.zs l x.rs) w1 HX1.out.m.md HX1.out.p.sl hl32 hl1 hcap (hide HC.out.ask.m) HZT HWL).mono ?_
  rintro e w4 ⟨A4, c4, rfl, ho4, hb4⟩
  have HB4 := hide (HB1.out.trans (hb4.mono HB1.out.size))
  have ho4' : OwnI w4 w1.heap.size (.slice A4 5 c4) (x.raw l) := ho4
  obtain ⟨r0, hr0⟩ : ∃ r, r = ig (x.raw l) 0 := ⟨_, rfl⟩
  obtain ⟨r1, hr1⟩ : ∃ r, r = ig (x.raw l) 1 := ⟨_, rfl⟩
  obtain ⟨r2, hr2⟩ : ∃ r, r = ig (x.raw l) 2 := ⟨_, rfl⟩
  obtain ⟨r3, hr3⟩ : ∃ r, r = ig (x.raw l) 3 := ⟨_, rfl⟩
  obtain ⟨r4, hr4⟩ : ∃ r, r = ig (x.raw l) 4 := ⟨_, rfl⟩
  have HRW := hide (show [r0, r1, r2, r3, r4] = x.raw l from by rw [hr0, hr1, hr2, hr3, hr4]; exact five_eta (x.raw_length l))
  have HO4 := hide (show SlAt encI 1 w4 A4 [r0, r1, r2, r3, r4] from by rw [HRW.out]; exact OwnI.sl ho4' (x.raw_length l).symm)
  have HSD := hide (show dc (SoundOK [r0, r1, r2, r3, r4]) = true from by rw [HRW.out]; exact HSN.out)
  have HRE := hide (And.intro hr0 (And.intro hr1 (And.intro hr2 (And.intro hr3 hr4))))
  clear ho4 ho4' hb4 hr0 hr1 hr2 hr3 hr4 c0 c1a c2 ml p0 p1 pl
  go_wp2_with fail
  refine (implsoundOf_is A4 c4 r0 r1 r2 r3 r4 w4 HO4.out).mono ?_
  rintro e w5 ⟨rfl, hb5⟩
  have HB5 := hide (HB4.out.trans (hb5.mono HB4.out.size))
  clear hb5
  have hql : w.heap.size + 1 + 1 < w5.heap.size := by have := HZ0.out; have := HB5.out.size; omega
  have HQ6 := hide (heap_alloc_new w5 (.cells #[.int .i64 r0, .int .i64 r1, .int .i64 r2, .int .i64 r3, .int .i64 r4] 32))
  have HRB := hide ((HB5.out.block (w.heap.size + 1 + 1) (by have := HZ0.out; omega)).trans HRR.out)
  have HB0 := hide HX.out.bel
  clear hcap hl1 hl32
  go_wp2_with fail
  obtain ⟨w6, hw6⟩ : ∃ w6, w6 = w5.alloc (.cells #[.int .i64 r0, .int .i64 r1, .int .i64 r2, .int .i64 r3, .int .i64 r4] 32) := ⟨_, rfl⟩
  have hb6 : Below w5.heap.size w5 w6 := by rw [hw6]; exact (Below.refl _ _).alloc (Nat.le_refl _) _
  rw [← hw6] at HQ6 ⊢
  clear hw6
  refine (ValidSound_is r0 r1 r2 r3 r4 w6).mono ?_
  rintro e w7 ⟨rfl, hb7⟩
  rw [HSD.out]
  obtain ⟨q5, hq5⟩ : ∃ q5, q5 = w5.heap.size := ⟨_, rfl⟩
  rw [← hq5] at HQ6 ⊢
  have hq := (hb7.block _ (heap_lt HQ6.out)).trans HQ6.out
  have hrb := (hb7.block (w.heap.size + 1 + 1) (by have := hb6.size; omega)).trans ((hb6.block (w.heap.size + 1 + 1) hql).trans HRB.out)
  have hne : q5 ≠ w.heap.size + 1 + 1 := by omega
  have hne2 : ¬ w.heap.size + 1 + 1 = q5 := fun h => hne h.symm
  have hrl := heap_lt hrb
  have hqq := heap_lt hq
  have HB7 := hide (HB0.out.trans ((HB5.out.trans ((hb6.trans (hb7.mono hb6.size)).mono HB5.out.size)).mono HB0.out.size))
  have a0 : w7.cell? ⟨q5, 0, none⟩ = some (.int .i64 r0) := by simp [World.cell?, hq]
  have a1 : w7.cell? ⟨q5, 1, none⟩ = some (.int .i64 r1) := by simp [World.cell?, hq]
  have a2 : w7.cell? ⟨q5, 2, none⟩ = some (.int .i64 r2) := by simp [World.cell?, hq]
  have a3 : w7.cell? ⟨q5, 3, none⟩ = some (.int .i64 r3) := by simp [World.cell?, hq]
  have a4 : w7.cell? ⟨q5, 4, none⟩ = some (.int .i64 r4) := by simp [World.cell?, hq]
  have y0 : w7.cell? ⟨w.heap.size + 1 + 1, 0, none⟩ = some (.int .i64 0) := by simp [World.cell?, hrb]
  have y1 : w7.cell? ⟨w.heap.size + 1 + 1, 1, none⟩ = some (.int .i64 0) := by simp [World.cell?, hrb]
  have y2 : w7.cell? ⟨w.heap.size + 1 + 1, 2, none⟩ = some (.int .i64 0) := by simp [World.cell?, hrb]
  have y3 : w7.cell? ⟨w.heap.size + 1 + 1, 3, none⟩ = some (.int .i64 0) := by simp [World.cell?, hrb]
  have y4 : w7.cell? ⟨w.heap.size + 1 + 1, 4, none⟩ = some (.int .i64 0) := by simp [World.cell?, hrb]
  have z : ∀ j, w7.frozen? ⟨w.heap.size + 1 + 1, j, none⟩ = false := fun j => by simp [World.frozen?, hrb]
  have z0 := z 0
  have z1 := z 1
  have z2 := z 2
  have z3 := z 3
  have z4 := z 4
  clear z hq hrb hb7 hb6 hq5 hql
  go_wp2_with fail
  refine bodyPost_ret (v := .tuple #[.agg #[.int .i64 r0, .int .i64 r1, .int .i64 r2, .int .i64 r3, .int .i64 r4], .int .i64 0]) (by simp [results, Tryz.results64, go_sem, y0, y1, y2, y3, y4]) rfl ⟨?_, ?_⟩
  · obtain ⟨e0, e1, e2, e3, e4⟩ := HRE.out
    rw [e0, e1, e2, e3, e4]
  · repeat (refine Below.setCell ?_ (show w.heap.size ≤ w.heap.size + 1 + 1 by omega) _)
    exact HB7.out
set_option maxRecDepth 100000 in
set_option maxHeartbeats 1000000 in
theorem implDeviationsAfter_ok {x : Cx} {l : List Int} {xs : List CutR} (A : Option Addr) (c : Nat) (w : World) (HI : Hid (x.In w)) (h : SlAt encCut 2 w A xs) (HC : Hid (CutIn x l xs)) (HSN : Hid (x.snd l = true)) :
    Calls Tryz.prog 20 #[.agg #[.slice x.Az x.zs.length x.cz, .slice x.Aw x.ws.length x.cw, .slice x.Ab x.bs.length x.cb], .agg #[.string x.nm, .slice x.A x.rs.length x.c], .agg #[.int .i64 x.t0, .int .i64 x.t1, .int .i64 x.t2, .int .i64 x.t3, .int .i64 x.t4, .int .i64 x.tol, .int .i64 x.most], .slice A xs.length c] w fun e w' => ∃ A' c', e = .returned (.tuple #[.slice A' 5 c', .int .i64 0]) ∧ OwnI w' w.heap.size (.slice A' 5 c') (devs x.t (x.raw l)) ∧ Below w.heap.size w w' := by
  have HB := hide (Bx.new HI.out)
  have HCO := hide HC.out.of.ok
  have HX := hide h
  clear h
  go_enter Tryz.func20, Tryz.ntmps20
  go_wp2_with fail
  generalize (((w.alloc (.cells #[.slice x.Az x.zs.length x.cz, .slice x.Aw x.ws.length x.cw, .slice x.Ab x.bs.length x.cb] 27)).alloc (.cells #[.string x.nm, .slice x.A x.rs.length x.c] 30)).alloc (.cells #[.int .i64 x.t0, .int .i64 x.t1, .int .i64 x.t2, .int .i64 x.t3, .int .i64 x.t4, .int .i64 x.tol, .int .i64 x.most] 34)) = w3 at *
  refine (implValidCuts_ok A c _ xs w3 (HX.out.below HB.out.b.bel) HCO).mono ?_
  rintro e w4 ⟨rfl, hb4⟩
  have HB4 := hide (HB.out.below hb4)
  have HI4 := hide (HB4.out.in_ HI.out)
  clear hb4 HB
  obtain ⟨c0, c1, c2, p0, p1, g0, g1, g2, g3, g4, g5, g6⟩ := HB4.out.cells
  have m0 := HB4.out.b.m.lt
  have m1 := HB4.out.b.p.lt
  go_wp2_with fail
  refine (implaimed x.Az x.Aw x.Ab x.cz x.cw x.cb x.zs x.ws x.bs x.nm x.A x.c x.rs x.t0 x.t1 x.t2 x.t3 x.t4 x.tol x.most w4 HI4.out.md (hide HI4.out.sz) HI4.out.rg HI4.out.rn HI4.out.nm).mono ?_
  rintro e w5 ⟨rfl, hb5⟩
  have HAZ := hide (aim_zero HC.out)
  rw [show aimB x.zs x.ws x.bs x.nm x.rs [x.t0, x.t1, x.t2, x.t3, x.t4] x.tol x.most = 0 from HAZ.out]
  have HB5 := hide (HB4.out.below hb5)
  have HI5 := hide (HB5.out.in_ HI.out)
  clear hb5 c0 c1 c2 p0 p1 g0 g1 g2 g3 g4 g5 g6 HB4 HI4 m0 m1
  obtain ⟨c0, c1, c2, p0, p1, g0, g1, g2, g3, g4, g5, g6⟩ := HB5.out.cells
  have m0 := HB5.out.b.m.lt
  have m1 := HB5.out.b.p.lt
  go_wp2_with fail
  refine (implApplyCuts_ok A c w5 HI5.out.rg HI5.out.md.z (HX.out.below HB5.out.b.bel) HI5.out.nm HC).mono ?_
  rintro e w6 ⟨A6, c6, rfl, ho6, hb6⟩
  have HB6 := hide (HB5.out.below (hb6.alloc hb6.size (.cells #[.string x.nm, .slice A6 (turn x.zs l x.rs).length c6] 30)))
  have HS6 := hide ((Own.at_ (enc := encRing) (fun _ => rfl) ho6).below ((Below.refl _ _).alloc (Nat.le_refl _) (.cells #[.string x.nm, .slice A6 (turn x.zs l x.rs).length c6] 30)))
  have HCAP := hide (ownR_cap ho6 (by rw [turn_length]; exact HC.out.ask.r.len1))
  have HQ6 := hide (heap_alloc_new w6 (.cells #[.string x.nm, .slice A6 (turn x.zs l x.rs).length c6] 30))
  clear hb6 ho6 c0 c1 c2 p0 p1 g0 g1 g2 g3 g4 g5 g6 m0 m1
  go_upto_region 7 with fail
  obtain ⟨q6, hq6⟩ : ∃ q6, q6 = w6.heap.size := ⟨_, rfl⟩
  rw [← hq6] at HQ6 ⊢
  clear hq6
  generalize w6.alloc (.cells #[.string x.nm, .slice A6 (turn x.zs l x.rs).length c6] 30) = w7 at *
  have HI7 := hide (HB6.out.in_ HI.out)
  obtain ⟨c0, c1, c2, p0, p1, g0, g1, g2, g3, g4, g5, g6⟩ := HB6.out.cells
  have hq := HQ6.out
  have hql := heap_lt hq
  have a0 : w7.cell? ⟨q6, 0, none⟩ = some (.string x.nm) := by simp [World.cell?, hq]
  have a1 : w7.cell? ⟨q6, 1, none⟩ = some (.slice A6 (turn x.zs l x.rs).length c6) := by simp [World.cell?, hq]
  clear hq
  go_wp2_with fail
  refine (implSoundOf_ok A6 c6 w7 HI7 HS6.out HCAP.out HC HSN).mono ?_
  rintro e w8 ⟨rfl, hb8⟩
  obtain ⟨r0, hr0⟩ : ∃ r, r = ig (x.raw l) 0 := ⟨_, rfl⟩
  obtain ⟨r1, hr1⟩ : ∃ r, r = ig (x.raw l) 1 := ⟨_, rfl⟩
  obtain ⟨r2, hr2⟩ : ∃ r, r = ig (x.raw l) 2 := ⟨_, rfl⟩
  obtain ⟨r3, hr3⟩ : ∃ r, r = ig (x.raw l) 3 := ⟨_, rfl⟩
  obtain ⟨r4, hr4⟩ : ∃ r, r = ig (x.raw l) 4 := ⟨_, rfl⟩
  have HRW := hide (show [r0, r1, r2, r3, r4] = x.raw l from by rw [hr0, hr1, hr2, hr3, hr4]; exact five_eta (x.raw_length l))
  rw [← hr0, ← hr1, ← hr2, ← hr3, ← hr4]
  have hsd : SoundOK (x.raw l) := of_dc HSN.out
  have HSI := hide (show InF [r0, r1, r2, r3, r4] from by rw [HRW.out]; exact SoundOK.inF hsd)
  have HTI := hide (show InF [x.t0, x.t1, x.t2, x.t3, x.t4] from SoundOK.inF HC.out.goal.t)
  have HB8 := hide (HB6.out.below (hb8.alloc hb8.size (.cells #[.int .i64 r0, .int .i64 r1, .int .i64 r2, .int .i64 r3, .int .i64 r4] 32)))
  have HQ8 := hide (heap_alloc_new w8 (.cells #[.int .i64 r0, .int .i64 r1, .int .i64 r2, .int .i64 r3, .int .i64 r4] 32))
  clear hb8 hr0 hr1 hr2 hr3 hr4 hsd c0 c1 c2 p0 p1 g0 g1 g2 g3 g4 g5 g6 a0 a1 hql
  go_upto_region 10 with fail
  obtain ⟨q8, hq8⟩ : ∃ q8, q8 = w8.heap.size := ⟨_, rfl⟩
  rw [← hq8] at HQ8 ⊢
  clear hq8
  generalize w8.alloc (.cells #[.int .i64 r0, .int .i64 r1, .int .i64 r2, .int .i64 r3, .int .i64 r4] 32) = w9 at *
  obtain ⟨c0, c1, c2, p0, p1, g0, g1, g2, g3, g4, g5, g6⟩ := HB8.out.cells
  have hq := HQ8.out
  have a0 : w9.cell? ⟨q8, 0, none⟩ = some (.int .i64 r0) := by simp [World.cell?, hq]
  have a1 : w9.cell? ⟨q8, 1, none⟩ = some (.int .i64 r1) := by simp [World.cell?, hq]
  have a2 : w9.cell? ⟨q8, 2, none⟩ = some (.int .i64 r2) := by simp [World.cell?, hq]
  have a3 : w9.cell? ⟨q8, 3, none⟩ = some (.int .i64 r3) := by simp [World.cell?, hq]
  have a4 : w9.cell? ⟨q8, 4, none⟩ = some (.int .i64 r4) := by simp [World.cell?, hq]
  clear hq
  go_wp2_with fail
  refine (apart_is _ _ _ _ _ _ _ _ _ _ _ HTI HSI).mono ?_
  rintro e w10 ⟨A10, c10, rfl, ho10, hb10⟩
  rw [devs_length] at ho10 ⊢
  rw [HRW.out] at ho10
  have HO10 := hide (ho10.mono (B' := w.heap.size) HB8.out.b.bel.size)
  have HBE := hide (HB8.out.b.bel.trans (hb10.mono HB8.out.b.bel.size))
  clear ho10 hb10
  go_wp2_with fail
  go_ret2
  exact ⟨A10, c10, rfl, HO10.out, HBE.out⟩
end Go.Proofs.YtnefgafmnpblpaaGreat
namespace Go.Proofs.YtnefgafmnpblpaaGreat
open Go.RowKit Pn

set_option maxRecDepth 100000 in
set_option maxHeartbeats 1000000 in
theorem implIsPlan_ok {x : Cx} {l : List Int} {xs : List CutR} (A : Option Addr) (c : Nat) (w : World) (HI : Hid (x.In w)) (h : SlAt encCut 2 w A xs) (HC : Hid (CutIn x l xs)) (HSN : Hid (x.snd l = true)) :
    Calls Tryz.prog 15 #[.agg #[.slice x.Az x.zs.length x.cz, .slice x.Aw x.ws.length x.cw, .slice x.Ab x.bs.length x.cb], .agg #[.string x.nm, .slice x.A x.rs.length x.c], .agg #[.int .i64 x.t0, .int .i64 x.t1, .int .i64 x.t2, .int .i64 x.t3, .int .i64 x.t4, .int .i64 x.tol, .int .i64 x.most], .slice A xs.length c] w fun e w' => e = .returned (.bool (x.plan l)) ∧ Below w.heap.size w w' := by
  have HB := hide (Bx.new HI.out)
  have HCO := hide HC.out.of.ok
  have HX := hide h
  clear h
  go_enter Tryz.func15, Tryz.ntmps15
  go_wp2_with fail
  generalize (((w.alloc (.cells #[.slice x.Az x.zs.length x.cz, .slice x.Aw x.ws.length x.cw, .slice x.Ab x.bs.length x.cb] 27)).alloc (.cells #[.string x.nm, .slice x.A x.rs.length x.c] 30)).alloc (.cells #[.int .i64 x.t0, .int .i64 x.t1, .int .i64 x.t2, .int .i64 x.t3, .int .i64 x.t4, .int .i64 x.tol, .int .i64 x.most] 34)) = w3 at *
  have HI3 := hide (HB.out.in_ HI.out)
  refine (implDeviationsAfter_ok A c w3 HI3 (HX.out.below HB.out.b.bel) HC HSN).mono ?_
  rintro e w4 ⟨A4, c4, rfl, ho4, hb4⟩
  have HB4 := hide (HB.out.below hb4)
  have HX4 := hide (HX.out.below HB4.out.b.bel)
  have HO4 := hide (OwnI.sl ho4 (devs_length _ _).symm)
  have HTI := hide (show InF [x.t0, x.t1, x.t2, x.t3, x.t4] from SoundOK.inF HC.out.goal.t)
  have HSI := hide (show InF (x.raw l) from SoundOK.inF (of_dc HSN.out))
  have HGR := hide (fun W (hb : Below w4.heap.size w4 W) => by
    have hc := greatest_is A4 c4 (devs x.t (x.raw l)) W (HO4.out.below hb) (by rw [devs_length]; omega) (by rw [devs_length]; omega) (hide (devs_bd HTI.out HSI.out))
    rw [devs_length] at hc
    exact hc)
  have HPL := hide (show decide (grB (devs x.t (x.raw l)) ≤ x.tol) = x.plan l from (snd_plan HSN.out).symm)
  have HPC := hide (fun W (hb : Below w4.heap.size w4 W) => (HB4.out.below hb).cells)
  have P5 : ∀ W, Below w4.heap.size w4 W → W.cell? ⟨w.heap.size + 1 + 1, 5, none⟩ = some (.int .i64 x.tol) := fun W hb => (HPC.out W hb).2.2.2.2.2.2.2.2.2.2.1
  have P6 : ∀ W, Below w4.heap.size w4 W → W.cell? ⟨w.heap.size + 1 + 1, 6, none⟩ = some (.int .i64 x.most) := fun W hb => (HPC.out W hb).2.2.2.2.2.2.2.2.2.2.2
  have HBE := hide HB4.out.b.bel
  clear hb4 ho4 HB HI3
  go_wp2_with fail
  refine wp_region_noPanic ?_
  refine wp_region_held_drew (S := (fun w' => Below w4.heap.size w4 w')) (by kernel_rfl) ((Below.refl _ _).drew) (fun hHeld => ?_)
  refine wpAnyH_take (i := 0) (oi := ?o0_1) (v := ?v0_1) ?hi0_1 ?hs0_1 ?hf0_1 ?hr0_1 (fun _ _ _ h => h) ?hy0_1 (by assumption) ?hh0_1
  case hi0_1 => ((simp only [List.getElem?_toArray, List.getElem?_cons_zero]); rfl)
  case hs0_1 => kernel_rfl
  case hf0_1 => kernel_rfl
  case hr0_1 => kernel_rfl
  case hy0_1 => exact Or.inl ⟨by rfl, by (intro wq hSw; (try dsimp only at hSw); go_simp; (try with_reducible rfl))⟩
  try simp only [Act.put, List.setIfInBounds_toArray, List.set_cons_zero, List.set_cons_succ]
  refine wpAnyH_take (i := 1) (oi := ?o1_2) (v := ?v1_2) ?hi1_2 ?hs1_2 ?hf1_2 ?hr1_2 (fun _ _ _ h => h) ?hy1_2 (by assumption) ?hh1_2
  case hi1_2 => ((simp only [List.getElem?_toArray, List.getElem?_cons_succ, List.getElem?_cons_zero]); rfl)
  case hs1_2 => kernel_rfl
  case hf1_2 => kernel_rfl
  case hr1_2 => kernel_rfl
  case hy1_2 => exact Or.inl ⟨by rfl, by (intro wq hSw; (try dsimp only at hSw); go_simp; (try with_reducible rfl))⟩
  try simp only [Act.put, List.setIfInBounds_toArray, List.set_cons_zero, List.set_cons_succ]
  refine wpAnyH_take (i := 2) (oi := ?o2_3) (v := ?v2_3) ?hi2_3 ?hs2_3 ?hf2_3 ?hr2_3 (fun _ _ _ h => h) ?hy2_3 (by assumption) ?hh2_3
  case hi2_3 => ((simp only [List.getElem?_toArray, List.getElem?_cons_succ, List.getElem?_cons_zero]); rfl)
  case hs2_3 => kernel_rfl
  case hf2_3 => kernel_rfl
  case hr2_3 => kernel_rfl
  case hy2_3 => exact Or.inl ⟨by rfl, by (intro wq hSw; (try dsimp only at hSw); go_simp; (try with_reducible rfl))⟩
  try simp only [Act.put, List.setIfInBounds_toArray, List.set_cons_zero, List.set_cons_succ]
  refine wpAnyH_take (i := 3) (oi := ?o3_4) (v := ?v3_4) ?hi3_4 ?hs3_4 ?hf3_4 ?hr3_4 (fun _ _ _ h => h) ?hy3_4 (by assumption) ?hh3_4
  case hi3_4 => ((simp only [List.getElem?_toArray, List.getElem?_cons_succ, List.getElem?_cons_zero]); rfl)
  case hs3_4 => kernel_rfl
  case hf3_4 => kernel_rfl
  case hr3_4 => kernel_rfl
  case hy3_4 => exact Or.inl ⟨by rfl, by (intro wq hSw; (try dsimp only at hSw); go_simp; (try with_reducible rfl))⟩
  try simp only [Act.put, List.setIfInBounds_toArray, List.set_cons_zero, List.set_cons_succ]
  refine wpAnyH_take (i := 6) (oi := ?o6_5) (v := ?v6_5) ?hi6_5 ?hs6_5 ?hf6_5 ?hr6_5 (fun _ _ _ h => h) ?hy6_5 (by assumption) ?hh6_5
  case hi6_5 => ((simp only [List.getElem?_toArray, List.getElem?_cons_succ, List.getElem?_cons_zero]); rfl)
  case hs6_5 => kernel_rfl
  case hf6_5 => kernel_rfl
  case hr6_5 => kernel_rfl
  case hy6_5 => exact Or.inl ⟨by rfl, by (intro wq hSw; (try dsimp only at hSw); go_simp; (try with_reducible rfl))⟩
  try simp only [Act.put, List.setIfInBounds_toArray, List.set_cons_zero, List.set_cons_succ]
  refine wpAnyH_take (i := 7) (oi := ?o7_6) (v := ?v7_6) ?hi7_6 ?hs7_6 ?hf7_6 ?hr7_6 (fun _ _ _ h => h) ?hy7_6 (by assumption) ?hh7_6
  case hi7_6 => ((simp only [List.getElem?_toArray, List.getElem?_cons_succ, List.getElem?_cons_zero]); rfl)
  case hs7_6 => kernel_rfl
  case hf7_6 => kernel_rfl
  case hr7_6 => kernel_rfl
  case hy7_6 => exact Or.inl ⟨by rfl, by (intro wq hSw; (try dsimp only at hSw); go_simp; (try with_reducible rfl))⟩
  try simp only [Act.put, List.setIfInBounds_toArray, List.set_cons_zero, List.set_cons_succ]
  refine wpAnyH_ready (rs := [4]) (by kernel_rfl) (by simp) ?_
  refine AllReadyH.cons (o := ?o4_7) ?hi4_7 (fun K hK => ?hh4_7) AllReadyH.nil
  case hi4_7 => ((simp only [List.getElem?_toArray, List.getElem?_cons_succ, List.getElem?_cons_zero]); rfl)
  go_simp
  (go_at_call 55; refine (implstepsOf_ok A c _ xs _ (HX4.out.below hHeld) HCO).mono ?_; rintro e w5 ⟨A5, c5, rfl, ho5, hb5⟩; have HB5 := hide (hHeld.trans (hb5.mono hHeld.size)); have HS5 := hide (OwnI.sl ho5 HC.out.len8.symm); clear ho5 hb5)
  (try dsimp only)
  refine hK.out _ _ (HB5.out) (fun hHeld2 => ?_)
  clear hK K hHeld
  have hHeld := hHeld2
  clear hHeld2
  try simp only [Act.put, List.setIfInBounds_toArray, List.set_cons_zero, List.set_cons_succ]
  refine wpAnyH_ready (rs := [5]) (by kernel_rfl) (by simp) ?_
  refine AllReadyH.cons (o := ?o5_8) ?hi5_8 (fun K hK => ?hh5_8) AllReadyH.nil
  case hi5_8 => ((simp only [List.getElem?_toArray, List.getElem?_cons_succ, List.getElem?_cons_zero]); rfl)
  go_simp
  (go_at_call 54; refine (slicesMax8 A5 c5 _ x.most _ HS5.out HC.out.len8 (hide fun k => (HC.out.bd k).2)).mono ?_; rintro e w6 ⟨m, rfl, hm, rfl⟩)
  (try dsimp only)
  refine hK.out _ _ (HB5.out) (fun hHeld2 => ?_)
  clear hK K hHeld
  have hHeld := hHeld2
  clear hHeld2
  try simp only [Act.put, List.setIfInBounds_toArray, List.set_cons_zero, List.set_cons_succ]
  refine wpAnyH_take (i := 8) (oi := ?o8_9) (v := ?v8_9) ?hi8_9 ?hs8_9 ?hf8_9 ?hr8_9 (fun _ _ _ h => h) ?hy8_9 (by assumption) ?hh8_9
  case hi8_9 => ((simp only [List.getElem?_toArray, List.getElem?_cons_succ, List.getElem?_cons_zero]); rfl)
  case hs8_9 => kernel_rfl
  case hf8_9 => kernel_rfl
  case hr8_9 => kernel_rfl
  case hy8_9 => exact Or.inl ⟨by rfl, by (intro wq hSw; (try dsimp only at hSw); go_simp; (try with_reducible rfl))⟩
  try simp only [Act.put, List.setIfInBounds_toArray, List.set_cons_zero, List.set_cons_succ]
  refine wpAnyH_take (i := 9) (oi := ?o9_10) (v := ?v9_10) ?hi9_10 ?hs9_10 ?hf9_10 ?hr9_10 (fun _ _ _ h => h) ?hy9_10 (by assumption) ?hh9_10
  case hi9_10 => ((simp only [List.getElem?_toArray, List.getElem?_cons_succ, List.getElem?_cons_zero]); rfl)
  case hs9_10 => kernel_rfl
  case hf9_10 => kernel_rfl
  case hr9_10 => kernel_rfl
  case hy9_10 => exact Or.inl ⟨by rfl, by (intro wq hSw; (try dsimp only at hSw); go_simp; (try with_reducible rfl))⟩
  try simp only [Act.put, List.setIfInBounds_toArray, List.set_cons_zero, List.set_cons_succ]
  refine wpAnyH_take (i := 10) (oi := ?o10_11) (v := ?v10_11) ?hi10_11 ?hs10_11 ?hf10_11 ?hr10_11 (fun _ _ _ h => h) ?hy10_11 (by assumption) ?hh10_11
  case hi10_11 => ((simp only [List.getElem?_toArray, List.getElem?_cons_succ, List.getElem?_cons_zero]); rfl)
  case hs10_11 => kernel_rfl
  case hf10_11 => kernel_rfl
  case hr10_11 => kernel_rfl
  case hy10_11 => exact Or.inl ⟨by rfl, by (intro wq hSw; (try dsimp only at hSw); go_simp; (try with_reducible rfl))⟩
  try simp only [Act.put, List.setIfInBounds_toArray, List.set_cons_zero, List.set_cons_succ]
  refine wpAnyH_take (i := 11) (oi := ?o11_12) (v := ?v11_12) ?hi11_12 ?hs11_12 ?hf11_12 ?hr11_12 (fun _ _ _ h => h) ?hy11_12 (by assumption) ?hh11_12
  case hi11_12 => ((simp only [List.getElem?_toArray, List.getElem?_cons_succ, List.getElem?_cons_zero]); rfl)
  case hs11_12 => kernel_rfl
  case hf11_12 => kernel_rfl
  case hr11_12 => kernel_rfl
  case hy11_12 => exact Or.inl ⟨by rfl, by (intro wq hSw; (try dsimp only at hSw); go_simp; (try with_reducible rfl))⟩
  try simp only [Act.put, List.setIfInBounds_toArray, List.set_cons_zero, List.set_cons_succ]
  refine wpAnyH_take (i := 13) (oi := ?o13_13) (v := ?v13_13) ?hi13_13 ?hs13_13 ?hf13_13 ?hr13_13 (fun _ _ _ h => h) ?hy13_13 (by assumption) ?hh13_13
  case hi13_13 => ((simp only [List.getElem?_toArray, List.getElem?_cons_succ, List.getElem?_cons_zero]); rfl)
  case hs13_13 => kernel_rfl
  case hf13_13 => kernel_rfl
  case hr13_13 => kernel_rfl
  case hy13_13 => exact Or.inl ⟨by rfl, by (intro wq hSw; (try dsimp only at hSw); go_simp; (try with_reducible rfl))⟩
  try simp only [Act.put, List.setIfInBounds_toArray, List.set_cons_zero, List.set_cons_succ]
  refine wpAnyH_take (i := 14) (oi := ?o14_14) (v := ?v14_14) ?hi14_14 ?hs14_14 ?hf14_14 ?hr14_14 (fun _ _ _ h => h) ?hy14_14 (by assumption) ?hh14_14
  case hi14_14 => ((simp only [List.getElem?_toArray, List.getElem?_cons_succ, List.getElem?_cons_zero]); rfl)
  case hs14_14 => kernel_rfl
  case hf14_14 => kernel_rfl
  case hr14_14 => kernel_rfl
  case hy14_14 => exact Or.inl ⟨by rfl, by (intro wq hSw; (try dsimp only at hSw); go_simp; (try with_reducible rfl))⟩
  try simp only [Act.put, List.setIfInBounds_toArray, List.set_cons_zero, List.set_cons_succ]
  refine wpAnyH_ready (rs := [12]) (by kernel_rfl) (by simp) ?_
  refine AllReadyH.cons (o := ?o12_15) ?hi12_15 (fun K hK => ?hh12_15) AllReadyH.nil
  case hi12_15 => ((simp only [List.getElem?_toArray, List.getElem?_cons_succ, List.getElem?_cons_zero]); rfl)
  go_simp
  (go_at_call 49; refine (HGR.out _ hHeld).mono ?_; rintro e w8 ⟨rfl, hb8⟩; have HB8 := hide (hHeld.trans (hb8.mono hHeld.size)); clear hb8)
  (try dsimp only)
  refine hK.out _ _ (HB8.out) (fun hHeld2 => ?_)
  clear hK K hHeld
  have hHeld := hHeld2
  clear hHeld2
  try simp only [Act.put, List.setIfInBounds_toArray, List.set_cons_zero, List.set_cons_succ]
  refine wpAnyH_take (i := 15) (oi := ?o15_16) (v := ?v15_16) ?hi15_16 ?hs15_16 ?hf15_16 ?hr15_16 (fun _ _ _ h => h) ?hy15_16 (by assumption) ?hh15_16
  case hi15_16 => ((simp only [List.getElem?_toArray, List.getElem?_cons_succ, List.getElem?_cons_zero]); rfl)
  case hs15_16 => kernel_rfl
  case hf15_16 => kernel_rfl
  case hr15_16 => kernel_rfl
  case hy15_16 => exact Or.inl ⟨by rfl, by (intro wq hSw; (try dsimp only at hSw); go_simp; (try with_reducible rfl))⟩
  try simp only [Act.put, List.setIfInBounds_toArray, List.set_cons_zero, List.set_cons_succ]
  refine wpAnyH_take (i := 16) (oi := ?o16_17) (v := ?v16_17) ?hi16_17 ?hs16_17 ?hf16_17 ?hr16_17 (fun _ _ _ h => h) ?hy16_17 (by assumption) ?hh16_17
  case hi16_17 => ((simp only [List.getElem?_toArray, List.getElem?_cons_succ, List.getElem?_cons_zero]); rfl)
  case hs16_17 => kernel_rfl
  case hf16_17 => kernel_rfl
  case hr16_17 => kernel_rfl
  case hy16_17 => exact Or.inl ⟨by rfl, by (intro wq hSw; (try dsimp only at hSw); go_simp; (try with_reducible rfl))⟩
  try simp only [Act.put, List.setIfInBounds_toArray, List.set_cons_zero, List.set_cons_succ]
  refine wpAnyH_take (i := 17) (oi := ?o17_18) (v := ?v17_18) ?hi17_18 ?hs17_18 ?hf17_18 ?hr17_18 (fun _ _ _ h => h) ?hy17_18 (by assumption) ?hh17_18
  case hi17_18 => ((simp only [List.getElem?_toArray, List.getElem?_cons_succ, List.getElem?_cons_zero]); rfl)
  case hs17_18 => kernel_rfl
  case hf17_18 => kernel_rfl
  case hr17_18 => kernel_rfl
  case hy17_18 => exact Or.inl ⟨by rfl, by (intro wq hSw; (try dsimp only at hSw); go_simp; (try with_reducible rfl))⟩
  try simp only [Act.put, List.setIfInBounds_toArray, List.set_cons_zero, List.set_cons_succ]
  refine wpAnyH_done (by kernel_rfl) ?_ _
  refine NoPanic.normal ?_
  go_wp2_with fail
  go_ret
  exact ⟨ret_bool HPL.out, HBE.out.trans (hHeld.mono HBE.out.size)⟩
end Go.Proofs.YtnefgafmnpblpaaGreat
