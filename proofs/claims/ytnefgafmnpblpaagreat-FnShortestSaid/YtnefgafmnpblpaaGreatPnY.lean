/- Contracts: whether goals are valid, on both sides; the codes of a search's arguments. -/
import Derived.Test.YtnefgafmnpblpaaGreatPnW2
namespace Go.Proofs.YtnefgafmnpblpaaGreat
open Go.RowKit Pn

theorem goal_no1 {t : List Int} {tol most : Int} (h : dc (SoundOK t) = false) : dc (GoalOK t tol most) = false := dc_false fun q => not_dc h q.t
theorem goal_no2 {t : List Int} {tol most : Int} (h : inB tol 0 20000 = false) : dc (GoalOK t tol most) = false := dc_false fun q => by have := q.tol; have := inB_false h; omega
theorem goal_no3 {t : List Int} {tol most : Int} (h : inB most 0 20 = false) : dc (GoalOK t tol most) = false := dc_false fun q => by have := q.most; have := inB_false h; omega
theorem goal_yes {t : List Int} {tol most : Int} (h : dc (SoundOK t) = true) (h2 : inB tol 0 20000 = true) (h3 : inB most 0 20 = true) : dc (GoalOK t tol most) = true := dc_true ⟨of_dc h, inB_true h2, inB_true h3⟩
set_option maxRecDepth 100000 in
theorem implValidGoal (t0 t1 t2 t3 t4 tol most : Int) (w : World) : Calls Tryz.prog 100 #[.agg #[.int .i64 t0, .int .i64 t1, .int .i64 t2, .int .i64 t3, .int .i64 t4, .int .i64 tol, .int .i64 most]] w fun e w' => e = .returned (.bool (dc (GoalOK [t0, t1, t2, t3, t4] tol most))) ∧ Below w.heap.size w w' := by
  have HB0 := hide (show Below w.heap.size w (w.alloc (.cells #[.int .i64 t0, .int .i64 t1, .int .i64 t2, .int .i64 t3, .int .i64 t4, .int .i64 tol, .int .i64 most] 34)) from (by repeat (first | with_reducible exact Below.refl _ _ | with_reducible assumption | (with_reducible refine Below.drew ?_) | (with_reducible refine below_drewN ?_ _) | ((with_reducible refine Below.alloc ?_ ?_ _); rotate_left; (focus (first | omega | (simp; omega) | simp))) | ((with_reducible refine Below.setCell ?_ ?_ _); rotate_left; (focus (first | omega | (simp; omega) | simp))) | (refine Below.trans ?_ (Below.mono (by assumption) (by first | omega | (simp; omega) | simp))))))
  go_enter Tryz.func100, Tryz.ntmps100
  go_wp2_with fail
  refine (ValidSound_is _ _ _ _ _ _).mono ?_
  rintro e w1 ⟨rfl, hb1⟩
  have q5 := hb1.cell (p := ⟨w.heap.size, 5, none⟩) (by simp)
  have q6 := hb1.cell (p := ⟨w.heap.size, 6, none⟩) (by simp)
  simp at q5 q6
  have HB1 := hide (HB0.out.trans (hb1.mono (by simp)))
  clear hb1
  cases h0 : dc (SoundOK [t0, t1, t2, t3, t4])
  · have E := hide (goal_no1 (tol := tol) (most := most) h0)
    go_wp2_with fail
    go_ret
    exact ⟨ret_bool E.out.symm, HB1.out⟩
  · cases h1 : inB tol 0 20000
    · have E := hide (goal_no2 (t := [t0, t1, t2, t3, t4]) (most := most) h1)
      go_wp2_with (go_at_call 120; refine (implwithin_is _ _ _ _ (by assumption) _).mono ?_; rintro e w' ⟨rfl, rfl⟩)
      go_ret
      exact ⟨ret_bool E.out.symm, HB1.out⟩
    · cases h2 : inB most 0 20
      · have E := hide (goal_no3 (t := [t0, t1, t2, t3, t4]) (tol := tol) h2)
        go_wp2_with (go_at_call 120; refine (implwithin_is _ _ _ _ (by assumption) _).mono ?_; rintro e w' ⟨rfl, rfl⟩)
        go_ret
        exact ⟨ret_bool E.out.symm, HB1.out⟩
      · have E := hide (goal_yes h0 h1 h2)
        go_wp2_with (go_at_call 120; refine (implwithin_is _ _ _ _ (by assumption) _).mono ?_; rintro e w' ⟨rfl, rfl⟩)
        go_ret
        exact ⟨ret_bool E.out.symm, HB1.out⟩
theorem GoalAt.sound {t0 t1 t2 t3 t4 tol most : Int} {bg og : Nat} {w : World} (h : GoalAt w bg og [t0, t1, t2, t3, t4] tol most) :
    w.cell? ⟨bg, og, none⟩ = some (.int .i64 t0) ∧ w.cell? ⟨bg, og + 1, none⟩ = some (.int .i64 t1) ∧ w.cell? ⟨bg, og + 2, none⟩ = some (.int .i64 t2) ∧ w.cell? ⟨bg, og + 3, none⟩ = some (.int .i64 t3) ∧ w.cell? ⟨bg, og + 4, none⟩ = some (.int .i64 t4) :=
  ⟨by simpa using h.ct 0 (by omega), by simpa using h.ct 1 (by omega), by simpa using h.ct 2 (by omega), by simpa using h.ct 3 (by omega), by simpa using h.ct 4 (by omega)⟩
theorem GoalAt.new {t0 t1 t2 t3 t4 tol most : Int} {w : World} : GoalAt (w.alloc (.cells #[.int .i64 t0, .int .i64 t1, .int .i64 t2, .int .i64 t3, .int .i64 t4, .int .i64 tol, .int .i64 most] 34)) w.heap.size 0 [t0, t1, t2, t3, t4] tol most :=
  ⟨by simp, rfl, fun j hj => match j, hj with
    | 0, _ => by simp
    | 1, _ => by simp
    | 2, _ => by simp
    | 3, _ => by simp
    | 4, _ => by simp, by simp, by simp⟩
set_option maxRecDepth 100000 in
theorem specl10Goal (bg : Nat) (t0 t1 t2 t3 t4 tol most : Int) (w : World) (h : GoalAt w bg 0 [t0, t1, t2, t3, t4] tol most) : Calls Tryz.prog 170 #[.pointer (some ⟨bg, 0, none⟩)] w fun e w' => e = .returned (.bool (dc (GoalOK [t0, t1, t2, t3, t4] tol most))) ∧ Below w.heap.size w w' := by
  obtain ⟨a0, a1, a2, a3, a4⟩ := h.sound
  have HC := hide (l04Ok_is bg 0 t0 t1 t2 t3 t4 w a0 a1 a2 a3 a4)
  have c5 := h.c5
  have c6 := h.c6
  have HP := hide h
  simp only [Nat.zero_add] at c5 c6
  clear a0 a1 a2 a3 a4 h
  go_enter Tryz.func170, Tryz.ntmps170
  go_wp2_with fail
  refine HC.out.mono ?_
  rintro e w1 ⟨rfl, hb1⟩
  have q5 := (HP.out.below hb1).c5
  have q6 := (HP.out.below hb1).c6
  have HB1 := hide hb1
  simp only [Nat.zero_add] at q5 q6
  clear hb1 HC c5 c6
  cases h0 : dc (SoundOK [t0, t1, t2, t3, t4])
  · have E := hide (goal_no1 (tol := tol) (most := most) h0)
    go_wp2_with fail
    go_ret
    exact ⟨ret_bool E.out.symm, HB1.out⟩
  · cases h1 : inB tol 0 20000
    · have E := hide (goal_no2 (t := [t0, t1, t2, t3, t4]) (most := most) h1)
      go_wp2_with (go_at_call 109; refine (specl00In_is _ _ _ _ (by assumption) _).mono ?_; rintro e w' ⟨rfl, rfl⟩)
      go_ret
      exact ⟨ret_bool E.out.symm, HB1.out⟩
    · cases h2 : inB most 0 20
      · have E := hide (goal_no3 (t := [t0, t1, t2, t3, t4]) (tol := tol) h2)
        go_wp2_with (go_at_call 109; refine (specl00In_is _ _ _ _ (by assumption) _).mono ?_; rintro e w' ⟨rfl, rfl⟩)
        go_ret
        exact ⟨ret_bool E.out.symm, HB1.out⟩
      · have E := hide (goal_yes h0 h1 h2)
        go_wp2_with (go_at_call 109; refine (specl00In_is _ _ _ _ (by assumption) _).mono ?_; rintro e w' ⟨rfl, rfl⟩)
        go_ret
        exact ⟨ret_bool E.out.symm, HB1.out⟩
/-- The code of a model and a profile. -/
noncomputable def askB (zs : List Int) (ws : List (List Int)) (bs : List Int) (nm : ByteArray) (rs : List RingR) : Int :=
  if dc (ModelOK zs ws bs) && profB nm rs then (if dc (ZonesOK zs rs.length) then 0 else 2) else 1
section
variable {zs : List Int} {ws : List (List Int)} {bs : List Int} {nm : ByteArray} {rs : List RingR}
theorem ask_m (h : dc (ModelOK zs ws bs) = false) : askB zs ws bs nm rs = 1 := by unfold askB; rw [h]; rfl
theorem ask_p (h : profB nm rs = false) : askB zs ws bs nm rs = 1 := by unfold askB; rw [h, Bool.and_false]; rfl
theorem ask_z (h : dc (ModelOK zs ws bs) = true) (h2 : profB nm rs = true) (h3 : pzB nm rs zs = false) : askB zs ws bs nm rs = 2 := by
  unfold pzB at h3; rw [h2, Bool.true_and] at h3
  unfold askB; rw [h, h2, h3]; rfl
theorem ask_ok (h : dc (ModelOK zs ws bs) = true) (h2 : profB nm rs = true) (h3 : pzB nm rs zs = true) : askB zs ws bs nm rs = 0 := by
  unfold pzB at h3; rw [h2, Bool.true_and] at h3
  unfold askB; rw [h, h2, h3]; rfl
/-- What a search's arguments are known to be. -/
structure AskOK (zs : List Int) (ws : List (List Int)) (bs : List Int) (nm : ByteArray) (rs : List RingR) : Prop where
  m : ModelOK zs ws bs
  n : nameB nm.data.toList = true
  r : RingsOK rs
  z : ZonesOK zs rs.length
theorem ask_zero (h : askB zs ws bs nm rs = 0) : AskOK zs ws bs nm rs := by
  unfold askB at h
  cases h1 : dc (ModelOK zs ws bs)
  · rw [h1] at h; simp at h
  · cases h2 : profB nm rs
    · rw [h1, h2] at h; simp at h
    · cases h3 : dc (ZonesOK zs rs.length)
      · rw [h1, h2, h3] at h; simp at h
      · have := profB_true h2
        exact ⟨of_dc h1, this.1, this.2, of_dc h3⟩
theorem ask_vals : askB zs ws bs nm rs = 0 ∨ askB zs ws bs nm rs = 1 ∨ askB zs ws bs nm rs = 2 := by
  unfold askB; split <;> (try split) <;> simp
/-- The code of a model, a profile and a goal. -/
noncomputable def aimB (zs : List Int) (ws : List (List Int)) (bs : List Int) (nm : ByteArray) (rs : List RingR) (t : List Int) (tol most : Int) : Int :=
  if dc (GoalOK t tol most) then askB zs ws bs nm rs else 1
/-- The code of a search. -/
noncomputable def serB (zs : List Int) (ws : List (List Int)) (bs : List Int) (nm : ByteArray) (rs : List RingR) (t : List Int) (tol most bud : Int) : Int :=
  if aimB zs ws bs nm rs t tol most = 0 then (if inB bud 1 20000 then 0 else 2) else aimB zs ws bs nm rs t tol most
end
set_option maxRecDepth 100000 in
theorem implmodelled (Az Aw Ab : Option Addr) (cz cw cb : Nat) (zs : List Int) (ws : List (List Int)) (bs : List Int) (nm : ByteArray) (A : Option Addr) (c : Nat) (rs : List RingR) (w : World) (hm : MdAt w Az Aw Ab zs ws bs) (HS : Hid (MdSz zs ws bs)) (hr : SlAt encRing 3 w A rs) (hn : rs.length ≤ 1048576) (hs : nm.size ≤ maxLen) :
    Calls Tryz.prog 101 #[.agg #[.slice Az zs.length cz, .slice Aw ws.length cw, .slice Ab bs.length cb], .agg #[.string nm, .slice A rs.length c]] w fun e w' => e = .returned (.int .i64 (askB zs ws bs nm rs)) ∧ Below w.heap.size w w' := by
  have hb0 : Below w.heap.size w ((w.alloc (.cells #[.slice Az zs.length cz, .slice Aw ws.length cw, .slice Ab bs.length cb] 27)).alloc (.cells #[.string nm, .slice A rs.length c] 30)) := (by repeat (first | with_reducible exact Below.refl _ _ | with_reducible assumption | (with_reducible refine Below.drew ?_) | (with_reducible refine below_drewN ?_ _) | ((with_reducible refine Below.alloc ?_ ?_ _); rotate_left; (focus (first | omega | (simp; omega) | simp))) | ((with_reducible refine Below.setCell ?_ ?_ _); rotate_left; (focus (first | omega | (simp; omega) | simp))) | (refine Below.trans ?_ (Below.mono (by assumption) (by first | omega | (simp; omega) | simp)))))
  have HM := hide (hm.below hb0)
  have HR := hide (hr.below hb0)
  have HB0 := hide hb0
  clear hm hr hb0
  go_enter Tryz.func101, Tryz.ntmps101
  go_wp2_with fail
  refine (implValidModel Az Aw Ab cz cw cb zs ws bs _ HM.out HS).mono ?_
  rintro e w1 ⟨rfl, hb1⟩
  have q0 := hb1.cell (p := ⟨w.heap.size, 0, none⟩) (by first | (simp; done) | (simp; omega))
  have p0 := hb1.cell (p := ⟨w.heap.size + 1, 0, none⟩) (by first | (simp; done) | (simp; omega))
  have p1 := hb1.cell (p := ⟨w.heap.size + 1, 1, none⟩) (by first | (simp; done) | (simp; omega))
  simp at q0 p0 p1
  have hz1 := hb1.size
  simp at hz1
  have HM1 := hide (HM.out.below hb1)
  have HR1 := hide (HR.out.below hb1)
  have HB1 := hide (HB0.out.trans (hb1.mono (by first | (simp; done) | (simp; omega))))
  clear hb1 HM HR
  cases h0 : dc (ModelOK zs ws bs)
  · have E := hide (ask_m (nm := nm) (rs := rs) h0)
    go_wp2_with fail
    go_ret
    exact ⟨ret_int E.out.symm, HB1.out⟩
  · go_wp2_with fail
    refine (implValidProfile nm A c rs _ HR1.out hn hs).mono ?_
    rintro e w2 ⟨rfl, hb2⟩
    have r0 := (hb2.cell (p := ⟨w.heap.size, 0, none⟩) (by simp; omega)).trans q0
    have s0 := (hb2.cell (p := ⟨w.heap.size + 1, 0, none⟩) (by simp; omega)).trans p0
    have s1 := (hb2.cell (p := ⟨w.heap.size + 1, 1, none⟩) (by simp; omega)).trans p1
    have hz2 := hb2.size
    have HM2 := hide (HM1.out.z.below hb2)
    have HR2 := hide (HR1.out.below hb2)
    have HB2 := hide (HB1.out.trans (hb2.mono HB1.out.size))
    clear hb2 HM1 HR1 q0 p0 p1 HB1
    cases h1 : profB nm rs
    · have E := hide (ask_p (zs := zs) (ws := ws) (bs := bs) h1)
      go_wp2_with fail
      go_ret
      exact ⟨ret_int E.out.symm, HB2.out⟩
    · go_wp2_with fail
      refine (implValidZones nm A c rs Az cz zs _ HR2.out hn hs HM2.out HS.out.z).mono ?_
      rintro e w3 ⟨rfl, hb3⟩
      have HB3 := hide (HB2.out.trans (hb3.mono HB2.out.size))
      clear hb3
      cases h2 : pzB nm rs zs
      · have E := hide (ask_z h0 h1 h2)
        go_wp2_with fail
        go_ret
        exact ⟨ret_int E.out.symm, HB3.out⟩
      · have E := hide (ask_ok h0 h1 h2)
        go_wp2_with fail
        go_ret
        exact ⟨ret_int E.out.symm, HB3.out⟩
set_option maxRecDepth 100000 in
theorem specl08Ask (bm bp : Nat) (Az Aw Ab : Option Addr) (cz cw cb : Nat) (zs : List Int) (ws : List (List Int)) (bs : List Int) (nm : ByteArray) (A : Option Addr) (c : Nat) (rs : List RingR) (w : World) (hm : MpAt w bm Az cz Aw cw Ab cb zs ws bs) (HS : Hid (MdSz zs ws bs)) (hr : ProfAt w bp nm A c rs) (hn : rs.length ≤ 1048576) (hs : nm.size ≤ maxLen) :
    Calls Tryz.prog 171 #[.pointer (some ⟨bm, 0, none⟩), .pointer (some ⟨bp, 0, none⟩)] w fun e w' => e = .returned (.int .i64 (askB zs ws bs nm rs)) ∧ Below w.heap.size w w' := by
  have HM := hide hm
  have HR := hide hr
  clear hm hr
  go_enter Tryz.func171, Tryz.ntmps171
  go_wp2_with fail
  refine (specl08Ok bm Az Aw Ab cz cw cb zs ws bs _ HM.out HS).mono ?_
  rintro e w1 ⟨rfl, hb1⟩
  have HM1 := hide (HM.out.below hb1)
  have HR1 := hide (HR.out.below hb1)
  have HB1 := hide hb1
  clear hb1 HM HR
  cases h0 : dc (ModelOK zs ws bs)
  · have E := hide (ask_m (nm := nm) (rs := rs) h0)
    go_wp2_with fail
    go_ret
    exact ⟨ret_int E.out.symm, HB1.out⟩
  · go_wp2_with fail
    refine (specl05Ok bp nm A c rs _ HR1.out hn hs).mono ?_
    rintro e w2 ⟨rfl, hb2⟩
    have HM2 := hide (HM1.out.below hb2)
    have HR2 := hide (HR1.out.below hb2)
    have q0 := HM2.out.c0
    have HB2 := hide (HB1.out.trans (hb2.mono HB1.out.size))
    clear hb2 HM1 HR1 HB1
    cases h1 : profB nm rs
    · have E := hide (ask_p (zs := zs) (ws := ws) (bs := bs) h1)
      go_wp2_with fail
      go_ret
      exact ⟨ret_int E.out.symm, HB2.out⟩
    · go_wp2_with fail
      refine (specl09Zones bp nm A c rs Az cz zs _ HR2.out hn hs HM2.out.md.z HS.out.z).mono ?_
      rintro e w3 ⟨rfl, hb3⟩
      have HB3 := hide (HB2.out.trans (hb3.mono HB2.out.size))
      clear hb3
      cases h2 : pzB nm rs zs
      · have E := hide (ask_z h0 h1 h2)
        go_wp2_with fail
        go_ret
        exact ⟨ret_int E.out.symm, HB3.out⟩
      · have E := hide (ask_ok h0 h1 h2)
        go_wp2_with fail
        go_ret
        exact ⟨ret_int E.out.symm, HB3.out⟩
/-- The boxes of a model and a profile. -/
structure Boxes2 (w W : World) (bm : Nat) (Az : Option Addr) (cz : Nat) (Aw : Option Addr) (cw : Nat) (Ab : Option Addr) (cb : Nat) (zs : List Int) (ws : List (List Int)) (bs : List Int) (nm : ByteArray) (A : Option Addr) (c : Nat) (rs : List RingR) : Prop where
  m : MpAt W bm Az cz Aw cw Ab cb zs ws bs
  p : ProfAt W (bm + 1) nm A c rs
  bel : Below w.heap.size w W
theorem Boxes2.below {w W W' : World} {bm : Nat} {Az Aw Ab : Option Addr} {cz cw cb : Nat} {zs : List Int} {ws : List (List Int)} {bs : List Int} {nm : ByteArray} {A : Option Addr} {c : Nat} {rs : List RingR} (h : Boxes2 w W bm Az cz Aw cw Ab cb zs ws bs nm A c rs) (hb : Below W.heap.size W W') : Boxes2 w W' bm Az cz Aw cw Ab cb zs ws bs nm A c rs :=
  ⟨h.m.below hb, h.p.below hb, h.bel.trans (hb.mono h.bel.size)⟩
theorem boxes2 {w : World} {Az Aw Ab : Option Addr} {cz cw cb : Nat} {zs : List Int} {ws : List (List Int)} {bs : List Int} {nm : ByteArray} {A : Option Addr} {c : Nat} {rs : List RingR} (hm : MdAt w Az Aw Ab zs ws bs) (hr : SlAt encRing 3 w A rs) : Boxes2 w ((w.alloc (.cells #[.slice Az zs.length cz, .slice Aw ws.length cw, .slice Ab bs.length cb] 27)).alloc (.cells #[.string nm, .slice A rs.length c] 30)) w.heap.size Az cz Aw cw Ab cb zs ws bs nm A c rs := by
  refine ⟨(MpAt.new hm).below ((Below.refl _ _).alloc (Nat.le_refl _) _), ?_, (by repeat (first | with_reducible exact Below.refl _ _ | with_reducible assumption | (with_reducible refine Below.drew ?_) | (with_reducible refine below_drewN ?_ _) | ((with_reducible refine Below.alloc ?_ ?_ _); rotate_left; (focus (first | omega | (simp; omega) | simp))) | ((with_reducible refine Below.setCell ?_ ?_ _); rotate_left; (focus (first | omega | (simp; omega) | simp))) | (refine Below.trans ?_ (Below.mono (by assumption) (by first | omega | (simp; omega) | simp)))))⟩
  have := ProfAt.new (nm := nm) (c := c) (w := w.alloc (.cells #[.slice Az zs.length cz, .slice Aw ws.length cw, .slice Ab bs.length cb] 27)) (hr.below ((Below.refl _ _).alloc (Nat.le_refl _) _))
  simpa using this
theorem boxes3 {w : World} {Az Aw Ab : Option Addr} {cz cw cb : Nat} {zs : List Int} {ws : List (List Int)} {bs : List Int} {nm : ByteArray} {A : Option Addr} {c : Nat} {rs : List RingR} {t0 t1 t2 t3 t4 tol most : Int} (hm : MdAt w Az Aw Ab zs ws bs) (hr : SlAt encRing 3 w A rs) : Boxes2 w (((w.alloc (.cells #[.slice Az zs.length cz, .slice Aw ws.length cw, .slice Ab bs.length cb] 27)).alloc (.cells #[.string nm, .slice A rs.length c] 30)).alloc (.cells #[.int .i64 t0, .int .i64 t1, .int .i64 t2, .int .i64 t3, .int .i64 t4, .int .i64 tol, .int .i64 most] 34)) w.heap.size Az cz Aw cw Ab cb zs ws bs nm A c rs ∧ GoalAt (((w.alloc (.cells #[.slice Az zs.length cz, .slice Aw ws.length cw, .slice Ab bs.length cb] 27)).alloc (.cells #[.string nm, .slice A rs.length c] 30)).alloc (.cells #[.int .i64 t0, .int .i64 t1, .int .i64 t2, .int .i64 t3, .int .i64 t4, .int .i64 tol, .int .i64 most] 34)) (w.heap.size + 2) 0 [t0, t1, t2, t3, t4] tol most := by
  refine ⟨(boxes2 hm hr).below ((Below.refl _ _).alloc (Nat.le_refl _) _), ?_⟩
  have := GoalAt.new (w := ((w.alloc (.cells #[.slice Az zs.length cz, .slice Aw ws.length cw, .slice Ab bs.length cb] 27)).alloc (.cells #[.string nm, .slice A rs.length c] 30))) (t0 := t0) (t1 := t1) (t2 := t2) (t3 := t3) (t4 := t4) (tol := tol) (most := most)
  simpa using this
set_option maxRecDepth 100000 in
theorem implaimed (Az Aw Ab : Option Addr) (cz cw cb : Nat) (zs : List Int) (ws : List (List Int)) (bs : List Int) (nm : ByteArray) (A : Option Addr) (c : Nat) (rs : List RingR) (t0 t1 t2 t3 t4 tol most : Int) (w : World) (hm : MdAt w Az Aw Ab zs ws bs) (HS : Hid (MdSz zs ws bs)) (hr : SlAt encRing 3 w A rs) (hn : rs.length ≤ 1048576) (hs : nm.size ≤ maxLen) :
    Calls Tryz.prog 47 #[.agg #[.slice Az zs.length cz, .slice Aw ws.length cw, .slice Ab bs.length cb], .agg #[.string nm, .slice A rs.length c], .agg #[.int .i64 t0, .int .i64 t1, .int .i64 t2, .int .i64 t3, .int .i64 t4, .int .i64 tol, .int .i64 most]] w fun e w' => e = .returned (.int .i64 (aimB zs ws bs nm rs [t0, t1, t2, t3, t4] tol most)) ∧ Below w.heap.size w w' := by
  have HX := hide (boxes3 (cz := cz) (cw := cw) (cb := cb) (nm := nm) (c := c) (t0 := t0) (t1 := t1) (t2 := t2) (t3 := t3) (t4 := t4) (tol := tol) (most := most) hm hr).1
  clear hm hr
  go_enter Tryz.func47, Tryz.ntmps47
  go_wp2_with fail
  refine (implValidGoal _ _ _ _ _ _ _ _).mono ?_
  rintro e w1 ⟨rfl, hb1⟩
  have HX1 := hide (HX.out.below hb1)
  have c0 := HX1.out.m.c0
  have c1 := HX1.out.m.c1
  have c2 := HX1.out.m.c2
  have p0 := HX1.out.p.c0
  have p1 := HX1.out.p.c1
  have pl := HX1.out.p.lt
  clear hb1 HX
  cases h0 : dc (GoalOK [t0, t1, t2, t3, t4] tol most)
  · have E := hide (show aimB zs ws bs nm rs [t0, t1, t2, t3, t4] tol most = 1 by unfold aimB; rw [h0]; rfl)
    go_wp2_with fail
    go_ret
    exact ⟨ret_int E.out.symm, HX1.out.bel⟩
  · have E := hide (show aimB zs ws bs nm rs [t0, t1, t2, t3, t4] tol most = askB zs ws bs nm rs by unfold aimB; rw [h0]; rfl)
    go_wp2_with fail
    refine (implmodelled Az Aw Ab cz cw cb zs ws bs nm A c rs _ HX1.out.m.md HS HX1.out.p.sl hn hs).mono ?_
    rintro e w2 ⟨rfl, hb2⟩
    have HB2 := hide (HX1.out.bel.trans (hb2.mono HX1.out.bel.size))
    clear hb2
    go_wp2_with fail
    go_ret
    exact ⟨ret_int E.out.symm, HB2.out⟩
set_option maxRecDepth 100000 in
theorem specl10Ask (bm bp bg : Nat) (Az Aw Ab : Option Addr) (cz cw cb : Nat) (zs : List Int) (ws : List (List Int)) (bs : List Int) (nm : ByteArray) (A : Option Addr) (c : Nat) (rs : List RingR) (t0 t1 t2 t3 t4 tol most : Int) (w : World) (hm : MpAt w bm Az cz Aw cw Ab cb zs ws bs) (HS : Hid (MdSz zs ws bs)) (hr : ProfAt w bp nm A c rs) (hn : rs.length ≤ 1048576) (hs : nm.size ≤ maxLen) (hg : GoalAt w bg 0 [t0, t1, t2, t3, t4] tol most) :
    Calls Tryz.prog 129 #[.pointer (some ⟨bm, 0, none⟩), .pointer (some ⟨bp, 0, none⟩), .pointer (some ⟨bg, 0, none⟩)] w fun e w' => e = .returned (.int .i64 (aimB zs ws bs nm rs [t0, t1, t2, t3, t4] tol most)) ∧ Below w.heap.size w w' := by
  have HM := hide hm
  have HR := hide hr
  have HG := hide hg
  clear hm hr hg
  go_enter Tryz.func129, Tryz.ntmps129
  go_wp2_with fail
  refine (specl10Goal bg _ _ _ _ _ _ _ _ HG.out).mono ?_
  rintro e w1 ⟨rfl, hb1⟩
  have HM1 := hide (HM.out.below hb1)
  have HR1 := hide (HR.out.below hb1)
  have HB1 := hide hb1
  clear hb1 HM HR
  cases h0 : dc (GoalOK [t0, t1, t2, t3, t4] tol most)
  · have E := hide (show aimB zs ws bs nm rs [t0, t1, t2, t3, t4] tol most = 1 by unfold aimB; rw [h0]; rfl)
    go_wp2_with fail
    go_ret
    exact ⟨ret_int E.out.symm, HB1.out⟩
  · have E := hide (show aimB zs ws bs nm rs [t0, t1, t2, t3, t4] tol most = askB zs ws bs nm rs by unfold aimB; rw [h0]; rfl)
    go_wp2_with fail
    refine (specl08Ask bm bp Az Aw Ab cz cw cb zs ws bs nm A c rs _ HM1.out HS HR1.out hn hs).mono ?_
    rintro e w2 ⟨rfl, hb2⟩
    have HB2 := hide (HB1.out.trans (hb2.mono HB1.out.size))
    clear hb2
    go_wp2_with fail
    go_ret
    exact ⟨ret_int E.out.symm, HB2.out⟩
set_option maxRecDepth 100000 in
theorem implsearchable (Az Aw Ab : Option Addr) (cz cw cb : Nat) (zs : List Int) (ws : List (List Int)) (bs : List Int) (nm : ByteArray) (A : Option Addr) (c : Nat) (rs : List RingR) (t0 t1 t2 t3 t4 tol most bud : Int) (w : World) (hm : MdAt w Az Aw Ab zs ws bs) (HS : Hid (MdSz zs ws bs)) (hr : SlAt encRing 3 w A rs) (hn : rs.length ≤ 1048576) (hs : nm.size ≤ maxLen) :
    Calls Tryz.prog 41 #[.agg #[.slice Az zs.length cz, .slice Aw ws.length cw, .slice Ab bs.length cb], .agg #[.string nm, .slice A rs.length c], .agg #[.int .i64 t0, .int .i64 t1, .int .i64 t2, .int .i64 t3, .int .i64 t4, .int .i64 tol, .int .i64 most], .int .i64 bud] w fun e w' => e = .returned (.int .i64 (serB zs ws bs nm rs [t0, t1, t2, t3, t4] tol most bud)) ∧ Below w.heap.size w w' := by
  have HX := hide (boxes3 (cz := cz) (cw := cw) (cb := cb) (nm := nm) (c := c) (t0 := t0) (t1 := t1) (t2 := t2) (t3 := t3) (t4 := t4) (tol := tol) (most := most) hm hr)
  have c0 := HX.out.1.m.c0
  have c1 := HX.out.1.m.c1
  have c2 := HX.out.1.m.c2
  have p0 := HX.out.1.p.c0
  have p1 := HX.out.1.p.c1
  have pl := HX.out.1.p.lt
  clear hm hr
  go_enter Tryz.func41, Tryz.ntmps41
  go_wp2_with fail
  refine (implaimed Az Aw Ab cz cw cb zs ws bs nm A c rs t0 t1 t2 t3 t4 tol most _ HX.out.1.m.md HS HX.out.1.p.sl hn hs).mono ?_
  rintro e w1 ⟨rfl, hb1⟩
  have HB1 := hide (HX.out.1.bel.trans (hb1.mono HX.out.1.bel.size))
  clear hb1 HX c0 c1 c2 p0 p1 pl
  have E0 := hide (show ∀ x, x = aimB zs ws bs nm rs [t0, t1, t2, t3, t4] tol most → serB zs ws bs nm rs [t0, t1, t2, t3, t4] tol most bud = if x = 0 then (if inB bud 1 20000 then 0 else 2) else x from fun x hx => by subst hx; rfl)
  obtain ⟨x, hx⟩ : ∃ x, x = aimB zs ws bs nm rs [t0, t1, t2, t3, t4] tol most := ⟨_, rfl⟩
  rw [← hx]
  have E1 := hide (E0.out x hx)
  clear hx E0
  by_cases h0 : x = 0
  · subst h0
    cases h1 : inB bud 1 20000
    · have E := hide (show serB zs ws bs nm rs [t0, t1, t2, t3, t4] tol most bud = 2 from by rw [E1.out, h1]; rfl)
      go_wp2_with (go_at_call 94; refine (implisBudget_any _ _).mono ?_; rintro e2 w2 ⟨rfl, rfl⟩)
      go_ret
      exact ⟨ret_int E.out.symm, HB1.out⟩
    · have E := hide (show serB zs ws bs nm rs [t0, t1, t2, t3, t4] tol most bud = 0 from by rw [E1.out, h1]; rfl)
      go_wp2_with (go_at_call 94; refine (implisBudget_any _ _).mono ?_; rintro e2 w2 ⟨rfl, rfl⟩)
      go_ret
      exact ⟨ret_int E.out.symm, HB1.out⟩
  · have E := hide (show serB zs ws bs nm rs [t0, t1, t2, t3, t4] tol most bud = x from by rw [E1.out, if_neg h0])
    have h00 : (x == 0) = false := by simpa using h0
    clear h0 E1
    go_wp2_with fail
    go_ret
    exact ⟨ret_int E.out.symm, HB1.out⟩
end Go.Proofs.YtnefgafmnpblpaaGreat
