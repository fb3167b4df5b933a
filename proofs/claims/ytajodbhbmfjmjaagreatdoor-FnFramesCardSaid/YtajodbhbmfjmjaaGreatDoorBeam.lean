/- Contracts: whether a beam is valid, on both sides; the laws' copy, count and comparison of beams. -/
import Derived.Test.YtajodbhbmfjmjaaGreatDoorRows2
namespace Go.Proofs.YtajodbhbmfjmjaaGreatDoor
open Go.RowKit

/-- A load can act on a beam. -/
def ldOk (span at_ wt : Int) : Bool := inB at_ 0 span && inB wt 1 200000
def badL (span : Int) (ls : List LoadR) (k : Nat) : Prop := ∃ h : k < ls.length, ldOk span ls[k].at_ ls[k].wt = false ∨ ∃ _ : 0 < k, ls[k].at_ < (ls[k - 1]'(by omega)).at_
def bmB (nm : ByteArray) (span wd dp wood : Int) : Bool := nameB nm.data.toList && inB span 1 6000 && inB wd 20 1000 && inB dp 20 1000 && inB wood 1000 20000
noncomputable def vBeam (nm : ByteArray) (span wd dp wood : Int) (ls : List LoadR) : Bool := @decide (bmB nm span wd dp wood = true ∧ (∀ k, ¬ badL span ls k) ∧ ls.length ≤ 8) (Classical.propDecidable _)
theorem vBeam_badL {nm : ByteArray} {span wd dp wood : Int} {ls : List LoadR} (k : Nat) (h : badL span ls k) : vBeam nm span wd dp wood ls = false := by
  unfold vBeam; exact @decide_eq_false _ (Classical.propDecidable _) fun a => a.2.1 k h
theorem vBeam_badB {nm : ByteArray} {span wd dp wood : Int} {ls : List LoadR} (h : bmB nm span wd dp wood = false) : vBeam nm span wd dp wood ls = false := by
  unfold vBeam; exact @decide_eq_false _ (Classical.propDecidable _) fun a => by rw [h] at a; cases a.1
theorem vBeam_fin {nm : ByteArray} {span wd dp wood : Int} {ls : List LoadR} (hb : bmB nm span wd dp wood = true) (h : ∀ k, k < ls.length → ¬ badL span ls k) : vBeam nm span wd dp wood ls = decide ((ls.length : Int) ≤ 8) := by
  have h' : ∀ k, ¬ badL span ls k := fun k hb => h k hb.1 hb
  unfold vBeam
  by_cases hl : ls.length ≤ 8
  · rw [@decide_eq_true _ (Classical.propDecidable _) ⟨hb, h', hl⟩, decide_eq_true (by omega)]
  · rw [@decide_eq_false _ (Classical.propDecidable _) fun a => hl a.2.2, decide_eq_false (by omega)]
theorem vBeam_true {nm : ByteArray} {span wd dp wood : Int} {ls : List LoadR} (h : vBeam nm span wd dp wood ls = true) :
    nameB nm.data.toList = true ∧ (1 ≤ span ∧ span ≤ 6000) ∧ (20 ≤ wd ∧ wd ≤ 1000) ∧ (20 ≤ dp ∧ dp ≤ 1000) ∧ (1000 ≤ wood ∧ wood ≤ 20000) ∧ (∀ x ∈ ls, (0 ≤ x.at_ ∧ x.at_ ≤ span) ∧ 1 ≤ x.wt ∧ x.wt ≤ 200000) ∧ ls.length ≤ 8 ∧ (∀ k, ¬ badL span ls k) := by
  unfold vBeam at h
  obtain ⟨hb, hl, hn⟩ := @of_decide_eq_true _ (Classical.propDecidable _) h
  unfold bmB at hb
  simp only [Bool.and_eq_true] at hb
  refine ⟨hb.1.1.1.1, inB_true hb.1.1.1.2, inB_true hb.1.1.2, inB_true hb.1.2, inB_true hb.2, fun x hx => ?_, hn, hl⟩
  obtain ⟨k, hk, rfl⟩ := List.getElem_of_mem hx
  have h1 : ldOk span ls[k].at_ ls[k].wt = true := by
    cases e : ldOk span ls[k].at_ ls[k].wt
    · exact absurd ⟨hk, .inl e⟩ (hl k)
    · rfl
  unfold ldOk at h1
  simp only [Bool.and_eq_true] at h1
  exact ⟨inB_true h1.1, inB_true h1.2⟩
theorem badL_not {span : Int} {ls : List LoadR} {k : Nat} {x : LoadR} (hk : k < ls.length) (hx : ls[k] = x) (h1 : ldOk span x.at_ x.wt = true) (h2 : (h : 0 < k) → ¬ x.at_ < (ls[k - 1]'(by omega)).at_) : ¬ badL span ls k := by
  rintro ⟨h, a | ⟨h0, a⟩⟩
  · rw [hx, h1] at a; cases a
  · rw [hx] at a; exact h2 h0 a
theorem badL_v {span : Int} {ls : List LoadR} {k : Nat} {x : LoadR} (hk : k < ls.length) (hx : ls[k] = x) (h1 : ldOk span x.at_ x.wt = false) : badL span ls k := ⟨hk, .inl (by rw [hx]; exact h1)⟩
theorem badL_n {span : Int} {ls : List LoadR} {k : Nat} {x : LoadR} (hk : k < ls.length) (h0 : 0 < k) (hx : ls[k] = x) (h1 : x.at_ < (ls[k - 1]'(by omega)).at_) : badL span ls k := ⟨hk, .inr ⟨h0, by rw [hx]; exact h1⟩⟩
theorem badL_step {span : Int} {ls : List LoadR} {k : Nat} (h : Hid (∀ j, j < k → ¬ badL span ls j)) (hk : ¬ badL span ls k) : Hid (∀ j, j < k + 1 → ¬ badL span ls j) := fun j hj => by
  by_cases e : j = k
  · subst e; exact hk
  · exact h.out j (by omega)

theorem implisLoad (nm : ByteArray) (span wd dp wood : Int) (A : Option Addr) (n c : Nat) (a t : Int) (w : World) : Calls Tryz.prog 33 #[.agg #[.string nm, .int .i64 span, .int .i64 wd, .int .i64 dp, .int .i64 wood, .slice A n c], .agg #[.int .i64 a, .int .i64 t]] w fun e w' =>
    e = .returned (.bool (ldOk span a t)) ∧ Below w.heap.size w w' := by
  have e : Hid (ldOk span a t = (inB a 0 span && inB t 1 200000)) := hide rfl
  cases h1 : inB a 0 span <;> cases h2 : inB t 1 200000
  all_goals
    go_enter Tryz.func33, Tryz.ntmps33
    go_wp2_with (go_at_call 22; refine (implwithin_any _ _ _ _).mono ?_; rintro e w' ⟨rfl, rfl⟩)
    go_ret
    exact ⟨ret_bool (by rw [e.out, h1, h2]; rfl), (by repeat (first | with_reducible exact Below.refl _ _ | with_reducible assumption | (with_reducible refine Below.drew ?_) | (with_reducible refine below_drewN ?_ _) | ((with_reducible refine Below.alloc ?_ ?_ _); rotate_left; (focus (first | omega | (simp; omega) | simp))) | ((with_reducible refine Below.setCell ?_ ?_ _); rotate_left; (focus (first | omega | (simp; omega) | simp))) | (refine Below.trans ?_ (Below.mono (by assumption) (by first | omega | (simp; omega) | simp)))))⟩
theorem specl21Load (bl b o : Nat) (span a t : Int) (w : World) (g1 : w.cell? ⟨bl, 1, none⟩ = some (.int .i64 span)) (c0 : w.cell? ⟨b, o, none⟩ = some (.int .i64 a)) (c1 : w.cell? ⟨b, o + 1, none⟩ = some (.int .i64 t)) :
    Calls Tryz.prog 61 #[.pointer (some ⟨bl, 0, none⟩), .pointer (some ⟨b, o, none⟩)] w fun e w' => e = .returned (.bool (ldOk span a t)) ∧ ∃ n, w.drewN n = w' := by
  have e : Hid (ldOk span a t = (inB a 0 span && inB t 1 200000)) := hide rfl
  cases h1 : inB a 0 span
  · go_enter Tryz.func61, Tryz.ntmps61
    go_wp2_with fail
    go_quiet ((go_at_call 60; exact Calls.quiet_of_same ((specl00In_is _ _ _ _ (by assumption) _).mono fun _ _ hh => ⟨hh.1, hh.2.symm⟩)))
    go_wp2
    go_ret
    exact ⟨ret_bool (by rw [e.out, h1]; rfl), _, rfl⟩
  · cases h2 : inB t 1 200000
    all_goals
      go_enter Tryz.func61, Tryz.ntmps61
      go_wp2_with fail
      go_quiet ((go_at_call 60; exact Calls.quiet_of_same ((specl00In_is _ _ _ _ (by assumption) _).mono fun _ _ hh => ⟨hh.1, hh.2.symm⟩)))
      go_wp2
      go_ret
      exact ⟨ret_bool (by rw [e.out, h1, h2]; rfl), _, rfl⟩
set_option maxRecDepth 100000 in
theorem implValidBeam (nm : ByteArray) (span wd dp wood : Int) (A : Option Addr) (c : Nat) (ls : List LoadR) (w : World) (h : SlAt encLoad 2 w A ls) (hn : ls.length ≤ 1048576) (hs : nm.size ≤ maxLen) :
    Calls Tryz.prog 19 #[.agg #[.string nm, .int .i64 span, .int .i64 wd, .int .i64 dp, .int .i64 wood, .slice A ls.length c]] w fun e w' => e = .returned (.bool (vBeam nm span wd dp wood ls)) ∧ Below w.heap.size w w' := by
  have HX := hide h
  clear h
  go_enter Tryz.func19, Tryz.ntmps19
  go_wp2_with fail
  go_loopw [8, 3, 4] (fun v _ _ wr => ∃ k : Nat, v = .int .i64 k ∧ k ≤ ls.length ∧ Below (w.heap.size + 1) (w.alloc (.cells #[.string nm, .int .i64 span, .int .i64 wd, .int .i64 dp, .int .i64 wood, .slice A ls.length c] 26)) wr ∧ Hid (∀ j, j < k → ¬ badL span ls j)) (fun v _ _ _ => ls.length - (intOf v).toNat)
  case atStart => exact ⟨0, rfl, by omega, Below.refl _ _, hide fun j hj => by omega⟩
  case round =>
    obtain ⟨k, rfl, hk, hb, hj⟩ := hrel
    have hS0 := ((HX.out.below ((Below.refl _ _).alloc (Nat.le_refl _) _)).below (by simpa using hb) : SlAt encLoad 2 wr A ls)
    have q0 := hb.cell (p := ⟨w.heap.size, 0, none⟩) (by simp)
    have q1 := hb.cell (p := ⟨w.heap.size, 1, none⟩) (by simp)
    have q2 := hb.cell (p := ⟨w.heap.size, 2, none⟩) (by simp)
    have q3 := hb.cell (p := ⟨w.heap.size, 3, none⟩) (by simp)
    have q4 := hb.cell (p := ⟨w.heap.size, 4, none⟩) (by simp)
    have q5 := hb.cell (p := ⟨w.heap.size, 5, none⟩) (by simp)
    simp at q0 q1 q2 q3 q4 q5
    have hz := hb.size
    simp at hz
    have hz2 : w.heap.size < wr.heap.size := by omega
    have hz3 : w.heap.size < wr.heap.size + 1 := by omega
    have hz4 : w.heap.size ≤ wr.heap.size := by omega
    have hbw : Below w.heap.size w wr := ((Below.refl _ _).alloc (Nat.le_refl _) _).trans (hb.mono (by omega))
    have HBW := hide hb
    clear hb
    by_cases hlt : k < ls.length
    · obtain ⟨b, off, rfl, hbl, hc⟩ := hS0 k hlt
      have hc0 := hc 0 _ rfl
      have hc1 := hc 1 _ rfl
      simp only [Nat.add_zero] at hc0
      have hP : ∀ h : 0 < k, wr.cell? ⟨b, off + (k - 1) * 2, none⟩ = some (.int .i64 (ls[k - 1]'(by omega)).at_) := fun h => by
        obtain ⟨b2, off2, e2, _, hc2⟩ := hS0 (k - 1) (by omega)
        injection e2 with e2
        injection e2 with e3 e4
        subst e3; subst e4
        simpa using hc2 0 _ rfl
      have HP := hide hP
      clear hc hP hS0
      generalize hx : ls[k] = x at *
      obtain ⟨x0, x1⟩ := x
      simp only at hc0 hc1
      have Hx := hide hx
      clear hx
      cases hv : ldOk span x0 x1
      · have e : Hid (vBeam nm span wd dp wood ls = false) := vBeam_badL k (badL_v hlt Hx.out hv)
        go_wp2_with fail
        refine wp_region_kept (by kernel_rfl) (by kernel_rfl) ?_
        intro gc gf gz
        repeat (go_big_quiet_step ((go_at_call 33; exact Calls.kept (implisLoad nm span wd dp wood _ _ _ x0 x1 _))))
        refine wpQuiet_nil ?_
        intro w1 hw'
        obtain ⟨⟨_, hb1⟩, rfl⟩ := hw'
        clear gc gf gz
        try dsimp only
        have fs1 := hb1.size
        try simp at fs1 hb1
        go_wp2_with fail
        go_ret
        exact ⟨ret_bool e.out.symm, (by repeat (first | with_reducible exact Below.refl _ _ | with_reducible assumption | (with_reducible refine Below.drew ?_) | (with_reducible refine below_drewN ?_ _) | ((with_reducible refine Below.alloc ?_ ?_ _); rotate_left; (focus (first | omega | (simp; omega) | simp))) | ((with_reducible refine Below.setCell ?_ ?_ _); rotate_left; (focus (first | omega | (simp; omega) | simp))) | (refine Below.trans ?_ (Below.mono (by assumption) (by first | omega | (simp; omega) | simp)))))⟩
      · by_cases h0 : k = 0
        · have hj2 := badL_step hj (badL_not hlt Hx.out hv (fun h => by omega))
          have d0 : decide (0 < k) = false := by simp; omega
          clear h0
          go_wp2_with fail
          refine wp_region_kept (by kernel_rfl) (by kernel_rfl) ?_
          intro gc gf gz
          repeat (go_big_quiet_step ((go_at_call 33; exact Calls.kept (implisLoad nm span wd dp wood _ _ _ x0 x1 _))))
          refine wpQuiet_nil ?_
          intro w1 hw'
          obtain ⟨⟨_, hb1⟩, rfl⟩ := hw'
          clear gc gf gz
          try dsimp only
          have fs1 := hb1.size
          try simp at fs1 hb1
          go_wp2_with fail
          go_roundw
          case rel => exact ⟨k + 1, by go_num, by omega, HBW.out.trans (Below.trans ((Below.refl _ _).alloc hz _) (hb1.mono (by omega))), hj2⟩
          case measure => simp [intOf]; omega
        · have h1 : 0 < k := by omega
          have d0 : decide (0 < k) = true := by simp; omega
          have hp0 := HP.out h1
          generalize hp : (ls[k - 1]'(by omega)).at_ = p at hp0
          have Hp := hide hp
          clear hp h0
          by_cases hc : x0 < p
          · have e : Hid (vBeam nm span wd dp wood ls = false) := vBeam_badL k (badL_n hlt h1 Hx.out (by rw [Hp.out]; exact hc))
            have t1 : decide (x0 < p) = true := by simpa using hc
            go_wp2_with fail
            refine wp_region_kept (by kernel_rfl) (by kernel_rfl) ?_
            intro gc gf gz
            repeat (go_big_quiet_step ((go_at_call 33; exact Calls.kept (implisLoad nm span wd dp wood _ _ _ x0 x1 _))))
            refine wpQuiet_nil ?_
            intro w1 hw'
            obtain ⟨⟨_, hb1⟩, rfl⟩ := hw'
            clear gc gf gz
            try dsimp only
            have fs1 := hb1.size
            try simp at fs1 hb1
            go_wp2_with fail
            go_ret
            exact ⟨ret_bool e.out.symm, (by repeat (first | with_reducible exact Below.refl _ _ | with_reducible assumption | (with_reducible refine Below.drew ?_) | (with_reducible refine below_drewN ?_ _) | ((with_reducible refine Below.alloc ?_ ?_ _); rotate_left; (focus (first | omega | (simp; omega) | simp))) | ((with_reducible refine Below.setCell ?_ ?_ _); rotate_left; (focus (first | omega | (simp; omega) | simp))) | (refine Below.trans ?_ (Below.mono (by assumption) (by first | omega | (simp; omega) | simp)))))⟩
          · have hj2 := badL_step hj (badL_not hlt Hx.out hv (fun h => by rw [Hp.out]; exact hc))
            have t1 : decide (x0 < p) = false := by simpa using hc
            go_wp2_with fail
            refine wp_region_kept (by kernel_rfl) (by kernel_rfl) ?_
            intro gc gf gz
            repeat (go_big_quiet_step ((go_at_call 33; exact Calls.kept (implisLoad nm span wd dp wood _ _ _ x0 x1 _))))
            refine wpQuiet_nil ?_
            intro w1 hw'
            obtain ⟨⟨_, hb1⟩, rfl⟩ := hw'
            clear gc gf gz
            try dsimp only
            have fs1 := hb1.size
            try simp at fs1 hb1
            go_wp2_with fail
            go_roundw
            case rel => exact ⟨k + 1, by go_num, by omega, HBW.out.trans (Below.trans ((Below.refl _ _).alloc hz _) (hb1.mono (by omega))), hj2⟩
            case measure => simp [intOf]; omega
    · have HJ : Hid (∀ k, k < ls.length → ¬ badL span ls k) := hide fun j h => hj.out j (by omega)
      clear hS0 hj
      cases h0 : nameB nm.data.toList
      · have e : Hid (vBeam nm span wd dp wood ls = false) := vBeam_badB (by unfold bmB; simp [h0])
        go_wp2_with (first
          | (go_at_call 22; refine (implwithin_any _ _ _ _).mono ?_; rintro e w2 ⟨rfl, rfl⟩)
          | (go_at_call 43; refine (implisSide_any _ _).mono ?_; rintro e w2 ⟨rfl, rfl⟩)
          | (go_at_call 42; refine (IsName_any _ _ hs).mono ?_; rintro e w1 ⟨rfl, hb1⟩; obtain ⟨fcb1, ffb1, fzb1⟩ := bfacts hb1 (by first | exact Nat.le_refl _ | omega | (simp; omega) | simp); have fsb1 := hb1.size; try simp at fcb1 ffb1 fzb1 fsb1 hb1))
        go_ret
        exact ⟨ret_bool e.out.symm, (by repeat (first | with_reducible exact Below.refl _ _ | with_reducible assumption | (with_reducible refine Below.drew ?_) | (with_reducible refine below_drewN ?_ _) | ((with_reducible refine Below.alloc ?_ ?_ _); rotate_left; (focus (first | omega | (simp; omega) | simp))) | ((with_reducible refine Below.setCell ?_ ?_ _); rotate_left; (focus (first | omega | (simp; omega) | simp))) | (refine Below.trans ?_ (Below.mono (by assumption) (by first | omega | (simp; omega) | simp)))))⟩
      · cases h1 : inB span 1 6000
        · have e : Hid (vBeam nm span wd dp wood ls = false) := vBeam_badB (by unfold bmB; simp [h1])
          go_wp2_with (first
            | (go_at_call 22; refine (implwithin_any _ _ _ _).mono ?_; rintro e w2 ⟨rfl, rfl⟩)
            | (go_at_call 43; refine (implisSide_any _ _).mono ?_; rintro e w2 ⟨rfl, rfl⟩)
            | (go_at_call 42; refine (IsName_any _ _ hs).mono ?_; rintro e w1 ⟨rfl, hb1⟩; obtain ⟨fcb1, ffb1, fzb1⟩ := bfacts hb1 (by first | exact Nat.le_refl _ | omega | (simp; omega) | simp); have fsb1 := hb1.size; try simp at fcb1 ffb1 fzb1 fsb1 hb1))
          go_ret
          exact ⟨ret_bool e.out.symm, (by repeat (first | with_reducible exact Below.refl _ _ | with_reducible assumption | (with_reducible refine Below.drew ?_) | (with_reducible refine below_drewN ?_ _) | ((with_reducible refine Below.alloc ?_ ?_ _); rotate_left; (focus (first | omega | (simp; omega) | simp))) | ((with_reducible refine Below.setCell ?_ ?_ _); rotate_left; (focus (first | omega | (simp; omega) | simp))) | (refine Below.trans ?_ (Below.mono (by assumption) (by first | omega | (simp; omega) | simp)))))⟩
        · cases h2 : inB wd 20 1000
          · have e : Hid (vBeam nm span wd dp wood ls = false) := vBeam_badB (by unfold bmB; simp [h2])
            go_wp2_with (first
              | (go_at_call 22; refine (implwithin_any _ _ _ _).mono ?_; rintro e w2 ⟨rfl, rfl⟩)
              | (go_at_call 43; refine (implisSide_any _ _).mono ?_; rintro e w2 ⟨rfl, rfl⟩)
              | (go_at_call 42; refine (IsName_any _ _ hs).mono ?_; rintro e w1 ⟨rfl, hb1⟩; obtain ⟨fcb1, ffb1, fzb1⟩ := bfacts hb1 (by first | exact Nat.le_refl _ | omega | (simp; omega) | simp); have fsb1 := hb1.size; try simp at fcb1 ffb1 fzb1 fsb1 hb1))
            go_ret
            exact ⟨ret_bool e.out.symm, (by repeat (first | with_reducible exact Below.refl _ _ | with_reducible assumption | (with_reducible refine Below.drew ?_) | (with_reducible refine below_drewN ?_ _) | ((with_reducible refine Below.alloc ?_ ?_ _); rotate_left; (focus (first | omega | (simp; omega) | simp))) | ((with_reducible refine Below.setCell ?_ ?_ _); rotate_left; (focus (first | omega | (simp; omega) | simp))) | (refine Below.trans ?_ (Below.mono (by assumption) (by first | omega | (simp; omega) | simp)))))⟩
          · cases h3 : inB dp 20 1000
            · have e : Hid (vBeam nm span wd dp wood ls = false) := vBeam_badB (by unfold bmB; simp [h3])
              go_wp2_with (first
                | (go_at_call 22; refine (implwithin_any _ _ _ _).mono ?_; rintro e w2 ⟨rfl, rfl⟩)
                | (go_at_call 43; refine (implisSide_any _ _).mono ?_; rintro e w2 ⟨rfl, rfl⟩)
                | (go_at_call 42; refine (IsName_any _ _ hs).mono ?_; rintro e w1 ⟨rfl, hb1⟩; obtain ⟨fcb1, ffb1, fzb1⟩ := bfacts hb1 (by first | exact Nat.le_refl _ | omega | (simp; omega) | simp); have fsb1 := hb1.size; try simp at fcb1 ffb1 fzb1 fsb1 hb1))
              go_ret
              exact ⟨ret_bool e.out.symm, (by repeat (first | with_reducible exact Below.refl _ _ | with_reducible assumption | (with_reducible refine Below.drew ?_) | (with_reducible refine below_drewN ?_ _) | ((with_reducible refine Below.alloc ?_ ?_ _); rotate_left; (focus (first | omega | (simp; omega) | simp))) | ((with_reducible refine Below.setCell ?_ ?_ _); rotate_left; (focus (first | omega | (simp; omega) | simp))) | (refine Below.trans ?_ (Below.mono (by assumption) (by first | omega | (simp; omega) | simp)))))⟩
            · cases h4 : inB wood 1000 20000
              · have e : Hid (vBeam nm span wd dp wood ls = false) := vBeam_badB (by unfold bmB; simp [h4])
                go_wp2_with (first
                  | (go_at_call 22; refine (implwithin_any _ _ _ _).mono ?_; rintro e w2 ⟨rfl, rfl⟩)
                  | (go_at_call 43; refine (implisSide_any _ _).mono ?_; rintro e w2 ⟨rfl, rfl⟩)
                  | (go_at_call 42; refine (IsName_any _ _ hs).mono ?_; rintro e w1 ⟨rfl, hb1⟩; obtain ⟨fcb1, ffb1, fzb1⟩ := bfacts hb1 (by first | exact Nat.le_refl _ | omega | (simp; omega) | simp); have fsb1 := hb1.size; try simp at fcb1 ffb1 fzb1 fsb1 hb1))
                go_ret
                exact ⟨ret_bool e.out.symm, (by repeat (first | with_reducible exact Below.refl _ _ | with_reducible assumption | (with_reducible refine Below.drew ?_) | (with_reducible refine below_drewN ?_ _) | ((with_reducible refine Below.alloc ?_ ?_ _); rotate_left; (focus (first | omega | (simp; omega) | simp))) | ((with_reducible refine Below.setCell ?_ ?_ _); rotate_left; (focus (first | omega | (simp; omega) | simp))) | (refine Below.trans ?_ (Below.mono (by assumption) (by first | omega | (simp; omega) | simp)))))⟩
              · have e : Hid (vBeam nm span wd dp wood ls = decide ((ls.length : Int) ≤ 8)) := vBeam_fin (by unfold bmB; simp [h0, h1, h2, h3, h4]) HJ.out
                go_wp2_with (first
                  | (go_at_call 22; refine (implwithin_any _ _ _ _).mono ?_; rintro e w2 ⟨rfl, rfl⟩)
                  | (go_at_call 43; refine (implisSide_any _ _).mono ?_; rintro e w2 ⟨rfl, rfl⟩)
                  | (go_at_call 42; refine (IsName_any _ _ hs).mono ?_; rintro e w1 ⟨rfl, hb1⟩; obtain ⟨fcb1, ffb1, fzb1⟩ := bfacts hb1 (by first | exact Nat.le_refl _ | omega | (simp; omega) | simp); have fsb1 := hb1.size; try simp at fcb1 ffb1 fzb1 fsb1 hb1))
                go_ret
                exact ⟨ret_bool e.out.symm, (by repeat (first | with_reducible exact Below.refl _ _ | with_reducible assumption | (with_reducible refine Below.drew ?_) | (with_reducible refine below_drewN ?_ _) | ((with_reducible refine Below.alloc ?_ ?_ _); rotate_left; (focus (first | omega | (simp; omega) | simp))) | ((with_reducible refine Below.setCell ?_ ?_ _); rotate_left; (focus (first | omega | (simp; omega) | simp))) | (refine Below.trans ?_ (Below.mono (by assumption) (by first | omega | (simp; omega) | simp)))))⟩
set_option maxRecDepth 100000 in
theorem specl21Ok (nm : ByteArray) (span wd dp wood : Int) (A : Option Addr) (c : Nat) (ls : List LoadR) (bl : Nat) (w : World) (h : SlAt encLoad 2 w A ls) (hn : ls.length ≤ 1048576) (hs : nm.size ≤ maxLen)
    (g0 : w.cell? ⟨bl, 0, none⟩ = some (.string nm)) (g1 : w.cell? ⟨bl, 1, none⟩ = some (.int .i64 span)) (g2 : w.cell? ⟨bl, 2, none⟩ = some (.int .i64 wd)) (g3 : w.cell? ⟨bl, 3, none⟩ = some (.int .i64 dp)) (g4 : w.cell? ⟨bl, 4, none⟩ = some (.int .i64 wood)) (g5 : w.cell? ⟨bl, 5, none⟩ = some (.slice A ls.length c)) :
    Calls Tryz.prog 38 #[.pointer (some ⟨bl, 0, none⟩)] w fun e w' => e = .returned (.bool (vBeam nm span wd dp wood ls)) ∧ Below w.heap.size w w' := by
  have hbl : bl < w.heap.size := World.block_lt_of_cell? w _ g0
  have HX := hide h
  clear h
  cases h0 : nameB nm.data.toList
  · have e : Hid (vBeam nm span wd dp wood ls = false) := vBeam_badB (by unfold bmB; simp [h0])
    go_enter Tryz.func38, Tryz.ntmps38
    go_wp2_with (first
      | (go_at_call 60; refine (specl00In_any _ _ _ _).mono ?_; rintro e w2 ⟨rfl, rfl⟩)
      | (go_at_call 59; refine (l01Name_any _ _ hs).mono ?_; rintro e w2 ⟨rfl, rfl⟩))
    go_ret
    exact ⟨ret_bool e.out.symm, Below.refl _ _⟩
  · cases h1 : inB span 1 6000
    · have e : Hid (vBeam nm span wd dp wood ls = false) := vBeam_badB (by unfold bmB; simp [h1])
      go_enter Tryz.func38, Tryz.ntmps38
      go_wp2_with (first
        | (go_at_call 60; refine (specl00In_any _ _ _ _).mono ?_; rintro e w2 ⟨rfl, rfl⟩)
        | (go_at_call 59; refine (l01Name_any _ _ hs).mono ?_; rintro e w2 ⟨rfl, rfl⟩))
      go_ret
      exact ⟨ret_bool e.out.symm, Below.refl _ _⟩
    · cases h2 : inB wd 20 1000
      · have e : Hid (vBeam nm span wd dp wood ls = false) := vBeam_badB (by unfold bmB; simp [h2])
        go_enter Tryz.func38, Tryz.ntmps38
        go_wp2_with (first
          | (go_at_call 60; refine (specl00In_any _ _ _ _).mono ?_; rintro e w2 ⟨rfl, rfl⟩)
          | (go_at_call 59; refine (l01Name_any _ _ hs).mono ?_; rintro e w2 ⟨rfl, rfl⟩))
        go_ret
        exact ⟨ret_bool e.out.symm, Below.refl _ _⟩
      · cases h3 : inB dp 20 1000
        · have e : Hid (vBeam nm span wd dp wood ls = false) := vBeam_badB (by unfold bmB; simp [h3])
          go_enter Tryz.func38, Tryz.ntmps38
          go_wp2_with (first
            | (go_at_call 60; refine (specl00In_any _ _ _ _).mono ?_; rintro e w2 ⟨rfl, rfl⟩)
            | (go_at_call 59; refine (l01Name_any _ _ hs).mono ?_; rintro e w2 ⟨rfl, rfl⟩))
          go_ret
          exact ⟨ret_bool e.out.symm, Below.refl _ _⟩
        · cases h4 : inB wood 1000 20000
          · have e : Hid (vBeam nm span wd dp wood ls = false) := vBeam_badB (by unfold bmB; simp [h4])
            go_enter Tryz.func38, Tryz.ntmps38
            go_wp2_with (first
              | (go_at_call 60; refine (specl00In_any _ _ _ _).mono ?_; rintro e w2 ⟨rfl, rfl⟩)
              | (go_at_call 59; refine (l01Name_any _ _ hs).mono ?_; rintro e w2 ⟨rfl, rfl⟩))
            go_ret
            exact ⟨ret_bool e.out.symm, Below.refl _ _⟩
          · have HB := hide (show bmB nm span wd dp wood = true by unfold bmB; simp [h0, h1, h2, h3, h4])
            go_enter Tryz.func38, Tryz.ntmps38
            go_wp2_with (first
              | (go_at_call 60; refine (specl00In_any _ _ _ _).mono ?_; rintro e w2 ⟨rfl, rfl⟩)
              | (go_at_call 59; refine (l01Name_any _ _ hs).mono ?_; rintro e w2 ⟨rfl, rfl⟩))
            clear h0 h1 h2 h3 h4
            go_loopw [3] (fun v wr => ∃ k : Nat, v = .int .i64 k ∧ k ≤ ls.length ∧ Below w.heap.size w wr ∧ Hid (∀ j, j < k → ¬ badL span ls j)) (fun v _ => ls.length - (intOf v).toNat)
            case atStart => exact ⟨0, rfl, by omega, Below.refl _ _, hide fun j hj => by omega⟩
            case round =>
              obtain ⟨k, rfl, hk, hb, hj⟩ := hrel
              have q0 := (hb.cell (p := ⟨bl, 0, none⟩) hbl).trans g0
              have q1 := (hb.cell (p := ⟨bl, 1, none⟩) hbl).trans g1
              have q5 := (hb.cell (p := ⟨bl, 5, none⟩) hbl).trans g5
              have hS0 := HX.out.below hb
              have hz := hb.size
              have hbl2 : bl < wr.heap.size := by omega
              have HBW := hide hb
              clear hb
              by_cases hlt : k < ls.length
              · obtain ⟨b, off, rfl, hbl, hc⟩ := hS0 k hlt
                have hc0 := hc 0 _ rfl
                have hc1 := hc 1 _ rfl
                simp only [Nat.add_zero] at hc0
                have hP : ∀ h : 0 < k, wr.cell? ⟨b, off + (k - 1) * 2, none⟩ = some (.int .i64 (ls[k - 1]'(by omega)).at_) := fun h => by
                  obtain ⟨b2, off2, e2, _, hc2⟩ := hS0 (k - 1) (by omega)
                  injection e2 with e2
                  injection e2 with e3 e4
                  subst e3; subst e4
                  simpa using hc2 0 _ rfl
                have HP := hide hP
                clear hc hP hS0 g0 g1 g2 g3 g4 g5
                generalize hx : ls[k] = x at *
                obtain ⟨x0, x1⟩ := x
                simp only at hc0 hc1
                have Hx := hide hx
                clear hx
                cases hv : ldOk span x0 x1
                · have e : Hid (vBeam nm span wd dp wood ls = false) := vBeam_badL k (badL_v hlt Hx.out hv)
                  go_wp2_with fail
                  refine wp_region_kept (by kernel_rfl) (by kernel_rfl) ?_
                  intro gc gf gz
                  repeat (go_big_quiet_step ((go_at_call 61; exact Calls.kept_drew (specl21Load bl b (off + k * 2) span x0 x1 _ (by go_simp) (by go_simp) (by go_simp)))))
                  refine wpQuiet_nil ?_
                  intro w1 hw'
                  obtain ⟨⟨_, hb1⟩, rfl⟩ := hw'
                  clear gc gf gz
                  try dsimp only
                  have fs1 := hb1.size
                  try simp at fs1 hb1
                  go_wp2_with fail
                  go_ret
                  exact ⟨ret_bool e.out.symm, HBW.out.trans (hb1.mono hz)⟩
                · by_cases h0 : k = 0
                  · have hj2 := badL_step hj (badL_not hlt Hx.out hv (fun h => by omega))
                    have d0 : decide (0 < k) = false := by simp; omega
                    clear h0
                    go_wp2_with fail
                    refine wp_region_kept (by kernel_rfl) (by kernel_rfl) ?_
                    intro gc gf gz
                    repeat (go_big_quiet_step ((go_at_call 61; exact Calls.kept_drew (specl21Load bl b (off + k * 2) span x0 x1 _ (by go_simp) (by go_simp) (by go_simp)))))
                    refine wpQuiet_nil ?_
                    intro w1 hw'
                    obtain ⟨⟨_, hb1⟩, rfl⟩ := hw'
                    clear gc gf gz
                    try dsimp only
                    have fs1 := hb1.size
                    try simp at fs1 hb1
                    go_wp2_with fail
                    go_roundw
                    case rel => exact ⟨k + 1, by go_num, by omega, HBW.out.trans (hb1.mono hz), hj2⟩
                    case measure => simp [intOf]; omega
                  · have h1 : 0 < k := by omega
                    have d0 : decide (0 < k) = true := by simp; omega
                    have hp0 := HP.out h1
                    generalize hp : (ls[k - 1]'(by omega)).at_ = p at hp0
                    have Hp := hide hp
                    clear hp h0
                    by_cases hc : x0 < p
                    · have e : Hid (vBeam nm span wd dp wood ls = false) := vBeam_badL k (badL_n hlt h1 Hx.out (by rw [Hp.out]; exact hc))
                      have t1 : decide (x0 < p) = true := by simpa using hc
                      go_wp2_with fail
                      refine wp_region_kept (by kernel_rfl) (by kernel_rfl) ?_
                      intro gc gf gz
                      repeat (go_big_quiet_step ((go_at_call 61; exact Calls.kept_drew (specl21Load bl b (off + k * 2) span x0 x1 _ (by go_simp) (by go_simp) (by go_simp)))))
                      refine wpQuiet_nil ?_
                      intro w1 hw'
                      obtain ⟨⟨_, hb1⟩, rfl⟩ := hw'
                      clear gc gf gz
                      try dsimp only
                      have fs1 := hb1.size
                      try simp at fs1 hb1
                      go_wp2_with fail
                      go_ret
                      exact ⟨ret_bool e.out.symm, HBW.out.trans (hb1.mono hz)⟩
                    · have hj2 := badL_step hj (badL_not hlt Hx.out hv (fun h => by rw [Hp.out]; exact hc))
                      have t1 : decide (x0 < p) = false := by simpa using hc
                      go_wp2_with fail
                      refine wp_region_kept (by kernel_rfl) (by kernel_rfl) ?_
                      intro gc gf gz
                      repeat (go_big_quiet_step ((go_at_call 61; exact Calls.kept_drew (specl21Load bl b (off + k * 2) span x0 x1 _ (by go_simp) (by go_simp) (by go_simp)))))
                      refine wpQuiet_nil ?_
                      intro w1 hw'
                      obtain ⟨⟨_, hb1⟩, rfl⟩ := hw'
                      clear gc gf gz
                      try dsimp only
                      have fs1 := hb1.size
                      try simp at fs1 hb1
                      go_wp2_with fail
                      go_roundw
                      case rel => exact ⟨k + 1, by go_num, by omega, HBW.out.trans (hb1.mono hz), hj2⟩
                      case measure => simp [intOf]; omega
              · have e : Hid (vBeam nm span wd dp wood ls = decide ((ls.length : Int) ≤ 8)) := vBeam_fin HB.out fun j h => hj.out j (by omega)
                clear hS0 hj
                go_wp2_with fail
                go_ret
                exact ⟨ret_bool e.out.symm, HBW.out⟩
theorem specValidBeam (nm : ByteArray) (span wd dp wood : Int) (A : Option Addr) (c : Nat) (ls : List LoadR) (w : World) (h : SlAt encLoad 2 w A ls) (hn : ls.length ≤ 1048576) (hs : nm.size ≤ maxLen) :
    Calls Tryz.prog 16 #[.agg #[.string nm, .int .i64 span, .int .i64 wd, .int .i64 dp, .int .i64 wood, .slice A ls.length c]] w fun e w' => e = .returned (.bool (vBeam nm span wd dp wood ls)) ∧ Below w.heap.size w w' := by
  have HX := hide (h.below ((Below.refl _ _).alloc (Nat.le_refl _) (.cells #[.string nm, .int .i64 span, .int .i64 wd, .int .i64 dp, .int .i64 wood, .slice A ls.length c] 26)))
  clear h
  go_enter Tryz.func16, Tryz.ntmps16
  go_wp2_with fail
  refine (specl21Ok nm span wd dp wood A c ls _ _ HX.out hn hs (by simp) (by simp) (by simp) (by simp) (by simp) (by simp)).mono ?_
  rintro e w1 ⟨rfl, hb1⟩
  obtain ⟨fcb1, ffb1, fzb1⟩ := bfacts hb1 (by first | exact Nat.le_refl _ | omega | (simp; omega) | simp); have fsb1 := hb1.size; try simp at fcb1 ffb1 fzb1 fsb1 hb1
  go_wp2_with fail
  go_ret
  exact ⟨rfl, (by repeat (first | with_reducible exact Below.refl _ _ | with_reducible assumption | (with_reducible refine Below.drew ?_) | (with_reducible refine below_drewN ?_ _) | ((with_reducible refine Below.alloc ?_ ?_ _); rotate_left; (focus (first | omega | (simp; omega) | simp))) | ((with_reducible refine Below.setCell ?_ ?_ _); rotate_left; (focus (first | omega | (simp; omega) | simp))) | (refine Below.trans ?_ (Below.mono (by assumption) (by first | omega | (simp; omega) | simp)))))⟩
end Go.Proofs.YtajodbhbmfjmjaaGreatDoor
