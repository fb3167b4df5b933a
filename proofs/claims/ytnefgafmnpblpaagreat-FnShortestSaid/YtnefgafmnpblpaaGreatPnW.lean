/- Contracts: whether zones, models and goals are valid, on both sides; the codes of a search's arguments. -/
import Derived.Test.YtnefgafmnpblpaaGreatPnM
namespace Go.Proofs.YtnefgafmnpblpaaGreat
open Go.RowKit Pn

theorem zones_rises {zs : List Int} {n : Int} (h1 : 1 ≤ zs.length) (h8 : zs.length ≤ 8) (h0 : ig zs 0 = 0) : ZonesOK zs n ↔ Rises zs 0 (n - 1) := by
  constructor
  · intro h
    exact ⟨fun k hk => ⟨h.nonneg hk, by have := h.top k hk; omega⟩, h.rise⟩
  · intro h
    exact ⟨h1, h8, h0, h.2, fun k hk => by have := (h.1 k hk).2; omega⟩
theorem zones_dc {zs : List Int} {n : Int} (h1 : 1 ≤ zs.length) (h8 : zs.length ≤ 8) (h0 : ig zs 0 = 0) : dc (ZonesOK zs n) = dc (Rises zs 0 (n - 1)) := by
  rw [show ZonesOK zs n = Rises zs 0 (n - 1) from propext (zones_rises h1 h8 h0)]
theorem SlAt.first {w : World} {A : Option Addr} {xs : List Int} (h : SlAt encI 1 w A xs) (h0 : 0 < xs.length) : ∃ b o, A = some ⟨b, o, none⟩ ∧ w.cell? ⟨b, o, none⟩ = some (.int .i64 (ig xs 0)) := by
  obtain ⟨b, o, e, _, hc⟩ := h.getA h0
  exact ⟨b, o, e, by simpa using hc 0 h0⟩
theorem implsizeint64_is (A : Option Addr) (n c : Nat) (w : World) : Calls Tryz.prog 123 #[.slice A n c] w fun e w' => e = .returned (.int .i64 n) ∧ w = w' := by
  go_enter Tryz.func123, Tryz.ntmps123
  go_wp2
  go_ret
  exact ⟨rfl, rfl⟩
theorem implsizeimplRing_is (A : Option Addr) (n c : Nat) (w : World) : Calls Tryz.prog 162 #[.slice A n c] w fun e w' => e = .returned (.int .i64 n) ∧ w = w' := by
  go_enter Tryz.func162, Tryz.ntmps162
  go_wp2
  go_ret
  exact ⟨rfl, rfl⟩
set_option maxRecDepth 100000 in
theorem specl08Zones (A : Option Addr) (c : Nat) (zs : List Int) (w : World) (h : SlAt encI 1 w A zs) (hn : zs.length ≤ 1048576) :
    Calls Tryz.prog 191 #[.slice A zs.length c] w fun e w' => e = .returned (.bool (dc (ZonesOK zs 32))) ∧ Below w.heap.size w w' := by
  have HX := hide h
  clear h
  by_cases h1 : 1 ≤ zs.length
  · by_cases h8 : zs.length ≤ 8
    · obtain ⟨b, o, rfl, hc0⟩ := HX.out.first (by omega)
      by_cases h0 : ig zs 0 = 0
      · have E := hide (zones_dc (n := 32) h1 h8 h0)
        rw [h0] at hc0
        clear h0
        go_enter Tryz.func191, Tryz.ntmps191
        go_wp2_with fail
        refine (l00Rises_is _ c zs 0 31 w HX.out hn).mono ?_
        rintro e w1 ⟨rfl, hb1⟩
        go_wp2_with fail
        go_ret
        exact ⟨ret_bool E.out.symm, hb1⟩
      · have E := hide (dc_false (p := ZonesOK zs 32) fun q => h0 q.z0)
        have h2 : (ig zs 0 == 0) = false := by simpa using h0
        clear h0
        generalize ig zs 0 = z at *
        go_enter Tryz.func191, Tryz.ntmps191
        go_wp2_with fail
        go_ret
        exact ⟨ret_bool E.out.symm, Below.refl _ _⟩
    · have E := hide (dc_false (p := ZonesOK zs 32) fun q => h8 q.len8)
      go_enter Tryz.func191, Tryz.ntmps191
      go_wp2_with fail
      go_ret
      exact ⟨ret_bool E.out.symm, Below.refl _ _⟩
  · have E := hide (dc_false (p := ZonesOK zs 32) fun q => h1 q.len1)
    go_enter Tryz.func191, Tryz.ntmps191
    go_wp2_with fail
    go_ret
    exact ⟨ret_bool E.out.symm, Below.refl _ _⟩
/-- Whether zones are zones of a profile. -/
noncomputable def pzB (nm : ByteArray) (rs : List RingR) (zs : List Int) : Bool := profB nm rs && dc (ZonesOK zs rs.length)
set_option maxRecDepth 100000 in
theorem specl09Zones (bp : Nat) (nm : ByteArray) (A : Option Addr) (c : Nat) (rs : List RingR) (Az : Option Addr) (cz : Nat) (zs : List Int) (w : World) (h : ProfAt w bp nm A c rs) (hn : rs.length ≤ 1048576) (hs : nm.size ≤ maxLen) (hz : SlAt encI 1 w Az zs) (hzn : zs.length ≤ 1048576) :
    Calls Tryz.prog 164 #[.pointer (some ⟨bp, 0, none⟩), .slice Az zs.length cz] w fun e w' => e = .returned (.bool (pzB nm rs zs)) ∧ Below w.heap.size w w' := by
  have HC := hide (specl05Ok bp nm A c rs w h hn hs)
  have HP := hide h
  have HZ := hide hz
  clear h hz
  go_enter Tryz.func164, Tryz.ntmps164
  go_wp2_with fail
  refine HC.out.mono ?_
  rintro e w1 ⟨rfl, hb1⟩
  have HP1 := hide (HP.out.below hb1)
  have HZ1 := hide (HZ.out.below hb1)
  have HB1 := hide hb1
  have c1 := HP1.out.c1
  clear hb1 HC HP HZ
  cases hp : profB nm rs
  · have E := hide (show pzB nm rs zs = false by unfold pzB; rw [hp]; rfl)
    go_wp2_with fail
    go_ret
    exact ⟨ret_bool E.out.symm, HB1.out⟩
  · have EP := hide (show pzB nm rs zs = dc (ZonesOK zs rs.length) by unfold pzB; rw [hp]; rfl)
    by_cases h1 : 1 ≤ zs.length
    · by_cases h8 : zs.length ≤ 8
      · obtain ⟨b, o, rfl, hc0⟩ := HZ1.out.first (by omega)
        by_cases h0 : ig zs 0 = 0
        · have E := hide (EP.out.trans (zones_dc (n := rs.length) h1 h8 h0))
          rw [h0] at hc0
          clear h0
          go_wp2_with fail
          refine (l00Rises_is _ cz zs 0 ((rs.length : Int) - 1) w1 HZ1.out hzn).mono ?_
          rintro e w2 ⟨rfl, hb2⟩
          have HB2 := hide (HB1.out.trans (hb2.mono HB1.out.size))
          clear hb2
          go_wp2_with fail
          go_ret
          exact ⟨ret_bool E.out.symm, HB2.out⟩
        · have E := hide (EP.out.trans (dc_false (p := ZonesOK zs rs.length) fun q => h0 q.z0))
          have h2 : (ig zs 0 == 0) = false := by simpa using h0
          clear h0
          generalize ig zs 0 = z at *
          go_wp2_with fail
          go_ret
          exact ⟨ret_bool E.out.symm, HB1.out⟩
      · have E := hide (EP.out.trans (dc_false (p := ZonesOK zs rs.length) fun q => h8 q.len8))
        go_wp2_with fail
        go_ret
        exact ⟨ret_bool E.out.symm, HB1.out⟩
    · have E := hide (EP.out.trans (dc_false (p := ZonesOK zs rs.length) fun q => h1 q.len1))
      go_wp2_with fail
      go_ret
      exact ⟨ret_bool E.out.symm, HB1.out⟩
set_option maxRecDepth 100000 in
theorem implareZones (A : Option Addr) (c : Nat) (zs : List Int) (n : Int) (w : World) (h : SlAt encI 1 w A zs) (hn : zs.length ≤ 1048576) :
    Calls Tryz.prog 167 #[.slice A zs.length c, .int .i64 n] w fun e w' => e = .returned (.bool (dc (ZonesOK zs n))) ∧ w = w' := by
  have HX := hide h
  clear h
  go_enter Tryz.func167, Tryz.ntmps167
  go_wp2_with fail
  go_loopw [9, 5, 6] (fun v _ _ wr => ∃ k : Nat, v = .int .i64 k ∧ k ≤ zs.length ∧ Hid ((∀ j, j < k → ig zs j < n) ∧ ∀ j, j + 1 < k → ig zs j < ig zs (j + 1)) ∧ w = wr) (fun v _ _ _ => zs.length - (intOf v).toNat)
  case atStart => exact ⟨0, rfl, by omega, hide ⟨fun j hj => by omega, fun j hj => by omega⟩, rfl⟩
  case round =>
    obtain ⟨k, rfl, hk, HJ, rfl⟩ := hrel
    by_cases hlt : k < zs.length
    · obtain ⟨b, o, rfl, hb, hc⟩ := HX.out.getA (by omega)
      have hck := hc k hlt
      have hcp : 0 < k → w.cell? ⟨b, o + (k - 1), none⟩ = some (.int .i64 (ig zs (k - 1))) := fun _ => hc (k - 1) (by omega)
      have HS := hide (fun (h : ig zs k < n) (h2 : k = 0 ∨ ig zs (k - 1) < ig zs k) => show (∀ j, j < k + 1 → ig zs j < n) ∧ ∀ j, j + 1 < k + 1 → ig zs j < ig zs (j + 1) from by
        refine ⟨fun j hj => ?_, fun j hj => ?_⟩
        · by_cases e : j = k
          · subst e; exact h
          · exact HJ.out.1 j (by omega)
        · by_cases e : j + 1 = k
          · subst e
            rcases h2 with h2 | h2
            · omega
            · simpa using h2
          · exact HJ.out.2 j (by omega))
      have HE := hide (fun h : n ≤ ig zs k => dc_false (p := ZonesOK zs n) fun q => by have := q.top k hlt; omega)
      have HE2 := hide (fun (h0 : 0 < k) (h : ig zs k ≤ ig zs (k - 1)) => dc_false (p := ZonesOK zs n) fun q => by
        have := q.rise (k - 1) (by omega)
        rw [show k - 1 + 1 = k by omega] at this
        omega)
      clear hc HJ
      generalize ig zs (k - 1) = y at *
      generalize ig zs k = x at *
      by_cases h0 : 0 < k
      · have hp := hcp h0
        have hi1 : ((k : Int) - 1) = ((k - 1 : Nat) : Int) := by omega
        have hd0 : decide (0 < (k : Int)) = true := by simp; omega
        have hk1 : k - 1 < zs.length := by omega
        by_cases hxy : x ≤ y
        · have E := hide (HE2.out h0 hxy)
          clear HE HS HE2 hcp
          go_wp2_with fail
          go_ret
          exact ⟨ret_bool E.out.symm, rfl⟩
        · by_cases hxn : n ≤ x
          · have E := hide (HE.out hxn)
            clear HE HS HE2 hcp
            go_wp2_with fail
            go_ret
            exact ⟨ret_bool E.out.symm, rfl⟩
          · have E := hide (HS.out (by omega) (.inr (by omega)))
            clear HE HS HE2 hcp
            go_wp2_with fail
            go_roundw
            case rel => exact ⟨k + 1, by go_num, by omega, E, trivial⟩
            case measure => simp [intOf]; omega
      · have hd0 : decide (0 < (k : Int)) = false := by simp; omega
        by_cases hxn : n ≤ x
        · have E := hide (HE.out hxn)
          clear HE HS HE2 hcp
          go_wp2_with fail
          go_ret
          exact ⟨ret_bool E.out.symm, rfl⟩
        · have E := hide (HS.out (by omega) (.inl (by omega)))
          clear HE HS HE2 hcp
          go_wp2_with fail
          go_roundw
          case rel => exact ⟨k + 1, by go_num, by omega, E, trivial⟩
          case measure => simp [intOf]; omega
    · obtain rfl : k = zs.length := by omega
      cases hin : inB (zs.length : Int) 1 8
      · have E := hide (dc_false (p := ZonesOK zs n) fun q => by have := inB_false hin; have := q.len1; have := q.len8; omega)
        go_wp2_with (first | (go_at_call 123; refine (implsizeint64_is _ _ _ _).mono ?_; rintro e w2 ⟨rfl, rfl⟩) | (go_at_call 120; refine (implwithin_is _ _ _ _ (by assumption) _).mono ?_; rintro e w' ⟨rfl, rfl⟩))
        go_ret
        exact ⟨ret_bool E.out.symm, rfl⟩
      · have hlen := inB_true hin
        obtain ⟨b, o, rfl, hc0⟩ := HX.out.first (by omega)
        have hl0 : 0 < zs.length := by omega
        have E := hide (show (ig zs 0 == 0) = dc (ZonesOK zs n) from by
          by_cases h0 : ig zs 0 = 0
          · rw [dc_true (p := ZonesOK zs n) ⟨by omega, by omega, h0, HJ.out.2, HJ.out.1⟩]; exact beq_iff_eq.2 h0
          · rw [dc_false (p := ZonesOK zs n) fun q => h0 q.z0]; exact beq_eq_false_iff_ne.2 h0)
        clear HJ hlen
        generalize ig zs 0 = z at *
        go_wp2_with (first | (go_at_call 123; refine (implsizeint64_is _ _ _ _).mono ?_; rintro e w2 ⟨rfl, rfl⟩) | (go_at_call 120; refine (implwithin_is _ _ _ _ (by assumption) _).mono ?_; rintro e w' ⟨rfl, rfl⟩))
        go_ret
        exact ⟨ret_bool E.out, rfl⟩
set_option maxRecDepth 100000 in
theorem implValidZones (nm : ByteArray) (A : Option Addr) (c : Nat) (rs : List RingR) (Az : Option Addr) (cz : Nat) (zs : List Int) (w : World) (h : SlAt encRing 3 w A rs) (hn : rs.length ≤ 1048576) (hs : nm.size ≤ maxLen) (hz : SlAt encI 1 w Az zs) (hzn : zs.length ≤ 1048576) :
    Calls Tryz.prog 121 #[.agg #[.string nm, .slice A rs.length c], .slice Az zs.length cz] w fun e w' => e = .returned (.bool (pzB nm rs zs)) ∧ Below w.heap.size w w' := by
  have hb0 : Below w.heap.size w (w.alloc (.cells #[.string nm, .slice A rs.length c] 30)) := (by repeat (first | with_reducible exact Below.refl _ _ | with_reducible assumption | (with_reducible refine Below.drew ?_) | (with_reducible refine below_drewN ?_ _) | ((with_reducible refine Below.alloc ?_ ?_ _); rotate_left; (focus (first | omega | (simp; omega) | simp))) | ((with_reducible refine Below.setCell ?_ ?_ _); rotate_left; (focus (first | omega | (simp; omega) | simp))) | (refine Below.trans ?_ (Below.mono (by assumption) (by first | omega | (simp; omega) | simp)))))
  have HX := hide (h.below hb0)
  have HZ := hide (hz.below hb0)
  have HB0 := hide hb0
  clear h hz hb0
  go_enter Tryz.func121, Tryz.ntmps121
  go_wp2_with fail
  refine (implValidProfile nm A c rs _ HX.out hn hs).mono ?_
  rintro e w1 ⟨rfl, hb1⟩
  have q1 := hb1.cell (p := ⟨w.heap.size, 1, none⟩) (by simp)
  simp at q1
  have HB1 := hide (HB0.out.trans (hb1.mono (by simp)))
  have HZ1 := hide (HZ.out.below hb1)
  clear hb1
  cases hp : profB nm rs
  · have E := hide (show pzB nm rs zs = false by unfold pzB; rw [hp]; rfl)
    go_wp2_with fail
    go_ret
    exact ⟨ret_bool E.out.symm, HB1.out⟩
  · have E := hide (show pzB nm rs zs = dc (ZonesOK zs rs.length) by unfold pzB; rw [hp]; rfl)
    go_wp2_with (first | (go_at_call 162; refine (implsizeimplRing_is _ _ _ _).mono ?_; rintro e w2 ⟨rfl, rfl⟩) | (go_at_call 167; refine (implareZones _ _ zs _ _ HZ1.out hzn).mono ?_; rintro e w2 ⟨rfl, rfl⟩))
    go_ret
    exact ⟨ret_bool E.out.symm, HB1.out⟩
set_option maxRecDepth 100000 in
theorem slicesMax (A : Option Addr) (c : Nat) (xs : List Int) (w : World) (h : SlAt encI 1 w A xs) (hn : xs.length ≤ 1048576) (h0 : 1 ≤ xs.length) :
    Calls Tryz.prog 54 #[.slice A xs.length c] w fun e w' => ∃ m, e = .returned (.int .i64 m) ∧ (∃ k, k < xs.length ∧ ig xs k = m) ∧ (∀ k, k < xs.length → ig xs k ≤ m) ∧ w = w' := by
  obtain ⟨b, o, rfl, hb, hc⟩ := h.getA (by omega)
  have HC := hide hc
  have hc0 := hc 0 (by omega)
  simp only [Nat.add_zero] at hc0
  clear h hc
  have HM : Hid (∃ x, x = ig xs 0) := hide ⟨_, rfl⟩
  obtain ⟨x, hx⟩ := HM.out
  rw [← hx] at hc0
  have HXX := hide hx
  clear hx HM
  go_enter Tryz.func54, Tryz.ntmps54
  go_wp2_with fail
  go_loopw [4, 3] (fun v s wr => ∃ (k : Nat) (m : Int), v = .int .i64 k ∧ s = .int .i64 m ∧ 1 ≤ k ∧ k ≤ xs.length ∧ Hid ((∃ j, j < xs.length ∧ ig xs j = m) ∧ ∀ j, j < k → ig xs j ≤ m) ∧ w = wr) (fun v _ _ => xs.length - (intOf v).toNat)
  case atStart => exact ⟨1, x, rfl, rfl, by omega, by omega, hide ⟨⟨0, by omega, HXX.out.symm⟩, fun j hj => by rw [HXX.out, show j = 0 by omega]; exact Int.le_refl _⟩, rfl⟩
  case round =>
    obtain ⟨k, m, rfl, rfl, hk1, hk, HJ, rfl⟩ := hrel
    by_cases hlt : k < xs.length
    · have hck := HC.out k hlt
      have HS := hide (show ∀ y, y = ig xs k → (m ≤ y → (∃ j, j < xs.length ∧ ig xs j = y) ∧ ∀ j, j < k + 1 → ig xs j ≤ y) ∧ (y ≤ m → (∃ j, j < xs.length ∧ ig xs j = m) ∧ ∀ j, j < k + 1 → ig xs j ≤ m) from fun y hy => ⟨fun hle => ⟨⟨k, hlt, hy.symm⟩, fun j hj => by
        by_cases e : j = k
        · subst e; omega
        · have := HJ.out.2 j (by omega); omega⟩, fun hle => ⟨HJ.out.1, fun j hj => by
        by_cases e : j = k
        · subst e; omega
        · exact HJ.out.2 j (by omega)⟩⟩)
      obtain ⟨y, hy⟩ : ∃ y, y = ig xs k := ⟨_, rfl⟩
      rw [← hy] at hck
      have HS2 := hide (HS.out y hy)
      clear HJ HS hy
      by_cases hmy : m < y
      · have E := hide (HS2.out.1 (by omega))
        clear HS2
        go_wp2_with fail
        go_roundw
        case rel => exact ⟨k + 1, y, by go_num, by first | rfl | go_num, by omega, by omega, E, trivial⟩
        case measure => simp [intOf]; omega
      · have E := hide (HS2.out.2 (by omega))
        clear HS2
        go_wp2_with fail
        go_roundw
        case rel => exact ⟨k + 1, m, by go_num, by first | rfl | go_num, by omega, by omega, E, trivial⟩
        case measure => simp [intOf]; omega
    · obtain rfl : k = xs.length := by omega
      go_wp2_with fail
      go_ret
      exact ⟨m, rfl, HJ.out.1, HJ.out.2, rfl⟩
end Go.Proofs.YtnefgafmnpblpaaGreat
