/- Rows of pours and of crucibles, on both sides; the size's count; marks. -/
import Derived.Test.YtklmbgefdopifaaPr
namespace Go.Proofs.Ytklmbgefdopifaa
open Go.RowKit

abbrev vPourR (x : PourR) : Bool := vPour x.nm x.mass x.rdy x.due
set_option maxRecDepth 100000 in
theorem implValidPours (A : Option Addr) (c : Nat) (xs : List PourR) (w : World) (h : SlAt encPour 4 w A xs) (hn : xs.length ≤ 1048576) (hs : ∀ x ∈ xs, x.nm.size ≤ maxLen) :
    Calls Try.prog 68 #[.slice A xs.length c] w fun e w' => e = .returned (.bool (rowsB vPourR PourR.nm 12 xs)) ∧ Below w.heap.size w w' := by
  have HX := hide h
  have HS := hide hs
  clear h hs
  go_enter Try.func68, Try.ntmps68
  go_wp2_with fail
  go_loopw [7, 3, 4] (fun v _ _ wr => ∃ k : Nat, v = .int .i64 k ∧ k ≤ xs.length ∧ Below w.heap.size w wr ∧ Hid (∀ j, j < k → ¬ badAt vPourR PourR.nm xs j)) (fun v _ _ _ => xs.length - (intOf v).toNat)
  case atStart => exact ⟨0, rfl, by omega, (by repeat (first | with_reducible exact Below.refl _ _ | with_reducible assumption | (with_reducible refine Below.drew ?_) | (with_reducible refine below_drewN ?_ _) | ((with_reducible refine Below.alloc ?_ ?_ _); rotate_left; (focus (first | omega | (simp; omega) | simp))) | ((with_reducible refine Below.setCell ?_ ?_ _); rotate_left; (focus (first | omega | (simp; omega) | simp))) | (refine Below.trans ?_ (Below.mono (by assumption) (by first | omega | (simp; omega) | simp))))), hide fun j hj => by omega⟩
  case round =>
    obtain ⟨k, rfl, hk, hb, hj⟩ := hrel
    by_cases hlt : k < xs.length
    · have hS := HX.out.below hb
      obtain ⟨b, off, rfl, hbl, hc⟩ := hS k hlt
      have hc0 := hc 0 _ rfl
      have hc1 := hc 1 _ rfl
      have hc2 := hc 2 _ rfl
      have hc3 := hc 3 _ rfl
      simp only [Nat.add_zero] at hc0
      have hsz := HS.out xs[k] (List.getElem_mem hlt)
      have hP : ∀ h : 0 < k, wr.cell? ⟨b, off + (k - 1) * 4, none⟩ = some (.string (xs[k - 1]'(by omega)).nm) := fun h => by
        obtain ⟨b2, off2, e2, _, hc2⟩ := hS (k - 1) (by omega)
        injection e2 with e2
        injection e2 with e3 e4
        subst e3; subst e4
        simpa using hc2 0 _ rfl
      have HP := hide hP
      have hz := hb.size
      clear hc hS hP
      generalize hx : xs[k] = x at *
      obtain ⟨x0, x1, x2, x3⟩ := x
      simp only at hc0 hc1 hc2 hc3 hsz
      have Hx := hide hx
      clear hx
      cases hv : vPour x0 x1 x2 x3
      · have e : Hid (rowsB vPourR PourR.nm 12 xs = false) := rowsB_bad k (badAt_v hlt Hx.out hv)
        go_wp2_with fail
        refine wp_region_kept (by kernel_rfl) (by kernel_rfl) ?_
        intro gc gf gz
        repeat (go_big_quiet_step ((go_at_call 93; exact Calls.kept (implvalidPour x0 x1 x2 x3 _ hsz))))
        refine wpQuiet_nil ?_
        intro w1 hw'
        obtain ⟨⟨_, hb1⟩, rfl⟩ := hw'
        clear gc gf gz
        try dsimp only
        have fs1 := hb1.size
        try simp at fs1 hb1
        go_wp2_with fail
        go_ret
        exact ⟨ret_bool e.out.symm, (by repeat (first | with_reducible exact Below.refl _ _ | with_reducible assumption | (with_reducible refine Below.drew ?_) | (with_reducible refine below_drewN ?_ _) | ((with_reducible refine Below.alloc ?_ ?_ _); rotate_left; (focus (first | omega | (simp; omega) | simp))) | ((with_reducible refine Below.setCell ?_ ?_ _); rotate_left; (focus (first | omega | (simp; omega) | simp))) | (refine Below.trans ?_ (Below.mono (by assumption) (by first | omega | (simp; omega) | simp)))))⟩
      · by_cases h0 : k = 0
        · have hj2 := bad_step hj (badAt_not (p := ⟨x0, x1, x2, x3⟩) hlt Hx.out (fun h => by omega) hv (fun h => by omega))
          have d0 : decide (0 < k) = false := by simp; omega
          clear h0
          go_wp2_with fail
          refine wp_region_kept (by kernel_rfl) (by kernel_rfl) ?_
          intro gc gf gz
          repeat (go_big_quiet_step ((go_at_call 93; exact Calls.kept (implvalidPour x0 x1 x2 x3 _ hsz))))
          refine wpQuiet_nil ?_
          intro w1 hw'
          obtain ⟨⟨_, hb1⟩, rfl⟩ := hw'
          clear gc gf gz
          try dsimp only
          have fs1 := hb1.size
          try simp at fs1 hb1
          go_wp2_with fail
          go_roundw
          case rel => exact ⟨k + 1, by go_num, by omega, (by repeat (first | with_reducible exact Below.refl _ _ | with_reducible assumption | (with_reducible refine Below.drew ?_) | (with_reducible refine below_drewN ?_ _) | ((with_reducible refine Below.alloc ?_ ?_ _); rotate_left; (focus (first | omega | (simp; omega) | simp))) | ((with_reducible refine Below.setCell ?_ ?_ _); rotate_left; (focus (first | omega | (simp; omega) | simp))) | (refine Below.trans ?_ (Below.mono (by assumption) (by first | omega | (simp; omega) | simp))))), hj2⟩
          case measure => simp [intOf]; omega
        · have h1 : 0 < k := by omega
          have d0 : decide (0 < k) = true := by simp; omega
          have hp0 := HP.out h1
          generalize hp : (xs[k - 1]'(by omega)).nm = p at hp0
          have Hp := hide hp
          clear hp h0
          cases hc : sle x0 p
          · have hj2 := bad_step hj (badAt_not (p := xs[k - 1]'(by omega)) hlt Hx.out (fun h => rfl) hv (fun h => by rw [Hp.out]; exact hc))
            have t1 : (Op.bytesLess x0.toList p.toList || x0.toList == p.toList) = false := hc
            have t2 : (!Op.bytesLess p.toList x0.toList) = false := by rw [bytesLess_total]; exact hc
            have T := hide hc
            clear hc
            go_wp2_with fail
            refine wp_region_kept (by kernel_rfl) (by kernel_rfl) ?_
            intro gc gf gz
            repeat (go_big_quiet_step ((go_at_call 93; exact Calls.kept (implvalidPour x0 x1 x2 x3 _ hsz))))
            refine wpQuiet_nil ?_
            intro w1 hw'
            obtain ⟨⟨_, hb1⟩, rfl⟩ := hw'
            clear gc gf gz
            try dsimp only
            have fs1 := hb1.size
            try simp at fs1 hb1
            go_wp2_with fail
            go_roundw
            case rel => exact ⟨k + 1, by go_num, by omega, (by repeat (first | with_reducible exact Below.refl _ _ | with_reducible assumption | (with_reducible refine Below.drew ?_) | (with_reducible refine below_drewN ?_ _) | ((with_reducible refine Below.alloc ?_ ?_ _); rotate_left; (focus (first | omega | (simp; omega) | simp))) | ((with_reducible refine Below.setCell ?_ ?_ _); rotate_left; (focus (first | omega | (simp; omega) | simp))) | (refine Below.trans ?_ (Below.mono (by assumption) (by first | omega | (simp; omega) | simp))))), hj2⟩
            case measure => simp [intOf]; omega
          · have e : Hid (rowsB vPourR PourR.nm 12 xs = false) := rowsB_bad k (badAt_n (p := xs[k - 1]'(by omega)) hlt h1 Hx.out rfl (by rw [Hp.out]; exact hc))
            have t1 : (Op.bytesLess x0.toList p.toList || x0.toList == p.toList) = true := hc
            have t2 : (!Op.bytesLess p.toList x0.toList) = true := by rw [bytesLess_total]; exact hc
            have T := hide hc
            clear hc
            go_wp2_with fail
            refine wp_region_kept (by kernel_rfl) (by kernel_rfl) ?_
            intro gc gf gz
            repeat (go_big_quiet_step ((go_at_call 93; exact Calls.kept (implvalidPour x0 x1 x2 x3 _ hsz))))
            refine wpQuiet_nil ?_
            intro w1 hw'
            obtain ⟨⟨_, hb1⟩, rfl⟩ := hw'
            clear gc gf gz
            try dsimp only
            have fs1 := hb1.size
            try simp at fs1 hb1
            go_wp2_with fail
            go_ret
            exact ⟨ret_bool e.out.symm, (by repeat (first | with_reducible exact Below.refl _ _ | with_reducible assumption | (with_reducible refine Below.drew ?_) | (with_reducible refine below_drewN ?_ _) | ((with_reducible refine Below.alloc ?_ ?_ _); rotate_left; (focus (first | omega | (simp; omega) | simp))) | ((with_reducible refine Below.setCell ?_ ?_ _); rotate_left; (focus (first | omega | (simp; omega) | simp))) | (refine Below.trans ?_ (Below.mono (by assumption) (by first | omega | (simp; omega) | simp)))))⟩
    · have e : Hid (rowsB vPourR PourR.nm 12 xs = decide ((xs.length : Int) ≤ 12)) := rowsB_fin fun j h => hj.out j (by omega)
      go_wp2_with fail
      go_ret
      exact ⟨ret_bool e.out.symm, hb⟩
set_option maxRecDepth 100000 in
theorem specl17Pours (A : Option Addr) (c : Nat) (xs : List PourR) (w : World) (h : SlAt encPour 4 w A xs) (hn : xs.length ≤ 1048576) (hs : ∀ x ∈ xs, x.nm.size ≤ maxLen) :
    Calls Try.prog 86 #[.slice A xs.length c] w fun e w' => e = .returned (.bool (rowsB vPourR PourR.nm 12 xs)) ∧ Below w.heap.size w w' := by
  have HX := hide h
  have HS := hide hs
  clear h hs
  go_enter Try.func86, Try.ntmps86
  go_wp2_with fail
  go_loopw [3] (fun v wr => ∃ k : Nat, v = .int .i64 k ∧ k ≤ xs.length ∧ Below w.heap.size w wr ∧ Hid (∀ j, j < k → ¬ badAt vPourR PourR.nm xs j)) (fun v _ => xs.length - (intOf v).toNat)
  case atStart => exact ⟨0, rfl, by omega, (by repeat (first | with_reducible exact Below.refl _ _ | with_reducible assumption | (with_reducible refine Below.drew ?_) | (with_reducible refine below_drewN ?_ _) | ((with_reducible refine Below.alloc ?_ ?_ _); rotate_left; (focus (first | omega | (simp; omega) | simp))) | ((with_reducible refine Below.setCell ?_ ?_ _); rotate_left; (focus (first | omega | (simp; omega) | simp))) | (refine Below.trans ?_ (Below.mono (by assumption) (by first | omega | (simp; omega) | simp))))), hide fun j hj => by omega⟩
  case round =>
    obtain ⟨k, rfl, hk, hb, hj⟩ := hrel
    by_cases hlt : k < xs.length
    · have hS := HX.out.below hb
      obtain ⟨b, off, rfl, hbl, hc⟩ := hS k hlt
      have hc0 := hc 0 _ rfl
      have hc1 := hc 1 _ rfl
      have hc2 := hc 2 _ rfl
      have hc3 := hc 3 _ rfl
      simp only [Nat.add_zero] at hc0
      have hsz := HS.out xs[k] (List.getElem_mem hlt)
      have hP : ∀ h : 0 < k, wr.cell? ⟨b, off + (k - 1) * 4, none⟩ = some (.string (xs[k - 1]'(by omega)).nm) := fun h => by
        obtain ⟨b2, off2, e2, _, hc2⟩ := hS (k - 1) (by omega)
        injection e2 with e2
        injection e2 with e3 e4
        subst e3; subst e4
        simpa using hc2 0 _ rfl
      have HP := hide hP
      have hz := hb.size
      clear hc hS hP
      generalize hx : xs[k] = x at *
      obtain ⟨x0, x1, x2, x3⟩ := x
      simp only at hc0 hc1 hc2 hc3 hsz
      have Hx := hide hx
      clear hx
      cases hv : vPour x0 x1 x2 x3
      · have e : Hid (rowsB vPourR PourR.nm 12 xs = false) := rowsB_bad k (badAt_v hlt Hx.out hv)
        go_wp2_with fail
        refine wp_region_kept (by kernel_rfl) (by kernel_rfl) ?_
        intro gc gf gz
        repeat (go_big_quiet_step ((go_at_call 101; exact Calls.kept (specl17One b (off + k * 4) x0 x1 x2 x3 _ hsz (by go_simp) (by go_simp) (by go_simp) (by go_simp)))))
        refine wpQuiet_nil ?_
        intro w1 hw'
        obtain ⟨⟨_, hb1⟩, rfl⟩ := hw'
        clear gc gf gz
        try dsimp only
        have fs1 := hb1.size
        try simp at fs1 hb1
        go_wp2_with fail
        go_ret
        exact ⟨ret_bool e.out.symm, (by repeat (first | with_reducible exact Below.refl _ _ | with_reducible assumption | (with_reducible refine Below.drew ?_) | (with_reducible refine below_drewN ?_ _) | ((with_reducible refine Below.alloc ?_ ?_ _); rotate_left; (focus (first | omega | (simp; omega) | simp))) | ((with_reducible refine Below.setCell ?_ ?_ _); rotate_left; (focus (first | omega | (simp; omega) | simp))) | (refine Below.trans ?_ (Below.mono (by assumption) (by first | omega | (simp; omega) | simp)))))⟩
      · by_cases h0 : k = 0
        · have hj2 := bad_step hj (badAt_not (p := ⟨x0, x1, x2, x3⟩) hlt Hx.out (fun h => by omega) hv (fun h => by omega))
          have d0 : decide (0 < k) = false := by simp; omega
          clear h0
          go_wp2_with fail
          refine wp_region_kept (by kernel_rfl) (by kernel_rfl) ?_
          intro gc gf gz
          repeat (go_big_quiet_step ((go_at_call 101; exact Calls.kept (specl17One b (off + k * 4) x0 x1 x2 x3 _ hsz (by go_simp) (by go_simp) (by go_simp) (by go_simp)))))
          refine wpQuiet_nil ?_
          intro w1 hw'
          obtain ⟨⟨_, hb1⟩, rfl⟩ := hw'
          clear gc gf gz
          try dsimp only
          have fs1 := hb1.size
          try simp at fs1 hb1
          go_wp2_with fail
          go_roundw
          case rel => exact ⟨k + 1, by go_num, by omega, (by repeat (first | with_reducible exact Below.refl _ _ | with_reducible assumption | (with_reducible refine Below.drew ?_) | (with_reducible refine below_drewN ?_ _) | ((with_reducible refine Below.alloc ?_ ?_ _); rotate_left; (focus (first | omega | (simp; omega) | simp))) | ((with_reducible refine Below.setCell ?_ ?_ _); rotate_left; (focus (first | omega | (simp; omega) | simp))) | (refine Below.trans ?_ (Below.mono (by assumption) (by first | omega | (simp; omega) | simp))))), hj2⟩
          case measure => simp [intOf]; omega
        · have h1 : 0 < k := by omega
          have d0 : decide (0 < k) = true := by simp; omega
          have hp0 := HP.out h1
          generalize hp : (xs[k - 1]'(by omega)).nm = p at hp0
          have Hp := hide hp
          clear hp h0
          cases hc : sle x0 p
          · have hj2 := bad_step hj (badAt_not (p := xs[k - 1]'(by omega)) hlt Hx.out (fun h => rfl) hv (fun h => by rw [Hp.out]; exact hc))
            have t1 : (Op.bytesLess x0.toList p.toList || x0.toList == p.toList) = false := hc
            have t2 : (!Op.bytesLess p.toList x0.toList) = false := by rw [bytesLess_total]; exact hc
            have T := hide hc
            clear hc
            go_wp2_with fail
            refine wp_region_kept (by kernel_rfl) (by kernel_rfl) ?_
            intro gc gf gz
            repeat (go_big_quiet_step ((go_at_call 101; exact Calls.kept (specl17One b (off + k * 4) x0 x1 x2 x3 _ hsz (by go_simp) (by go_simp) (by go_simp) (by go_simp)))))
            refine wpQuiet_nil ?_
            intro w1 hw'
            obtain ⟨⟨_, hb1⟩, rfl⟩ := hw'
            clear gc gf gz
            try dsimp only
            have fs1 := hb1.size
            try simp at fs1 hb1
            go_wp2_with fail
            go_roundw
            case rel => exact ⟨k + 1, by go_num, by omega, (by repeat (first | with_reducible exact Below.refl _ _ | with_reducible assumption | (with_reducible refine Below.drew ?_) | (with_reducible refine below_drewN ?_ _) | ((with_reducible refine Below.alloc ?_ ?_ _); rotate_left; (focus (first | omega | (simp; omega) | simp))) | ((with_reducible refine Below.setCell ?_ ?_ _); rotate_left; (focus (first | omega | (simp; omega) | simp))) | (refine Below.trans ?_ (Below.mono (by assumption) (by first | omega | (simp; omega) | simp))))), hj2⟩
            case measure => simp [intOf]; omega
          · have e : Hid (rowsB vPourR PourR.nm 12 xs = false) := rowsB_bad k (badAt_n (p := xs[k - 1]'(by omega)) hlt h1 Hx.out rfl (by rw [Hp.out]; exact hc))
            have t1 : (Op.bytesLess x0.toList p.toList || x0.toList == p.toList) = true := hc
            have t2 : (!Op.bytesLess p.toList x0.toList) = true := by rw [bytesLess_total]; exact hc
            have T := hide hc
            clear hc
            go_wp2_with fail
            refine wp_region_kept (by kernel_rfl) (by kernel_rfl) ?_
            intro gc gf gz
            repeat (go_big_quiet_step ((go_at_call 101; exact Calls.kept (specl17One b (off + k * 4) x0 x1 x2 x3 _ hsz (by go_simp) (by go_simp) (by go_simp) (by go_simp)))))
            refine wpQuiet_nil ?_
            intro w1 hw'
            obtain ⟨⟨_, hb1⟩, rfl⟩ := hw'
            clear gc gf gz
            try dsimp only
            have fs1 := hb1.size
            try simp at fs1 hb1
            go_wp2_with fail
            go_ret
            exact ⟨ret_bool e.out.symm, (by repeat (first | with_reducible exact Below.refl _ _ | with_reducible assumption | (with_reducible refine Below.drew ?_) | (with_reducible refine below_drewN ?_ _) | ((with_reducible refine Below.alloc ?_ ?_ _); rotate_left; (focus (first | omega | (simp; omega) | simp))) | ((with_reducible refine Below.setCell ?_ ?_ _); rotate_left; (focus (first | omega | (simp; omega) | simp))) | (refine Below.trans ?_ (Below.mono (by assumption) (by first | omega | (simp; omega) | simp)))))⟩
    · have e : Hid (rowsB vPourR PourR.nm 12 xs = decide ((xs.length : Int) ≤ 12)) := rowsB_fin fun j h => hj.out j (by omega)
      go_wp2_with fail
      go_ret
      exact ⟨ret_bool e.out.symm, hb⟩
abbrev vCrucR (x : CrucR) : Bool := vCruc x.nm x.cap x.ht x.fr
set_option maxRecDepth 100000 in
theorem implValidCrucibles (A : Option Addr) (c : Nat) (xs : List CrucR) (w : World) (h : SlAt encCruc 4 w A xs) (hn : xs.length ≤ 1048576) (hs : ∀ x ∈ xs, x.nm.size ≤ maxLen) :
    Calls Try.prog 69 #[.slice A xs.length c] w fun e w' => e = .returned (.bool (rowsB vCrucR CrucR.nm 4 xs && decide ((1 : Int) ≤ xs.length))) ∧ Below w.heap.size w w' := by
  have HX := hide h
  have HS := hide hs
  clear h hs
  go_enter Try.func69, Try.ntmps69
  go_wp2_with fail
  go_loopw [7, 3, 4] (fun v _ _ wr => ∃ k : Nat, v = .int .i64 k ∧ k ≤ xs.length ∧ Below w.heap.size w wr ∧ Hid (∀ j, j < k → ¬ badAt vCrucR CrucR.nm xs j)) (fun v _ _ _ => xs.length - (intOf v).toNat)
  case atStart => exact ⟨0, rfl, by omega, (by repeat (first | with_reducible exact Below.refl _ _ | with_reducible assumption | (with_reducible refine Below.drew ?_) | (with_reducible refine below_drewN ?_ _) | ((with_reducible refine Below.alloc ?_ ?_ _); rotate_left; (focus (first | omega | (simp; omega) | simp))) | ((with_reducible refine Below.setCell ?_ ?_ _); rotate_left; (focus (first | omega | (simp; omega) | simp))) | (refine Below.trans ?_ (Below.mono (by assumption) (by first | omega | (simp; omega) | simp))))), hide fun j hj => by omega⟩
  case round =>
    obtain ⟨k, rfl, hk, hb, hj⟩ := hrel
    by_cases hlt : k < xs.length
    · have hS := HX.out.below hb
      obtain ⟨b, off, rfl, hbl, hc⟩ := hS k hlt
      have hc0 := hc 0 _ rfl
      have hc1 := hc 1 _ rfl
      have hc2 := hc 2 _ rfl
      have hc3 := hc 3 _ rfl
      simp only [Nat.add_zero] at hc0
      have hsz := HS.out xs[k] (List.getElem_mem hlt)
      have hP : ∀ h : 0 < k, wr.cell? ⟨b, off + (k - 1) * 4, none⟩ = some (.string (xs[k - 1]'(by omega)).nm) := fun h => by
        obtain ⟨b2, off2, e2, _, hc2⟩ := hS (k - 1) (by omega)
        injection e2 with e2
        injection e2 with e3 e4
        subst e3; subst e4
        simpa using hc2 0 _ rfl
      have HP := hide hP
      have hz := hb.size
      clear hc hS hP
      generalize hx : xs[k] = x at *
      obtain ⟨x0, x1, x2, x3⟩ := x
      simp only at hc0 hc1 hc2 hc3 hsz
      have Hx := hide hx
      clear hx
      cases hv : vCruc x0 x1 x2 x3
      · have e : Hid ((rowsB vCrucR CrucR.nm 4 xs && decide ((1 : Int) ≤ xs.length)) = false) := hide (by rw [rowsB_bad k (badAt_v hlt Hx.out hv)]; rfl)
        go_wp2_with fail
        refine wp_region_kept (by kernel_rfl) (by kernel_rfl) ?_
        intro gc gf gz
        repeat (go_big_quiet_step ((go_at_call 94; exact Calls.kept (implvalidCrucible x0 x1 x2 x3 _ hsz))))
        refine wpQuiet_nil ?_
        intro w1 hw'
        obtain ⟨⟨_, hb1⟩, rfl⟩ := hw'
        clear gc gf gz
        try dsimp only
        have fs1 := hb1.size
        try simp at fs1 hb1
        go_wp2_with fail
        go_ret
        exact ⟨ret_bool e.out.symm, (by repeat (first | with_reducible exact Below.refl _ _ | with_reducible assumption | (with_reducible refine Below.drew ?_) | (with_reducible refine below_drewN ?_ _) | ((with_reducible refine Below.alloc ?_ ?_ _); rotate_left; (focus (first | omega | (simp; omega) | simp))) | ((with_reducible refine Below.setCell ?_ ?_ _); rotate_left; (focus (first | omega | (simp; omega) | simp))) | (refine Below.trans ?_ (Below.mono (by assumption) (by first | omega | (simp; omega) | simp)))))⟩
      · by_cases h0 : k = 0
        · have hj2 := bad_step hj (badAt_not (p := ⟨x0, x1, x2, x3⟩) hlt Hx.out (fun h => by omega) hv (fun h => by omega))
          have d0 : decide (0 < k) = false := by simp; omega
          clear h0
          go_wp2_with fail
          refine wp_region_kept (by kernel_rfl) (by kernel_rfl) ?_
          intro gc gf gz
          repeat (go_big_quiet_step ((go_at_call 94; exact Calls.kept (implvalidCrucible x0 x1 x2 x3 _ hsz))))
          refine wpQuiet_nil ?_
          intro w1 hw'
          obtain ⟨⟨_, hb1⟩, rfl⟩ := hw'
          clear gc gf gz
          try dsimp only
          have fs1 := hb1.size
          try simp at fs1 hb1
          go_wp2_with fail
          go_roundw
          case rel => exact ⟨k + 1, by go_num, by omega, (by repeat (first | with_reducible exact Below.refl _ _ | with_reducible assumption | (with_reducible refine Below.drew ?_) | (with_reducible refine below_drewN ?_ _) | ((with_reducible refine Below.alloc ?_ ?_ _); rotate_left; (focus (first | omega | (simp; omega) | simp))) | ((with_reducible refine Below.setCell ?_ ?_ _); rotate_left; (focus (first | omega | (simp; omega) | simp))) | (refine Below.trans ?_ (Below.mono (by assumption) (by first | omega | (simp; omega) | simp))))), hj2⟩
          case measure => simp [intOf]; omega
        · have h1 : 0 < k := by omega
          have d0 : decide (0 < k) = true := by simp; omega
          have hp0 := HP.out h1
          generalize hp : (xs[k - 1]'(by omega)).nm = p at hp0
          have Hp := hide hp
          clear hp h0
          cases hc : sle x0 p
          · have hj2 := bad_step hj (badAt_not (p := xs[k - 1]'(by omega)) hlt Hx.out (fun h => rfl) hv (fun h => by rw [Hp.out]; exact hc))
            have t1 : (Op.bytesLess x0.toList p.toList || x0.toList == p.toList) = false := hc
            have t2 : (!Op.bytesLess p.toList x0.toList) = false := by rw [bytesLess_total]; exact hc
            have T := hide hc
            clear hc
            go_wp2_with fail
            refine wp_region_kept (by kernel_rfl) (by kernel_rfl) ?_
            intro gc gf gz
            repeat (go_big_quiet_step ((go_at_call 94; exact Calls.kept (implvalidCrucible x0 x1 x2 x3 _ hsz))))
            refine wpQuiet_nil ?_
            intro w1 hw'
            obtain ⟨⟨_, hb1⟩, rfl⟩ := hw'
            clear gc gf gz
            try dsimp only
            have fs1 := hb1.size
            try simp at fs1 hb1
            go_wp2_with fail
            go_roundw
            case rel => exact ⟨k + 1, by go_num, by omega, (by repeat (first | with_reducible exact Below.refl _ _ | with_reducible assumption | (with_reducible refine Below.drew ?_) | (with_reducible refine below_drewN ?_ _) | ((with_reducible refine Below.alloc ?_ ?_ _); rotate_left; (focus (first | omega | (simp; omega) | simp))) | ((with_reducible refine Below.setCell ?_ ?_ _); rotate_left; (focus (first | omega | (simp; omega) | simp))) | (refine Below.trans ?_ (Below.mono (by assumption) (by first | omega | (simp; omega) | simp))))), hj2⟩
            case measure => simp [intOf]; omega
          · have e : Hid ((rowsB vCrucR CrucR.nm 4 xs && decide ((1 : Int) ≤ xs.length)) = false) := hide (by rw [rowsB_bad k (badAt_n (p := xs[k - 1]'(by omega)) hlt h1 Hx.out rfl (by rw [Hp.out]; exact hc))]; rfl)
            have t1 : (Op.bytesLess x0.toList p.toList || x0.toList == p.toList) = true := hc
            have t2 : (!Op.bytesLess p.toList x0.toList) = true := by rw [bytesLess_total]; exact hc
            have T := hide hc
            clear hc
            go_wp2_with fail
            refine wp_region_kept (by kernel_rfl) (by kernel_rfl) ?_
            intro gc gf gz
            repeat (go_big_quiet_step ((go_at_call 94; exact Calls.kept (implvalidCrucible x0 x1 x2 x3 _ hsz))))
            refine wpQuiet_nil ?_
            intro w1 hw'
            obtain ⟨⟨_, hb1⟩, rfl⟩ := hw'
            clear gc gf gz
            try dsimp only
            have fs1 := hb1.size
            try simp at fs1 hb1
            go_wp2_with fail
            go_ret
            exact ⟨ret_bool e.out.symm, (by repeat (first | with_reducible exact Below.refl _ _ | with_reducible assumption | (with_reducible refine Below.drew ?_) | (with_reducible refine below_drewN ?_ _) | ((with_reducible refine Below.alloc ?_ ?_ _); rotate_left; (focus (first | omega | (simp; omega) | simp))) | ((with_reducible refine Below.setCell ?_ ?_ _); rotate_left; (focus (first | omega | (simp; omega) | simp))) | (refine Below.trans ?_ (Below.mono (by assumption) (by first | omega | (simp; omega) | simp)))))⟩
    · have e0 : rowsB vCrucR CrucR.nm 4 xs = decide ((xs.length : Int) ≤ 4) := rowsB_fin fun j h => hj.out j (by omega)
      by_cases h1 : 1 ≤ xs.length
      · have e : Hid (((rowsB vCrucR CrucR.nm 4 xs && decide ((1 : Int) ≤ xs.length))) = decide ((xs.length : Int) ≤ 4)) := hide (by rw [e0, decide_eq_true (show (1 : Int) ≤ xs.length by omega), Bool.and_true])
        clear e0
        go_wp2_with fail
        go_ret
        exact ⟨ret_bool e.out.symm, hb⟩
      · have e : Hid (((rowsB vCrucR CrucR.nm 4 xs && decide ((1 : Int) ≤ xs.length))) = false) := hide (by rw [decide_eq_false (show ¬ (1 : Int) ≤ xs.length by omega), Bool.and_false])
        clear e0
        go_wp2_with fail
        go_ret
        exact ⟨ret_bool e.out.symm, hb⟩
set_option maxRecDepth 100000 in
theorem specl17Crucibles (A : Option Addr) (c : Nat) (xs : List CrucR) (w : World) (h : SlAt encCruc 4 w A xs) (hn : xs.length ≤ 1048576) (hs : ∀ x ∈ xs, x.nm.size ≤ maxLen) :
    Calls Try.prog 87 #[.slice A xs.length c] w fun e w' => e = .returned (.bool (rowsB vCrucR CrucR.nm 4 xs && decide ((1 : Int) ≤ xs.length))) ∧ Below w.heap.size w w' := by
  have HX := hide h
  have HS := hide hs
  clear h hs
  go_enter Try.func87, Try.ntmps87
  go_wp2_with fail
  go_loopw [3] (fun v wr => ∃ k : Nat, v = .int .i64 k ∧ k ≤ xs.length ∧ Below w.heap.size w wr ∧ Hid (∀ j, j < k → ¬ badAt vCrucR CrucR.nm xs j)) (fun v _ => xs.length - (intOf v).toNat)
  case atStart => exact ⟨0, rfl, by omega, (by repeat (first | with_reducible exact Below.refl _ _ | with_reducible assumption | (with_reducible refine Below.drew ?_) | (with_reducible refine below_drewN ?_ _) | ((with_reducible refine Below.alloc ?_ ?_ _); rotate_left; (focus (first | omega | (simp; omega) | simp))) | ((with_reducible refine Below.setCell ?_ ?_ _); rotate_left; (focus (first | omega | (simp; omega) | simp))) | (refine Below.trans ?_ (Below.mono (by assumption) (by first | omega | (simp; omega) | simp))))), hide fun j hj => by omega⟩
  case round =>
    obtain ⟨k, rfl, hk, hb, hj⟩ := hrel
    by_cases hlt : k < xs.length
    · have hS := HX.out.below hb
      obtain ⟨b, off, rfl, hbl, hc⟩ := hS k hlt
      have hc0 := hc 0 _ rfl
      have hc1 := hc 1 _ rfl
      have hc2 := hc 2 _ rfl
      have hc3 := hc 3 _ rfl
      simp only [Nat.add_zero] at hc0
      have hsz := HS.out xs[k] (List.getElem_mem hlt)
      have hP : ∀ h : 0 < k, wr.cell? ⟨b, off + (k - 1) * 4, none⟩ = some (.string (xs[k - 1]'(by omega)).nm) := fun h => by
        obtain ⟨b2, off2, e2, _, hc2⟩ := hS (k - 1) (by omega)
        injection e2 with e2
        injection e2 with e3 e4
        subst e3; subst e4
        simpa using hc2 0 _ rfl
      have HP := hide hP
      have hz := hb.size
      clear hc hS hP
      generalize hx : xs[k] = x at *
      obtain ⟨x0, x1, x2, x3⟩ := x
      simp only at hc0 hc1 hc2 hc3 hsz
      have Hx := hide hx
      clear hx
      cases hv : vCruc x0 x1 x2 x3
      · have e : Hid ((rowsB vCrucR CrucR.nm 4 xs && decide ((1 : Int) ≤ xs.length)) = false) := hide (by rw [rowsB_bad k (badAt_v hlt Hx.out hv)]; rfl)
        go_wp2_with fail
        refine wp_region_kept (by kernel_rfl) (by kernel_rfl) ?_
        intro gc gf gz
        repeat (go_big_quiet_step ((go_at_call 102; exact Calls.kept_same (specl17Crucible b (off + k * 4) x0 x1 x2 x3 _ hsz (by go_simp) (by go_simp) (by go_simp) (by go_simp)))))
        refine wpQuiet_nil ?_
        intro w1 hw'
        obtain ⟨⟨_, hb1⟩, rfl⟩ := hw'
        clear gc gf gz
        try dsimp only
        have fs1 := hb1.size
        try simp at fs1 hb1
        go_wp2_with fail
        go_ret
        exact ⟨ret_bool e.out.symm, (by repeat (first | with_reducible exact Below.refl _ _ | with_reducible assumption | (with_reducible refine Below.drew ?_) | (with_reducible refine below_drewN ?_ _) | ((with_reducible refine Below.alloc ?_ ?_ _); rotate_left; (focus (first | omega | (simp; omega) | simp))) | ((with_reducible refine Below.setCell ?_ ?_ _); rotate_left; (focus (first | omega | (simp; omega) | simp))) | (refine Below.trans ?_ (Below.mono (by assumption) (by first | omega | (simp; omega) | simp)))))⟩
      · by_cases h0 : k = 0
        · have hj2 := bad_step hj (badAt_not (p := ⟨x0, x1, x2, x3⟩) hlt Hx.out (fun h => by omega) hv (fun h => by omega))
          have d0 : decide (0 < k) = false := by simp; omega
          clear h0
          go_wp2_with fail
          refine wp_region_kept (by kernel_rfl) (by kernel_rfl) ?_
          intro gc gf gz
          repeat (go_big_quiet_step ((go_at_call 102; exact Calls.kept_same (specl17Crucible b (off + k * 4) x0 x1 x2 x3 _ hsz (by go_simp) (by go_simp) (by go_simp) (by go_simp)))))
          refine wpQuiet_nil ?_
          intro w1 hw'
          obtain ⟨⟨_, hb1⟩, rfl⟩ := hw'
          clear gc gf gz
          try dsimp only
          have fs1 := hb1.size
          try simp at fs1 hb1
          go_wp2_with fail
          go_roundw
          case rel => exact ⟨k + 1, by go_num, by omega, (by repeat (first | with_reducible exact Below.refl _ _ | with_reducible assumption | (with_reducible refine Below.drew ?_) | (with_reducible refine below_drewN ?_ _) | ((with_reducible refine Below.alloc ?_ ?_ _); rotate_left; (focus (first | omega | (simp; omega) | simp))) | ((with_reducible refine Below.setCell ?_ ?_ _); rotate_left; (focus (first | omega | (simp; omega) | simp))) | (refine Below.trans ?_ (Below.mono (by assumption) (by first | omega | (simp; omega) | simp))))), hj2⟩
          case measure => simp [intOf]; omega
        · have h1 : 0 < k := by omega
          have d0 : decide (0 < k) = true := by simp; omega
          have hp0 := HP.out h1
          generalize hp : (xs[k - 1]'(by omega)).nm = p at hp0
          have Hp := hide hp
          clear hp h0
          cases hc : sle x0 p
          · have hj2 := bad_step hj (badAt_not (p := xs[k - 1]'(by omega)) hlt Hx.out (fun h => rfl) hv (fun h => by rw [Hp.out]; exact hc))
            have t1 : (Op.bytesLess x0.toList p.toList || x0.toList == p.toList) = false := hc
            have t2 : (!Op.bytesLess p.toList x0.toList) = false := by rw [bytesLess_total]; exact hc
            have T := hide hc
            clear hc
            go_wp2_with fail
            refine wp_region_kept (by kernel_rfl) (by kernel_rfl) ?_
            intro gc gf gz
            repeat (go_big_quiet_step ((go_at_call 102; exact Calls.kept_same (specl17Crucible b (off + k * 4) x0 x1 x2 x3 _ hsz (by go_simp) (by go_simp) (by go_simp) (by go_simp)))))
            refine wpQuiet_nil ?_
            intro w1 hw'
            obtain ⟨⟨_, hb1⟩, rfl⟩ := hw'
            clear gc gf gz
            try dsimp only
            have fs1 := hb1.size
            try simp at fs1 hb1
            go_wp2_with fail
            go_roundw
            case rel => exact ⟨k + 1, by go_num, by omega, (by repeat (first | with_reducible exact Below.refl _ _ | with_reducible assumption | (with_reducible refine Below.drew ?_) | (with_reducible refine below_drewN ?_ _) | ((with_reducible refine Below.alloc ?_ ?_ _); rotate_left; (focus (first | omega | (simp; omega) | simp))) | ((with_reducible refine Below.setCell ?_ ?_ _); rotate_left; (focus (first | omega | (simp; omega) | simp))) | (refine Below.trans ?_ (Below.mono (by assumption) (by first | omega | (simp; omega) | simp))))), hj2⟩
            case measure => simp [intOf]; omega
          · have e : Hid ((rowsB vCrucR CrucR.nm 4 xs && decide ((1 : Int) ≤ xs.length)) = false) := hide (by rw [rowsB_bad k (badAt_n (p := xs[k - 1]'(by omega)) hlt h1 Hx.out rfl (by rw [Hp.out]; exact hc))]; rfl)
            have t1 : (Op.bytesLess x0.toList p.toList || x0.toList == p.toList) = true := hc
            have t2 : (!Op.bytesLess p.toList x0.toList) = true := by rw [bytesLess_total]; exact hc
            have T := hide hc
            clear hc
            go_wp2_with fail
            refine wp_region_kept (by kernel_rfl) (by kernel_rfl) ?_
            intro gc gf gz
            repeat (go_big_quiet_step ((go_at_call 102; exact Calls.kept_same (specl17Crucible b (off + k * 4) x0 x1 x2 x3 _ hsz (by go_simp) (by go_simp) (by go_simp) (by go_simp)))))
            refine wpQuiet_nil ?_
            intro w1 hw'
            obtain ⟨⟨_, hb1⟩, rfl⟩ := hw'
            clear gc gf gz
            try dsimp only
            have fs1 := hb1.size
            try simp at fs1 hb1
            go_wp2_with fail
            go_ret
            exact ⟨ret_bool e.out.symm, (by repeat (first | with_reducible exact Below.refl _ _ | with_reducible assumption | (with_reducible refine Below.drew ?_) | (with_reducible refine below_drewN ?_ _) | ((with_reducible refine Below.alloc ?_ ?_ _); rotate_left; (focus (first | omega | (simp; omega) | simp))) | ((with_reducible refine Below.setCell ?_ ?_ _); rotate_left; (focus (first | omega | (simp; omega) | simp))) | (refine Below.trans ?_ (Below.mono (by assumption) (by first | omega | (simp; omega) | simp)))))⟩
    · have e0 : rowsB vCrucR CrucR.nm 4 xs = decide ((xs.length : Int) ≤ 4) := rowsB_fin fun j h => hj.out j (by omega)
      by_cases h1 : 1 ≤ xs.length
      · have e : Hid (((rowsB vCrucR CrucR.nm 4 xs && decide ((1 : Int) ≤ xs.length))) = decide ((xs.length : Int) ≤ 4)) := hide (by rw [e0, decide_eq_true (show (1 : Int) ≤ xs.length by omega), Bool.and_true])
        clear e0
        go_wp2_with fail
        go_ret
        exact ⟨ret_bool e.out.symm, hb⟩
      · have e : Hid (((rowsB vCrucR CrucR.nm 4 xs && decide ((1 : Int) ≤ xs.length))) = false) := hide (by rw [decide_eq_false (show ¬ (1 : Int) ≤ xs.length by omega), Bool.and_false])
        clear e0
        go_wp2_with fail
        go_ret
        exact ⟨ret_bool e.out.symm, hb⟩
def mkPour (k : Int) : PourR := ⟨mText k, (k + 1), (k + 1 + 1), (k + 1 + 1 + 1)⟩
def marksPour (k : Int) (n : Nat) : List PourR := (List.range n).map fun i : Nat => mkPour (k + 4 * (i : Int))
theorem marksPour_length (k : Int) (n : Nat) : (marksPour k n).length = n := by simp [marksPour]
theorem marksPour_get (k : Int) (n j : Nat) (h : j < n) : (marksPour k n)[j]'(by rw [marksPour_length]; exact h) = mkPour (k + 4 * (j : Int)) := by simp [marksPour]
theorem marksPour_succ (k : Int) (n : Nat) : marksPour k (n + 1) = marksPour k n ++ [mkPour (k + 4 * (n : Int))] := by simp [marksPour, List.range_succ]
theorem set_markPour {xs : List PourR} {k : Int} {i : Nat} (h : i < xs.length) : ((((((marksPour k i ++ xs.drop i).flatMap encPour).set (i * 4) (.string (mText (k + 4 * (i : Int))))).set (i * 4 + 1) (.int .i64 (k + 4 * (i : Int) + 1))).set (i * 4 + 2) (.int .i64 (k + 4 * (i : Int) + 1 + 1))).set (i * 4 + 3) (.int .i64 (k + 4 * (i : Int) + 1 + 1 + 1))) = (marksPour k (i + 1) ++ xs.drop (i + 1)).flatMap encPour := by
  have hl := flat_length (enc := encPour) (sz := 4) (fun _ => rfl) (marksPour k i)
  rw [marksPour_length] at hl
  rw [marksPour_succ, List.drop_eq_getElem_cons h, List.flatMap_append, List.flatMap_append, List.flatMap_append, List.flatMap_cons, List.flatMap_cons, List.flatMap_nil, List.append_nil, List.append_assoc]
  generalize (marksPour k i).flatMap encPour = A at *
  rw [← hl]
  generalize (xs.drop (i + 1)).flatMap encPour = C
  unfold mkPour encPour
  simp
theorem storesPour {w0 w : World} {g B T m c i : Nat} {cs : List Value} (v0 v1 v2 v3 : Value) (h : w.ownsRow B T 4 (.slice (some ⟨g, 0, none⟩) m c) m cs) (hg : w0.grownBy w (some g)) :
    ((((w.setCell ⟨g, i * 4, none⟩ (v0)).setCell ⟨g, i * 4 + 1, none⟩ (v1)).setCell ⟨g, i * 4 + 2, none⟩ (v2)).setCell ⟨g, i * 4 + 3, none⟩ (v3)).ownsRow B T 4 (.slice (some ⟨g, 0, none⟩) m c) m ((((cs.set (i * 4) (v0)).set (i * 4 + 1) (v1)).set (i * 4 + 2) (v2)).set (i * 4 + 3) (v3)) ∧ w0.grownBy ((((w.setCell ⟨g, i * 4, none⟩ (v0)).setCell ⟨g, i * 4 + 1, none⟩ (v1)).setCell ⟨g, i * 4 + 2, none⟩ (v2)).setCell ⟨g, i * 4 + 3, none⟩ (v3)) (some g) := by
  have s0 := World.ownsRow.stored h (i * 4) v0
  have t0 := grown_trans hg s0.2
  have s1 := World.ownsRow.stored s0.1 (i * 4 + 1) v1
  have t1 := grown_trans t0 s1.2
  have s2 := World.ownsRow.stored s1.1 (i * 4 + 2) v2
  have t2 := grown_trans t1 s2.2
  have s3 := World.ownsRow.stored s2.1 (i * 4 + 3) v3
  have t3 := grown_trans t2 s3.2
  exact ⟨s3.1, t3⟩
set_option maxRecDepth 100000 in
theorem lawsmarkPourS (A : Option Addr) (c B : Nat) (xs : List PourR) (k : Int) (w : World) (h : Own encPour 4 93 w B (.slice A xs.length c) xs) (hn : xs.length ≤ 1048576) (k0 : 1 ≤ k) (k1 : k ≤ 100000000000) :
    Calls Try.prog 27 #[.slice A xs.length c, .int .i64 k] w fun e w' => e = .returned (.int .i64 (k + 4 * xs.length)) ∧ Own encPour 4 93 w' B (.slice A xs.length c) (marksPour k xs.length) ∧ w.grownBy w' (Value.slice A xs.length c).ownBlock := by
  have HX := hide h
  clear h
  go_enter Try.func27, Try.ntmps27
  go_wp2_with fail
  go_loopw [5, 1] (fun v q wr => ∃ i : Nat, v = .int .i64 i ∧ q = .int .i64 (k + 4 * i) ∧ i ≤ xs.length ∧ Hid (wr.ownsRow B 93 4 (.slice A xs.length c) xs.length ((marksPour k i ++ xs.drop i).flatMap encPour) ∧ w.grownBy wr (Value.slice A xs.length c).ownBlock)) (fun v _ _ => xs.length - (intOf v).toNat)
  case atStart => exact ⟨0, rfl, by simp, by omega, hide ⟨by have q : w.ownsRow B 93 4 (.slice A xs.length c) xs.length (xs.flatMap encPour) := HX.out; simpa [marksPour] using q, World.grownBy.refl _ _⟩⟩
  case round =>
    obtain ⟨i, rfl, rfl, hi, hR⟩ := hrel
    by_cases hlt : i < xs.length
    · obtain ⟨g, rfl, hg1, hg2⟩ := own_addr hR.out.1 (by omega)
      have hl := flat_length (enc := encPour) (sz := 4) (fun _ => rfl) (marksPour k i ++ xs.drop i)
      rw [List.length_append, marksPour_length, List.length_drop, show i + (xs.length - i) = xs.length by omega] at hl
      obtain ⟨u0, hu0⟩ : ∃ u, wr.cell? ⟨g, i * 4, none⟩ = some u := ⟨_, (World.ownsRow.cellAt hR.out.1 (i * 4) (by omega)).trans (List.getElem?_eq_getElem (by omega))⟩
      have hf0 := World.ownsRow.frozenAt hR.out.1 (i * 4)
      obtain ⟨u1, hu1⟩ : ∃ u, wr.cell? ⟨g, i * 4 + 1, none⟩ = some u := ⟨_, (World.ownsRow.cellAt hR.out.1 (i * 4 + 1) (by omega)).trans (List.getElem?_eq_getElem (by omega))⟩
      have hf1 := World.ownsRow.frozenAt hR.out.1 (i * 4 + 1)
      obtain ⟨u2, hu2⟩ : ∃ u, wr.cell? ⟨g, i * 4 + 2, none⟩ = some u := ⟨_, (World.ownsRow.cellAt hR.out.1 (i * 4 + 2) (by omega)).trans (List.getElem?_eq_getElem (by omega))⟩
      have hf2 := World.ownsRow.frozenAt hR.out.1 (i * 4 + 2)
      obtain ⟨u3, hu3⟩ : ∃ u, wr.cell? ⟨g, i * 4 + 3, none⟩ = some u := ⟨_, (World.ownsRow.cellAt hR.out.1 (i * 4 + 3) (by omega)).trans (List.getElem?_eq_getElem (by omega))⟩
      have hf3 := World.ownsRow.frozenAt hR.out.1 (i * 4 + 3)
      clear hl
      go_wp2_with fail
      refine (lawsmarkText _ _ (by omega) (by omega)).mono ?_
      rintro e w1 ⟨rfl, hb1⟩
      have hv0 := (hb1.cell (p := ⟨g, i * 4, none⟩) hg2).trans hu0
      have hw0 := (hb1.frozen (p := ⟨g, i * 4, none⟩) hg2).trans hf0
      have hv1 := (hb1.cell (p := ⟨g, i * 4 + 1, none⟩) hg2).trans hu1
      have hw1 := (hb1.frozen (p := ⟨g, i * 4 + 1, none⟩) hg2).trans hf1
      have hv2 := (hb1.cell (p := ⟨g, i * 4 + 2, none⟩) hg2).trans hu2
      have hw2 := (hb1.frozen (p := ⟨g, i * 4 + 2, none⟩) hg2).trans hf2
      have hv3 := (hb1.cell (p := ⟨g, i * 4 + 3, none⟩) hg2).trans hu3
      have hw3 := (hb1.frozen (p := ⟨g, i * 4 + 3, none⟩) hg2).trans hf3
      have hr1 := hide (hR.out.1.kept (grown_of_below hb1 none) (.inr (by simp [Value.ownBlock])))
      have hgr := hide (grown_trans hR.out.2 (grown_of_below hb1 _))
      clear hb1
      have q := storesPour (i := i) (.string (mText (k + 4 * (i : Int)))) (.int .i64 (k + 4 * (i : Int) + 1)) (.int .i64 (k + 4 * (i : Int) + 1 + 1)) (.int .i64 (k + 4 * (i : Int) + 1 + 1 + 1)) hr1.out hgr.out
      rw [set_markPour hlt] at q
      have Q := hide q
      clear q
      go_wp2_with fail
      go_roundw
      case rel => exact ⟨i + 1, by go_num, by go_num, by omega, Q⟩
      case measure => simp [intOf]; omega
    · obtain rfl : i = xs.length := by omega
      have hR' := hR.out
      rw [List.drop_length, List.append_nil] at hR'
      have HN := hide hR'
      clear hR hR'
      go_wp2_with fail
      go_ret
      exact ⟨rfl, by have := HN.out.1; unfold Own; rwa [marksPour_length], HN.out.2⟩
def mkCruc (k : Int) : CrucR := ⟨mText k, (k + 1), (k + 1 + 1), (k + 1 + 1 + 1)⟩
def marksCruc (k : Int) (n : Nat) : List CrucR := (List.range n).map fun i : Nat => mkCruc (k + 4 * (i : Int))
theorem marksCruc_length (k : Int) (n : Nat) : (marksCruc k n).length = n := by simp [marksCruc]
theorem marksCruc_get (k : Int) (n j : Nat) (h : j < n) : (marksCruc k n)[j]'(by rw [marksCruc_length]; exact h) = mkCruc (k + 4 * (j : Int)) := by simp [marksCruc]
theorem marksCruc_succ (k : Int) (n : Nat) : marksCruc k (n + 1) = marksCruc k n ++ [mkCruc (k + 4 * (n : Int))] := by simp [marksCruc, List.range_succ]
theorem set_markCruc {xs : List CrucR} {k : Int} {i : Nat} (h : i < xs.length) : ((((((marksCruc k i ++ xs.drop i).flatMap encCruc).set (i * 4) (.string (mText (k + 4 * (i : Int))))).set (i * 4 + 1) (.int .i64 (k + 4 * (i : Int) + 1))).set (i * 4 + 2) (.int .i64 (k + 4 * (i : Int) + 1 + 1))).set (i * 4 + 3) (.int .i64 (k + 4 * (i : Int) + 1 + 1 + 1))) = (marksCruc k (i + 1) ++ xs.drop (i + 1)).flatMap encCruc := by
  have hl := flat_length (enc := encCruc) (sz := 4) (fun _ => rfl) (marksCruc k i)
  rw [marksCruc_length] at hl
  rw [marksCruc_succ, List.drop_eq_getElem_cons h, List.flatMap_append, List.flatMap_append, List.flatMap_append, List.flatMap_cons, List.flatMap_cons, List.flatMap_nil, List.append_nil, List.append_assoc]
  generalize (marksCruc k i).flatMap encCruc = A at *
  rw [← hl]
  generalize (xs.drop (i + 1)).flatMap encCruc = C
  unfold mkCruc encCruc
  simp
theorem storesCruc {w0 w : World} {g B T m c i : Nat} {cs : List Value} (v0 v1 v2 v3 : Value) (h : w.ownsRow B T 4 (.slice (some ⟨g, 0, none⟩) m c) m cs) (hg : w0.grownBy w (some g)) :
    ((((w.setCell ⟨g, i * 4, none⟩ (v0)).setCell ⟨g, i * 4 + 1, none⟩ (v1)).setCell ⟨g, i * 4 + 2, none⟩ (v2)).setCell ⟨g, i * 4 + 3, none⟩ (v3)).ownsRow B T 4 (.slice (some ⟨g, 0, none⟩) m c) m ((((cs.set (i * 4) (v0)).set (i * 4 + 1) (v1)).set (i * 4 + 2) (v2)).set (i * 4 + 3) (v3)) ∧ w0.grownBy ((((w.setCell ⟨g, i * 4, none⟩ (v0)).setCell ⟨g, i * 4 + 1, none⟩ (v1)).setCell ⟨g, i * 4 + 2, none⟩ (v2)).setCell ⟨g, i * 4 + 3, none⟩ (v3)) (some g) := by
  have s0 := World.ownsRow.stored h (i * 4) v0
  have t0 := grown_trans hg s0.2
  have s1 := World.ownsRow.stored s0.1 (i * 4 + 1) v1
  have t1 := grown_trans t0 s1.2
  have s2 := World.ownsRow.stored s1.1 (i * 4 + 2) v2
  have t2 := grown_trans t1 s2.2
  have s3 := World.ownsRow.stored s2.1 (i * 4 + 3) v3
  have t3 := grown_trans t2 s3.2
  exact ⟨s3.1, t3⟩
set_option maxRecDepth 100000 in
theorem lawsmarkCrucibleS (A : Option Addr) (c B : Nat) (xs : List CrucR) (k : Int) (w : World) (h : Own encCruc 4 95 w B (.slice A xs.length c) xs) (hn : xs.length ≤ 1048576) (k0 : 1 ≤ k) (k1 : k ≤ 100000000000) :
    Calls Try.prog 28 #[.slice A xs.length c, .int .i64 k] w fun e w' => e = .returned (.int .i64 (k + 4 * xs.length)) ∧ Own encCruc 4 95 w' B (.slice A xs.length c) (marksCruc k xs.length) ∧ w.grownBy w' (Value.slice A xs.length c).ownBlock := by
  have HX := hide h
  clear h
  go_enter Try.func28, Try.ntmps28
  go_wp2_with fail
  go_loopw [5, 1] (fun v q wr => ∃ i : Nat, v = .int .i64 i ∧ q = .int .i64 (k + 4 * i) ∧ i ≤ xs.length ∧ Hid (wr.ownsRow B 95 4 (.slice A xs.length c) xs.length ((marksCruc k i ++ xs.drop i).flatMap encCruc) ∧ w.grownBy wr (Value.slice A xs.length c).ownBlock)) (fun v _ _ => xs.length - (intOf v).toNat)
  case atStart => exact ⟨0, rfl, by simp, by omega, hide ⟨by have q : w.ownsRow B 95 4 (.slice A xs.length c) xs.length (xs.flatMap encCruc) := HX.out; simpa [marksCruc] using q, World.grownBy.refl _ _⟩⟩
  case round =>
    obtain ⟨i, rfl, rfl, hi, hR⟩ := hrel
    by_cases hlt : i < xs.length
    · obtain ⟨g, rfl, hg1, hg2⟩ := own_addr hR.out.1 (by omega)
      have hl := flat_length (enc := encCruc) (sz := 4) (fun _ => rfl) (marksCruc k i ++ xs.drop i)
      rw [List.length_append, marksCruc_length, List.length_drop, show i + (xs.length - i) = xs.length by omega] at hl
      obtain ⟨u0, hu0⟩ : ∃ u, wr.cell? ⟨g, i * 4, none⟩ = some u := ⟨_, (World.ownsRow.cellAt hR.out.1 (i * 4) (by omega)).trans (List.getElem?_eq_getElem (by omega))⟩
      have hf0 := World.ownsRow.frozenAt hR.out.1 (i * 4)
      obtain ⟨u1, hu1⟩ : ∃ u, wr.cell? ⟨g, i * 4 + 1, none⟩ = some u := ⟨_, (World.ownsRow.cellAt hR.out.1 (i * 4 + 1) (by omega)).trans (List.getElem?_eq_getElem (by omega))⟩
      have hf1 := World.ownsRow.frozenAt hR.out.1 (i * 4 + 1)
      obtain ⟨u2, hu2⟩ : ∃ u, wr.cell? ⟨g, i * 4 + 2, none⟩ = some u := ⟨_, (World.ownsRow.cellAt hR.out.1 (i * 4 + 2) (by omega)).trans (List.getElem?_eq_getElem (by omega))⟩
      have hf2 := World.ownsRow.frozenAt hR.out.1 (i * 4 + 2)
      obtain ⟨u3, hu3⟩ : ∃ u, wr.cell? ⟨g, i * 4 + 3, none⟩ = some u := ⟨_, (World.ownsRow.cellAt hR.out.1 (i * 4 + 3) (by omega)).trans (List.getElem?_eq_getElem (by omega))⟩
      have hf3 := World.ownsRow.frozenAt hR.out.1 (i * 4 + 3)
      clear hl
      go_wp2_with fail
      refine (lawsmarkText _ _ (by omega) (by omega)).mono ?_
      rintro e w1 ⟨rfl, hb1⟩
      have hv0 := (hb1.cell (p := ⟨g, i * 4, none⟩) hg2).trans hu0
      have hw0 := (hb1.frozen (p := ⟨g, i * 4, none⟩) hg2).trans hf0
      have hv1 := (hb1.cell (p := ⟨g, i * 4 + 1, none⟩) hg2).trans hu1
      have hw1 := (hb1.frozen (p := ⟨g, i * 4 + 1, none⟩) hg2).trans hf1
      have hv2 := (hb1.cell (p := ⟨g, i * 4 + 2, none⟩) hg2).trans hu2
      have hw2 := (hb1.frozen (p := ⟨g, i * 4 + 2, none⟩) hg2).trans hf2
      have hv3 := (hb1.cell (p := ⟨g, i * 4 + 3, none⟩) hg2).trans hu3
      have hw3 := (hb1.frozen (p := ⟨g, i * 4 + 3, none⟩) hg2).trans hf3
      have hr1 := hide (hR.out.1.kept (grown_of_below hb1 none) (.inr (by simp [Value.ownBlock])))
      have hgr := hide (grown_trans hR.out.2 (grown_of_below hb1 _))
      clear hb1
      have q := storesCruc (i := i) (.string (mText (k + 4 * (i : Int)))) (.int .i64 (k + 4 * (i : Int) + 1)) (.int .i64 (k + 4 * (i : Int) + 1 + 1)) (.int .i64 (k + 4 * (i : Int) + 1 + 1 + 1)) hr1.out hgr.out
      rw [set_markCruc hlt] at q
      have Q := hide q
      clear q
      go_wp2_with fail
      go_roundw
      case rel => exact ⟨i + 1, by go_num, by go_num, by omega, Q⟩
      case measure => simp [intOf]; omega
    · obtain rfl : i = xs.length := by omega
      have hR' := hR.out
      rw [List.drop_length, List.append_nil] at hR'
      have HN := hide hR'
      clear hR hR'
      go_wp2_with fail
      go_ret
      exact ⟨rfl, by have := HN.out.1; unfold Own; rwa [marksCruc_length], HN.out.2⟩
end Go.Proofs.Ytklmbgefdopifaa
