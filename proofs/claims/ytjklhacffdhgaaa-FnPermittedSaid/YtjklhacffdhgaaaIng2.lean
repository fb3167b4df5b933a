/- Rows of ingots, on both sides; demands; marks. -/
import Derived.Test.YtjklhacffdhgaaaIng
namespace Go.Proofs.Ytjklhacffdhgaaa
open Go.RowKit

abbrev vIngotR (x : IngotR) : Bool := vIngot x.nm x.mass x.cu x.ti x.ot
set_option maxRecDepth 100000 in
theorem implValidIngots (A : Option Addr) (c : Nat) (xs : List IngotR) (w : World) (h : SlAt encIngot 5 w A xs) (hn : xs.length ≤ 1048576) (hs : ∀ x ∈ xs, x.nm.size ≤ maxLen) :
    Calls Try.prog 89 #[.slice A xs.length c] w fun e w' => e = .returned (.bool (rowsB vIngotR IngotR.nm 16 xs)) ∧ Below w.heap.size w w' := by
  have HX := hide h
  have HS := hide hs
  clear h hs
  go_enter Try.func89, Try.ntmps89
  go_wp2_with fail
  go_loopw [7, 3, 4] (fun v _ _ wr => ∃ k : Nat, v = .int .i64 k ∧ k ≤ xs.length ∧ Below w.heap.size w wr ∧ Hid (∀ j, j < k → ¬ badAt vIngotR IngotR.nm xs j)) (fun v _ _ _ => xs.length - (intOf v).toNat)
  case atStart => exact ⟨0, rfl, by omega, (by repeat (first | with_reducible exact Below.refl _ _ | with_reducible assumption | (with_reducible refine Below.drew ?_) | (with_reducible refine below_drewN ?_ _) | ((with_reducible refine Below.alloc ?_ ?_ _); rotate_left; (focus (first | omega | (simp; omega) | simp))) | ((with_reducible refine Below.setCell ?_ ?_ _); rotate_left; (focus (first | omega | (simp; omega) | simp))) | (refine Below.trans ?_ (Below.mono (by assumption) (by first | omega | (simp; omega) | simp))))), hide fun j hj => by omega⟩
  case round =>
    obtain ⟨k, rfl, hk, hb, hj⟩ := hrel
    by_cases hlt : k < xs.length
    · have hS := HX.out.below hb
      obtain ⟨b, off, rfl, hbl, hc⟩ := hS k hlt
      have hc0 := hc 0 _ rfl
      have hc1 := hc 1 _ rfl
      have hc2 := hc 2 _ rfl
      have hc3 := hc 3 _ rfl
      have hc4 := hc 4 _ rfl
      simp only [Nat.add_zero] at hc0
      have hsz := HS.out xs[k] (List.getElem_mem hlt)
      have hP : ∀ h : 0 < k, wr.cell? ⟨b, off + (k - 1) * 5, none⟩ = some (.string (xs[k - 1]'(by omega)).nm) := fun h => by
        obtain ⟨b2, off2, e2, _, hc2⟩ := hS (k - 1) (by omega)
        injection e2 with e2
        injection e2 with e3 e4
        subst e3; subst e4
        simpa using hc2 0 _ rfl
      have HP := hide hP
      have hz := hb.size
      clear hc hS hP
      generalize hx : xs[k] = x at *
      obtain ⟨x0, x1, x2, x3, x4⟩ := x
      simp only at hc0 hc1 hc2 hc3 hc4 hsz
      have Hx := hide hx
      clear hx
      cases hv : vIngot x0 x1 x2 x3 x4
      · have e : Hid (rowsB vIngotR IngotR.nm 16 xs = false) := rowsB_bad k (badAt_v hlt Hx.out hv)
        go_wp2_with fail
        refine wp_region_kept (by kernel_rfl) (by kernel_rfl) ?_
        intro gc gf gz
        repeat (go_big_quiet_step ((go_at_call 156; exact Calls.kept (implvalidIngot x0 x1 x2 x3 x4 _ hsz))))
        refine wpQuiet_nil ?_
        intro w1 hw'
        obtain ⟨⟨_, hb1⟩, rfl⟩ := hw'
        clear gc gf gz
        try dsimp only
        have fs1 := hb1.size
        try simp at fs1 hb1
        go_wp2_with fail
        go_ret
        exact ⟨ret_bool e.out.symm, (by repeat (first | with_reducible exact Below.refl _ _ | with_reducible assumption | (with_reducible refine Below.drew ?_) | (with_reducible refine below_drewN ?_ _) | ((with_reducible refine Below.alloc ?_ ?_ _); rotate_left; (focus (first | omega | (simp; omega) | simp))) | ((with_reducible refine Below.setCell ?_ ?_ _); rotate_left; (focus (first | omega | (simp; omega) | simp))) | (refine Below.trans ?_ (Below.mono (by assumption) (by first | omega | (simp; omega) | simp)))))⟩
      · by_cases h0 : k = 0
        · have hj2 := bad_step hj (badAt_not (p := ⟨x0, x1, x2, x3, x4⟩) hlt Hx.out (fun h => by omega) hv (fun h => by omega))
          have d0 : decide (0 < k) = false := by simp; omega
          clear h0
          go_wp2_with fail
          refine wp_region_kept (by kernel_rfl) (by kernel_rfl) ?_
          intro gc gf gz
          repeat (go_big_quiet_step ((go_at_call 156; exact Calls.kept (implvalidIngot x0 x1 x2 x3 x4 _ hsz))))
          refine wpQuiet_nil ?_
          intro w1 hw'
          obtain ⟨⟨_, hb1⟩, rfl⟩ := hw'
          clear gc gf gz
          try dsimp only
          have fs1 := hb1.size
          try simp at fs1 hb1
          go_wp2_with fail
          go_roundw
          case rel => exact ⟨k + 1, by go_num, by omega, (by repeat (first | with_reducible exact Below.refl _ _ | with_reducible assumption | (with_reducible refine Below.drew ?_) | (with_reducible refine below_drewN ?_ _) | ((with_reducible refine Below.alloc ?_ ?_ _); rotate_left; (focus (first | omega | (simp; omega) | simp))) | ((with_reducible refine Below.setCell ?_ ?_ _); rotate_left; (focus (first | omega | (simp; omega) | simp))) | (refine Below.trans ?_ (Below.mono (by assumption) (by first | omega | (simp; omega) | simp))))), hj2⟩
          case measure => simp [intOf]; omega
        · have h1 : 0 < k := by omega
          have d0 : decide (0 < k) = true := by simp; omega
          have hp0 := HP.out h1
          generalize hp : (xs[k - 1]'(by omega)).nm = p at hp0
          have Hp := hide hp
          clear hp h0
          cases hc : sle x0 p
          · have hj2 := bad_step hj (badAt_not (p := xs[k - 1]'(by omega)) hlt Hx.out (fun h => rfl) hv (fun h => by rw [Hp.out]; exact hc))
            have t1 : (Op.bytesLess x0.toList p.toList || x0.toList == p.toList) = false := hc
            have t2 : (!Op.bytesLess p.toList x0.toList) = false := by rw [bytesLess_total]; exact hc
            have T := hide hc
            clear hc
            go_wp2_with fail
            refine wp_region_kept (by kernel_rfl) (by kernel_rfl) ?_
            intro gc gf gz
            repeat (go_big_quiet_step ((go_at_call 156; exact Calls.kept (implvalidIngot x0 x1 x2 x3 x4 _ hsz))))
            refine wpQuiet_nil ?_
            intro w1 hw'
            obtain ⟨⟨_, hb1⟩, rfl⟩ := hw'
            clear gc gf gz
            try dsimp only
            have fs1 := hb1.size
            try simp at fs1 hb1
            go_wp2_with fail
            go_roundw
            case rel => exact ⟨k + 1, by go_num, by omega, (by repeat (first | with_reducible exact Below.refl _ _ | with_reducible assumption | (with_reducible refine Below.drew ?_) | (with_reducible refine below_drewN ?_ _) | ((with_reducible refine Below.alloc ?_ ?_ _); rotate_left; (focus (first | omega | (simp; omega) | simp))) | ((with_reducible refine Below.setCell ?_ ?_ _); rotate_left; (focus (first | omega | (simp; omega) | simp))) | (refine Below.trans ?_ (Below.mono (by assumption) (by first | omega | (simp; omega) | simp))))), hj2⟩
            case measure => simp [intOf]; omega
          · have e : Hid (rowsB vIngotR IngotR.nm 16 xs = false) := rowsB_bad k (badAt_n (p := xs[k - 1]'(by omega)) hlt h1 Hx.out rfl (by rw [Hp.out]; exact hc))
            have t1 : (Op.bytesLess x0.toList p.toList || x0.toList == p.toList) = true := hc
            have t2 : (!Op.bytesLess p.toList x0.toList) = true := by rw [bytesLess_total]; exact hc
            have T := hide hc
            clear hc
            go_wp2_with fail
            refine wp_region_kept (by kernel_rfl) (by kernel_rfl) ?_
            intro gc gf gz
            repeat (go_big_quiet_step ((go_at_call 156; exact Calls.kept (implvalidIngot x0 x1 x2 x3 x4 _ hsz))))
            refine wpQuiet_nil ?_
            intro w1 hw'
            obtain ⟨⟨_, hb1⟩, rfl⟩ := hw'
            clear gc gf gz
            try dsimp only
            have fs1 := hb1.size
            try simp at fs1 hb1
            go_wp2_with fail
            go_ret
            exact ⟨ret_bool e.out.symm, (by repeat (first | with_reducible exact Below.refl _ _ | with_reducible assumption | (with_reducible refine Below.drew ?_) | (with_reducible refine below_drewN ?_ _) | ((with_reducible refine Below.alloc ?_ ?_ _); rotate_left; (focus (first | omega | (simp; omega) | simp))) | ((with_reducible refine Below.setCell ?_ ?_ _); rotate_left; (focus (first | omega | (simp; omega) | simp))) | (refine Below.trans ?_ (Below.mono (by assumption) (by first | omega | (simp; omega) | simp)))))⟩
    · have e : Hid (rowsB vIngotR IngotR.nm 16 xs = decide ((xs.length : Int) ≤ 16)) := rowsB_fin fun j h => hj.out j (by omega)
      go_wp2_with fail
      go_ret
      exact ⟨ret_bool e.out.symm, hb⟩
set_option maxRecDepth 100000 in
theorem specl13Ok (A : Option Addr) (c : Nat) (xs : List IngotR) (w : World) (h : SlAt encIngot 5 w A xs) (hn : xs.length ≤ 1048576) (hs : ∀ x ∈ xs, x.nm.size ≤ maxLen) :
    Calls Try.prog 86 #[.slice A xs.length c] w fun e w' => e = .returned (.bool (rowsB vIngotR IngotR.nm 16 xs)) ∧ Below w.heap.size w w' := by
  have HX := hide h
  have HS := hide hs
  clear h hs
  go_enter Try.func86, Try.ntmps86
  go_wp2_with fail
  go_loopw [3] (fun v wr => ∃ k : Nat, v = .int .i64 k ∧ k ≤ xs.length ∧ Below w.heap.size w wr ∧ Hid (∀ j, j < k → ¬ badAt vIngotR IngotR.nm xs j)) (fun v _ => xs.length - (intOf v).toNat)
  case atStart => exact ⟨0, rfl, by omega, (by repeat (first | with_reducible exact Below.refl _ _ | with_reducible assumption | (with_reducible refine Below.drew ?_) | (with_reducible refine below_drewN ?_ _) | ((with_reducible refine Below.alloc ?_ ?_ _); rotate_left; (focus (first | omega | (simp; omega) | simp))) | ((with_reducible refine Below.setCell ?_ ?_ _); rotate_left; (focus (first | omega | (simp; omega) | simp))) | (refine Below.trans ?_ (Below.mono (by assumption) (by first | omega | (simp; omega) | simp))))), hide fun j hj => by omega⟩
  case round =>
    obtain ⟨k, rfl, hk, hb, hj⟩ := hrel
    by_cases hlt : k < xs.length
    · have hS := HX.out.below hb
      obtain ⟨b, off, rfl, hbl, hc⟩ := hS k hlt
      have hc0 := hc 0 _ rfl
      have hc1 := hc 1 _ rfl
      have hc2 := hc 2 _ rfl
      have hc3 := hc 3 _ rfl
      have hc4 := hc 4 _ rfl
      simp only [Nat.add_zero] at hc0
      have hsz := HS.out xs[k] (List.getElem_mem hlt)
      have hP : ∀ h : 0 < k, wr.cell? ⟨b, off + (k - 1) * 5, none⟩ = some (.string (xs[k - 1]'(by omega)).nm) := fun h => by
        obtain ⟨b2, off2, e2, _, hc2⟩ := hS (k - 1) (by omega)
        injection e2 with e2
        injection e2 with e3 e4
        subst e3; subst e4
        simpa using hc2 0 _ rfl
      have HP := hide hP
      have hz := hb.size
      clear hc hS hP
      generalize hx : xs[k] = x at *
      obtain ⟨x0, x1, x2, x3, x4⟩ := x
      simp only at hc0 hc1 hc2 hc3 hc4 hsz
      have Hx := hide hx
      clear hx
      cases hv : vIngot x0 x1 x2 x3 x4
      · have e : Hid (rowsB vIngotR IngotR.nm 16 xs = false) := rowsB_bad k (badAt_v hlt Hx.out hv)
        go_wp2_with fail
        refine wp_region_kept (by kernel_rfl) (by kernel_rfl) ?_
        intro gc gf gz
        repeat (go_big_quiet_step ((go_at_call 154; exact Calls.kept (specl13One b (off + k * 5) x0 x1 x2 x3 x4 _ hsz (by go_simp) (by go_simp) (by go_simp) (by go_simp) (by go_simp)))))
        refine wpQuiet_nil ?_
        intro w1 hw'
        obtain ⟨⟨_, hb1⟩, rfl⟩ := hw'
        clear gc gf gz
        try dsimp only
        have fs1 := hb1.size
        try simp at fs1 hb1
        go_wp2_with fail
        go_ret
        exact ⟨ret_bool e.out.symm, (by repeat (first | with_reducible exact Below.refl _ _ | with_reducible assumption | (with_reducible refine Below.drew ?_) | (with_reducible refine below_drewN ?_ _) | ((with_reducible refine Below.alloc ?_ ?_ _); rotate_left; (focus (first | omega | (simp; omega) | simp))) | ((with_reducible refine Below.setCell ?_ ?_ _); rotate_left; (focus (first | omega | (simp; omega) | simp))) | (refine Below.trans ?_ (Below.mono (by assumption) (by first | omega | (simp; omega) | simp)))))⟩
      · by_cases h0 : k = 0
        · have hj2 := bad_step hj (badAt_not (p := ⟨x0, x1, x2, x3, x4⟩) hlt Hx.out (fun h => by omega) hv (fun h => by omega))
          have d0 : decide (0 < k) = false := by simp; omega
          clear h0
          go_wp2_with fail
          refine wp_region_kept (by kernel_rfl) (by kernel_rfl) ?_
          intro gc gf gz
          repeat (go_big_quiet_step ((go_at_call 154; exact Calls.kept (specl13One b (off + k * 5) x0 x1 x2 x3 x4 _ hsz (by go_simp) (by go_simp) (by go_simp) (by go_simp) (by go_simp)))))
          refine wpQuiet_nil ?_
          intro w1 hw'
          obtain ⟨⟨_, hb1⟩, rfl⟩ := hw'
          clear gc gf gz
          try dsimp only
          have fs1 := hb1.size
          try simp at fs1 hb1
          go_wp2_with fail
          go_roundw
          case rel => exact ⟨k + 1, by go_num, by omega, (by repeat (first | with_reducible exact Below.refl _ _ | with_reducible assumption | (with_reducible refine Below.drew ?_) | (with_reducible refine below_drewN ?_ _) | ((with_reducible refine Below.alloc ?_ ?_ _); rotate_left; (focus (first | omega | (simp; omega) | simp))) | ((with_reducible refine Below.setCell ?_ ?_ _); rotate_left; (focus (first | omega | (simp; omega) | simp))) | (refine Below.trans ?_ (Below.mono (by assumption) (by first | omega | (simp; omega) | simp))))), hj2⟩
          case measure => simp [intOf]; omega
        · have h1 : 0 < k := by omega
          have d0 : decide (0 < k) = true := by simp; omega
          have hp0 := HP.out h1
          generalize hp : (xs[k - 1]'(by omega)).nm = p at hp0
          have Hp := hide hp
          clear hp h0
          cases hc : sle x0 p
          · have hj2 := bad_step hj (badAt_not (p := xs[k - 1]'(by omega)) hlt Hx.out (fun h => rfl) hv (fun h => by rw [Hp.out]; exact hc))
            have t1 : (Op.bytesLess x0.toList p.toList || x0.toList == p.toList) = false := hc
            have t2 : (!Op.bytesLess p.toList x0.toList) = false := by rw [bytesLess_total]; exact hc
            have T := hide hc
            clear hc
            go_wp2_with fail
            refine wp_region_kept (by kernel_rfl) (by kernel_rfl) ?_
            intro gc gf gz
            repeat (go_big_quiet_step ((go_at_call 154; exact Calls.kept (specl13One b (off + k * 5) x0 x1 x2 x3 x4 _ hsz (by go_simp) (by go_simp) (by go_simp) (by go_simp) (by go_simp)))))
            refine wpQuiet_nil ?_
            intro w1 hw'
            obtain ⟨⟨_, hb1⟩, rfl⟩ := hw'
            clear gc gf gz
            try dsimp only
            have fs1 := hb1.size
            try simp at fs1 hb1
            go_wp2_with fail
            go_roundw
            case rel => exact ⟨k + 1, by go_num, by omega, (by repeat (first | with_reducible exact Below.refl _ _ | with_reducible assumption | (with_reducible refine Below.drew ?_) | (with_reducible refine below_drewN ?_ _) | ((with_reducible refine Below.alloc ?_ ?_ _); rotate_left; (focus (first | omega | (simp; omega) | simp))) | ((with_reducible refine Below.setCell ?_ ?_ _); rotate_left; (focus (first | omega | (simp; omega) | simp))) | (refine Below.trans ?_ (Below.mono (by assumption) (by first | omega | (simp; omega) | simp))))), hj2⟩
            case measure => simp [intOf]; omega
          · have e : Hid (rowsB vIngotR IngotR.nm 16 xs = false) := rowsB_bad k (badAt_n (p := xs[k - 1]'(by omega)) hlt h1 Hx.out rfl (by rw [Hp.out]; exact hc))
            have t1 : (Op.bytesLess x0.toList p.toList || x0.toList == p.toList) = true := hc
            have t2 : (!Op.bytesLess p.toList x0.toList) = true := by rw [bytesLess_total]; exact hc
            have T := hide hc
            clear hc
            go_wp2_with fail
            refine wp_region_kept (by kernel_rfl) (by kernel_rfl) ?_
            intro gc gf gz
            repeat (go_big_quiet_step ((go_at_call 154; exact Calls.kept (specl13One b (off + k * 5) x0 x1 x2 x3 x4 _ hsz (by go_simp) (by go_simp) (by go_simp) (by go_simp) (by go_simp)))))
            refine wpQuiet_nil ?_
            intro w1 hw'
            obtain ⟨⟨_, hb1⟩, rfl⟩ := hw'
            clear gc gf gz
            try dsimp only
            have fs1 := hb1.size
            try simp at fs1 hb1
            go_wp2_with fail
            go_ret
            exact ⟨ret_bool e.out.symm, (by repeat (first | with_reducible exact Below.refl _ _ | with_reducible assumption | (with_reducible refine Below.drew ?_) | (with_reducible refine below_drewN ?_ _) | ((with_reducible refine Below.alloc ?_ ?_ _); rotate_left; (focus (first | omega | (simp; omega) | simp))) | ((with_reducible refine Below.setCell ?_ ?_ _); rotate_left; (focus (first | omega | (simp; omega) | simp))) | (refine Below.trans ?_ (Below.mono (by assumption) (by first | omega | (simp; omega) | simp)))))⟩
    · have e : Hid (rowsB vIngotR IngotR.nm 16 xs = decide ((xs.length : Int) ≤ 16)) := rowsB_fin fun j h => hj.out j (by omega)
      go_wp2_with fail
      go_ret
      exact ⟨ret_bool e.out.symm, hb⟩
def mkIngot (k : Int) : IngotR := ⟨mText k, (k + 1), (k + 1 + 1), (k + 1 + 1 + 1), (k + 1 + 1 + 1 + 1)⟩
def marksIngot (k : Int) (n : Nat) : List IngotR := (List.range n).map fun i : Nat => mkIngot (k + 5 * (i : Int))
theorem marksIngot_length (k : Int) (n : Nat) : (marksIngot k n).length = n := by simp [marksIngot]
theorem marksIngot_get (k : Int) (n j : Nat) (h : j < n) : (marksIngot k n)[j]'(by rw [marksIngot_length]; exact h) = mkIngot (k + 5 * (j : Int)) := by simp [marksIngot]
theorem marksIngot_succ (k : Int) (n : Nat) : marksIngot k (n + 1) = marksIngot k n ++ [mkIngot (k + 5 * (n : Int))] := by simp [marksIngot, List.range_succ]
theorem set_markIngot {xs : List IngotR} {k : Int} {i : Nat} (h : i < xs.length) : (((((((marksIngot k i ++ xs.drop i).flatMap encIngot).set (i * 5) (.string (mText (k + 5 * (i : Int))))).set (i * 5 + 1) (.int .i64 (k + 5 * (i : Int) + 1))).set (i * 5 + 2) (.int .i64 (k + 5 * (i : Int) + 1 + 1))).set (i * 5 + 3) (.int .i64 (k + 5 * (i : Int) + 1 + 1 + 1))).set (i * 5 + 4) (.int .i64 (k + 5 * (i : Int) + 1 + 1 + 1 + 1))) = (marksIngot k (i + 1) ++ xs.drop (i + 1)).flatMap encIngot := by
  have hl := flat_length (enc := encIngot) (sz := 5) (fun _ => rfl) (marksIngot k i)
  rw [marksIngot_length] at hl
  rw [marksIngot_succ, List.drop_eq_getElem_cons h, List.flatMap_append, List.flatMap_append, List.flatMap_append, List.flatMap_cons, List.flatMap_cons, List.flatMap_nil, List.append_nil, List.append_assoc]
  generalize (marksIngot k i).flatMap encIngot = A at *
  rw [← hl]
  generalize (xs.drop (i + 1)).flatMap encIngot = C
  unfold mkIngot encIngot
  simp
theorem storesIngot {w0 w : World} {g B T m c i : Nat} {cs : List Value} (v0 v1 v2 v3 v4 : Value) (h : w.ownsRow B T 5 (.slice (some ⟨g, 0, none⟩) m c) m cs) (hg : w0.grownBy w (some g)) :
    (((((w.setCell ⟨g, i * 5, none⟩ (v0)).setCell ⟨g, i * 5 + 1, none⟩ (v1)).setCell ⟨g, i * 5 + 2, none⟩ (v2)).setCell ⟨g, i * 5 + 3, none⟩ (v3)).setCell ⟨g, i * 5 + 4, none⟩ (v4)).ownsRow B T 5 (.slice (some ⟨g, 0, none⟩) m c) m (((((cs.set (i * 5) (v0)).set (i * 5 + 1) (v1)).set (i * 5 + 2) (v2)).set (i * 5 + 3) (v3)).set (i * 5 + 4) (v4)) ∧ w0.grownBy (((((w.setCell ⟨g, i * 5, none⟩ (v0)).setCell ⟨g, i * 5 + 1, none⟩ (v1)).setCell ⟨g, i * 5 + 2, none⟩ (v2)).setCell ⟨g, i * 5 + 3, none⟩ (v3)).setCell ⟨g, i * 5 + 4, none⟩ (v4)) (some g) := by
  have s0 := World.ownsRow.stored h (i * 5) v0
  have t0 := grown_trans hg s0.2
  have s1 := World.ownsRow.stored s0.1 (i * 5 + 1) v1
  have t1 := grown_trans t0 s1.2
  have s2 := World.ownsRow.stored s1.1 (i * 5 + 2) v2
  have t2 := grown_trans t1 s2.2
  have s3 := World.ownsRow.stored s2.1 (i * 5 + 3) v3
  have t3 := grown_trans t2 s3.2
  have s4 := World.ownsRow.stored s3.1 (i * 5 + 4) v4
  have t4 := grown_trans t3 s4.2
  exact ⟨s4.1, t4⟩
set_option maxRecDepth 100000 in
theorem lawsmarkIngotS (A : Option Addr) (c B : Nat) (xs : List IngotR) (k : Int) (w : World) (h : Own encIngot 5 126 w B (.slice A xs.length c) xs) (hn : xs.length ≤ 1048576) (k0 : 1 ≤ k) (k1 : k ≤ 100000000000) :
    Calls Try.prog 23 #[.slice A xs.length c, .int .i64 k] w fun e w' => e = .returned (.int .i64 (k + 5 * xs.length)) ∧ Own encIngot 5 126 w' B (.slice A xs.length c) (marksIngot k xs.length) ∧ w.grownBy w' (Value.slice A xs.length c).ownBlock := by
  have HX := hide h
  clear h
  go_enter Try.func23, Try.ntmps23
  go_wp2_with fail
  go_loopw [5, 1] (fun v q wr => ∃ i : Nat, v = .int .i64 i ∧ q = .int .i64 (k + 5 * i) ∧ i ≤ xs.length ∧ Hid (wr.ownsRow B 126 5 (.slice A xs.length c) xs.length ((marksIngot k i ++ xs.drop i).flatMap encIngot) ∧ w.grownBy wr (Value.slice A xs.length c).ownBlock)) (fun v _ _ => xs.length - (intOf v).toNat)
  case atStart => exact ⟨0, rfl, by simp, by omega, hide ⟨by have q : w.ownsRow B 126 5 (.slice A xs.length c) xs.length (xs.flatMap encIngot) := HX.out; simpa [marksIngot] using q, World.grownBy.refl _ _⟩⟩
  case round =>
    obtain ⟨i, rfl, rfl, hi, hR⟩ := hrel
    by_cases hlt : i < xs.length
    · obtain ⟨g, rfl, hg1, hg2⟩ := own_addr hR.out.1 (by omega)
      have hl := flat_length (enc := encIngot) (sz := 5) (fun _ => rfl) (marksIngot k i ++ xs.drop i)
      rw [List.length_append, marksIngot_length, List.length_drop, show i + (xs.length - i) = xs.length by omega] at hl
      obtain ⟨u0, hu0⟩ : ∃ u, wr.cell? ⟨g, i * 5, none⟩ = some u := ⟨_, (World.ownsRow.cellAt hR.out.1 (i * 5) (by omega)).trans (List.getElem?_eq_getElem (by omega))⟩
      have hf0 := World.ownsRow.frozenAt hR.out.1 (i * 5)
      obtain ⟨u1, hu1⟩ : ∃ u, wr.cell? ⟨g, i * 5 + 1, none⟩ = some u := ⟨_, (World.ownsRow.cellAt hR.out.1 (i * 5 + 1) (by omega)).trans (List.getElem?_eq_getElem (by omega))⟩
      have hf1 := World.ownsRow.frozenAt hR.out.1 (i * 5 + 1)
      obtain ⟨u2, hu2⟩ : ∃ u, wr.cell? ⟨g, i * 5 + 2, none⟩ = some u := ⟨_, (World.ownsRow.cellAt hR.out.1 (i * 5 + 2) (by omega)).trans (List.getElem?_eq_getElem (by omega))⟩
      have hf2 := World.ownsRow.frozenAt hR.out.1 (i * 5 + 2)
      obtain ⟨u3, hu3⟩ : ∃ u, wr.cell? ⟨g, i * 5 + 3, none⟩ = some u := ⟨_, (World.ownsRow.cellAt hR.out.1 (i * 5 + 3) (by omega)).trans (List.getElem?_eq_getElem (by omega))⟩
      have hf3 := World.ownsRow.frozenAt hR.out.1 (i * 5 + 3)
      obtain ⟨u4, hu4⟩ : ∃ u, wr.cell? ⟨g, i * 5 + 4, none⟩ = some u := ⟨_, (World.ownsRow.cellAt hR.out.1 (i * 5 + 4) (by omega)).trans (List.getElem?_eq_getElem (by omega))⟩
      have hf4 := World.ownsRow.frozenAt hR.out.1 (i * 5 + 4)
      clear hl
      go_wp2_with fail
      refine (lawsmarkText _ _ (by omega) (by omega)).mono ?_
      rintro e w1 ⟨rfl, hb1⟩
      have hv0 := (hb1.cell (p := ⟨g, i * 5, none⟩) hg2).trans hu0
      have hw0 := (hb1.frozen (p := ⟨g, i * 5, none⟩) hg2).trans hf0
      have hv1 := (hb1.cell (p := ⟨g, i * 5 + 1, none⟩) hg2).trans hu1
      have hw1 := (hb1.frozen (p := ⟨g, i * 5 + 1, none⟩) hg2).trans hf1
      have hv2 := (hb1.cell (p := ⟨g, i * 5 + 2, none⟩) hg2).trans hu2
      have hw2 := (hb1.frozen (p := ⟨g, i * 5 + 2, none⟩) hg2).trans hf2
      have hv3 := (hb1.cell (p := ⟨g, i * 5 + 3, none⟩) hg2).trans hu3
      have hw3 := (hb1.frozen (p := ⟨g, i * 5 + 3, none⟩) hg2).trans hf3
      have hv4 := (hb1.cell (p := ⟨g, i * 5 + 4, none⟩) hg2).trans hu4
      have hw4 := (hb1.frozen (p := ⟨g, i * 5 + 4, none⟩) hg2).trans hf4
      have hr1 := hide (hR.out.1.kept (grown_of_below hb1 none) (.inr (by simp [Value.ownBlock])))
      have hgr := hide (grown_trans hR.out.2 (grown_of_below hb1 _))
      clear hb1
      have q := storesIngot (i := i) (.string (mText (k + 5 * (i : Int)))) (.int .i64 (k + 5 * (i : Int) + 1)) (.int .i64 (k + 5 * (i : Int) + 1 + 1)) (.int .i64 (k + 5 * (i : Int) + 1 + 1 + 1)) (.int .i64 (k + 5 * (i : Int) + 1 + 1 + 1 + 1)) hr1.out hgr.out
      rw [set_markIngot hlt] at q
      have Q := hide q
      clear q
      go_wp2_with fail
      go_roundw
      case rel => exact ⟨i + 1, by go_num, by go_num, by omega, Q⟩
      case measure => simp [intOf]; omega
    · obtain rfl : i = xs.length := by omega
      have hR' := hR.out
      rw [List.drop_length, List.append_nil] at hR'
      have HN := hide hR'
      clear hR hR'
      go_wp2_with fail
      go_ret
      exact ⟨rfl, by have := HN.out.1; unfold Own; rwa [marksIngot_length], HN.out.2⟩
/-- A demand. -/
def vDem (d0 d1 d2 d3 d4 : Int) : Bool := inB d0 1 d1 && decide (d1 ≤ 320000000) && inB d2 0 d3 && decide (d3 ≤ 1000000) && inB d4 0 1000000
theorem vDem_true {d0 d1 d2 d3 d4 : Int} (h : vDem d0 d1 d2 d3 d4 = true) : (1 ≤ d0 ∧ d0 ≤ d1) ∧ d1 ≤ 320000000 ∧ (0 ≤ d2 ∧ d2 ≤ d3) ∧ d3 ≤ 1000000 ∧ 0 ≤ d4 ∧ d4 ≤ 1000000 := by
  unfold vDem at h
  simp only [Bool.and_eq_true, decide_eq_true_eq] at h
  exact ⟨inB_true h.1.1.1.1, h.1.1.1.2, inB_true h.1.1.2, h.1.2, inB_true h.2⟩
set_option maxRecDepth 100000 in
set_option maxHeartbeats 1000000 in
theorem implValidDemand (d0 d1 d2 d3 d4 : Int) (w : World) : Calls Try.prog 90 #[.agg #[.int .i64 d0, .int .i64 d1, .int .i64 d2, .int .i64 d3, .int .i64 d4]] w fun e w' => e = .returned (.bool (vDem d0 d1 d2 d3 d4)) ∧ Below w.heap.size w w' := by
  have e : Hid (vDem d0 d1 d2 d3 d4 = (inB d0 1 d1 && decide (d1 ≤ 320000000) && inB d2 0 d3 && decide (d3 ≤ 1000000) && inB d4 0 1000000)) := rfl
  cases h0 : inB d0 1 d1
  · go_enter Try.func90, Try.ntmps90
    go_wp2_with (first | (go_at_call 122; refine (implwithin_is _ _ _ _ (by assumption) _).mono ?_; rintro e w2 ⟨rfl, rfl⟩))
    go_ret
    exact ⟨ret_bool (by rw [e.out, h0]; rfl), (by repeat (first | with_reducible exact Below.refl _ _ | with_reducible assumption | (with_reducible refine Below.drew ?_) | (with_reducible refine below_drewN ?_ _) | ((with_reducible refine Below.alloc ?_ ?_ _); rotate_left; (focus (first | omega | (simp; omega) | simp))) | ((with_reducible refine Below.setCell ?_ ?_ _); rotate_left; (focus (first | omega | (simp; omega) | simp))) | (refine Below.trans ?_ (Below.mono (by assumption) (by first | omega | (simp; omega) | simp)))))⟩
  · by_cases h1 : d1 ≤ 320000000
    · cases h2 : inB d2 0 d3
      · go_enter Try.func90, Try.ntmps90
        go_wp2_with (first | (go_at_call 122; refine (implwithin_is _ _ _ _ (by assumption) _).mono ?_; rintro e w2 ⟨rfl, rfl⟩))
        go_ret
        exact ⟨ret_bool (by rw [e.out, h0, h2]; simp), (by repeat (first | with_reducible exact Below.refl _ _ | with_reducible assumption | (with_reducible refine Below.drew ?_) | (with_reducible refine below_drewN ?_ _) | ((with_reducible refine Below.alloc ?_ ?_ _); rotate_left; (focus (first | omega | (simp; omega) | simp))) | ((with_reducible refine Below.setCell ?_ ?_ _); rotate_left; (focus (first | omega | (simp; omega) | simp))) | (refine Below.trans ?_ (Below.mono (by assumption) (by first | omega | (simp; omega) | simp)))))⟩
      · by_cases h3 : d3 ≤ 1000000
        · go_enter Try.func90, Try.ntmps90
          go_wp2_with (first | (go_at_call 122; refine (implwithin_is _ _ _ _ (by assumption) _).mono ?_; rintro e w2 ⟨rfl, rfl⟩) | (go_at_call 157; refine (implisPart_any _ _).mono ?_; rintro e w2 ⟨rfl, rfl⟩))
          go_ret
          exact ⟨ret_bool (by rw [e.out, h0, h2]; simp [h1, h3]), (by repeat (first | with_reducible exact Below.refl _ _ | with_reducible assumption | (with_reducible refine Below.drew ?_) | (with_reducible refine below_drewN ?_ _) | ((with_reducible refine Below.alloc ?_ ?_ _); rotate_left; (focus (first | omega | (simp; omega) | simp))) | ((with_reducible refine Below.setCell ?_ ?_ _); rotate_left; (focus (first | omega | (simp; omega) | simp))) | (refine Below.trans ?_ (Below.mono (by assumption) (by first | omega | (simp; omega) | simp)))))⟩
        · go_enter Try.func90, Try.ntmps90
          go_wp2_with (first | (go_at_call 122; refine (implwithin_is _ _ _ _ (by assumption) _).mono ?_; rintro e w2 ⟨rfl, rfl⟩))
          go_ret
          exact ⟨ret_bool (by rw [e.out, h0, h2]; simp; omega), (by repeat (first | with_reducible exact Below.refl _ _ | with_reducible assumption | (with_reducible refine Below.drew ?_) | (with_reducible refine below_drewN ?_ _) | ((with_reducible refine Below.alloc ?_ ?_ _); rotate_left; (focus (first | omega | (simp; omega) | simp))) | ((with_reducible refine Below.setCell ?_ ?_ _); rotate_left; (focus (first | omega | (simp; omega) | simp))) | (refine Below.trans ?_ (Below.mono (by assumption) (by first | omega | (simp; omega) | simp)))))⟩
    · go_enter Try.func90, Try.ntmps90
      go_wp2_with (first | (go_at_call 122; refine (implwithin_is _ _ _ _ (by assumption) _).mono ?_; rintro e w2 ⟨rfl, rfl⟩))
      go_ret
      exact ⟨ret_bool (by rw [e.out, h0]; simp; omega), (by repeat (first | with_reducible exact Below.refl _ _ | with_reducible assumption | (with_reducible refine Below.drew ?_) | (with_reducible refine below_drewN ?_ _) | ((with_reducible refine Below.alloc ?_ ?_ _); rotate_left; (focus (first | omega | (simp; omega) | simp))) | ((with_reducible refine Below.setCell ?_ ?_ _); rotate_left; (focus (first | omega | (simp; omega) | simp))) | (refine Below.trans ?_ (Below.mono (by assumption) (by first | omega | (simp; omega) | simp)))))⟩
set_option maxRecDepth 100000 in
set_option maxHeartbeats 2000000 in
theorem specl13Demand (bl off : Nat) (d0 d1 d2 d3 d4 : Int) (w : World) (c0 : w.cell? ⟨bl, off, none⟩ = some (.int .i64 d0)) (c1 : w.cell? ⟨bl, off + 1, none⟩ = some (.int .i64 d1)) (c2 : w.cell? ⟨bl, off + 2, none⟩ = some (.int .i64 d2)) (c3 : w.cell? ⟨bl, off + 3, none⟩ = some (.int .i64 d3)) (c4 : w.cell? ⟨bl, off + 4, none⟩ = some (.int .i64 d4)) :
    Calls Try.prog 147 #[.pointer (some ⟨bl, off, none⟩)] w fun e w' => e = .returned (.bool (vDem d0 d1 d2 d3 d4)) ∧ Below w.heap.size w w' := by
  have hbl : bl < w.heap.size := World.block_lt_of_cell? w _ c0
  have e : Hid (vDem d0 d1 d2 d3 d4 = (inB d0 1 d1 && decide (d1 ≤ 320000000) && inB d2 0 d3 && decide (d3 ≤ 1000000) && inB d4 0 1000000)) := rfl
  cases h0 : inB d0 1 d1
  · go_enter Try.func147, Try.ntmps147
    go_wp2_with fail
    refine wp_region_kept (by kernel_rfl) (by kernel_rfl) ?_
    intro gc gf gz
    repeat (go_big_quiet_step ((go_at_call 96; exact Calls.kept_same (specl00In_is _ _ _ _ (by assumption) _))))
    refine wpQuiet_nil ?_
    intro w1 hw'
    obtain ⟨⟨_, hb1⟩, rfl⟩ := hw'
    clear gc gf gz
    try dsimp only
    have fs1 := hb1.size
    try simp at fs1 hb1
    go_wp2_with fail
    go_ret
    exact ⟨ret_bool (by rw [e.out, h0]; rfl), hb1⟩
  · by_cases h1 : d1 ≤ 320000000
    · have g1 : decide (d1 ≤ 320000000) = true := by simp [h1]
      clear h1
      cases h2 : inB d2 0 d3
      · go_enter Try.func147, Try.ntmps147
        go_wp2_with fail
        refine wp_region_kept (by kernel_rfl) (by kernel_rfl) ?_
        intro gc gf gz
        repeat (go_big_quiet_step ((go_at_call 96; exact Calls.kept_same (specl00In_is _ _ _ _ (by assumption) _))))
        refine wpQuiet_nil ?_
        intro w1 hw'
        obtain ⟨⟨_, hb1⟩, rfl⟩ := hw'
        clear gc gf gz
        try dsimp only
        have fs1 := hb1.size
        try simp at fs1 hb1
        go_wp2_with fail
        go_ret
        exact ⟨ret_bool (by rw [e.out, h0, h2]; simp), hb1⟩
      · by_cases h3 : d3 ≤ 1000000
        · have g3 : decide (d3 ≤ 1000000) = true := by simp [h3]
          clear h3
          generalize h4 : inB d4 0 1000000 = b4 at e
          go_enter Try.func147, Try.ntmps147
          go_wp2_with fail
          refine wp_region_kept (by kernel_rfl) (by kernel_rfl) ?_
          intro gc gf gz
          repeat (go_big_quiet_step ((go_at_call 96; exact Calls.kept_same (specl00In_is _ _ _ _ (by assumption) _))))
          refine wpQuiet_nil ?_
          intro w1 hw'
          obtain ⟨⟨_, hb1⟩, rfl⟩ := hw'
          clear gc gf gz
          try dsimp only
          have fs1 := hb1.size
          try simp at fs1 hb1
          go_wp2_with fail
          go_ret
          exact ⟨ret_bool (by rw [e.out, h0, h2, g1, g3]; rfl), hb1⟩
        · have g3 : decide (d3 ≤ 1000000) = false := by simp; omega
          clear h3
          go_enter Try.func147, Try.ntmps147
          go_wp2_with fail
          refine wp_region_kept (by kernel_rfl) (by kernel_rfl) ?_
          intro gc gf gz
          repeat (go_big_quiet_step ((go_at_call 96; exact Calls.kept_same (specl00In_is _ _ _ _ (by assumption) _))))
          refine wpQuiet_nil ?_
          intro w1 hw'
          obtain ⟨⟨_, hb1⟩, rfl⟩ := hw'
          clear gc gf gz
          try dsimp only
          have fs1 := hb1.size
          try simp at fs1 hb1
          go_wp2_with fail
          go_ret
          exact ⟨ret_bool (by rw [e.out, h0, h2, g3]; simp), hb1⟩
    · have g1 : decide (d1 ≤ 320000000) = false := by simp; omega
      clear h1
      go_enter Try.func147, Try.ntmps147
      go_wp2_with fail
      refine wp_region_kept (by kernel_rfl) (by kernel_rfl) ?_
      intro gc gf gz
      repeat (go_big_quiet_step ((go_at_call 96; exact Calls.kept_same (specl00In_is _ _ _ _ (by assumption) _))))
      refine wpQuiet_nil ?_
      intro w1 hw'
      obtain ⟨⟨_, hb1⟩, rfl⟩ := hw'
      clear gc gf gz
      try dsimp only
      have fs1 := hb1.size
      try simp at fs1 hb1
      go_wp2_with fail
      go_ret
      exact ⟨ret_bool (by rw [e.out, h0, g1]; simp), hb1⟩
end Go.Proofs.Ytjklhacffdhgaaa
