/- Rows of named elements in rising order, on both sides. -/
import Derived.Test.YtjklhacffdhgaaaSlice
import Derived.Deep.RegionWith
namespace Go.Proofs.Ytjklhacffdhgaaa
open Go.RowKit

theorem bytesLess_total : ∀ (x y : List UInt8), (!Op.bytesLess y x) = (Op.bytesLess x y || x == y) := by
  intro x
  induction x with
  | nil => intro y; cases y <;> simp [Op.bytesLess]
  | cons a x ih =>
    intro y
    cases y with
    | nil => simp [Op.bytesLess]
    | cons b y =>
      have h := ih y
      simp only [Op.bytesLess]
      have ht : a < b ∨ a = b ∨ b < a := by
        rcases Nat.lt_trichotomy a.toNat b.toNat with h | h | h
        · exact .inl (UInt8.lt_iff_toNat_lt.2 h)
        · exact .inr (.inl (UInt8.toNat_inj.1 h))
        · exact .inr (.inr (UInt8.lt_iff_toNat_lt.2 h))
      rcases ht with h1 | h1 | h1
      · have h2 : ¬ b < a := fun h => absurd (UInt8.lt_trans h1 h) (UInt8.lt_irrefl _)
        have h3 : b ≠ a := by rintro rfl; exact UInt8.lt_irrefl _ h1
        simp [h1, h2, h3]
      · subst h1
        simp [UInt8.lt_irrefl, h]
      · have h2 : ¬ a < b := fun h => absurd (UInt8.lt_trans h1 h) (UInt8.lt_irrefl _)
        have h3 : b ≠ a := by rintro rfl; exact UInt8.lt_irrefl _ h1
        simp [h1, h2, Ne.symm h3]

/-- One text is not behind another. -/
def sle (a b : ByteArray) : Bool := Op.bytesLess a.toList b.toList || a.toList == b.toList

/-- What makes a row of named elements invalid at a place. -/
def badAt {α : Type} (v : α → Bool) (nm : α → ByteArray) (xs : List α) (k : Nat) : Prop := ∃ h : k < xs.length, v xs[k] = false ∨ ∃ _ : 0 < k, sle (nm xs[k]) (nm (xs[k - 1]'(by omega))) = true
noncomputable def rowsB {α : Type} (v : α → Bool) (nm : α → ByteArray) (N : Nat) (xs : List α) : Bool := @decide ((∀ k, ¬ badAt v nm xs k) ∧ xs.length ≤ N) (Classical.propDecidable _)
theorem rowsB_bad {α : Type} {v : α → Bool} {nm : α → ByteArray} {N : Nat} {xs : List α} (k : Nat) (h : badAt v nm xs k) : rowsB v nm N xs = false := by
  unfold rowsB; exact @decide_eq_false _ (Classical.propDecidable _) fun a => a.1 k h
theorem rowsB_fin {α : Type} {v : α → Bool} {nm : α → ByteArray} {N : Nat} {xs : List α} (h : ∀ k, k < xs.length → ¬ badAt v nm xs k) : rowsB v nm N xs = decide ((xs.length : Int) ≤ N) := by
  have h' : ∀ k, ¬ badAt v nm xs k := fun k hb => h k hb.1 hb
  unfold rowsB
  by_cases hl : xs.length ≤ N
  · rw [@decide_eq_true _ (Classical.propDecidable _) ⟨h', hl⟩, decide_eq_true (by exact_mod_cast hl)]
  · rw [@decide_eq_false _ (Classical.propDecidable _) fun a => hl a.2, decide_eq_false (by omega)]

theorem badAt_not {α : Type} {v : α → Bool} {nm : α → ByteArray} {xs : List α} {k : Nat} {p x : α} (hk : k < xs.length) (hx : xs[k] = x) (hp : (h : 0 < k) → xs[k - 1]'(by omega) = p) (h1 : v x = true) (h2 : 0 < k → sle (nm x) (nm p) = false) : ¬ badAt v nm xs k := by
  rintro ⟨h, a | ⟨h0, a⟩⟩
  · rw [hx, h1] at a; cases a
  · rw [hx, hp h0, h2 h0] at a; cases a
theorem badAt_v {α : Type} {v : α → Bool} {nm : α → ByteArray} {xs : List α} {k : Nat} {x : α} (hk : k < xs.length) (hx : xs[k] = x) (h1 : v x = false) : badAt v nm xs k := ⟨hk, .inl (by rw [hx]; exact h1)⟩
theorem badAt_n {α : Type} {v : α → Bool} {nm : α → ByteArray} {xs : List α} {k : Nat} {p x : α} (hk : k < xs.length) (h0 : 0 < k) (hx : xs[k] = x) (hp : xs[k - 1]'(by omega) = p) (h1 : sle (nm x) (nm p) = true) : badAt v nm xs k := ⟨hk, .inr ⟨h0, by rw [hx, hp]; exact h1⟩⟩
theorem bad_step {α : Type} {v : α → Bool} {nm : α → ByteArray} {xs : List α} {k : Nat} (h : Hid (∀ j, j < k → ¬ badAt v nm xs j)) (hk : ¬ badAt v nm xs k) : Hid (∀ j, j < k + 1 → ¬ badAt v nm xs j) := fun j hj => by
  by_cases e : j = k
  · subst e; exact hk
  · exact h.out j (by omega)

abbrev vSwingR (x : SwingR) : Bool := vSwing x.nm x.rate x.force
set_option maxRecDepth 100000 in
theorem implValidSwings (A : Option Addr) (c : Nat) (xs : List SwingR) (w : World) (h : SlAt encSwing 3 w A xs) (hn : xs.length ≤ 1048576) (hs : ∀ x ∈ xs, x.nm.size ≤ maxLen) :
    Calls Try.prog 101 #[.slice A xs.length c] w fun e w' => e = .returned (.bool (rowsB vSwingR SwingR.nm 16 xs)) ∧ Below w.heap.size w w' := by
  have HX := hide h
  have HS := hide hs
  clear h hs
  go_enter Try.func101, Try.ntmps101
  go_wp2_with fail
  go_loopw [7, 3, 4] (fun v _ _ wr => ∃ k : Nat, v = .int .i64 k ∧ k ≤ xs.length ∧ Below w.heap.size w wr ∧ Hid (∀ j, j < k → ¬ badAt vSwingR SwingR.nm xs j)) (fun v _ _ _ => xs.length - (intOf v).toNat)
  case atStart => exact ⟨0, rfl, by omega, (by repeat (first | with_reducible exact Below.refl _ _ | with_reducible assumption | (with_reducible refine Below.drew ?_) | (with_reducible refine below_drewN ?_ _) | ((with_reducible refine Below.alloc ?_ ?_ _); rotate_left; (focus (first | omega | (simp; omega) | simp))) | ((with_reducible refine Below.setCell ?_ ?_ _); rotate_left; (focus (first | omega | (simp; omega) | simp))) | (refine Below.trans ?_ (Below.mono (by assumption) (by first | omega | (simp; omega) | simp))))), hide fun j hj => by omega⟩
  case round =>
    obtain ⟨k, rfl, hk, hb, hj⟩ := hrel
    by_cases hlt : k < xs.length
    · have hS := HX.out.below hb
      obtain ⟨b, off, rfl, hbl, hc⟩ := hS k hlt
      have hc0 := hc 0 _ rfl
      have hc1 := hc 1 _ rfl
      have hc2 := hc 2 _ rfl
      simp only [Nat.add_zero] at hc0
      have hsz := HS.out xs[k] (List.getElem_mem hlt)
      have hP : ∀ h : 0 < k, wr.cell? ⟨b, off + (k - 1) * 3, none⟩ = some (.string (xs[k - 1]'(by omega)).nm) := fun h => by
        obtain ⟨b2, off2, e2, _, hc2⟩ := hS (k - 1) (by omega)
        injection e2 with e2
        injection e2 with e3 e4
        subst e3; subst e4
        simpa using hc2 0 _ rfl
      have HP := hide hP
      have hz := hb.size
      clear hc hS hP
      generalize hx : xs[k] = x at *
      obtain ⟨x0, x1, x2⟩ := x
      simp only at hc0 hc1 hc2 hsz
      have Hx := hide hx
      clear hx
      cases hv : vSwing x0 x1 x2
      · have e : Hid (rowsB vSwingR SwingR.nm 16 xs = false) := rowsB_bad k (badAt_v hlt Hx.out hv)
        go_wp2_with fail
        refine wp_region_kept (by kernel_rfl) (by kernel_rfl) ?_
        intro gc gf gz
        repeat (go_big_quiet_step ((go_at_call 117; exact Calls.kept (implvalidSwing x0 x1 x2 _ hsz))))
        refine wpQuiet_nil ?_
        intro w1 hw'
        obtain ⟨⟨_, hb1⟩, rfl⟩ := hw'
        clear gc gf gz
        try dsimp only
        have fs1 := hb1.size
        try simp at fs1 hb1
        go_wp2_with fail
        go_ret
        exact ⟨ret_bool e.out.symm, (by repeat (first | with_reducible exact Below.refl _ _ | with_reducible assumption | (with_reducible refine Below.drew ?_) | (with_reducible refine below_drewN ?_ _) | ((with_reducible refine Below.alloc ?_ ?_ _); rotate_left; (focus (first | omega | (simp; omega) | simp))) | ((with_reducible refine Below.setCell ?_ ?_ _); rotate_left; (focus (first | omega | (simp; omega) | simp))) | (refine Below.trans ?_ (Below.mono (by assumption) (by first | omega | (simp; omega) | simp)))))⟩
      · by_cases h0 : k = 0
        · have hj2 := bad_step hj (badAt_not (p := ⟨x0, x1, x2⟩) hlt Hx.out (fun h => by omega) hv (fun h => by omega))
          have d0 : decide (0 < k) = false := by simp; omega
          clear h0
          go_wp2_with fail
          refine wp_region_kept (by kernel_rfl) (by kernel_rfl) ?_
          intro gc gf gz
          repeat (go_big_quiet_step ((go_at_call 117; exact Calls.kept (implvalidSwing x0 x1 x2 _ hsz))))
          refine wpQuiet_nil ?_
          intro w1 hw'
          obtain ⟨⟨_, hb1⟩, rfl⟩ := hw'
          clear gc gf gz
          try dsimp only
          have fs1 := hb1.size
          try simp at fs1 hb1
          go_wp2_with fail
          go_roundw
          case rel => exact ⟨k + 1, by go_num, by omega, (by repeat (first | with_reducible exact Below.refl _ _ | with_reducible assumption | (with_reducible refine Below.drew ?_) | (with_reducible refine below_drewN ?_ _) | ((with_reducible refine Below.alloc ?_ ?_ _); rotate_left; (focus (first | omega | (simp; omega) | simp))) | ((with_reducible refine Below.setCell ?_ ?_ _); rotate_left; (focus (first | omega | (simp; omega) | simp))) | (refine Below.trans ?_ (Below.mono (by assumption) (by first | omega | (simp; omega) | simp))))), hj2⟩
          case measure => simp [intOf]; omega
        · have h1 : 0 < k := by omega
          have d0 : decide (0 < k) = true := by simp; omega
          have hp0 := HP.out h1
          generalize hp : (xs[k - 1]'(by omega)).nm = p at hp0
          have Hp := hide hp
          clear hp h0
          cases hc : sle x0 p
          · have hj2 := bad_step hj (badAt_not (p := xs[k - 1]'(by omega)) hlt Hx.out (fun h => rfl) hv (fun h => by rw [Hp.out]; exact hc))
            have t1 : (Op.bytesLess x0.toList p.toList || x0.toList == p.toList) = false := hc
            have t2 : (!Op.bytesLess p.toList x0.toList) = false := by rw [bytesLess_total]; exact hc
            have T := hide hc
            clear hc
            go_wp2_with fail
            refine wp_region_kept (by kernel_rfl) (by kernel_rfl) ?_
            intro gc gf gz
            repeat (go_big_quiet_step ((go_at_call 117; exact Calls.kept (implvalidSwing x0 x1 x2 _ hsz))))
            refine wpQuiet_nil ?_
            intro w1 hw'
            obtain ⟨⟨_, hb1⟩, rfl⟩ := hw'
            clear gc gf gz
            try dsimp only
            have fs1 := hb1.size
            try simp at fs1 hb1
            go_wp2_with fail
            go_roundw
            case rel => exact ⟨k + 1, by go_num, by omega, (by repeat (first | with_reducible exact Below.refl _ _ | with_reducible assumption | (with_reducible refine Below.drew ?_) | (with_reducible refine below_drewN ?_ _) | ((with_reducible refine Below.alloc ?_ ?_ _); rotate_left; (focus (first | omega | (simp; omega) | simp))) | ((with_reducible refine Below.setCell ?_ ?_ _); rotate_left; (focus (first | omega | (simp; omega) | simp))) | (refine Below.trans ?_ (Below.mono (by assumption) (by first | omega | (simp; omega) | simp))))), hj2⟩
            case measure => simp [intOf]; omega
          · have e : Hid (rowsB vSwingR SwingR.nm 16 xs = false) := rowsB_bad k (badAt_n (p := xs[k - 1]'(by omega)) hlt h1 Hx.out rfl (by rw [Hp.out]; exact hc))
            have t1 : (Op.bytesLess x0.toList p.toList || x0.toList == p.toList) = true := hc
            have t2 : (!Op.bytesLess p.toList x0.toList) = true := by rw [bytesLess_total]; exact hc
            have T := hide hc
            clear hc
            go_wp2_with fail
            refine wp_region_kept (by kernel_rfl) (by kernel_rfl) ?_
            intro gc gf gz
            repeat (go_big_quiet_step ((go_at_call 117; exact Calls.kept (implvalidSwing x0 x1 x2 _ hsz))))
            refine wpQuiet_nil ?_
            intro w1 hw'
            obtain ⟨⟨_, hb1⟩, rfl⟩ := hw'
            clear gc gf gz
            try dsimp only
            have fs1 := hb1.size
            try simp at fs1 hb1
            go_wp2_with fail
            go_ret
            exact ⟨ret_bool e.out.symm, (by repeat (first | with_reducible exact Below.refl _ _ | with_reducible assumption | (with_reducible refine Below.drew ?_) | (with_reducible refine below_drewN ?_ _) | ((with_reducible refine Below.alloc ?_ ?_ _); rotate_left; (focus (first | omega | (simp; omega) | simp))) | ((with_reducible refine Below.setCell ?_ ?_ _); rotate_left; (focus (first | omega | (simp; omega) | simp))) | (refine Below.trans ?_ (Below.mono (by assumption) (by first | omega | (simp; omega) | simp)))))⟩
    · have e : Hid (rowsB vSwingR SwingR.nm 16 xs = decide ((xs.length : Int) ≤ 16)) := rowsB_fin fun j h => hj.out j (by omega)
      go_wp2_with fail
      go_ret
      exact ⟨ret_bool e.out.symm, hb⟩
set_option maxRecDepth 100000 in
theorem specl22Ok (A : Option Addr) (c : Nat) (xs : List SwingR) (w : World) (h : SlAt encSwing 3 w A xs) (hn : xs.length ≤ 1048576) (hs : ∀ x ∈ xs, x.nm.size ≤ maxLen) :
    Calls Try.prog 95 #[.slice A xs.length c] w fun e w' => e = .returned (.bool (rowsB vSwingR SwingR.nm 16 xs)) ∧ Below w.heap.size w w' := by
  have HX := hide h
  have HS := hide hs
  clear h hs
  go_enter Try.func95, Try.ntmps95
  go_wp2_with fail
  go_loopw [3] (fun v wr => ∃ k : Nat, v = .int .i64 k ∧ k ≤ xs.length ∧ Below w.heap.size w wr ∧ Hid (∀ j, j < k → ¬ badAt vSwingR SwingR.nm xs j)) (fun v _ => xs.length - (intOf v).toNat)
  case atStart => exact ⟨0, rfl, by omega, (by repeat (first | with_reducible exact Below.refl _ _ | with_reducible assumption | (with_reducible refine Below.drew ?_) | (with_reducible refine below_drewN ?_ _) | ((with_reducible refine Below.alloc ?_ ?_ _); rotate_left; (focus (first | omega | (simp; omega) | simp))) | ((with_reducible refine Below.setCell ?_ ?_ _); rotate_left; (focus (first | omega | (simp; omega) | simp))) | (refine Below.trans ?_ (Below.mono (by assumption) (by first | omega | (simp; omega) | simp))))), hide fun j hj => by omega⟩
  case round =>
    obtain ⟨k, rfl, hk, hb, hj⟩ := hrel
    by_cases hlt : k < xs.length
    · have hS := HX.out.below hb
      obtain ⟨b, off, rfl, hbl, hc⟩ := hS k hlt
      have hc0 := hc 0 _ rfl
      have hc1 := hc 1 _ rfl
      have hc2 := hc 2 _ rfl
      simp only [Nat.add_zero] at hc0
      have hsz := HS.out xs[k] (List.getElem_mem hlt)
      have hP : ∀ h : 0 < k, wr.cell? ⟨b, off + (k - 1) * 3, none⟩ = some (.string (xs[k - 1]'(by omega)).nm) := fun h => by
        obtain ⟨b2, off2, e2, _, hc2⟩ := hS (k - 1) (by omega)
        injection e2 with e2
        injection e2 with e3 e4
        subst e3; subst e4
        simpa using hc2 0 _ rfl
      have HP := hide hP
      have hz := hb.size
      clear hc hS hP
      generalize hx : xs[k] = x at *
      obtain ⟨x0, x1, x2⟩ := x
      simp only at hc0 hc1 hc2 hsz
      have Hx := hide hx
      clear hx
      cases hv : vSwing x0 x1 x2
      · have e : Hid (rowsB vSwingR SwingR.nm 16 xs = false) := rowsB_bad k (badAt_v hlt Hx.out hv)
        go_wp2_with fail
        refine wp_region_kept (by kernel_rfl) (by kernel_rfl) ?_
        intro gc gf gz
        repeat (go_big_quiet_step ((go_at_call 161; exact Calls.kept_same (specl22One b (off + k * 3) x0 x1 x2 _ hsz (by go_simp) (by go_simp) (by go_simp)))))
        refine wpQuiet_nil ?_
        intro w1 hw'
        obtain ⟨⟨_, hb1⟩, rfl⟩ := hw'
        clear gc gf gz
        try dsimp only
        have fs1 := hb1.size
        try simp at fs1 hb1
        go_wp2_with fail
        go_ret
        exact ⟨ret_bool e.out.symm, (by repeat (first | with_reducible exact Below.refl _ _ | with_reducible assumption | (with_reducible refine Below.drew ?_) | (with_reducible refine below_drewN ?_ _) | ((with_reducible refine Below.alloc ?_ ?_ _); rotate_left; (focus (first | omega | (simp; omega) | simp))) | ((with_reducible refine Below.setCell ?_ ?_ _); rotate_left; (focus (first | omega | (simp; omega) | simp))) | (refine Below.trans ?_ (Below.mono (by assumption) (by first | omega | (simp; omega) | simp)))))⟩
      · by_cases h0 : k = 0
        · have hj2 := bad_step hj (badAt_not (p := ⟨x0, x1, x2⟩) hlt Hx.out (fun h => by omega) hv (fun h => by omega))
          have d0 : decide (0 < k) = false := by simp; omega
          clear h0
          go_wp2_with fail
          refine wp_region_kept (by kernel_rfl) (by kernel_rfl) ?_
          intro gc gf gz
          repeat (go_big_quiet_step ((go_at_call 161; exact Calls.kept_same (specl22One b (off + k * 3) x0 x1 x2 _ hsz (by go_simp) (by go_simp) (by go_simp)))))
          refine wpQuiet_nil ?_
          intro w1 hw'
          obtain ⟨⟨_, hb1⟩, rfl⟩ := hw'
          clear gc gf gz
          try dsimp only
          have fs1 := hb1.size
          try simp at fs1 hb1
          go_wp2_with fail
          go_roundw
          case rel => exact ⟨k + 1, by go_num, by omega, (by repeat (first | with_reducible exact Below.refl _ _ | with_reducible assumption | (with_reducible refine Below.drew ?_) | (with_reducible refine below_drewN ?_ _) | ((with_reducible refine Below.alloc ?_ ?_ _); rotate_left; (focus (first | omega | (simp; omega) | simp))) | ((with_reducible refine Below.setCell ?_ ?_ _); rotate_left; (focus (first | omega | (simp; omega) | simp))) | (refine Below.trans ?_ (Below.mono (by assumption) (by first | omega | (simp; omega) | simp))))), hj2⟩
          case measure => simp [intOf]; omega
        · have h1 : 0 < k := by omega
          have d0 : decide (0 < k) = true := by simp; omega
          have hp0 := HP.out h1
          generalize hp : (xs[k - 1]'(by omega)).nm = p at hp0
          have Hp := hide hp
          clear hp h0
          cases hc : sle x0 p
          · have hj2 := bad_step hj (badAt_not (p := xs[k - 1]'(by omega)) hlt Hx.out (fun h => rfl) hv (fun h => by rw [Hp.out]; exact hc))
            have t1 : (Op.bytesLess x0.toList p.toList || x0.toList == p.toList) = false := hc
            have t2 : (!Op.bytesLess p.toList x0.toList) = false := by rw [bytesLess_total]; exact hc
            have T := hide hc
            clear hc
            go_wp2_with fail
            refine wp_region_kept (by kernel_rfl) (by kernel_rfl) ?_
            intro gc gf gz
            repeat (go_big_quiet_step ((go_at_call 161; exact Calls.kept_same (specl22One b (off + k * 3) x0 x1 x2 _ hsz (by go_simp) (by go_simp) (by go_simp)))))
            refine wpQuiet_nil ?_
            intro w1 hw'
            obtain ⟨⟨_, hb1⟩, rfl⟩ := hw'
            clear gc gf gz
            try dsimp only
            have fs1 := hb1.size
            try simp at fs1 hb1
            go_wp2_with fail
            go_roundw
            case rel => exact ⟨k + 1, by go_num, by omega, (by repeat (first | with_reducible exact Below.refl _ _ | with_reducible assumption | (with_reducible refine Below.drew ?_) | (with_reducible refine below_drewN ?_ _) | ((with_reducible refine Below.alloc ?_ ?_ _); rotate_left; (focus (first | omega | (simp; omega) | simp))) | ((with_reducible refine Below.setCell ?_ ?_ _); rotate_left; (focus (first | omega | (simp; omega) | simp))) | (refine Below.trans ?_ (Below.mono (by assumption) (by first | omega | (simp; omega) | simp))))), hj2⟩
            case measure => simp [intOf]; omega
          · have e : Hid (rowsB vSwingR SwingR.nm 16 xs = false) := rowsB_bad k (badAt_n (p := xs[k - 1]'(by omega)) hlt h1 Hx.out rfl (by rw [Hp.out]; exact hc))
            have t1 : (Op.bytesLess x0.toList p.toList || x0.toList == p.toList) = true := hc
            have t2 : (!Op.bytesLess p.toList x0.toList) = true := by rw [bytesLess_total]; exact hc
            have T := hide hc
            clear hc
            go_wp2_with fail
            refine wp_region_kept (by kernel_rfl) (by kernel_rfl) ?_
            intro gc gf gz
            repeat (go_big_quiet_step ((go_at_call 161; exact Calls.kept_same (specl22One b (off + k * 3) x0 x1 x2 _ hsz (by go_simp) (by go_simp) (by go_simp)))))
            refine wpQuiet_nil ?_
            intro w1 hw'
            obtain ⟨⟨_, hb1⟩, rfl⟩ := hw'
            clear gc gf gz
            try dsimp only
            have fs1 := hb1.size
            try simp at fs1 hb1
            go_wp2_with fail
            go_ret
            exact ⟨ret_bool e.out.symm, (by repeat (first | with_reducible exact Below.refl _ _ | with_reducible assumption | (with_reducible refine Below.drew ?_) | (with_reducible refine below_drewN ?_ _) | ((with_reducible refine Below.alloc ?_ ?_ _); rotate_left; (focus (first | omega | (simp; omega) | simp))) | ((with_reducible refine Below.setCell ?_ ?_ _); rotate_left; (focus (first | omega | (simp; omega) | simp))) | (refine Below.trans ?_ (Below.mono (by assumption) (by first | omega | (simp; omega) | simp)))))⟩
    · have e : Hid (rowsB vSwingR SwingR.nm 16 xs = decide ((xs.length : Int) ≤ 16)) := rowsB_fin fun j h => hj.out j (by omega)
      go_wp2_with fail
      go_ret
      exact ⟨ret_bool e.out.symm, hb⟩
abbrev vPlaceR (x : PlaceR) : Bool := vPlace x.nm x.x x.y x.z x.r
set_option maxRecDepth 100000 in
theorem implValidPlaces (A : Option Addr) (c : Nat) (xs : List PlaceR) (w : World) (h : SlAt encPlace 5 w A xs) (hn : xs.length ≤ 1048576) (hs : ∀ x ∈ xs, x.nm.size ≤ maxLen) :
    Calls Try.prog 134 #[.slice A xs.length c] w fun e w' => e = .returned (.bool (rowsB vPlaceR PlaceR.nm 24 xs)) ∧ Below w.heap.size w w' := by
  have HX := hide h
  have HS := hide hs
  clear h hs
  go_enter Try.func134, Try.ntmps134
  go_wp2_with fail
  go_loopw [7, 3, 4] (fun v _ _ wr => ∃ k : Nat, v = .int .i64 k ∧ k ≤ xs.length ∧ Below w.heap.size w wr ∧ Hid (∀ j, j < k → ¬ badAt vPlaceR PlaceR.nm xs j)) (fun v _ _ _ => xs.length - (intOf v).toNat)
  case atStart => exact ⟨0, rfl, by omega, (by repeat (first | with_reducible exact Below.refl _ _ | with_reducible assumption | (with_reducible refine Below.drew ?_) | (with_reducible refine below_drewN ?_ _) | ((with_reducible refine Below.alloc ?_ ?_ _); rotate_left; (focus (first | omega | (simp; omega) | simp))) | ((with_reducible refine Below.setCell ?_ ?_ _); rotate_left; (focus (first | omega | (simp; omega) | simp))) | (refine Below.trans ?_ (Below.mono (by assumption) (by first | omega | (simp; omega) | simp))))), hide fun j hj => by omega⟩
  case round =>
    obtain ⟨k, rfl, hk, hb, hj⟩ := hrel
    by_cases hlt : k < xs.length
    · have hS := HX.out.below hb
      obtain ⟨b, off, rfl, hbl, hc⟩ := hS k hlt
      have hc0 := hc 0 _ rfl
      have hc1 := hc 1 _ rfl
      have hc2 := hc 2 _ rfl
      have hc3 := hc 3 _ rfl
      have hc4 := hc 4 _ rfl
      simp only [Nat.add_zero] at hc0
      have hsz := HS.out xs[k] (List.getElem_mem hlt)
      have hP : ∀ h : 0 < k, wr.cell? ⟨b, off + (k - 1) * 5, none⟩ = some (.string (xs[k - 1]'(by omega)).nm) := fun h => by
        obtain ⟨b2, off2, e2, _, hc2⟩ := hS (k - 1) (by omega)
        injection e2 with e2
        injection e2 with e3 e4
        subst e3; subst e4
        simpa using hc2 0 _ rfl
      have HP := hide hP
      have hz := hb.size
      clear hc hS hP
      generalize hx : xs[k] = x at *
      obtain ⟨x0, x1, x2, x3, x4⟩ := x
      simp only at hc0 hc1 hc2 hc3 hc4 hsz
      have Hx := hide hx
      clear hx
      cases hv : vPlace x0 x1 x2 x3 x4
      · have e : Hid (rowsB vPlaceR PlaceR.nm 24 xs = false) := rowsB_bad k (badAt_v hlt Hx.out hv)
        go_wp2_with fail
        refine wp_region_kept (by kernel_rfl) (by kernel_rfl) ?_
        intro gc gf gz
        repeat (go_big_quiet_step ((go_at_call 132; exact Calls.kept (implvalidPlace x0 x1 x2 x3 x4 _ hsz))))
        refine wpQuiet_nil ?_
        intro w1 hw'
        obtain ⟨⟨_, hb1⟩, rfl⟩ := hw'
        clear gc gf gz
        try dsimp only
        have fs1 := hb1.size
        try simp at fs1 hb1
        go_wp2_with fail
        go_ret
        exact ⟨ret_bool e.out.symm, (by repeat (first | with_reducible exact Below.refl _ _ | with_reducible assumption | (with_reducible refine Below.drew ?_) | (with_reducible refine below_drewN ?_ _) | ((with_reducible refine Below.alloc ?_ ?_ _); rotate_left; (focus (first | omega | (simp; omega) | simp))) | ((with_reducible refine Below.setCell ?_ ?_ _); rotate_left; (focus (first | omega | (simp; omega) | simp))) | (refine Below.trans ?_ (Below.mono (by assumption) (by first | omega | (simp; omega) | simp)))))⟩
      · by_cases h0 : k = 0
        · have hj2 := bad_step hj (badAt_not (p := ⟨x0, x1, x2, x3, x4⟩) hlt Hx.out (fun h => by omega) hv (fun h => by omega))
          have d0 : decide (0 < k) = false := by simp; omega
          clear h0
          go_wp2_with fail
          refine wp_region_kept (by kernel_rfl) (by kernel_rfl) ?_
          intro gc gf gz
          repeat (go_big_quiet_step ((go_at_call 132; exact Calls.kept (implvalidPlace x0 x1 x2 x3 x4 _ hsz))))
          refine wpQuiet_nil ?_
          intro w1 hw'
          obtain ⟨⟨_, hb1⟩, rfl⟩ := hw'
          clear gc gf gz
          try dsimp only
          have fs1 := hb1.size
          try simp at fs1 hb1
          go_wp2_with fail
          go_roundw
          case rel => exact ⟨k + 1, by go_num, by omega, (by repeat (first | with_reducible exact Below.refl _ _ | with_reducible assumption | (with_reducible refine Below.drew ?_) | (with_reducible refine below_drewN ?_ _) | ((with_reducible refine Below.alloc ?_ ?_ _); rotate_left; (focus (first | omega | (simp; omega) | simp))) | ((with_reducible refine Below.setCell ?_ ?_ _); rotate_left; (focus (first | omega | (simp; omega) | simp))) | (refine Below.trans ?_ (Below.mono (by assumption) (by first | omega | (simp; omega) | simp))))), hj2⟩
          case measure => simp [intOf]; omega
        · have h1 : 0 < k := by omega
          have d0 : decide (0 < k) = true := by simp; omega
          have hp0 := HP.out h1
          generalize hp : (xs[k - 1]'(by omega)).nm = p at hp0
          have Hp := hide hp
          clear hp h0
          cases hc : sle x0 p
          · have hj2 := bad_step hj (badAt_not (p := xs[k - 1]'(by omega)) hlt Hx.out (fun h => rfl) hv (fun h => by rw [Hp.out]; exact hc))
            have t1 : (Op.bytesLess x0.toList p.toList || x0.toList == p.toList) = false := hc
            have t2 : (!Op.bytesLess p.toList x0.toList) = false := by rw [bytesLess_total]; exact hc
            have T := hide hc
            clear hc
            go_wp2_with fail
            refine wp_region_kept (by kernel_rfl) (by kernel_rfl) ?_
            intro gc gf gz
            repeat (go_big_quiet_step ((go_at_call 132; exact Calls.kept (implvalidPlace x0 x1 x2 x3 x4 _ hsz))))
            refine wpQuiet_nil ?_
            intro w1 hw'
            obtain ⟨⟨_, hb1⟩, rfl⟩ := hw'
            clear gc gf gz
            try dsimp only
            have fs1 := hb1.size
            try simp at fs1 hb1
            go_wp2_with fail
            go_roundw
            case rel => exact ⟨k + 1, by go_num, by omega, (by repeat (first | with_reducible exact Below.refl _ _ | with_reducible assumption | (with_reducible refine Below.drew ?_) | (with_reducible refine below_drewN ?_ _) | ((with_reducible refine Below.alloc ?_ ?_ _); rotate_left; (focus (first | omega | (simp; omega) | simp))) | ((with_reducible refine Below.setCell ?_ ?_ _); rotate_left; (focus (first | omega | (simp; omega) | simp))) | (refine Below.trans ?_ (Below.mono (by assumption) (by first | omega | (simp; omega) | simp))))), hj2⟩
            case measure => simp [intOf]; omega
          · have e : Hid (rowsB vPlaceR PlaceR.nm 24 xs = false) := rowsB_bad k (badAt_n (p := xs[k - 1]'(by omega)) hlt h1 Hx.out rfl (by rw [Hp.out]; exact hc))
            have t1 : (Op.bytesLess x0.toList p.toList || x0.toList == p.toList) = true := hc
            have t2 : (!Op.bytesLess p.toList x0.toList) = true := by rw [bytesLess_total]; exact hc
            have T := hide hc
            clear hc
            go_wp2_with fail
            refine wp_region_kept (by kernel_rfl) (by kernel_rfl) ?_
            intro gc gf gz
            repeat (go_big_quiet_step ((go_at_call 132; exact Calls.kept (implvalidPlace x0 x1 x2 x3 x4 _ hsz))))
            refine wpQuiet_nil ?_
            intro w1 hw'
            obtain ⟨⟨_, hb1⟩, rfl⟩ := hw'
            clear gc gf gz
            try dsimp only
            have fs1 := hb1.size
            try simp at fs1 hb1
            go_wp2_with fail
            go_ret
            exact ⟨ret_bool e.out.symm, (by repeat (first | with_reducible exact Below.refl _ _ | with_reducible assumption | (with_reducible refine Below.drew ?_) | (with_reducible refine below_drewN ?_ _) | ((with_reducible refine Below.alloc ?_ ?_ _); rotate_left; (focus (first | omega | (simp; omega) | simp))) | ((with_reducible refine Below.setCell ?_ ?_ _); rotate_left; (focus (first | omega | (simp; omega) | simp))) | (refine Below.trans ?_ (Below.mono (by assumption) (by first | omega | (simp; omega) | simp)))))⟩
    · have e : Hid (rowsB vPlaceR PlaceR.nm 24 xs = decide ((xs.length : Int) ≤ 24)) := rowsB_fin fun j h => hj.out j (by omega)
      go_wp2_with fail
      go_ret
      exact ⟨ret_bool e.out.symm, hb⟩
end Go.Proofs.Ytjklhacffdhgaaa
