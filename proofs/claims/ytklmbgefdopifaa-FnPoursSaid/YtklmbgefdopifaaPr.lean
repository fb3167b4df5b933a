/- Contracts: pours and crucibles: copies, counts, comparisons; which are valid, on both sides. -/
import Derived.Test.YtklmbgefdopifaaRows2
import Derived.Test.YtklmbgefdopifaaMarks
namespace Go.Proofs.Ytklmbgefdopifaa
open Go.RowKit

/-- A pour. -/
def vPour (x0 : ByteArray) (x1 x2 x3 : Int) : Bool := nameB x0.data.toList && inB x1 1 20000000 && inB x2 0 x3 && decide (x3 ≤ 10000)
theorem vPour_alt (x0 : ByteArray) (x1 x2 x3 : Int) : vPour x0 x1 x2 x3 = (nameB x0.data.toList && inB x1 1 20000000 && inB x2 0 10000 && inB x3 x2 10000) := by
  unfold vPour inB
  rw [Bool.eq_iff_iff]
  simp only [Bool.and_eq_true, decide_eq_true_eq]
  constructor
  · rintro ⟨⟨h, a, b⟩, c⟩
    refine ⟨⟨h, ?_, ?_⟩, ?_, ?_⟩ <;> omega
  · rintro ⟨⟨h, a, b⟩, c, d⟩
    refine ⟨⟨h, ?_, ?_⟩, ?_⟩ <;> omega
theorem vPour_true {x0 : ByteArray} {x1 x2 x3 : Int} (h : vPour x0 x1 x2 x3 = true) : (1 ≤ x1 ∧ x1 ≤ 20000000) ∧ (0 ≤ x2 ∧ x2 ≤ x3) ∧ x3 ≤ 10000 := by
  unfold vPour at h
  simp only [Bool.and_eq_true, decide_eq_true_eq] at h
  exact ⟨inB_true h.1.1.2, inB_true h.1.2, h.2⟩
theorem implvalidPour (x0 : ByteArray) (x1 x2 x3 : Int) (w : World) (hs0 : x0.size ≤ maxLen) : Calls Try.prog 93 #[.agg #[.string x0, .int .i64 x1, .int .i64 x2, .int .i64 x3]] w fun e w' => e = .returned (.bool (vPour x0 x1 x2 x3)) ∧ Below w.heap.size w w' := by
  cases h0 : nameB x0.data.toList
  · have e : Hid (vPour x0 x1 x2 x3 = false) := by unfold Hid vPour; simp [h0]
    go_enter Try.func93, Try.ntmps93
    go_wp2_with fail
    refine (IsName_any _ _ hs0).mono ?_
    rintro e w1 ⟨rfl, hb1⟩
    obtain ⟨fcb1, ffb1, fzb1⟩ := bfacts hb1 (by first | exact Nat.le_refl _ | omega | (simp; omega) | simp); have fsb1 := hb1.size; try simp at fcb1 ffb1 fzb1 fsb1 hb1
    go_wp2_with fail
    go_ret
    exact ⟨ret_bool e.out.symm, (by repeat (first | with_reducible exact Below.refl _ _ | with_reducible assumption | (with_reducible refine Below.drew ?_) | (with_reducible refine below_drewN ?_ _) | ((with_reducible refine Below.alloc ?_ ?_ _); rotate_left; (focus (first | omega | (simp; omega) | simp))) | ((with_reducible refine Below.setCell ?_ ?_ _); rotate_left; (focus (first | omega | (simp; omega) | simp))) | (refine Below.trans ?_ (Below.mono (by assumption) (by first | omega | (simp; omega) | simp)))))⟩
  · cases h1 : inB x1 1 20000000
    · have e : Hid (vPour x0 x1 x2 x3 = false) := by unfold Hid vPour; simp [h0, h1]
      go_enter Try.func93, Try.ntmps93
      go_wp2_with fail
      refine (IsName_any _ _ hs0).mono ?_
      rintro e w1 ⟨rfl, hb1⟩
      obtain ⟨fcb1, ffb1, fzb1⟩ := bfacts hb1 (by first | exact Nat.le_refl _ | omega | (simp; omega) | simp); have fsb1 := hb1.size; try simp at fcb1 ffb1 fzb1 fsb1 hb1
      go_wp2_with (go_at_call 109; refine (implisMass_any _ _).mono ?_; rintro e w2 ⟨rfl, rfl⟩)
      go_ret
      exact ⟨ret_bool e.out.symm, (by repeat (first | with_reducible exact Below.refl _ _ | with_reducible assumption | (with_reducible refine Below.drew ?_) | (with_reducible refine below_drewN ?_ _) | ((with_reducible refine Below.alloc ?_ ?_ _); rotate_left; (focus (first | omega | (simp; omega) | simp))) | ((with_reducible refine Below.setCell ?_ ?_ _); rotate_left; (focus (first | omega | (simp; omega) | simp))) | (refine Below.trans ?_ (Below.mono (by assumption) (by first | omega | (simp; omega) | simp)))))⟩
    · cases h2 : inB x2 0 x3
      · have e : Hid (vPour x0 x1 x2 x3 = false) := by unfold Hid vPour; simp [h0, h1, h2]
        go_enter Try.func93, Try.ntmps93
        go_wp2_with fail
        refine (IsName_any _ _ hs0).mono ?_
        rintro e w1 ⟨rfl, hb1⟩
        obtain ⟨fcb1, ffb1, fzb1⟩ := bfacts hb1 (by first | exact Nat.le_refl _ | omega | (simp; omega) | simp); have fsb1 := hb1.size; try simp at fcb1 ffb1 fzb1 fsb1 hb1
        go_wp2_with (first | (go_at_call 109; refine (implisMass_any _ _).mono ?_; rintro e w2 ⟨rfl, rfl⟩) | (go_at_call 80; refine (implwithin_any _ _ _ _).mono ?_; rintro e w2 ⟨rfl, rfl⟩))
        go_ret
        exact ⟨ret_bool e.out.symm, (by repeat (first | with_reducible exact Below.refl _ _ | with_reducible assumption | (with_reducible refine Below.drew ?_) | (with_reducible refine below_drewN ?_ _) | ((with_reducible refine Below.alloc ?_ ?_ _); rotate_left; (focus (first | omega | (simp; omega) | simp))) | ((with_reducible refine Below.setCell ?_ ?_ _); rotate_left; (focus (first | omega | (simp; omega) | simp))) | (refine Below.trans ?_ (Below.mono (by assumption) (by first | omega | (simp; omega) | simp)))))⟩
      · have e : Hid (vPour x0 x1 x2 x3 = decide (x3 ≤ 10000)) := by unfold Hid vPour; simp [h0, h1, h2]
        go_enter Try.func93, Try.ntmps93
        go_wp2_with fail
        refine (IsName_any _ _ hs0).mono ?_
        rintro e w1 ⟨rfl, hb1⟩
        obtain ⟨fcb1, ffb1, fzb1⟩ := bfacts hb1 (by first | exact Nat.le_refl _ | omega | (simp; omega) | simp); have fsb1 := hb1.size; try simp at fcb1 ffb1 fzb1 fsb1 hb1
        go_wp2_with (first | (go_at_call 109; refine (implisMass_any _ _).mono ?_; rintro e w2 ⟨rfl, rfl⟩) | (go_at_call 80; refine (implwithin_any _ _ _ _).mono ?_; rintro e w2 ⟨rfl, rfl⟩))
        go_ret
        exact ⟨ret_bool e.out.symm, (by repeat (first | with_reducible exact Below.refl _ _ | with_reducible assumption | (with_reducible refine Below.drew ?_) | (with_reducible refine below_drewN ?_ _) | ((with_reducible refine Below.alloc ?_ ?_ _); rotate_left; (focus (first | omega | (simp; omega) | simp))) | ((with_reducible refine Below.setCell ?_ ?_ _); rotate_left; (focus (first | omega | (simp; omega) | simp))) | (refine Below.trans ?_ (Below.mono (by assumption) (by first | omega | (simp; omega) | simp)))))⟩
theorem l01Name_is (s : ByteArray) (b : Bool) (w : World) (hs : s.size ≤ maxLen) (h : nameB s.data.toList = b) : Calls Try.prog 77 #[.string s] w fun e w' => e = .returned (.bool b) ∧ w = w' := by
  subst h
  exact l01Name_any s w hs
set_option maxRecDepth 100000 in
theorem specl17One (bl off : Nat) (x0 : ByteArray) (x1 x2 x3 : Int) (w : World) (hs0 : x0.size ≤ maxLen) (c0 : w.cell? ⟨bl, off, none⟩ = some (.string x0)) (c1 : w.cell? ⟨bl, off + 1, none⟩ = some (.int .i64 x1)) (c2 : w.cell? ⟨bl, off + 2, none⟩ = some (.int .i64 x2)) (c3 : w.cell? ⟨bl, off + 3, none⟩ = some (.int .i64 x3)) :
    Calls Try.prog 101 #[.pointer (some ⟨bl, off, none⟩)] w fun e w' => e = .returned (.bool (vPour x0 x1 x2 x3)) ∧ Below w.heap.size w w' := by
  have hbl : bl < w.heap.size := World.block_lt_of_cell? w _ c0
  have ha := hide (vPour_alt x0 x1 x2 x3)
  cases h0 : nameB x0.data.toList
  · have e : Hid (vPour x0 x1 x2 x3 = false) := by unfold Hid; rw [ha.out]; simp [h0]
    go_enter Try.func101, Try.ntmps101
    go_wp2_with fail
    refine wp_region_kept (by kernel_rfl) (by kernel_rfl) ?_
    intro gc gf gz
    repeat (go_big_quiet_step ((first | (go_at_call 77; exact Calls.kept_same (l01Name_is _ _ _ hs0 (by assumption))) | (go_at_call 78; exact Calls.kept_same (specl00In_is _ _ _ _ (by assumption) _)))))
    refine wpQuiet_nil ?_
    intro w1 hw'
    obtain ⟨⟨_, hb1⟩, rfl⟩ := hw'
    clear gc gf gz
    try dsimp only
    have fs1 := hb1.size
    try simp at fs1 hb1
    go_wp2_with fail
    go_ret
    exact ⟨ret_bool e.out.symm, hb1⟩
  · cases h1 : inB x1 1 20000000
    · have e : Hid (vPour x0 x1 x2 x3 = false) := by unfold Hid; rw [ha.out]; simp [h0, h1]
      go_enter Try.func101, Try.ntmps101
      go_wp2_with fail
      refine wp_region_kept (by kernel_rfl) (by kernel_rfl) ?_
      intro gc gf gz
      repeat (go_big_quiet_step ((first | (go_at_call 77; exact Calls.kept_same (l01Name_is _ _ _ hs0 (by assumption))) | (go_at_call 78; exact Calls.kept_same (specl00In_is _ _ _ _ (by assumption) _)))))
      refine wpQuiet_nil ?_
      intro w1 hw'
      obtain ⟨⟨_, hb1⟩, rfl⟩ := hw'
      clear gc gf gz
      try dsimp only
      have fs1 := hb1.size
      try simp at fs1 hb1
      go_wp2_with fail
      go_ret
      exact ⟨ret_bool e.out.symm, hb1⟩
    · cases h2 : inB x2 0 10000
      · have e : Hid (vPour x0 x1 x2 x3 = false) := by unfold Hid; rw [ha.out]; simp [h0, h1, h2]
        go_enter Try.func101, Try.ntmps101
        go_wp2_with fail
        refine wp_region_kept (by kernel_rfl) (by kernel_rfl) ?_
        intro gc gf gz
        repeat (go_big_quiet_step ((first | (go_at_call 77; exact Calls.kept_same (l01Name_is _ _ _ hs0 (by assumption))) | (go_at_call 78; exact Calls.kept_same (specl00In_is _ _ _ _ (by assumption) _)))))
        refine wpQuiet_nil ?_
        intro w1 hw'
        obtain ⟨⟨_, hb1⟩, rfl⟩ := hw'
        clear gc gf gz
        try dsimp only
        have fs1 := hb1.size
        try simp at fs1 hb1
        go_wp2_with fail
        go_ret
        exact ⟨ret_bool e.out.symm, hb1⟩
      · cases h3 : inB x3 x2 10000
        · have e : Hid (vPour x0 x1 x2 x3 = false) := by unfold Hid; rw [ha.out]; simp [h0, h1, h2, h3]
          go_enter Try.func101, Try.ntmps101
          go_wp2_with fail
          refine wp_region_kept (by kernel_rfl) (by kernel_rfl) ?_
          intro gc gf gz
          repeat (go_big_quiet_step ((first | (go_at_call 77; exact Calls.kept_same (l01Name_is _ _ _ hs0 (by assumption))) | (go_at_call 78; exact Calls.kept_same (specl00In_is _ _ _ _ (by assumption) _)))))
          refine wpQuiet_nil ?_
          intro w1 hw'
          obtain ⟨⟨_, hb1⟩, rfl⟩ := hw'
          clear gc gf gz
          try dsimp only
          have fs1 := hb1.size
          try simp at fs1 hb1
          go_wp2_with fail
          go_ret
          exact ⟨ret_bool e.out.symm, hb1⟩
        · have e : Hid (vPour x0 x1 x2 x3 = true) := by unfold Hid; rw [ha.out]; simp [h0, h1, h2, h3]
          go_enter Try.func101, Try.ntmps101
          go_wp2_with fail
          refine wp_region_kept (by kernel_rfl) (by kernel_rfl) ?_
          intro gc gf gz
          repeat (go_big_quiet_step ((first | (go_at_call 77; exact Calls.kept_same (l01Name_is _ _ _ hs0 (by assumption))) | (go_at_call 78; exact Calls.kept_same (specl00In_is _ _ _ _ (by assumption) _)))))
          refine wpQuiet_nil ?_
          intro w1 hw'
          obtain ⟨⟨_, hb1⟩, rfl⟩ := hw'
          clear gc gf gz
          try dsimp only
          have fs1 := hb1.size
          try simp at fs1 hb1
          go_wp2_with fail
          go_ret
          exact ⟨ret_bool e.out.symm, hb1⟩
def vCruc (x0 : ByteArray) (x1 : Int) (x2 : Int) (x3 : Int) : Bool := nameB x0.data.toList && inB x1 (1) 20000000 && inB x2 (1) 10000 && inB x3 (0) 10000
theorem vCruc_true (x0 : ByteArray) (x1 : Int) (x2 : Int) (x3 : Int) (h : vCruc x0 x1 x2 x3 = true) : (nameB x0.data.toList = true) ∧ ((1) ≤ x1 ∧ x1 ≤ 20000000) ∧ ((1) ≤ x2 ∧ x2 ≤ 10000) ∧ ((0) ≤ x3 ∧ x3 ≤ 10000) := by
  unfold vCruc at h
  simp only [Bool.and_eq_true] at h
  exact ⟨h.1.1.1, inB_true h.1.1.2, inB_true h.1.2, inB_true h.2⟩
theorem implvalidCrucible (x0 : ByteArray) (x1 : Int) (x2 : Int) (x3 : Int) (w : World) (hs0 : x0.size ≤ maxLen) : Calls Try.prog 94 #[.agg #[.string x0, .int .i64 x1, .int .i64 x2, .int .i64 x3]] w fun e w' => e = .returned (.bool (vCruc x0 x1 x2 x3)) ∧ Below w.heap.size w w' := by
  cases h0 : nameB x0.data.toList
  · have e : Hid (vCruc x0 x1 x2 x3 = false) := by unfold Hid vCruc; simp [h0]
    go_enter Try.func94, Try.ntmps94
    go_wp2_with (first
      | (go_at_call 80; refine (implwithin_any _ _ _ _).mono ?_; rintro e w2 ⟨rfl, rfl⟩)
      | (go_at_call 81; refine (implisSide_any _ _).mono ?_; rintro e w2 ⟨rfl, rfl⟩)
      | (go_at_call 109; refine (implisMass_any _ _).mono ?_; rintro e w2 ⟨rfl, rfl⟩)
      | (go_at_call 79; refine (IsName_any _ _ (by assumption)).mono ?_; rintro e w1 ⟨rfl, hb1⟩; obtain ⟨fcb1, ffb1, fzb1⟩ := bfacts hb1 (by first | exact Nat.le_refl _ | omega | (simp; omega) | simp); have fsb1 := hb1.size; try simp at fcb1 ffb1 fzb1 fsb1 hb1))
    go_ret
    exact ⟨ret_bool e.out.symm, (by repeat (first | with_reducible exact Below.refl _ _ | with_reducible assumption | (with_reducible refine Below.drew ?_) | (with_reducible refine below_drewN ?_ _) | ((with_reducible refine Below.alloc ?_ ?_ _); rotate_left; (focus (first | omega | (simp; omega) | simp))) | ((with_reducible refine Below.setCell ?_ ?_ _); rotate_left; (focus (first | omega | (simp; omega) | simp))) | (refine Below.trans ?_ (Below.mono (by assumption) (by first | omega | (simp; omega) | simp)))))⟩
  · cases h1 : inB x1 (1) 20000000
    · have e : Hid (vCruc x0 x1 x2 x3 = false) := by unfold Hid vCruc; simp [h1]
      go_enter Try.func94, Try.ntmps94
      go_wp2_with (first
        | (go_at_call 80; refine (implwithin_any _ _ _ _).mono ?_; rintro e w2 ⟨rfl, rfl⟩)
        | (go_at_call 81; refine (implisSide_any _ _).mono ?_; rintro e w2 ⟨rfl, rfl⟩)
        | (go_at_call 109; refine (implisMass_any _ _).mono ?_; rintro e w2 ⟨rfl, rfl⟩)
        | (go_at_call 79; refine (IsName_any _ _ (by assumption)).mono ?_; rintro e w1 ⟨rfl, hb1⟩; obtain ⟨fcb1, ffb1, fzb1⟩ := bfacts hb1 (by first | exact Nat.le_refl _ | omega | (simp; omega) | simp); have fsb1 := hb1.size; try simp at fcb1 ffb1 fzb1 fsb1 hb1))
      go_ret
      exact ⟨ret_bool e.out.symm, (by repeat (first | with_reducible exact Below.refl _ _ | with_reducible assumption | (with_reducible refine Below.drew ?_) | (with_reducible refine below_drewN ?_ _) | ((with_reducible refine Below.alloc ?_ ?_ _); rotate_left; (focus (first | omega | (simp; omega) | simp))) | ((with_reducible refine Below.setCell ?_ ?_ _); rotate_left; (focus (first | omega | (simp; omega) | simp))) | (refine Below.trans ?_ (Below.mono (by assumption) (by first | omega | (simp; omega) | simp)))))⟩
    · cases h2 : inB x2 (1) 10000
      · have e : Hid (vCruc x0 x1 x2 x3 = false) := by unfold Hid vCruc; simp [h2]
        go_enter Try.func94, Try.ntmps94
        go_wp2_with (first
          | (go_at_call 80; refine (implwithin_any _ _ _ _).mono ?_; rintro e w2 ⟨rfl, rfl⟩)
          | (go_at_call 81; refine (implisSide_any _ _).mono ?_; rintro e w2 ⟨rfl, rfl⟩)
          | (go_at_call 109; refine (implisMass_any _ _).mono ?_; rintro e w2 ⟨rfl, rfl⟩)
          | (go_at_call 79; refine (IsName_any _ _ (by assumption)).mono ?_; rintro e w1 ⟨rfl, hb1⟩; obtain ⟨fcb1, ffb1, fzb1⟩ := bfacts hb1 (by first | exact Nat.le_refl _ | omega | (simp; omega) | simp); have fsb1 := hb1.size; try simp at fcb1 ffb1 fzb1 fsb1 hb1))
        go_ret
        exact ⟨ret_bool e.out.symm, (by repeat (first | with_reducible exact Below.refl _ _ | with_reducible assumption | (with_reducible refine Below.drew ?_) | (with_reducible refine below_drewN ?_ _) | ((with_reducible refine Below.alloc ?_ ?_ _); rotate_left; (focus (first | omega | (simp; omega) | simp))) | ((with_reducible refine Below.setCell ?_ ?_ _); rotate_left; (focus (first | omega | (simp; omega) | simp))) | (refine Below.trans ?_ (Below.mono (by assumption) (by first | omega | (simp; omega) | simp)))))⟩
      · cases h3 : inB x3 (0) 10000
        · have e : Hid (vCruc x0 x1 x2 x3 = false) := by unfold Hid vCruc; simp [h3]
          go_enter Try.func94, Try.ntmps94
          go_wp2_with (first
            | (go_at_call 80; refine (implwithin_any _ _ _ _).mono ?_; rintro e w2 ⟨rfl, rfl⟩)
            | (go_at_call 81; refine (implisSide_any _ _).mono ?_; rintro e w2 ⟨rfl, rfl⟩)
            | (go_at_call 109; refine (implisMass_any _ _).mono ?_; rintro e w2 ⟨rfl, rfl⟩)
            | (go_at_call 79; refine (IsName_any _ _ (by assumption)).mono ?_; rintro e w1 ⟨rfl, hb1⟩; obtain ⟨fcb1, ffb1, fzb1⟩ := bfacts hb1 (by first | exact Nat.le_refl _ | omega | (simp; omega) | simp); have fsb1 := hb1.size; try simp at fcb1 ffb1 fzb1 fsb1 hb1))
          go_ret
          exact ⟨ret_bool e.out.symm, (by repeat (first | with_reducible exact Below.refl _ _ | with_reducible assumption | (with_reducible refine Below.drew ?_) | (with_reducible refine below_drewN ?_ _) | ((with_reducible refine Below.alloc ?_ ?_ _); rotate_left; (focus (first | omega | (simp; omega) | simp))) | ((with_reducible refine Below.setCell ?_ ?_ _); rotate_left; (focus (first | omega | (simp; omega) | simp))) | (refine Below.trans ?_ (Below.mono (by assumption) (by first | omega | (simp; omega) | simp)))))⟩
        · have e : Hid (vCruc x0 x1 x2 x3 = true) := by unfold Hid vCruc; simp [h0, h1, h2, h3]
          go_enter Try.func94, Try.ntmps94
          go_wp2_with (first
            | (go_at_call 80; refine (implwithin_any _ _ _ _).mono ?_; rintro e w2 ⟨rfl, rfl⟩)
            | (go_at_call 81; refine (implisSide_any _ _).mono ?_; rintro e w2 ⟨rfl, rfl⟩)
            | (go_at_call 109; refine (implisMass_any _ _).mono ?_; rintro e w2 ⟨rfl, rfl⟩)
            | (go_at_call 79; refine (IsName_any _ _ (by assumption)).mono ?_; rintro e w1 ⟨rfl, hb1⟩; obtain ⟨fcb1, ffb1, fzb1⟩ := bfacts hb1 (by first | exact Nat.le_refl _ | omega | (simp; omega) | simp); have fsb1 := hb1.size; try simp at fcb1 ffb1 fzb1 fsb1 hb1))
          go_ret
          exact ⟨ret_bool e.out.symm, (by repeat (first | with_reducible exact Below.refl _ _ | with_reducible assumption | (with_reducible refine Below.drew ?_) | (with_reducible refine below_drewN ?_ _) | ((with_reducible refine Below.alloc ?_ ?_ _); rotate_left; (focus (first | omega | (simp; omega) | simp))) | ((with_reducible refine Below.setCell ?_ ?_ _); rotate_left; (focus (first | omega | (simp; omega) | simp))) | (refine Below.trans ?_ (Below.mono (by assumption) (by first | omega | (simp; omega) | simp)))))⟩
theorem specl17Crucible (bl off : Nat) (x0 : ByteArray) (x1 : Int) (x2 : Int) (x3 : Int) (w : World) (hs0 : x0.size ≤ maxLen) (c0 : w.cell? ⟨bl, off, none⟩ = some (.string x0)) (c1 : w.cell? ⟨bl, off + 1, none⟩ = some (.int .i64 x1)) (c2 : w.cell? ⟨bl, off + 2, none⟩ = some (.int .i64 x2)) (c3 : w.cell? ⟨bl, off + 3, none⟩ = some (.int .i64 x3)) : Calls Try.prog 102 #[.pointer (some ⟨bl, off, none⟩)] w fun e w' => e = .returned (.bool (vCruc x0 x1 x2 x3)) ∧ w = w' := by
  cases h0 : nameB x0.data.toList
  · have e : Hid (vCruc x0 x1 x2 x3 = false) := by unfold Hid vCruc; simp [h0]
    go_enter Try.func102, Try.ntmps102
    go_wp2_with (first
      | (go_at_call 78; refine (specl00In_any _ _ _ _).mono ?_; rintro e w2 ⟨rfl, rfl⟩)
      | (go_at_call 77; refine (l01Name_any _ _ (by assumption)).mono ?_; rintro e w1 ⟨rfl, rfl⟩))
    go_ret
    exact ⟨ret_bool e.out.symm, rfl⟩
  · cases h1 : inB x1 (1) 20000000
    · have e : Hid (vCruc x0 x1 x2 x3 = false) := by unfold Hid vCruc; simp [h1]
      go_enter Try.func102, Try.ntmps102
      go_wp2_with (first
        | (go_at_call 78; refine (specl00In_any _ _ _ _).mono ?_; rintro e w2 ⟨rfl, rfl⟩)
        | (go_at_call 77; refine (l01Name_any _ _ (by assumption)).mono ?_; rintro e w1 ⟨rfl, rfl⟩))
      go_ret
      exact ⟨ret_bool e.out.symm, rfl⟩
    · cases h2 : inB x2 (1) 10000
      · have e : Hid (vCruc x0 x1 x2 x3 = false) := by unfold Hid vCruc; simp [h2]
        go_enter Try.func102, Try.ntmps102
        go_wp2_with (first
          | (go_at_call 78; refine (specl00In_any _ _ _ _).mono ?_; rintro e w2 ⟨rfl, rfl⟩)
          | (go_at_call 77; refine (l01Name_any _ _ (by assumption)).mono ?_; rintro e w1 ⟨rfl, rfl⟩))
        go_ret
        exact ⟨ret_bool e.out.symm, rfl⟩
      · cases h3 : inB x3 (0) 10000
        · have e : Hid (vCruc x0 x1 x2 x3 = false) := by unfold Hid vCruc; simp [h3]
          go_enter Try.func102, Try.ntmps102
          go_wp2_with (first
            | (go_at_call 78; refine (specl00In_any _ _ _ _).mono ?_; rintro e w2 ⟨rfl, rfl⟩)
            | (go_at_call 77; refine (l01Name_any _ _ (by assumption)).mono ?_; rintro e w1 ⟨rfl, rfl⟩))
          go_ret
          exact ⟨ret_bool e.out.symm, rfl⟩
        · have e : Hid (vCruc x0 x1 x2 x3 = true) := by unfold Hid vCruc; simp [h0, h1, h2, h3]
          go_enter Try.func102, Try.ntmps102
          go_wp2_with (first
            | (go_at_call 78; refine (specl00In_any _ _ _ _).mono ?_; rintro e w2 ⟨rfl, rfl⟩)
            | (go_at_call 77; refine (l01Name_any _ _ (by assumption)).mono ?_; rintro e w1 ⟨rfl, rfl⟩))
          go_ret
          exact ⟨ret_bool e.out.symm, rfl⟩
theorem lawstoPour (x0 : ByteArray) (x1 : Int) (x2 : Int) (x3 : Int) (w : World) : Calls Try.prog 55 #[.agg #[.string x0, .int .i64 x1, .int .i64 x2, .int .i64 x3]] w fun e w' => e = .returned (.agg #[.string x0, .int .i64 x1, .int .i64 x2, .int .i64 x3]) ∧ Below w.heap.size w w' := by
  go_enter Try.func55, Try.ntmps55
  go_wp2
  refine bodyPost_ret (v := .agg #[.string x0, .int .i64 x1, .int .i64 x2, .int .i64 x3]) (by simp [results, Try.results55, go_sem]) rfl ⟨rfl, (by repeat (first | with_reducible exact Below.refl _ _ | with_reducible assumption | (with_reducible refine Below.drew ?_) | (with_reducible refine below_drewN ?_ _) | ((with_reducible refine Below.alloc ?_ ?_ _); rotate_left; (focus (first | omega | (simp; omega) | simp))) | ((with_reducible refine Below.setCell ?_ ?_ _); rotate_left; (focus (first | omega | (simp; omega) | simp))) | (refine Below.trans ?_ (Below.mono (by assumption) (by first | omega | (simp; omega) | simp)))))⟩
theorem lawstoCrucible (x0 : ByteArray) (x1 : Int) (x2 : Int) (x3 : Int) (w : World) : Calls Try.prog 56 #[.agg #[.string x0, .int .i64 x1, .int .i64 x2, .int .i64 x3]] w fun e w' => e = .returned (.agg #[.string x0, .int .i64 x1, .int .i64 x2, .int .i64 x3]) ∧ Below w.heap.size w w' := by
  go_enter Try.func56, Try.ntmps56
  go_wp2
  refine bodyPost_ret (v := .agg #[.string x0, .int .i64 x1, .int .i64 x2, .int .i64 x3]) (by simp [results, Try.results56, go_sem]) rfl ⟨rfl, (by repeat (first | with_reducible exact Below.refl _ _ | with_reducible assumption | (with_reducible refine Below.drew ?_) | (with_reducible refine below_drewN ?_ _) | ((with_reducible refine Below.alloc ?_ ?_ _); rotate_left; (focus (first | omega | (simp; omega) | simp))) | ((with_reducible refine Below.setCell ?_ ?_ _); rotate_left; (focus (first | omega | (simp; omega) | simp))) | (refine Below.trans ?_ (Below.mono (by assumption) (by first | omega | (simp; omega) | simp)))))⟩
theorem lawsszPour_ok (x0 : ByteArray) (x1 : Int) (x2 : Int) (x3 : Int) (left : Int) (w : World) (h : (x0.size : Int) ≤ left) (h2 : left ≤ 1048576) : Calls Try.prog 52 #[.agg #[.string x0, .int .i64 x1, .int .i64 x2, .int .i64 x3], .int .i64 left] w fun e w' => e = .returned (.int .i64 (left - x0.size)) ∧ Below w.heap.size w w' := by
  go_enter Try.func52, Try.ntmps52
  go_wp2
  go_ret
  exact ⟨rfl, (by repeat (first | with_reducible exact Below.refl _ _ | with_reducible assumption | (with_reducible refine Below.drew ?_) | (with_reducible refine below_drewN ?_ _) | ((with_reducible refine Below.alloc ?_ ?_ _); rotate_left; (focus (first | omega | (simp; omega) | simp))) | ((with_reducible refine Below.setCell ?_ ?_ _); rotate_left; (focus (first | omega | (simp; omega) | simp))) | (refine Below.trans ?_ (Below.mono (by assumption) (by first | omega | (simp; omega) | simp)))))⟩
theorem lawsszPour_big (x0 : ByteArray) (x1 : Int) (x2 : Int) (x3 : Int) (left : Int) (w : World) (hs : x0.size ≤ maxLen) (h : left < x0.size) (h0 : 0 ≤ left) : Calls Try.prog 52 #[.agg #[.string x0, .int .i64 x1, .int .i64 x2, .int .i64 x3], .int .i64 left] w fun e w' => e = .returned (.int .i64 (-1)) ∧ Below w.heap.size w w' := by
  unfold maxLen at hs
  go_enter Try.func52, Try.ntmps52
  go_wp2
  go_ret
  exact ⟨rfl, (by repeat (first | with_reducible exact Below.refl _ _ | with_reducible assumption | (with_reducible refine Below.drew ?_) | (with_reducible refine below_drewN ?_ _) | ((with_reducible refine Below.alloc ?_ ?_ _); rotate_left; (focus (first | omega | (simp; omega) | simp))) | ((with_reducible refine Below.setCell ?_ ?_ _); rotate_left; (focus (first | omega | (simp; omega) | simp))) | (refine Below.trans ?_ (Below.mono (by assumption) (by first | omega | (simp; omega) | simp)))))⟩
theorem lawsszPour_any (x0 : ByteArray) (x1 : Int) (x2 : Int) (x3 : Int) (left : Int) (w : World) (hs : x0.size ≤ maxLen) (h0 : 0 ≤ left) (h1 : left ≤ 1048576) : Calls Try.prog 52 #[.agg #[.string x0, .int .i64 x1, .int .i64 x2, .int .i64 x3], .int .i64 left] w fun e w' => ∃ r : Int, e = .returned (.int .i64 r) ∧ -1 ≤ r ∧ r ≤ left ∧ Below w.heap.size w w' := by
  by_cases h : (x0.size : Int) ≤ left
  · exact (lawsszPour_ok x0 x1 x2 x3 left w h h1).mono fun _ _ ⟨a, b⟩ => ⟨_, a, by omega, by omega, b⟩
  · exact (lawsszPour_big x0 x1 x2 x3 left w hs (by omega) h0).mono fun _ _ ⟨a, b⟩ => ⟨_, a, by omega, by omega, b⟩
theorem lawsszCrucible_ok (x0 : ByteArray) (x1 : Int) (x2 : Int) (x3 : Int) (left : Int) (w : World) (h : (x0.size : Int) ≤ left) (h2 : left ≤ 1048576) : Calls Try.prog 53 #[.agg #[.string x0, .int .i64 x1, .int .i64 x2, .int .i64 x3], .int .i64 left] w fun e w' => e = .returned (.int .i64 (left - x0.size)) ∧ Below w.heap.size w w' := by
  go_enter Try.func53, Try.ntmps53
  go_wp2
  go_ret
  exact ⟨rfl, (by repeat (first | with_reducible exact Below.refl _ _ | with_reducible assumption | (with_reducible refine Below.drew ?_) | (with_reducible refine below_drewN ?_ _) | ((with_reducible refine Below.alloc ?_ ?_ _); rotate_left; (focus (first | omega | (simp; omega) | simp))) | ((with_reducible refine Below.setCell ?_ ?_ _); rotate_left; (focus (first | omega | (simp; omega) | simp))) | (refine Below.trans ?_ (Below.mono (by assumption) (by first | omega | (simp; omega) | simp)))))⟩
theorem lawsszCrucible_big (x0 : ByteArray) (x1 : Int) (x2 : Int) (x3 : Int) (left : Int) (w : World) (hs : x0.size ≤ maxLen) (h : left < x0.size) (h0 : 0 ≤ left) : Calls Try.prog 53 #[.agg #[.string x0, .int .i64 x1, .int .i64 x2, .int .i64 x3], .int .i64 left] w fun e w' => e = .returned (.int .i64 (-1)) ∧ Below w.heap.size w w' := by
  unfold maxLen at hs
  go_enter Try.func53, Try.ntmps53
  go_wp2
  go_ret
  exact ⟨rfl, (by repeat (first | with_reducible exact Below.refl _ _ | with_reducible assumption | (with_reducible refine Below.drew ?_) | (with_reducible refine below_drewN ?_ _) | ((with_reducible refine Below.alloc ?_ ?_ _); rotate_left; (focus (first | omega | (simp; omega) | simp))) | ((with_reducible refine Below.setCell ?_ ?_ _); rotate_left; (focus (first | omega | (simp; omega) | simp))) | (refine Below.trans ?_ (Below.mono (by assumption) (by first | omega | (simp; omega) | simp)))))⟩
theorem lawsszCrucible_any (x0 : ByteArray) (x1 : Int) (x2 : Int) (x3 : Int) (left : Int) (w : World) (hs : x0.size ≤ maxLen) (h0 : 0 ≤ left) (h1 : left ≤ 1048576) : Calls Try.prog 53 #[.agg #[.string x0, .int .i64 x1, .int .i64 x2, .int .i64 x3], .int .i64 left] w fun e w' => ∃ r : Int, e = .returned (.int .i64 r) ∧ -1 ≤ r ∧ r ≤ left ∧ Below w.heap.size w w' := by
  by_cases h : (x0.size : Int) ≤ left
  · exact (lawsszCrucible_ok x0 x1 x2 x3 left w h h1).mono fun _ _ ⟨a, b⟩ => ⟨_, a, by omega, by omega, b⟩
  · exact (lawsszCrucible_big x0 x1 x2 x3 left w hs (by omega) h0).mono fun _ _ ⟨a, b⟩ => ⟨_, a, by omega, by omega, b⟩
structure PourR where
  nm : ByteArray
  mass : Int
  rdy : Int
  due : Int
def encPour (x : PourR) : List Value := [.string x.nm, .int .i64 x.mass, .int .i64 x.rdy, .int .i64 x.due]
theorem info_Pour : (Try.prog.info? 93).map (fun i => (i.zero, i.size, i.bytes)) = some (some (.agg #[.string ByteArray.empty, .int .i64 0, .int .i64 0, .int .i64 0]), 4, 40) := by kernel_rfl
theorem lawstoPourS_own (A : Option Addr) (c : Nat) (xs : List PourR) (w : World) (h : SlAt encPour 4 w A xs) (hn : xs.length ≤ 1048576) :
    Calls Try.prog 19 #[.slice A xs.length c] w fun e w' => ∃ b, e = .returned (.slice (some ⟨b, 0, none⟩) xs.length xs.length) ∧ SlAt encPour 4 w' (some ⟨b, 0, none⟩) xs ∧ w.heap.size ≤ b ∧ b < w'.heap.size ∧ Below w.heap.size w w' ∧ Own encPour 4 93 w' w.heap.size (.slice (some ⟨b, 0, none⟩) xs.length xs.length) xs := by
  obtain ⟨i0, hi, hz0, hz1, hz2⟩ := info_parts info_Pour
  have hmk := fun W => run_make_rowN (P := Try.prog) 45 93 i0 _ Try.underlying45 hi hz0 .i64 .i64 xs.length xs.length (Nat.le_refl _) (by rw [hz2]; omega) (by omega) W
  rw [hz1] at hmk
  generalize hcs : madeCells (Value.agg #[.string ByteArray.empty, .int .i64 0, .int .i64 0, .int .i64 0]).cells (xs.length * 4) = cs at hmk
  have hcs' : cs.size = xs.length * 4 := by rw [← hcs, size_madeCells]
  have hF := Fill.start w cs 93
  rw [hcs'] at hF
  have HF := hide hF
  have HX := hide h
  clear hi hz0 hz1 hz2 hcs hcs' hF h
  go_enter Try.func19, Try.ntmps19
  go_wp2_with fail
  clear hmk
  go_loopw [4] (fun v wr => ∃ k : Nat, v = .int .i64 k ∧ k ≤ xs.length ∧ Filling encPour 4 93 w wr w.heap.size xs k) (fun v _ => xs.length - (intOf v).toNat)
  case atStart => exact ⟨0, rfl, by omega, by simpa using HF.out, (by repeat (first | with_reducible exact Below.refl _ _ | with_reducible assumption | (with_reducible refine Below.drew ?_) | (with_reducible refine below_drewN ?_ _) | ((with_reducible refine Below.alloc ?_ ?_ _); rotate_left; (focus (first | omega | (simp; omega) | simp))) | ((with_reducible refine Below.setCell ?_ ?_ _); rotate_left; (focus (first | omega | (simp; omega) | simp))) | (refine Below.trans ?_ (Below.mono (by assumption) (by first | omega | (simp; omega) | simp)))))⟩
  case round =>
    obtain ⟨k, rfl, hk, hR⟩ := hrel
    by_cases hlt : k < xs.length
    · obtain ⟨b, off, rfl, hbl, hc⟩ := HX.out k hlt
      have hb := hR.2

      have hc0 := (hb.cell (p := ⟨b, off + k * 4 + 0, none⟩) hbl).trans (hc 0 _ rfl)
      have hc1 := (hb.cell (p := ⟨b, off + k * 4 + 1, none⟩) hbl).trans (hc 1 _ rfl)
      have hc2 := (hb.cell (p := ⟨b, off + k * 4 + 2, none⟩) hbl).trans (hc 2 _ rfl)
      have hc3 := (hb.cell (p := ⟨b, off + k * 4 + 3, none⟩) hbl).trans (hc 3 _ rfl)
      simp only [Nat.add_zero] at hc0
      obtain ⟨u0, hu0⟩ := hR.1.cell (j := k * 4) (by omega)
      have hf0 := hR.1.frozen (k * 4)
      obtain ⟨u1, hu1⟩ := hR.1.cell (j := k * 4 + 1) (by omega)
      have hf1 := hR.1.frozen (k * 4 + 1)
      obtain ⟨u2, hu2⟩ := hR.1.cell (j := k * 4 + 2) (by omega)
      have hf2 := hR.1.frozen (k * 4 + 2)
      obtain ⟨u3, hu3⟩ := hR.1.cell (j := k * 4 + 3) (by omega)
      have hf3 := hR.1.frozen (k * 4 + 3)
      have hz := hR.1.lt
      have hlen := flat_length (enc := encPour) (sz := 4) (fun _ => rfl) (xs.take k)
      rw [List.length_take, Nat.min_eq_left hk] at hlen
      have ht := take_flat encPour xs k hlt
      have HR := hide hR
      have HT := hide (And.intro hlen ht)
      clear hR hb hlen ht hc
      generalize hx : xs[k] = x at *
      obtain ⟨x0, x1, x2, x3⟩ := x
      clear hx
      simp only at hc0 hc1 hc2 hc3
      go_wp2_with fail
      refine (lawstoPour _ _ _ _ _).mono ?_
      rintro e w1 ⟨rfl, hb1⟩
      obtain ⟨fcb1, ffb1, fzb1⟩ := bfacts hb1 (by first | exact Nat.le_refl _ | omega | (simp; omega) | simp); have fsb1 := hb1.size; try simp at fcb1 ffb1 fzb1 fsb1 hb1
      go_wp2_with fail
      go_roundw
      case rel => exact ⟨k + 1, by go_num, by omega, by
        refine ⟨?_, Below.setCell (Below.setCell (Below.setCell (Below.setCell (HR.out.2.trans (hb1.mono (by omega))) (Nat.le_refl _) _) (Nat.le_refl _) _) (Nat.le_refl _) _) (Nat.le_refl _) _⟩
        rw [HT.out.2]
        have hp := ((((HR.out.1.below hb1 hz).push (m := k * 4) (by simp [HT.out.1]) (by omega) (.string x0)).push (m := k * 4 + 1) (by simp [HT.out.1]) (by omega) (.int .i64 x1)).push (m := k * 4 + 2) (by simp [HT.out.1]) (by omega) (.int .i64 x2)).push (m := k * 4 + 3) (by simp [HT.out.1]) (by omega) (.int .i64 x3)
        simpa [encPour] using hp⟩
      case measure => simp [intOf]; omega
    · have hR' := hR.1
      rw [List.take_of_length_le (by omega)] at hR'
      have hfin := Fill.fin (enc := encPour) (sz := 4) (fun _ => rfl) hR'
      have hown := Fill.own (enc := encPour) (sz := 4) rfl (Nat.le_trans hn (by decide)) (fun _ => rfl) hR'
      have hz := hR.1.lt
      have HR := hide hR
      have HN := hide hfin
      have HO := hide hown
      clear hR hR' hfin hown
      go_wp2_with fail
      go_ret
      exact ⟨_, rfl, HN.out, Nat.le_refl _, hz, HR.out.2, HO.out⟩
theorem lawstoPourS (A : Option Addr) (c : Nat) (xs : List PourR) (w : World) (h : SlAt encPour 4 w A xs) (hn : xs.length ≤ 1048576) :
    Calls Try.prog 19 #[.slice A xs.length c] w fun e w' => ∃ b, e = .returned (.slice (some ⟨b, 0, none⟩) xs.length xs.length) ∧ SlAt encPour 4 w' (some ⟨b, 0, none⟩) xs ∧ w.heap.size ≤ b ∧ b < w'.heap.size ∧ Below w.heap.size w w' :=
  (lawstoPourS_own A c xs w h hn).mono fun _ _ ⟨b, h1, h2, h3, h4, h5, _⟩ => ⟨b, h1, h2, h3, h4, h5⟩
theorem lawstoPourS_o (A : Option Addr) (c : Nat) (xs : List PourR) (w : World) (h : SlAt encPour 4 w A xs) (hn : xs.length ≤ 1048576) :
    Calls Try.prog 19 #[.slice A xs.length c] w fun e w' => ∃ b, e = .returned (.slice (some ⟨b, 0, none⟩) xs.length xs.length) ∧ Own encPour 4 93 w' w.heap.size (.slice (some ⟨b, 0, none⟩) xs.length xs.length) xs ∧ Below w.heap.size w w' :=
  (lawstoPourS_own A c xs w h hn).mono fun _ _ ⟨b, h1, _, _, _, h5, h6⟩ => ⟨b, h1, h6, h5⟩
structure CrucR where
  nm : ByteArray
  cap : Int
  ht : Int
  fr : Int
def encCruc (x : CrucR) : List Value := [.string x.nm, .int .i64 x.cap, .int .i64 x.ht, .int .i64 x.fr]
theorem info_Cruc : (Try.prog.info? 95).map (fun i => (i.zero, i.size, i.bytes)) = some (some (.agg #[.string ByteArray.empty, .int .i64 0, .int .i64 0, .int .i64 0]), 4, 40) := by kernel_rfl
theorem lawstoCrucibleS_own (A : Option Addr) (c : Nat) (xs : List CrucR) (w : World) (h : SlAt encCruc 4 w A xs) (hn : xs.length ≤ 1048576) :
    Calls Try.prog 20 #[.slice A xs.length c] w fun e w' => ∃ b, e = .returned (.slice (some ⟨b, 0, none⟩) xs.length xs.length) ∧ SlAt encCruc 4 w' (some ⟨b, 0, none⟩) xs ∧ w.heap.size ≤ b ∧ b < w'.heap.size ∧ Below w.heap.size w w' ∧ Own encCruc 4 95 w' w.heap.size (.slice (some ⟨b, 0, none⟩) xs.length xs.length) xs := by
  obtain ⟨i0, hi, hz0, hz1, hz2⟩ := info_parts info_Cruc
  have hmk := fun W => run_make_rowN (P := Try.prog) 47 95 i0 _ Try.underlying47 hi hz0 .i64 .i64 xs.length xs.length (Nat.le_refl _) (by rw [hz2]; omega) (by omega) W
  rw [hz1] at hmk
  generalize hcs : madeCells (Value.agg #[.string ByteArray.empty, .int .i64 0, .int .i64 0, .int .i64 0]).cells (xs.length * 4) = cs at hmk
  have hcs' : cs.size = xs.length * 4 := by rw [← hcs, size_madeCells]
  have hF := Fill.start w cs 95
  rw [hcs'] at hF
  have HF := hide hF
  have HX := hide h
  clear hi hz0 hz1 hz2 hcs hcs' hF h
  go_enter Try.func20, Try.ntmps20
  go_wp2_with fail
  clear hmk
  go_loopw [4] (fun v wr => ∃ k : Nat, v = .int .i64 k ∧ k ≤ xs.length ∧ Filling encCruc 4 95 w wr w.heap.size xs k) (fun v _ => xs.length - (intOf v).toNat)
  case atStart => exact ⟨0, rfl, by omega, by simpa using HF.out, (by repeat (first | with_reducible exact Below.refl _ _ | with_reducible assumption | (with_reducible refine Below.drew ?_) | (with_reducible refine below_drewN ?_ _) | ((with_reducible refine Below.alloc ?_ ?_ _); rotate_left; (focus (first | omega | (simp; omega) | simp))) | ((with_reducible refine Below.setCell ?_ ?_ _); rotate_left; (focus (first | omega | (simp; omega) | simp))) | (refine Below.trans ?_ (Below.mono (by assumption) (by first | omega | (simp; omega) | simp)))))⟩
  case round =>
    obtain ⟨k, rfl, hk, hR⟩ := hrel
    by_cases hlt : k < xs.length
    · obtain ⟨b, off, rfl, hbl, hc⟩ := HX.out k hlt
      have hb := hR.2

      have hc0 := (hb.cell (p := ⟨b, off + k * 4 + 0, none⟩) hbl).trans (hc 0 _ rfl)
      have hc1 := (hb.cell (p := ⟨b, off + k * 4 + 1, none⟩) hbl).trans (hc 1 _ rfl)
      have hc2 := (hb.cell (p := ⟨b, off + k * 4 + 2, none⟩) hbl).trans (hc 2 _ rfl)
      have hc3 := (hb.cell (p := ⟨b, off + k * 4 + 3, none⟩) hbl).trans (hc 3 _ rfl)
      simp only [Nat.add_zero] at hc0
      obtain ⟨u0, hu0⟩ := hR.1.cell (j := k * 4) (by omega)
      have hf0 := hR.1.frozen (k * 4)
      obtain ⟨u1, hu1⟩ := hR.1.cell (j := k * 4 + 1) (by omega)
      have hf1 := hR.1.frozen (k * 4 + 1)
      obtain ⟨u2, hu2⟩ := hR.1.cell (j := k * 4 + 2) (by omega)
      have hf2 := hR.1.frozen (k * 4 + 2)
      obtain ⟨u3, hu3⟩ := hR.1.cell (j := k * 4 + 3) (by omega)
      have hf3 := hR.1.frozen (k * 4 + 3)
      have hz := hR.1.lt
      have hlen := flat_length (enc := encCruc) (sz := 4) (fun _ => rfl) (xs.take k)
      rw [List.length_take, Nat.min_eq_left hk] at hlen
      have ht := take_flat encCruc xs k hlt
      have HR := hide hR
      have HT := hide (And.intro hlen ht)
      clear hR hb hlen ht hc
      generalize hx : xs[k] = x at *
      obtain ⟨x0, x1, x2, x3⟩ := x
      clear hx
      simp only at hc0 hc1 hc2 hc3
      go_wp2_with fail
      refine (lawstoCrucible _ _ _ _ _).mono ?_
      rintro e w1 ⟨rfl, hb1⟩
      obtain ⟨fcb1, ffb1, fzb1⟩ := bfacts hb1 (by first | exact Nat.le_refl _ | omega | (simp; omega) | simp); have fsb1 := hb1.size; try simp at fcb1 ffb1 fzb1 fsb1 hb1
      go_wp2_with fail
      go_roundw
      case rel => exact ⟨k + 1, by go_num, by omega, by
        refine ⟨?_, Below.setCell (Below.setCell (Below.setCell (Below.setCell (HR.out.2.trans (hb1.mono (by omega))) (Nat.le_refl _) _) (Nat.le_refl _) _) (Nat.le_refl _) _) (Nat.le_refl _) _⟩
        rw [HT.out.2]
        have hp := ((((HR.out.1.below hb1 hz).push (m := k * 4) (by simp [HT.out.1]) (by omega) (.string x0)).push (m := k * 4 + 1) (by simp [HT.out.1]) (by omega) (.int .i64 x1)).push (m := k * 4 + 2) (by simp [HT.out.1]) (by omega) (.int .i64 x2)).push (m := k * 4 + 3) (by simp [HT.out.1]) (by omega) (.int .i64 x3)
        simpa [encCruc] using hp⟩
      case measure => simp [intOf]; omega
    · have hR' := hR.1
      rw [List.take_of_length_le (by omega)] at hR'
      have hfin := Fill.fin (enc := encCruc) (sz := 4) (fun _ => rfl) hR'
      have hown := Fill.own (enc := encCruc) (sz := 4) rfl (Nat.le_trans hn (by decide)) (fun _ => rfl) hR'
      have hz := hR.1.lt
      have HR := hide hR
      have HN := hide hfin
      have HO := hide hown
      clear hR hR' hfin hown
      go_wp2_with fail
      go_ret
      exact ⟨_, rfl, HN.out, Nat.le_refl _, hz, HR.out.2, HO.out⟩
theorem lawstoCrucibleS (A : Option Addr) (c : Nat) (xs : List CrucR) (w : World) (h : SlAt encCruc 4 w A xs) (hn : xs.length ≤ 1048576) :
    Calls Try.prog 20 #[.slice A xs.length c] w fun e w' => ∃ b, e = .returned (.slice (some ⟨b, 0, none⟩) xs.length xs.length) ∧ SlAt encCruc 4 w' (some ⟨b, 0, none⟩) xs ∧ w.heap.size ≤ b ∧ b < w'.heap.size ∧ Below w.heap.size w w' :=
  (lawstoCrucibleS_own A c xs w h hn).mono fun _ _ ⟨b, h1, h2, h3, h4, h5, _⟩ => ⟨b, h1, h2, h3, h4, h5⟩
theorem lawstoCrucibleS_o (A : Option Addr) (c : Nat) (xs : List CrucR) (w : World) (h : SlAt encCruc 4 w A xs) (hn : xs.length ≤ 1048576) :
    Calls Try.prog 20 #[.slice A xs.length c] w fun e w' => ∃ b, e = .returned (.slice (some ⟨b, 0, none⟩) xs.length xs.length) ∧ Own encCruc 4 95 w' w.heap.size (.slice (some ⟨b, 0, none⟩) xs.length xs.length) xs ∧ Below w.heap.size w w' :=
  (lawstoCrucibleS_own A c xs w h hn).mono fun _ _ ⟨b, h1, _, _, _, h5, h6⟩ => ⟨b, h1, h6, h5⟩
theorem lawseqPour_same (x0 : ByteArray) (x1 : Int) (x2 : Int) (x3 : Int) (w : World) : Calls Try.prog 58 #[.agg #[.string x0, .int .i64 x1, .int .i64 x2, .int .i64 x3], .agg #[.string x0, .int .i64 x1, .int .i64 x2, .int .i64 x3]] w fun e w' => e = .returned (.bool true) ∧ Below w.heap.size w w' := by
  go_enter Try.func58, Try.ntmps58
  go_wp2
  go_ret
  exact ⟨rfl, (by repeat (first | with_reducible exact Below.refl _ _ | with_reducible assumption | (with_reducible refine Below.drew ?_) | (with_reducible refine below_drewN ?_ _) | ((with_reducible refine Below.alloc ?_ ?_ _); rotate_left; (focus (first | omega | (simp; omega) | simp))) | ((with_reducible refine Below.setCell ?_ ?_ _); rotate_left; (focus (first | omega | (simp; omega) | simp))) | (refine Below.trans ?_ (Below.mono (by assumption) (by first | omega | (simp; omega) | simp)))))⟩
theorem lawseqPourS_same (A A' : Option Addr) (c c' : Nat) (xs : List PourR) (w : World) (h : SlAt encPour 4 w A xs) (h' : SlAt encPour 4 w A' xs) (hn : xs.length ≤ 1048576) :
    Calls Try.prog 22 #[.slice A xs.length c, .slice A' xs.length c'] w fun e w' => e = .returned (.bool true) ∧ Below w.heap.size w w' := by
  have HX := hide h
  have HY := hide h'
  clear h h'
  go_enter Try.func22, Try.ntmps22
  go_wp2_with fail
  go_loopw [5] (fun v wr => ∃ k : Nat, v = .int .i64 k ∧ k ≤ xs.length ∧ Below w.heap.size w wr) (fun v _ => xs.length - (intOf v).toNat)
  case atStart => exact ⟨0, rfl, by omega, (by repeat (first | with_reducible exact Below.refl _ _ | with_reducible assumption | (with_reducible refine Below.drew ?_) | (with_reducible refine below_drewN ?_ _) | ((with_reducible refine Below.alloc ?_ ?_ _); rotate_left; (focus (first | omega | (simp; omega) | simp))) | ((with_reducible refine Below.setCell ?_ ?_ _); rotate_left; (focus (first | omega | (simp; omega) | simp))) | (refine Below.trans ?_ (Below.mono (by assumption) (by first | omega | (simp; omega) | simp)))))⟩
  case round =>
    obtain ⟨k, rfl, hk, hb⟩ := hrel
    by_cases hlt : k < xs.length
    · obtain ⟨b, off, rfl, hbl, hc⟩ := HX.out.below hb k hlt
      obtain ⟨b2, off2, rfl, hbl2, hd⟩ := HY.out.below hb k hlt
      have hc0 := hc 0 _ rfl
      have hd0 := hd 0 _ rfl
      have hc1 := hc 1 _ rfl
      have hd1 := hd 1 _ rfl
      have hc2 := hc 2 _ rfl
      have hd2 := hd 2 _ rfl
      have hc3 := hc 3 _ rfl
      have hd3 := hd 3 _ rfl
      simp only [Nat.add_zero] at hc0 hd0
      have hz := hb.size
      have HB := hide hb
      clear hc hd
      generalize hx : xs[k] = x at *
      clear hx
      obtain ⟨x0, x1, x2, x3⟩ := x
      simp only at hc0 hd0 hc1 hd1 hc2 hd2 hc3 hd3
      go_wp2_with fail
      refine wp_region_kept (by kernel_rfl) (by kernel_rfl) ?_
      intro gc gf gz
      repeat (go_big_quiet_step ((go_at_call 58; exact Calls.kept (lawseqPour_same x0 x1 x2 x3 _))))
      refine wpQuiet_nil ?_
      intro w1 hw'
      obtain ⟨⟨_, hb1⟩, rfl⟩ := hw'
      clear gc gf gz
      try dsimp only
      have fs1 := hb1.size
      try simp at fs1 hb1
      go_wp2_with fail
      go_roundw
      case rel => exact ⟨k + 1, by go_num, by omega, (by repeat (first | with_reducible exact Below.refl _ _ | with_reducible assumption | (with_reducible refine Below.drew ?_) | (with_reducible refine below_drewN ?_ _) | ((with_reducible refine Below.alloc ?_ ?_ _); rotate_left; (focus (first | omega | (simp; omega) | simp))) | ((with_reducible refine Below.setCell ?_ ?_ _); rotate_left; (focus (first | omega | (simp; omega) | simp))) | (refine Below.trans ?_ (Below.mono (by assumption) (by first | omega | (simp; omega) | simp)))))⟩
      case measure => simp [intOf]; omega
    · go_wp2_with fail
      go_ret
      exact ⟨rfl, hb⟩
theorem lawseqCrucible_same (x0 : ByteArray) (x1 : Int) (x2 : Int) (x3 : Int) (w : World) : Calls Try.prog 59 #[.agg #[.string x0, .int .i64 x1, .int .i64 x2, .int .i64 x3], .agg #[.string x0, .int .i64 x1, .int .i64 x2, .int .i64 x3]] w fun e w' => e = .returned (.bool true) ∧ Below w.heap.size w w' := by
  go_enter Try.func59, Try.ntmps59
  go_wp2
  go_ret
  exact ⟨rfl, (by repeat (first | with_reducible exact Below.refl _ _ | with_reducible assumption | (with_reducible refine Below.drew ?_) | (with_reducible refine below_drewN ?_ _) | ((with_reducible refine Below.alloc ?_ ?_ _); rotate_left; (focus (first | omega | (simp; omega) | simp))) | ((with_reducible refine Below.setCell ?_ ?_ _); rotate_left; (focus (first | omega | (simp; omega) | simp))) | (refine Below.trans ?_ (Below.mono (by assumption) (by first | omega | (simp; omega) | simp)))))⟩
theorem lawseqCrucibleS_same (A A' : Option Addr) (c c' : Nat) (xs : List CrucR) (w : World) (h : SlAt encCruc 4 w A xs) (h' : SlAt encCruc 4 w A' xs) (hn : xs.length ≤ 1048576) :
    Calls Try.prog 23 #[.slice A xs.length c, .slice A' xs.length c'] w fun e w' => e = .returned (.bool true) ∧ Below w.heap.size w w' := by
  have HX := hide h
  have HY := hide h'
  clear h h'
  go_enter Try.func23, Try.ntmps23
  go_wp2_with fail
  go_loopw [5] (fun v wr => ∃ k : Nat, v = .int .i64 k ∧ k ≤ xs.length ∧ Below w.heap.size w wr) (fun v _ => xs.length - (intOf v).toNat)
  case atStart => exact ⟨0, rfl, by omega, (by repeat (first | with_reducible exact Below.refl _ _ | with_reducible assumption | (with_reducible refine Below.drew ?_) | (with_reducible refine below_drewN ?_ _) | ((with_reducible refine Below.alloc ?_ ?_ _); rotate_left; (focus (first | omega | (simp; omega) | simp))) | ((with_reducible refine Below.setCell ?_ ?_ _); rotate_left; (focus (first | omega | (simp; omega) | simp))) | (refine Below.trans ?_ (Below.mono (by assumption) (by first | omega | (simp; omega) | simp)))))⟩
  case round =>
    obtain ⟨k, rfl, hk, hb⟩ := hrel
    by_cases hlt : k < xs.length
    · obtain ⟨b, off, rfl, hbl, hc⟩ := HX.out.below hb k hlt
      obtain ⟨b2, off2, rfl, hbl2, hd⟩ := HY.out.below hb k hlt
      have hc0 := hc 0 _ rfl
      have hd0 := hd 0 _ rfl
      have hc1 := hc 1 _ rfl
      have hd1 := hd 1 _ rfl
      have hc2 := hc 2 _ rfl
      have hd2 := hd 2 _ rfl
      have hc3 := hc 3 _ rfl
      have hd3 := hd 3 _ rfl
      simp only [Nat.add_zero] at hc0 hd0
      have hz := hb.size
      have HB := hide hb
      clear hc hd
      generalize hx : xs[k] = x at *
      clear hx
      obtain ⟨x0, x1, x2, x3⟩ := x
      simp only at hc0 hd0 hc1 hd1 hc2 hd2 hc3 hd3
      go_wp2_with fail
      refine wp_region_kept (by kernel_rfl) (by kernel_rfl) ?_
      intro gc gf gz
      repeat (go_big_quiet_step ((go_at_call 59; exact Calls.kept (lawseqCrucible_same x0 x1 x2 x3 _))))
      refine wpQuiet_nil ?_
      intro w1 hw'
      obtain ⟨⟨_, hb1⟩, rfl⟩ := hw'
      clear gc gf gz
      try dsimp only
      have fs1 := hb1.size
      try simp at fs1 hb1
      go_wp2_with fail
      go_roundw
      case rel => exact ⟨k + 1, by go_num, by omega, (by repeat (first | with_reducible exact Below.refl _ _ | with_reducible assumption | (with_reducible refine Below.drew ?_) | (with_reducible refine below_drewN ?_ _) | ((with_reducible refine Below.alloc ?_ ?_ _); rotate_left; (focus (first | omega | (simp; omega) | simp))) | ((with_reducible refine Below.setCell ?_ ?_ _); rotate_left; (focus (first | omega | (simp; omega) | simp))) | (refine Below.trans ?_ (Below.mono (by assumption) (by first | omega | (simp; omega) | simp)))))⟩
      case measure => simp [intOf]; omega
    · go_wp2_with fail
      go_ret
      exact ⟨rfl, hb⟩
theorem lawsszPourS_any (A : Option Addr) (c : Nat) (xs : List PourR) (left : Int) (w : World) (h : SlAt encPour 4 w A xs) (hn : xs.length ≤ 9223372036854775807) (hs : ∀ x ∈ xs, x.nm.size ≤ maxLen) (h0 : 0 ≤ left) (h1 : left ≤ 1048576) :
    Calls Try.prog 16 #[.slice A xs.length c, .int .i64 left] w fun e w' => ∃ r : Int, e = .returned (.int .i64 r) ∧ -1 ≤ r ∧ r ≤ left ∧ (0 ≤ r → (xs.length : Int) ≤ left) ∧ Below w.heap.size w w' := by
  have HX := hide h
  have HS := hide hs
  clear h hs
  by_cases hz : (xs.length : Int) ≤ left
  · go_enter Try.func16, Try.ntmps16
    go_wp2_with fail
    go_loopw [5, 1] (fun v l wr => ∃ k : Nat, v = .int .i64 k ∧ k ≤ xs.length ∧ (∃ r : Int, l = .int .i64 r ∧ 0 ≤ r ∧ r ≤ left) ∧ Below w.heap.size w wr) (fun v _ _ => xs.length - (intOf v).toNat)
    case atStart => exact ⟨0, rfl, by omega, ⟨_, rfl, by omega, by omega⟩, (by repeat (first | with_reducible exact Below.refl _ _ | with_reducible assumption | (with_reducible refine Below.drew ?_) | (with_reducible refine below_drewN ?_ _) | ((with_reducible refine Below.alloc ?_ ?_ _); rotate_left; (focus (first | omega | (simp; omega) | simp))) | ((with_reducible refine Below.setCell ?_ ?_ _); rotate_left; (focus (first | omega | (simp; omega) | simp))) | (refine Below.trans ?_ (Below.mono (by assumption) (by first | omega | (simp; omega) | simp)))))⟩
    case round =>
      obtain ⟨k, rfl, hk, ⟨r, rfl, r0, r1⟩, hb⟩ := hrel
      by_cases hlt : k < xs.length
      · obtain ⟨b, off, rfl, hbl, hc⟩ := HX.out.below hb k hlt
        have hc0 := hc 0 _ rfl
        have hc1 := hc 1 _ rfl
        have hc2 := hc 2 _ rfl
        have hc3 := hc 3 _ rfl
        simp only [Nat.add_zero] at hc0
        have hsz := HS.out xs[k] (List.getElem_mem hlt)
        have hz := hb.size
        clear hc
        generalize hx : xs[k] = x at *
        clear hx
        obtain ⟨x0, x1, x2, x3⟩ := x
        simp only at hc0 hc1 hc2 hc3 hsz
        by_cases hq : (x0.size : Int) ≤ r
        · go_wp2_with fail
          refine (lawsszPour_ok _ _ _ _ _ _ hq (by omega)).mono ?_
          rintro e w1 ⟨rfl, hb1⟩
          obtain ⟨fcb1, ffb1, fzb1⟩ := bfacts hb1 (by first | exact Nat.le_refl _ | omega | (simp; omega) | simp); have fsb1 := hb1.size; try simp at fcb1 ffb1 fzb1 fsb1 hb1
          go_wp2_with fail
          go_roundw
          case rel => exact ⟨k + 1, by go_num, by omega, ⟨_, rfl, by omega, by omega⟩, (by repeat (first | with_reducible exact Below.refl _ _ | with_reducible assumption | (with_reducible refine Below.drew ?_) | (with_reducible refine below_drewN ?_ _) | ((with_reducible refine Below.alloc ?_ ?_ _); rotate_left; (focus (first | omega | (simp; omega) | simp))) | ((with_reducible refine Below.setCell ?_ ?_ _); rotate_left; (focus (first | omega | (simp; omega) | simp))) | (refine Below.trans ?_ (Below.mono (by assumption) (by first | omega | (simp; omega) | simp)))))⟩
          case measure => simp [intOf]; omega
        · go_wp2_with fail
          refine (lawsszPour_big _ _ _ _ _ _ hsz (by omega) r0).mono ?_
          rintro e w1 ⟨rfl, hb1⟩
          obtain ⟨fcb1, ffb1, fzb1⟩ := bfacts hb1 (by first | exact Nat.le_refl _ | omega | (simp; omega) | simp); have fsb1 := hb1.size; try simp at fcb1 ffb1 fzb1 fsb1 hb1
          go_wp2_with fail
          go_ret
          exact ⟨-1, rfl, by omega, by omega, fun h => by omega, (by repeat (first | with_reducible exact Below.refl _ _ | with_reducible assumption | (with_reducible refine Below.drew ?_) | (with_reducible refine below_drewN ?_ _) | ((with_reducible refine Below.alloc ?_ ?_ _); rotate_left; (focus (first | omega | (simp; omega) | simp))) | ((with_reducible refine Below.setCell ?_ ?_ _); rotate_left; (focus (first | omega | (simp; omega) | simp))) | (refine Below.trans ?_ (Below.mono (by assumption) (by first | omega | (simp; omega) | simp)))))⟩
      · go_wp2_with fail
        go_ret
        exact ⟨r, rfl, by omega, r1, fun _ => hz, hb⟩
  · go_enter Try.func16, Try.ntmps16
    go_wp2_with fail
    go_ret
    exact ⟨-1, rfl, by omega, by omega, fun h => by omega, (by repeat (first | with_reducible exact Below.refl _ _ | with_reducible assumption | (with_reducible refine Below.drew ?_) | (with_reducible refine below_drewN ?_ _) | ((with_reducible refine Below.alloc ?_ ?_ _); rotate_left; (focus (first | omega | (simp; omega) | simp))) | ((with_reducible refine Below.setCell ?_ ?_ _); rotate_left; (focus (first | omega | (simp; omega) | simp))) | (refine Below.trans ?_ (Below.mono (by assumption) (by first | omega | (simp; omega) | simp)))))⟩
theorem lawsszCrucibleS_any (A : Option Addr) (c : Nat) (xs : List CrucR) (left : Int) (w : World) (h : SlAt encCruc 4 w A xs) (hn : xs.length ≤ 9223372036854775807) (hs : ∀ x ∈ xs, x.nm.size ≤ maxLen) (h0 : 0 ≤ left) (h1 : left ≤ 1048576) :
    Calls Try.prog 17 #[.slice A xs.length c, .int .i64 left] w fun e w' => ∃ r : Int, e = .returned (.int .i64 r) ∧ -1 ≤ r ∧ r ≤ left ∧ (0 ≤ r → (xs.length : Int) ≤ left) ∧ Below w.heap.size w w' := by
  have HX := hide h
  have HS := hide hs
  clear h hs
  by_cases hz : (xs.length : Int) ≤ left
  · go_enter Try.func17, Try.ntmps17
    go_wp2_with fail
    go_loopw [5, 1] (fun v l wr => ∃ k : Nat, v = .int .i64 k ∧ k ≤ xs.length ∧ (∃ r : Int, l = .int .i64 r ∧ 0 ≤ r ∧ r ≤ left) ∧ Below w.heap.size w wr) (fun v _ _ => xs.length - (intOf v).toNat)
    case atStart => exact ⟨0, rfl, by omega, ⟨_, rfl, by omega, by omega⟩, (by repeat (first | with_reducible exact Below.refl _ _ | with_reducible assumption | (with_reducible refine Below.drew ?_) | (with_reducible refine below_drewN ?_ _) | ((with_reducible refine Below.alloc ?_ ?_ _); rotate_left; (focus (first | omega | (simp; omega) | simp))) | ((with_reducible refine Below.setCell ?_ ?_ _); rotate_left; (focus (first | omega | (simp; omega) | simp))) | (refine Below.trans ?_ (Below.mono (by assumption) (by first | omega | (simp; omega) | simp)))))⟩
    case round =>
      obtain ⟨k, rfl, hk, ⟨r, rfl, r0, r1⟩, hb⟩ := hrel
      by_cases hlt : k < xs.length
      · obtain ⟨b, off, rfl, hbl, hc⟩ := HX.out.below hb k hlt
        have hc0 := hc 0 _ rfl
        have hc1 := hc 1 _ rfl
        have hc2 := hc 2 _ rfl
        have hc3 := hc 3 _ rfl
        simp only [Nat.add_zero] at hc0
        have hsz := HS.out xs[k] (List.getElem_mem hlt)
        have hz := hb.size
        clear hc
        generalize hx : xs[k] = x at *
        clear hx
        obtain ⟨x0, x1, x2, x3⟩ := x
        simp only at hc0 hc1 hc2 hc3 hsz
        by_cases hq : (x0.size : Int) ≤ r
        · go_wp2_with fail
          refine (lawsszCrucible_ok _ _ _ _ _ _ hq (by omega)).mono ?_
          rintro e w1 ⟨rfl, hb1⟩
          obtain ⟨fcb1, ffb1, fzb1⟩ := bfacts hb1 (by first | exact Nat.le_refl _ | omega | (simp; omega) | simp); have fsb1 := hb1.size; try simp at fcb1 ffb1 fzb1 fsb1 hb1
          go_wp2_with fail
          go_roundw
          case rel => exact ⟨k + 1, by go_num, by omega, ⟨_, rfl, by omega, by omega⟩, (by repeat (first | with_reducible exact Below.refl _ _ | with_reducible assumption | (with_reducible refine Below.drew ?_) | (with_reducible refine below_drewN ?_ _) | ((with_reducible refine Below.alloc ?_ ?_ _); rotate_left; (focus (first | omega | (simp; omega) | simp))) | ((with_reducible refine Below.setCell ?_ ?_ _); rotate_left; (focus (first | omega | (simp; omega) | simp))) | (refine Below.trans ?_ (Below.mono (by assumption) (by first | omega | (simp; omega) | simp)))))⟩
          case measure => simp [intOf]; omega
        · go_wp2_with fail
          refine (lawsszCrucible_big _ _ _ _ _ _ hsz (by omega) r0).mono ?_
          rintro e w1 ⟨rfl, hb1⟩
          obtain ⟨fcb1, ffb1, fzb1⟩ := bfacts hb1 (by first | exact Nat.le_refl _ | omega | (simp; omega) | simp); have fsb1 := hb1.size; try simp at fcb1 ffb1 fzb1 fsb1 hb1
          go_wp2_with fail
          go_ret
          exact ⟨-1, rfl, by omega, by omega, fun h => by omega, (by repeat (first | with_reducible exact Below.refl _ _ | with_reducible assumption | (with_reducible refine Below.drew ?_) | (with_reducible refine below_drewN ?_ _) | ((with_reducible refine Below.alloc ?_ ?_ _); rotate_left; (focus (first | omega | (simp; omega) | simp))) | ((with_reducible refine Below.setCell ?_ ?_ _); rotate_left; (focus (first | omega | (simp; omega) | simp))) | (refine Below.trans ?_ (Below.mono (by assumption) (by first | omega | (simp; omega) | simp)))))⟩
      · go_wp2_with fail
        go_ret
        exact ⟨r, rfl, by omega, r1, fun _ => hz, hb⟩
  · go_enter Try.func17, Try.ntmps17
    go_wp2_with fail
    go_ret
    exact ⟨-1, rfl, by omega, by omega, fun h => by omega, (by repeat (first | with_reducible exact Below.refl _ _ | with_reducible assumption | (with_reducible refine Below.drew ?_) | (with_reducible refine below_drewN ?_ _) | ((with_reducible refine Below.alloc ?_ ?_ _); rotate_left; (focus (first | omega | (simp; omega) | simp))) | ((with_reducible refine Below.setCell ?_ ?_ _); rotate_left; (focus (first | omega | (simp; omega) | simp))) | (refine Below.trans ?_ (Below.mono (by assumption) (by first | omega | (simp; omega) | simp)))))⟩
end Go.Proofs.Ytklmbgefdopifaa
