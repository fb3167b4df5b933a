/- Contracts: alloys, ingots and demands: copies, counts, comparisons, marks; which are valid, on both sides. -/
import Derived.Test.YtjklhacffdhgaaaRows2
import Derived.Test.YtjklhacffdhgaaaMarks
namespace Go.Proofs.Ytjklhacffdhgaaa
open Go.RowKit

/-- An alloy. -/
def vAlloy (c t o : Int) : Bool := inB c 0 1000000 && inB t 0 1000000 && inB o 0 1000000 && c + t + o == 1000000
theorem vAlloy_true {c t o : Int} (h : vAlloy c t o = true) : 0 ≤ c ∧ c ≤ 1000000 ∧ 0 ≤ t ∧ t ≤ 1000000 ∧ 0 ≤ o ∧ o ≤ 1000000 := by
  unfold vAlloy at h
  simp only [Bool.and_eq_true] at h
  have a := inB_true h.1.1.1
  have b := inB_true h.1.1.2
  have c := inB_true h.1.2
  omega
/-- An ingot. -/
def vIngot (x0 : ByteArray) (x1 x2 x3 x4 : Int) : Bool := nameB x0.data.toList && inB x1 1 20000000 && vAlloy x2 x3 x4
theorem vIngot_true {x0 : ByteArray} {x1 x2 x3 x4 : Int} (h : vIngot x0 x1 x2 x3 x4 = true) : (1 ≤ x1 ∧ x1 ≤ 20000000) ∧ (0 ≤ x2 ∧ x2 ≤ 1000000) ∧ (0 ≤ x3 ∧ x3 ≤ 1000000) ∧ 0 ≤ x4 ∧ x4 ≤ 1000000 := by
  unfold vIngot at h
  simp only [Bool.and_eq_true] at h
  have a := inB_true h.1.2
  have b := vAlloy_true h.2
  omega
theorem implValidAlloy (c t o : Int) (w : World) : Calls Try.prog 185 #[.agg #[.int .i64 c, .int .i64 t, .int .i64 o]] w fun e w' => e = .returned (.bool (vAlloy c t o)) ∧ Below w.heap.size w w' := by
  cases h0 : inB c 0 1000000
  · have e : Hid (vAlloy c t o = false) := by unfold Hid vAlloy; simp [h0]
    go_enter Try.func185, Try.ntmps185
    go_wp2_with (go_at_call 157; refine (implisPart_any _ _).mono ?_; rintro e w2 ⟨rfl, rfl⟩)
    go_ret
    exact ⟨ret_bool e.out.symm, (by repeat (first | with_reducible exact Below.refl _ _ | with_reducible assumption | (with_reducible refine Below.drew ?_) | (with_reducible refine below_drewN ?_ _) | ((with_reducible refine Below.alloc ?_ ?_ _); rotate_left; (focus (first | omega | (simp; omega) | simp))) | ((with_reducible refine Below.setCell ?_ ?_ _); rotate_left; (focus (first | omega | (simp; omega) | simp))) | (refine Below.trans ?_ (Below.mono (by assumption) (by first | omega | (simp; omega) | simp)))))⟩
  · cases h1 : inB t 0 1000000
    · have e : Hid (vAlloy c t o = false) := by unfold Hid vAlloy; simp [h0, h1]
      go_enter Try.func185, Try.ntmps185
      go_wp2_with (go_at_call 157; refine (implisPart_any _ _).mono ?_; rintro e w2 ⟨rfl, rfl⟩)
      go_ret
      exact ⟨ret_bool e.out.symm, (by repeat (first | with_reducible exact Below.refl _ _ | with_reducible assumption | (with_reducible refine Below.drew ?_) | (with_reducible refine below_drewN ?_ _) | ((with_reducible refine Below.alloc ?_ ?_ _); rotate_left; (focus (first | omega | (simp; omega) | simp))) | ((with_reducible refine Below.setCell ?_ ?_ _); rotate_left; (focus (first | omega | (simp; omega) | simp))) | (refine Below.trans ?_ (Below.mono (by assumption) (by first | omega | (simp; omega) | simp)))))⟩
    · cases h2 : inB o 0 1000000
      · have e : Hid (vAlloy c t o = false) := by unfold Hid vAlloy; simp [h0, h1, h2]
        go_enter Try.func185, Try.ntmps185
        go_wp2_with (go_at_call 157; refine (implisPart_any _ _).mono ?_; rintro e w2 ⟨rfl, rfl⟩)
        go_ret
        exact ⟨ret_bool e.out.symm, (by repeat (first | with_reducible exact Below.refl _ _ | with_reducible assumption | (with_reducible refine Below.drew ?_) | (with_reducible refine below_drewN ?_ _) | ((with_reducible refine Below.alloc ?_ ?_ _); rotate_left; (focus (first | omega | (simp; omega) | simp))) | ((with_reducible refine Below.setCell ?_ ?_ _); rotate_left; (focus (first | omega | (simp; omega) | simp))) | (refine Below.trans ?_ (Below.mono (by assumption) (by first | omega | (simp; omega) | simp)))))⟩
      · have e : Hid (vAlloy c t o = (c + t + o == 1000000)) := by unfold Hid vAlloy; simp [h0, h1, h2]
        obtain ⟨a0, a1⟩ := inB_true h0
        obtain ⟨b0, b1⟩ := inB_true h1
        obtain ⟨d0, d1⟩ := inB_true h2
        go_enter Try.func185, Try.ntmps185
        go_wp2_with (go_at_call 157; refine (implisPart_any _ _).mono ?_; rintro e w2 ⟨rfl, rfl⟩)
        go_ret
        exact ⟨ret_bool e.out.symm, (by repeat (first | with_reducible exact Below.refl _ _ | with_reducible assumption | (with_reducible refine Below.drew ?_) | (with_reducible refine below_drewN ?_ _) | ((with_reducible refine Below.alloc ?_ ?_ _); rotate_left; (focus (first | omega | (simp; omega) | simp))) | ((with_reducible refine Below.setCell ?_ ?_ _); rotate_left; (focus (first | omega | (simp; omega) | simp))) | (refine Below.trans ?_ (Below.mono (by assumption) (by first | omega | (simp; omega) | simp)))))⟩
set_option maxRecDepth 100000 in
set_option maxHeartbeats 2000000 in
theorem specl13Alloy (bl off : Nat) (c t o : Int) (w : World) (c0 : w.cell? ⟨bl, off, none⟩ = some (.int .i64 c)) (c1 : w.cell? ⟨bl, off + 1, none⟩ = some (.int .i64 t)) (c2 : w.cell? ⟨bl, off + 2, none⟩ = some (.int .i64 o)) :
    Calls Try.prog 184 #[.pointer (some ⟨bl, off, none⟩)] w fun e w' => e = .returned (.bool (vAlloy c t o)) ∧ Below w.heap.size w w' := by
  have hbl : bl < w.heap.size := World.block_lt_of_cell? w _ c0
  cases h0 : inB c 0 1000000
  · have e : Hid (vAlloy c t o = false) := by unfold Hid vAlloy; simp [h0]
    go_enter Try.func184, Try.ntmps184
    go_wp2_with fail
    refine wp_region_kept (by kernel_rfl) (by kernel_rfl) ?_
    intro gc gf gz
    repeat (go_big_quiet_step ((go_at_call 96; exact Calls.kept_same (specl00In_is _ _ _ _ (by assumption) _))))
    refine wpQuiet_nil ?_
    intro w1 hw'
    obtain ⟨⟨_, hb1⟩, rfl⟩ := hw'
    clear gc gf gz
    try dsimp only
    have fs1 := hb1.size
    try simp at fs1 hb1
    go_wp2_with fail
    go_ret
    exact ⟨ret_bool e.out.symm, hb1⟩
  · cases h1 : inB t 0 1000000
    · have e : Hid (vAlloy c t o = false) := by unfold Hid vAlloy; simp [h0, h1]
      go_enter Try.func184, Try.ntmps184
      go_wp2_with fail
      refine wp_region_kept (by kernel_rfl) (by kernel_rfl) ?_
      intro gc gf gz
      repeat (go_big_quiet_step ((go_at_call 96; exact Calls.kept_same (specl00In_is _ _ _ _ (by assumption) _))))
      refine wpQuiet_nil ?_
      intro w1 hw'
      obtain ⟨⟨_, hb1⟩, rfl⟩ := hw'
      clear gc gf gz
      try dsimp only
      have fs1 := hb1.size
      try simp at fs1 hb1
      go_wp2_with fail
      go_ret
      exact ⟨ret_bool e.out.symm, hb1⟩
    · cases h2 : inB o 0 1000000
      · have e : Hid (vAlloy c t o = false) := by unfold Hid vAlloy; simp [h0, h1, h2]
        go_enter Try.func184, Try.ntmps184
        go_wp2_with fail
        refine wp_region_kept (by kernel_rfl) (by kernel_rfl) ?_
        intro gc gf gz
        repeat (go_big_quiet_step ((go_at_call 96; exact Calls.kept_same (specl00In_is _ _ _ _ (by assumption) _))))
        refine wpQuiet_nil ?_
        intro w1 hw'
        obtain ⟨⟨_, hb1⟩, rfl⟩ := hw'
        clear gc gf gz
        try dsimp only
        have fs1 := hb1.size
        try simp at fs1 hb1
        go_wp2_with fail
        go_ret
        exact ⟨ret_bool e.out.symm, hb1⟩
      · have e : Hid (vAlloy c t o = (c + t + o == 1000000)) := by unfold Hid vAlloy; simp [h0, h1, h2]
        obtain ⟨a0, a1⟩ := inB_true h0
        obtain ⟨b0, b1⟩ := inB_true h1
        obtain ⟨d0, d1⟩ := inB_true h2
        have k1 : IntKind.i64.wrap (c + t) = c + t := IntWalk.i64_in _ (by omega)
        have k2 : IntKind.i64.wrap (c + t + o) = c + t + o := IntWalk.i64_in _ (by omega)
        go_enter Try.func184, Try.ntmps184
        go_wp2_with fail
        refine wp_region_kept (by kernel_rfl) (by kernel_rfl) ?_
        intro gc gf gz
        repeat (go_big_quiet_step ((go_at_call 96; exact Calls.kept_same (specl00In_is _ _ _ _ (by assumption) _))))
        refine wpQuiet_nil ?_
        intro w1 hw'
        obtain ⟨⟨_, hb1⟩, rfl⟩ := hw'
        clear gc gf gz
        try dsimp only
        have fs1 := hb1.size
        try simp at fs1 hb1
        go_wp2_with fail
        go_ret
        exact ⟨ret_bool e.out.symm, hb1⟩
theorem implvalidIngot (x0 : ByteArray) (x1 x2 x3 x4 : Int) (w : World) (hs0 : x0.size ≤ maxLen) : Calls Try.prog 156 #[.agg #[.string x0, .int .i64 x1, .int .i64 x2, .int .i64 x3, .int .i64 x4]] w fun e w' => e = .returned (.bool (vIngot x0 x1 x2 x3 x4)) ∧ Below w.heap.size w w' := by
  cases h0 : nameB x0.data.toList
  · have e : Hid (vIngot x0 x1 x2 x3 x4 = false) := by unfold Hid vIngot; simp [h0]
    go_enter Try.func156, Try.ntmps156
    go_wp2_with fail
    refine (IsName_any _ _ hs0).mono ?_
    rintro e w1 ⟨rfl, hb1⟩
    obtain ⟨fcb1, ffb1, fzb1⟩ := bfacts hb1 (by first | exact Nat.le_refl _ | omega | (simp; omega) | simp); have fsb1 := hb1.size; try simp at fcb1 ffb1 fzb1 fsb1 hb1
    go_wp2_with fail
    go_ret
    exact ⟨ret_bool e.out.symm, (by repeat (first | with_reducible exact Below.refl _ _ | with_reducible assumption | (with_reducible refine Below.drew ?_) | (with_reducible refine below_drewN ?_ _) | ((with_reducible refine Below.alloc ?_ ?_ _); rotate_left; (focus (first | omega | (simp; omega) | simp))) | ((with_reducible refine Below.setCell ?_ ?_ _); rotate_left; (focus (first | omega | (simp; omega) | simp))) | (refine Below.trans ?_ (Below.mono (by assumption) (by first | omega | (simp; omega) | simp)))))⟩
  · cases h1 : inB x1 1 20000000
    · have e : Hid (vIngot x0 x1 x2 x3 x4 = false) := by unfold Hid vIngot; simp [h0, h1]
      go_enter Try.func156, Try.ntmps156
      go_wp2_with fail
      refine (IsName_any _ _ hs0).mono ?_
      rintro e w1 ⟨rfl, hb1⟩
      obtain ⟨fcb1, ffb1, fzb1⟩ := bfacts hb1 (by first | exact Nat.le_refl _ | omega | (simp; omega) | simp); have fsb1 := hb1.size; try simp at fcb1 ffb1 fzb1 fsb1 hb1
      go_wp2_with (go_at_call 122; refine (implwithin_any _ _ _ _).mono ?_; rintro e w2 ⟨rfl, rfl⟩)
      go_ret
      exact ⟨ret_bool e.out.symm, (by repeat (first | with_reducible exact Below.refl _ _ | with_reducible assumption | (with_reducible refine Below.drew ?_) | (with_reducible refine below_drewN ?_ _) | ((with_reducible refine Below.alloc ?_ ?_ _); rotate_left; (focus (first | omega | (simp; omega) | simp))) | ((with_reducible refine Below.setCell ?_ ?_ _); rotate_left; (focus (first | omega | (simp; omega) | simp))) | (refine Below.trans ?_ (Below.mono (by assumption) (by first | omega | (simp; omega) | simp)))))⟩
    · have e : Hid (vIngot x0 x1 x2 x3 x4 = vAlloy x2 x3 x4) := by unfold Hid vIngot; simp [h0, h1]
      go_enter Try.func156, Try.ntmps156
      go_wp2_with fail
      refine (IsName_any _ _ hs0).mono ?_
      rintro e w1 ⟨rfl, hb1⟩
      obtain ⟨fcb1, ffb1, fzb1⟩ := bfacts hb1 (by first | exact Nat.le_refl _ | omega | (simp; omega) | simp); have fsb1 := hb1.size; try simp at fcb1 ffb1 fzb1 fsb1 hb1
      go_wp2_with fail
      refine (implwithin_any _ _ _ _).mono ?_; rintro e w2 ⟨rfl, rfl⟩
      go_wp2_with fail
      refine (implValidAlloy x2 x3 x4 _).mono ?_
      rintro e w2 ⟨rfl, hb2⟩
      have hbn := Below.trans (by first | exact hb1 | exact below_drewN hb1 _) (Below.mono hb2 (by first | omega | (simp; omega) | simp))
      clear hb2 fcb1 ffb1 fzb1 fsb1
      clear hb1
      have hb2 := hbn
      clear hbn
      obtain ⟨fcb2, ffb2, fzb2⟩ := bfacts hb2 (by first | exact Nat.le_refl _ | omega | (simp; omega) | simp); have fsb2 := hb2.size; try simp at fcb2 ffb2 fzb2 fsb2 hb2
      go_wp2_with fail
      go_ret
      exact ⟨ret_bool e.out.symm, (by repeat (first | with_reducible exact Below.refl _ _ | with_reducible assumption | (with_reducible refine Below.drew ?_) | (with_reducible refine below_drewN ?_ _) | ((with_reducible refine Below.alloc ?_ ?_ _); rotate_left; (focus (first | omega | (simp; omega) | simp))) | ((with_reducible refine Below.setCell ?_ ?_ _); rotate_left; (focus (first | omega | (simp; omega) | simp))) | (refine Below.trans ?_ (Below.mono (by assumption) (by first | omega | (simp; omega) | simp)))))⟩
set_option maxRecDepth 100000 in
theorem specl13One (bl off : Nat) (x0 : ByteArray) (x1 x2 x3 x4 : Int) (w : World) (hs0 : x0.size ≤ maxLen) (c0 : w.cell? ⟨bl, off, none⟩ = some (.string x0)) (c1 : w.cell? ⟨bl, off + 1, none⟩ = some (.int .i64 x1)) (c2 : w.cell? ⟨bl, off + 2, none⟩ = some (.int .i64 x2)) (c3 : w.cell? ⟨bl, off + 3, none⟩ = some (.int .i64 x3)) (c4 : w.cell? ⟨bl, off + 4, none⟩ = some (.int .i64 x4)) :
    Calls Try.prog 154 #[.pointer (some ⟨bl, off, none⟩)] w fun e w' => e = .returned (.bool (vIngot x0 x1 x2 x3 x4)) ∧ Below w.heap.size w w' := by
  cases h0 : nameB x0.data.toList
  · have e : Hid (vIngot x0 x1 x2 x3 x4 = false) := by unfold Hid vIngot; simp [h0]
    go_enter Try.func154, Try.ntmps154
    go_wp2_with fail
    refine (l01Name_any _ _ hs0).mono ?_; rintro e w1 ⟨rfl, rfl⟩
    go_wp2_with fail
    go_ret
    exact ⟨ret_bool e.out.symm, Below.refl _ _⟩
  · cases h1 : inB x1 1 20000000
    · have e : Hid (vIngot x0 x1 x2 x3 x4 = false) := by unfold Hid vIngot; simp [h0, h1]
      go_enter Try.func154, Try.ntmps154
      go_wp2_with fail
      refine (l01Name_any _ _ hs0).mono ?_; rintro e w1 ⟨rfl, rfl⟩
      go_wp2_with fail
      refine (specl00In_any _ _ _ _).mono ?_; rintro e w2 ⟨rfl, rfl⟩
      go_wp2_with fail
      go_ret
      exact ⟨ret_bool e.out.symm, Below.refl _ _⟩
    · have e : Hid (vIngot x0 x1 x2 x3 x4 = vAlloy x2 x3 x4) := by unfold Hid vIngot; simp [h0, h1]
      go_enter Try.func154, Try.ntmps154
      go_wp2_with fail
      refine (l01Name_any _ _ hs0).mono ?_; rintro e w1 ⟨rfl, rfl⟩
      go_wp2_with fail
      refine (specl00In_any _ _ _ _).mono ?_; rintro e w2 ⟨rfl, rfl⟩
      go_wp2_with fail
      refine (specl13Alloy bl (off + 2) x2 x3 x4 _ (by simpa using c2) (by simpa using c3) (by simpa using c4)).mono ?_
      rintro e w3 ⟨rfl, hb3⟩
      go_wp2_with fail
      go_ret
      exact ⟨ret_bool e.out.symm, hb3⟩
theorem lawstoAlloy (x0 : Int) (x1 : Int) (x2 : Int) (w : World) : Calls Try.prog 149 #[.agg #[.int .i64 x0, .int .i64 x1, .int .i64 x2]] w fun e w' => e = .returned (.agg #[.int .i64 x0, .int .i64 x1, .int .i64 x2]) ∧ Below w.heap.size w w' := by
  go_enter Try.func149, Try.ntmps149
  go_wp2
  refine bodyPost_ret (v := .agg #[.int .i64 x0, .int .i64 x1, .int .i64 x2]) (by simp [results, Try.results149, go_sem]) rfl ⟨rfl, (by repeat (first | with_reducible exact Below.refl _ _ | with_reducible assumption | (with_reducible refine Below.drew ?_) | (with_reducible refine below_drewN ?_ _) | ((with_reducible refine Below.alloc ?_ ?_ _); rotate_left; (focus (first | omega | (simp; omega) | simp))) | ((with_reducible refine Below.setCell ?_ ?_ _); rotate_left; (focus (first | omega | (simp; omega) | simp))) | (refine Below.trans ?_ (Below.mono (by assumption) (by first | omega | (simp; omega) | simp)))))⟩
theorem lawstoDemand (x0 : Int) (x1 : Int) (x2 : Int) (x3 : Int) (x4 : Int) (w : World) : Calls Try.prog 17 #[.agg #[.int .i64 x0, .int .i64 x1, .int .i64 x2, .int .i64 x3, .int .i64 x4]] w fun e w' => e = .returned (.agg #[.int .i64 x0, .int .i64 x1, .int .i64 x2, .int .i64 x3, .int .i64 x4]) ∧ Below w.heap.size w w' := by
  go_enter Try.func17, Try.ntmps17
  go_wp2
  refine bodyPost_ret (v := .agg #[.int .i64 x0, .int .i64 x1, .int .i64 x2, .int .i64 x3, .int .i64 x4]) (by simp [results, Try.results17, go_sem]) rfl ⟨rfl, (by repeat (first | with_reducible exact Below.refl _ _ | with_reducible assumption | (with_reducible refine Below.drew ?_) | (with_reducible refine below_drewN ?_ _) | ((with_reducible refine Below.alloc ?_ ?_ _); rotate_left; (focus (first | omega | (simp; omega) | simp))) | ((with_reducible refine Below.setCell ?_ ?_ _); rotate_left; (focus (first | omega | (simp; omega) | simp))) | (refine Below.trans ?_ (Below.mono (by assumption) (by first | omega | (simp; omega) | simp)))))⟩
theorem lawstoIngot (x0 : ByteArray) (x1 x2 x3 x4 : Int) (w : World) : Calls Try.prog 76 #[.agg #[.string x0, .int .i64 x1, .int .i64 x2, .int .i64 x3, .int .i64 x4]] w fun e w' => e = .returned (.agg #[.string x0, .int .i64 x1, .int .i64 x2, .int .i64 x3, .int .i64 x4]) ∧ Below w.heap.size w w' := by
  go_enter Try.func76, Try.ntmps76
  go_wp2_with fail
  refine (lawstoAlloy x2 x3 x4 _).mono ?_
  rintro e w1 ⟨rfl, hb1⟩
  obtain ⟨fcb1, ffb1, fzb1⟩ := bfacts hb1 (by first | exact Nat.le_refl _ | omega | (simp; omega) | simp); have fsb1 := hb1.size; try simp at fcb1 ffb1 fzb1 fsb1 hb1
  go_wp2_with fail
  refine bodyPost_ret (v := .agg #[.string x0, .int .i64 x1, .int .i64 x2, .int .i64 x3, .int .i64 x4]) (by simp [results, Try.results76, go_sem, fcb1]) rfl ⟨rfl, (by repeat (first | with_reducible exact Below.refl _ _ | with_reducible assumption | (with_reducible refine Below.drew ?_) | (with_reducible refine below_drewN ?_ _) | ((with_reducible refine Below.alloc ?_ ?_ _); rotate_left; (focus (first | omega | (simp; omega) | simp))) | ((with_reducible refine Below.setCell ?_ ?_ _); rotate_left; (focus (first | omega | (simp; omega) | simp))) | (refine Below.trans ?_ (Below.mono (by assumption) (by first | omega | (simp; omega) | simp)))))⟩
theorem lawsszIngot_ok (x0 : ByteArray) (x1 : Int) (x2 : Int) (x3 : Int) (x4 : Int) (left : Int) (w : World) (h : (x0.size : Int) ≤ left) (h2 : left ≤ 1048576) : Calls Try.prog 74 #[.agg #[.string x0, .int .i64 x1, .int .i64 x2, .int .i64 x3, .int .i64 x4], .int .i64 left] w fun e w' => e = .returned (.int .i64 (left - x0.size)) ∧ Below w.heap.size w w' := by
  go_enter Try.func74, Try.ntmps74
  go_wp2
  go_ret
  exact ⟨rfl, (by repeat (first | with_reducible exact Below.refl _ _ | with_reducible assumption | (with_reducible refine Below.drew ?_) | (with_reducible refine below_drewN ?_ _) | ((with_reducible refine Below.alloc ?_ ?_ _); rotate_left; (focus (first | omega | (simp; omega) | simp))) | ((with_reducible refine Below.setCell ?_ ?_ _); rotate_left; (focus (first | omega | (simp; omega) | simp))) | (refine Below.trans ?_ (Below.mono (by assumption) (by first | omega | (simp; omega) | simp)))))⟩
theorem lawsszIngot_big (x0 : ByteArray) (x1 : Int) (x2 : Int) (x3 : Int) (x4 : Int) (left : Int) (w : World) (hs : x0.size ≤ maxLen) (h : left < x0.size) (h0 : 0 ≤ left) : Calls Try.prog 74 #[.agg #[.string x0, .int .i64 x1, .int .i64 x2, .int .i64 x3, .int .i64 x4], .int .i64 left] w fun e w' => e = .returned (.int .i64 (-1)) ∧ Below w.heap.size w w' := by
  unfold maxLen at hs
  go_enter Try.func74, Try.ntmps74
  go_wp2
  go_ret
  exact ⟨rfl, (by repeat (first | with_reducible exact Below.refl _ _ | with_reducible assumption | (with_reducible refine Below.drew ?_) | (with_reducible refine below_drewN ?_ _) | ((with_reducible refine Below.alloc ?_ ?_ _); rotate_left; (focus (first | omega | (simp; omega) | simp))) | ((with_reducible refine Below.setCell ?_ ?_ _); rotate_left; (focus (first | omega | (simp; omega) | simp))) | (refine Below.trans ?_ (Below.mono (by assumption) (by first | omega | (simp; omega) | simp)))))⟩
theorem lawsszIngot_any (x0 : ByteArray) (x1 : Int) (x2 : Int) (x3 : Int) (x4 : Int) (left : Int) (w : World) (hs : x0.size ≤ maxLen) (h0 : 0 ≤ left) (h1 : left ≤ 1048576) : Calls Try.prog 74 #[.agg #[.string x0, .int .i64 x1, .int .i64 x2, .int .i64 x3, .int .i64 x4], .int .i64 left] w fun e w' => ∃ r : Int, e = .returned (.int .i64 r) ∧ -1 ≤ r ∧ r ≤ left ∧ Below w.heap.size w w' := by
  by_cases h : (x0.size : Int) ≤ left
  · exact (lawsszIngot_ok x0 x1 x2 x3 x4 left w h h1).mono fun _ _ ⟨a, b⟩ => ⟨_, a, by omega, by omega, b⟩
  · exact (lawsszIngot_big x0 x1 x2 x3 x4 left w hs (by omega) h0).mono fun _ _ ⟨a, b⟩ => ⟨_, a, by omega, by omega, b⟩
structure IngotR where
  nm : ByteArray
  mass : Int
  cu : Int
  ti : Int
  ot : Int
def encIngot (x : IngotR) : List Value := [.string x.nm, .int .i64 x.mass, .int .i64 x.cu, .int .i64 x.ti, .int .i64 x.ot]
theorem info_Ingot : (Try.prog.info? 126).map (fun i => (i.zero, i.size, i.bytes)) = some (some (.agg #[.string ByteArray.empty, .int .i64 0, .int .i64 0, .int .i64 0, .int .i64 0]), 5, 48) := by kernel_rfl
theorem lawstoIngotS_own (A : Option Addr) (c : Nat) (xs : List IngotR) (w : World) (h : SlAt encIngot 5 w A xs) (hn : xs.length ≤ 1048576) :
    Calls Try.prog 16 #[.slice A xs.length c] w fun e w' => ∃ b, e = .returned (.slice (some ⟨b, 0, none⟩) xs.length xs.length) ∧ SlAt encIngot 5 w' (some ⟨b, 0, none⟩) xs ∧ w.heap.size ≤ b ∧ b < w'.heap.size ∧ Below w.heap.size w w' ∧ Own encIngot 5 126 w' w.heap.size (.slice (some ⟨b, 0, none⟩) xs.length xs.length) xs := by
  obtain ⟨i0, hi, hz0, hz1, hz2⟩ := info_parts info_Ingot
  have hmk := fun W => run_make_rowN (P := Try.prog) 28 126 i0 _ Try.underlying28 hi hz0 .i64 .i64 xs.length xs.length (Nat.le_refl _) (by rw [hz2]; omega) (by omega) W
  rw [hz1] at hmk
  generalize hcs : madeCells (Value.agg #[.string ByteArray.empty, .int .i64 0, .int .i64 0, .int .i64 0, .int .i64 0]).cells (xs.length * 5) = cs at hmk
  have hcs' : cs.size = xs.length * 5 := by rw [← hcs, size_madeCells]
  have hF := Fill.start w cs 126
  rw [hcs'] at hF
  have HF := hide hF
  have HX := hide h
  clear hi hz0 hz1 hz2 hcs hcs' hF h
  go_enter Try.func16, Try.ntmps16
  go_wp2_with fail
  clear hmk
  go_loopw [4] (fun v wr => ∃ k : Nat, v = .int .i64 k ∧ k ≤ xs.length ∧ Filling encIngot 5 126 w wr w.heap.size xs k) (fun v _ => xs.length - (intOf v).toNat)
  case atStart => exact ⟨0, rfl, by omega, by simpa using HF.out, (by repeat (first | with_reducible exact Below.refl _ _ | with_reducible assumption | (with_reducible refine Below.drew ?_) | (with_reducible refine below_drewN ?_ _) | ((with_reducible refine Below.alloc ?_ ?_ _); rotate_left; (focus (first | omega | (simp; omega) | simp))) | ((with_reducible refine Below.setCell ?_ ?_ _); rotate_left; (focus (first | omega | (simp; omega) | simp))) | (refine Below.trans ?_ (Below.mono (by assumption) (by first | omega | (simp; omega) | simp)))))⟩
  case round =>
    obtain ⟨k, rfl, hk, hR⟩ := hrel
    by_cases hlt : k < xs.length
    · obtain ⟨b, off, rfl, hbl, hc⟩ := HX.out k hlt
      have hb := hR.2

      have hc0 := (hb.cell (p := ⟨b, off + k * 5 + 0, none⟩) hbl).trans (hc 0 _ rfl)
      have hc1 := (hb.cell (p := ⟨b, off + k * 5 + 1, none⟩) hbl).trans (hc 1 _ rfl)
      have hc2 := (hb.cell (p := ⟨b, off + k * 5 + 2, none⟩) hbl).trans (hc 2 _ rfl)
      have hc3 := (hb.cell (p := ⟨b, off + k * 5 + 3, none⟩) hbl).trans (hc 3 _ rfl)
      have hc4 := (hb.cell (p := ⟨b, off + k * 5 + 4, none⟩) hbl).trans (hc 4 _ rfl)
      simp only [Nat.add_zero] at hc0
      obtain ⟨u0, hu0⟩ := hR.1.cell (j := k * 5) (by omega)
      have hf0 := hR.1.frozen (k * 5)
      obtain ⟨u1, hu1⟩ := hR.1.cell (j := k * 5 + 1) (by omega)
      have hf1 := hR.1.frozen (k * 5 + 1)
      obtain ⟨u2, hu2⟩ := hR.1.cell (j := k * 5 + 2) (by omega)
      have hf2 := hR.1.frozen (k * 5 + 2)
      obtain ⟨u3, hu3⟩ := hR.1.cell (j := k * 5 + 3) (by omega)
      have hf3 := hR.1.frozen (k * 5 + 3)
      obtain ⟨u4, hu4⟩ := hR.1.cell (j := k * 5 + 4) (by omega)
      have hf4 := hR.1.frozen (k * 5 + 4)
      have hz := hR.1.lt
      have hlen := flat_length (enc := encIngot) (sz := 5) (fun _ => rfl) (xs.take k)
      rw [List.length_take, Nat.min_eq_left hk] at hlen
      have ht := take_flat encIngot xs k hlt
      have HR := hide hR
      have HT := hide (And.intro hlen ht)
      clear hR hb hlen ht hc
      generalize hx : xs[k] = x at *
      obtain ⟨x0, x1, x2, x3, x4⟩ := x
      clear hx
      simp only at hc0 hc1 hc2 hc3 hc4
      go_wp2_with fail
      refine (lawstoIngot _ _ _ _ _ _).mono ?_
      rintro e w1 ⟨rfl, hb1⟩
      obtain ⟨fcb1, ffb1, fzb1⟩ := bfacts hb1 (by first | exact Nat.le_refl _ | omega | (simp; omega) | simp); have fsb1 := hb1.size; try simp at fcb1 ffb1 fzb1 fsb1 hb1
      go_wp2_with fail
      go_roundw
      case rel => exact ⟨k + 1, by go_num, by omega, by
        refine ⟨?_, Below.setCell (Below.setCell (Below.setCell (Below.setCell (Below.setCell (HR.out.2.trans (hb1.mono (by omega))) (Nat.le_refl _) _) (Nat.le_refl _) _) (Nat.le_refl _) _) (Nat.le_refl _) _) (Nat.le_refl _) _⟩
        rw [HT.out.2]
        have hp := (((((HR.out.1.below hb1 hz).push (m := k * 5) (by simp [HT.out.1]) (by omega) (.string x0)).push (m := k * 5 + 1) (by simp [HT.out.1]) (by omega) (.int .i64 x1)).push (m := k * 5 + 2) (by simp [HT.out.1]) (by omega) (.int .i64 x2)).push (m := k * 5 + 3) (by simp [HT.out.1]) (by omega) (.int .i64 x3)).push (m := k * 5 + 4) (by simp [HT.out.1]) (by omega) (.int .i64 x4)
        simpa [encIngot] using hp⟩
      case measure => simp [intOf]; omega
    · have hR' := hR.1
      rw [List.take_of_length_le (by omega)] at hR'
      have hfin := Fill.fin (enc := encIngot) (sz := 5) (fun _ => rfl) hR'
      have hown := Fill.own (enc := encIngot) (sz := 5) rfl (Nat.le_trans hn (by decide)) (fun _ => rfl) hR'
      have hz := hR.1.lt
      have HR := hide hR
      have HN := hide hfin
      have HO := hide hown
      clear hR hR' hfin hown
      go_wp2_with fail
      go_ret
      exact ⟨_, rfl, HN.out, Nat.le_refl _, hz, HR.out.2, HO.out⟩
theorem lawstoIngotS (A : Option Addr) (c : Nat) (xs : List IngotR) (w : World) (h : SlAt encIngot 5 w A xs) (hn : xs.length ≤ 1048576) :
    Calls Try.prog 16 #[.slice A xs.length c] w fun e w' => ∃ b, e = .returned (.slice (some ⟨b, 0, none⟩) xs.length xs.length) ∧ SlAt encIngot 5 w' (some ⟨b, 0, none⟩) xs ∧ w.heap.size ≤ b ∧ b < w'.heap.size ∧ Below w.heap.size w w' :=
  (lawstoIngotS_own A c xs w h hn).mono fun _ _ ⟨b, h1, h2, h3, h4, h5, _⟩ => ⟨b, h1, h2, h3, h4, h5⟩
theorem lawstoIngotS_o (A : Option Addr) (c : Nat) (xs : List IngotR) (w : World) (h : SlAt encIngot 5 w A xs) (hn : xs.length ≤ 1048576) :
    Calls Try.prog 16 #[.slice A xs.length c] w fun e w' => ∃ b, e = .returned (.slice (some ⟨b, 0, none⟩) xs.length xs.length) ∧ Own encIngot 5 126 w' w.heap.size (.slice (some ⟨b, 0, none⟩) xs.length xs.length) xs ∧ Below w.heap.size w w' :=
  (lawstoIngotS_own A c xs w h hn).mono fun _ _ ⟨b, h1, _, _, _, h5, h6⟩ => ⟨b, h1, h6, h5⟩
theorem lawseqIngot_same (x0 : ByteArray) (x1 : Int) (x2 : Int) (x3 : Int) (x4 : Int) (w : World) : Calls Try.prog 78 #[.agg #[.string x0, .int .i64 x1, .int .i64 x2, .int .i64 x3, .int .i64 x4], .agg #[.string x0, .int .i64 x1, .int .i64 x2, .int .i64 x3, .int .i64 x4]] w fun e w' => e = .returned (.bool true) ∧ Below w.heap.size w w' := by
  go_enter Try.func78, Try.ntmps78
  go_wp2
  go_ret
  exact ⟨rfl, (by repeat (first | with_reducible exact Below.refl _ _ | with_reducible assumption | (with_reducible refine Below.drew ?_) | (with_reducible refine below_drewN ?_ _) | ((with_reducible refine Below.alloc ?_ ?_ _); rotate_left; (focus (first | omega | (simp; omega) | simp))) | ((with_reducible refine Below.setCell ?_ ?_ _); rotate_left; (focus (first | omega | (simp; omega) | simp))) | (refine Below.trans ?_ (Below.mono (by assumption) (by first | omega | (simp; omega) | simp)))))⟩
theorem lawseqIngotS_same (A A' : Option Addr) (c c' : Nat) (xs : List IngotR) (w : World) (h : SlAt encIngot 5 w A xs) (h' : SlAt encIngot 5 w A' xs) (hn : xs.length ≤ 1048576) :
    Calls Try.prog 19 #[.slice A xs.length c, .slice A' xs.length c'] w fun e w' => e = .returned (.bool true) ∧ Below w.heap.size w w' := by
  have HX := hide h
  have HY := hide h'
  clear h h'
  go_enter Try.func19, Try.ntmps19
  go_wp2_with fail
  go_loopw [5] (fun v wr => ∃ k : Nat, v = .int .i64 k ∧ k ≤ xs.length ∧ Below w.heap.size w wr) (fun v _ => xs.length - (intOf v).toNat)
  case atStart => exact ⟨0, rfl, by omega, (by repeat (first | with_reducible exact Below.refl _ _ | with_reducible assumption | (with_reducible refine Below.drew ?_) | (with_reducible refine below_drewN ?_ _) | ((with_reducible refine Below.alloc ?_ ?_ _); rotate_left; (focus (first | omega | (simp; omega) | simp))) | ((with_reducible refine Below.setCell ?_ ?_ _); rotate_left; (focus (first | omega | (simp; omega) | simp))) | (refine Below.trans ?_ (Below.mono (by assumption) (by first | omega | (simp; omega) | simp)))))⟩
  case round =>
    obtain ⟨k, rfl, hk, hb⟩ := hrel
    by_cases hlt : k < xs.length
    · obtain ⟨b, off, rfl, hbl, hc⟩ := HX.out.below hb k hlt
      obtain ⟨b2, off2, rfl, hbl2, hd⟩ := HY.out.below hb k hlt
      have hc0 := hc 0 _ rfl
      have hd0 := hd 0 _ rfl
      have hc1 := hc 1 _ rfl
      have hd1 := hd 1 _ rfl
      have hc2 := hc 2 _ rfl
      have hd2 := hd 2 _ rfl
      have hc3 := hc 3 _ rfl
      have hd3 := hd 3 _ rfl
      have hc4 := hc 4 _ rfl
      have hd4 := hd 4 _ rfl
      simp only [Nat.add_zero] at hc0 hd0
      have hz := hb.size
      have HB := hide hb
      clear hc hd
      generalize hx : xs[k] = x at *
      clear hx
      obtain ⟨x0, x1, x2, x3, x4⟩ := x
      simp only at hc0 hd0 hc1 hd1 hc2 hd2 hc3 hd3 hc4 hd4
      go_wp2_with fail
      refine wp_region_kept (by kernel_rfl) (by kernel_rfl) ?_
      intro gc gf gz
      repeat (go_big_quiet_step ((go_at_call 78; exact Calls.kept (lawseqIngot_same x0 x1 x2 x3 x4 _))))
      refine wpQuiet_nil ?_
      intro w1 hw'
      obtain ⟨⟨_, hb1⟩, rfl⟩ := hw'
      clear gc gf gz
      try dsimp only
      have fs1 := hb1.size
      try simp at fs1 hb1
      go_wp2_with fail
      go_roundw
      case rel => exact ⟨k + 1, by go_num, by omega, (by repeat (first | with_reducible exact Below.refl _ _ | with_reducible assumption | (with_reducible refine Below.drew ?_) | (with_reducible refine below_drewN ?_ _) | ((with_reducible refine Below.alloc ?_ ?_ _); rotate_left; (focus (first | omega | (simp; omega) | simp))) | ((with_reducible refine Below.setCell ?_ ?_ _); rotate_left; (focus (first | omega | (simp; omega) | simp))) | (refine Below.trans ?_ (Below.mono (by assumption) (by first | omega | (simp; omega) | simp)))))⟩
      case measure => simp [intOf]; omega
    · go_wp2_with fail
      go_ret
      exact ⟨rfl, hb⟩
theorem lawsszIngotS_any (A : Option Addr) (c : Nat) (xs : List IngotR) (left : Int) (w : World) (h : SlAt encIngot 5 w A xs) (hn : xs.length ≤ 9223372036854775807) (hs : ∀ x ∈ xs, x.nm.size ≤ maxLen) (h0 : 0 ≤ left) (h1 : left ≤ 1048576) :
    Calls Try.prog 14 #[.slice A xs.length c, .int .i64 left] w fun e w' => ∃ r : Int, e = .returned (.int .i64 r) ∧ -1 ≤ r ∧ r ≤ left ∧ (0 ≤ r → (xs.length : Int) ≤ left) ∧ Below w.heap.size w w' := by
  have HX := hide h
  have HS := hide hs
  clear h hs
  by_cases hz : (xs.length : Int) ≤ left
  · go_enter Try.func14, Try.ntmps14
    go_wp2_with fail
    go_loopw [5, 1] (fun v l wr => ∃ k : Nat, v = .int .i64 k ∧ k ≤ xs.length ∧ (∃ r : Int, l = .int .i64 r ∧ 0 ≤ r ∧ r ≤ left) ∧ Below w.heap.size w wr) (fun v _ _ => xs.length - (intOf v).toNat)
    case atStart => exact ⟨0, rfl, by omega, ⟨_, rfl, by omega, by omega⟩, (by repeat (first | with_reducible exact Below.refl _ _ | with_reducible assumption | (with_reducible refine Below.drew ?_) | (with_reducible refine below_drewN ?_ _) | ((with_reducible refine Below.alloc ?_ ?_ _); rotate_left; (focus (first | omega | (simp; omega) | simp))) | ((with_reducible refine Below.setCell ?_ ?_ _); rotate_left; (focus (first | omega | (simp; omega) | simp))) | (refine Below.trans ?_ (Below.mono (by assumption) (by first | omega | (simp; omega) | simp)))))⟩
    case round =>
      obtain ⟨k, rfl, hk, ⟨r, rfl, r0, r1⟩, hb⟩ := hrel
      by_cases hlt : k < xs.length
      · obtain ⟨b, off, rfl, hbl, hc⟩ := HX.out.below hb k hlt
        have hc0 := hc 0 _ rfl
        have hc1 := hc 1 _ rfl
        have hc2 := hc 2 _ rfl
        have hc3 := hc 3 _ rfl
        have hc4 := hc 4 _ rfl
        simp only [Nat.add_zero] at hc0
        have hsz := HS.out xs[k] (List.getElem_mem hlt)
        have hz := hb.size
        clear hc
        generalize hx : xs[k] = x at *
        clear hx
        obtain ⟨x0, x1, x2, x3, x4⟩ := x
        simp only at hc0 hc1 hc2 hc3 hc4 hsz
        by_cases hq : (x0.size : Int) ≤ r
        · go_wp2_with fail
          refine (lawsszIngot_ok _ _ _ _ _ _ _ hq (by omega)).mono ?_
          rintro e w1 ⟨rfl, hb1⟩
          obtain ⟨fcb1, ffb1, fzb1⟩ := bfacts hb1 (by first | exact Nat.le_refl _ | omega | (simp; omega) | simp); have fsb1 := hb1.size; try simp at fcb1 ffb1 fzb1 fsb1 hb1
          go_wp2_with fail
          go_roundw
          case rel => exact ⟨k + 1, by go_num, by omega, ⟨_, rfl, by omega, by omega⟩, (by repeat (first | with_reducible exact Below.refl _ _ | with_reducible assumption | (with_reducible refine Below.drew ?_) | (with_reducible refine below_drewN ?_ _) | ((with_reducible refine Below.alloc ?_ ?_ _); rotate_left; (focus (first | omega | (simp; omega) | simp))) | ((with_reducible refine Below.setCell ?_ ?_ _); rotate_left; (focus (first | omega | (simp; omega) | simp))) | (refine Below.trans ?_ (Below.mono (by assumption) (by first | omega | (simp; omega) | simp)))))⟩
          case measure => simp [intOf]; omega
        · go_wp2_with fail
          refine (lawsszIngot_big _ _ _ _ _ _ _ hsz (by omega) r0).mono ?_
          rintro e w1 ⟨rfl, hb1⟩
          obtain ⟨fcb1, ffb1, fzb1⟩ := bfacts hb1 (by first | exact Nat.le_refl _ | omega | (simp; omega) | simp); have fsb1 := hb1.size; try simp at fcb1 ffb1 fzb1 fsb1 hb1
          go_wp2_with fail
          go_ret
          exact ⟨-1, rfl, by omega, by omega, fun h => by omega, (by repeat (first | with_reducible exact Below.refl _ _ | with_reducible assumption | (with_reducible refine Below.drew ?_) | (with_reducible refine below_drewN ?_ _) | ((with_reducible refine Below.alloc ?_ ?_ _); rotate_left; (focus (first | omega | (simp; omega) | simp))) | ((with_reducible refine Below.setCell ?_ ?_ _); rotate_left; (focus (first | omega | (simp; omega) | simp))) | (refine Below.trans ?_ (Below.mono (by assumption) (by first | omega | (simp; omega) | simp)))))⟩
      · go_wp2_with fail
        go_ret
        exact ⟨r, rfl, by omega, r1, fun _ => hz, hb⟩
  · go_enter Try.func14, Try.ntmps14
    go_wp2_with fail
    go_ret
    exact ⟨-1, rfl, by omega, by omega, fun h => by omega, (by repeat (first | with_reducible exact Below.refl _ _ | with_reducible assumption | (with_reducible refine Below.drew ?_) | (with_reducible refine below_drewN ?_ _) | ((with_reducible refine Below.alloc ?_ ?_ _); rotate_left; (focus (first | omega | (simp; omega) | simp))) | ((with_reducible refine Below.setCell ?_ ?_ _); rotate_left; (focus (first | omega | (simp; omega) | simp))) | (refine Below.trans ?_ (Below.mono (by assumption) (by first | omega | (simp; omega) | simp)))))⟩
end Go.Proofs.Ytjklhacffdhgaaa
