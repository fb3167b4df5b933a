/- The laws' counts and comparisons of slices; the laws of ValidSwings and ValidPlaces. -/
import Derived.Test.YtjklhacffdhgaaaRows1
namespace Go.Proofs.Ytjklhacffdhgaaa
open Go.RowKit

theorem lawseqLoad_same (x0 : Int) (x1 : Int) (w : World) : Calls Try.prog 182 #[.agg #[.int .i64 x0, .int .i64 x1], .agg #[.int .i64 x0, .int .i64 x1]] w fun e w' => e = .returned (.bool true) ∧ Below w.heap.size w w' := by
  go_enter Try.func182, Try.ntmps182
  go_wp2
  go_ret
  exact ⟨rfl, (by repeat (first | with_reducible exact Below.refl _ _ | with_reducible assumption | (with_reducible refine Below.drew ?_) | (with_reducible refine below_drewN ?_ _) | ((with_reducible refine Below.alloc ?_ ?_ _); rotate_left; (focus (first | omega | (simp; omega) | simp))) | ((with_reducible refine Below.setCell ?_ ?_ _); rotate_left; (focus (first | omega | (simp; omega) | simp))) | (refine Below.trans ?_ (Below.mono (by assumption) (by first | omega | (simp; omega) | simp)))))⟩
theorem lawseqLoadS_same (A A' : Option Addr) (c c' : Nat) (xs : List LoadR) (w : World) (h : SlAt encLoad 2 w A xs) (h' : SlAt encLoad 2 w A' xs) (hn : xs.length ≤ 1048576) :
    Calls Try.prog 144 #[.slice A xs.length c, .slice A' xs.length c'] w fun e w' => e = .returned (.bool true) ∧ Below w.heap.size w w' := by
  have HX := hide h
  have HY := hide h'
  clear h h'
  go_enter Try.func144, Try.ntmps144
  go_wp2_with fail
  go_loopw [5] (fun v wr => ∃ k : Nat, v = .int .i64 k ∧ k ≤ xs.length ∧ Below w.heap.size w wr) (fun v _ => xs.length - (intOf v).toNat)
  case atStart => exact ⟨0, rfl, by omega, (by repeat (first | with_reducible exact Below.refl _ _ | with_reducible assumption | (with_reducible refine Below.drew ?_) | (with_reducible refine below_drewN ?_ _) | ((with_reducible refine Below.alloc ?_ ?_ _); rotate_left; (focus (first | omega | (simp; omega) | simp))) | ((with_reducible refine Below.setCell ?_ ?_ _); rotate_left; (focus (first | omega | (simp; omega) | simp))) | (refine Below.trans ?_ (Below.mono (by assumption) (by first | omega | (simp; omega) | simp)))))⟩
  case round =>
    obtain ⟨k, rfl, hk, hb⟩ := hrel
    by_cases hlt : k < xs.length
    · obtain ⟨b, off, rfl, hbl, hc⟩ := HX.out.below hb k hlt
      obtain ⟨b2, off2, rfl, hbl2, hd⟩ := HY.out.below hb k hlt
      have hc0 := hc 0 _ rfl
      have hd0 := hd 0 _ rfl
      have hc1 := hc 1 _ rfl
      have hd1 := hd 1 _ rfl
      simp only [Nat.add_zero] at hc0 hd0
      have hz := hb.size
      have HB := hide hb
      clear hc hd
      generalize hx : xs[k] = x at *
      clear hx
      obtain ⟨x0, x1⟩ := x
      simp only at hc0 hd0 hc1 hd1
      go_wp2_with fail
      refine wp_region_kept (by kernel_rfl) (by kernel_rfl) ?_
      intro gc gf gz
      repeat (go_big_quiet_step ((go_at_call 182; exact Calls.kept (lawseqLoad_same x0 x1 _))))
      refine wpQuiet_nil ?_
      intro w1 hw'
      obtain ⟨⟨_, hb1⟩, rfl⟩ := hw'
      clear gc gf gz
      try dsimp only
      have fs1 := hb1.size
      try simp at fs1 hb1
      go_wp2_with fail
      go_roundw
      case rel => exact ⟨k + 1, by go_num, by omega, (by repeat (first | with_reducible exact Below.refl _ _ | with_reducible assumption | (with_reducible refine Below.drew ?_) | (with_reducible refine below_drewN ?_ _) | ((with_reducible refine Below.alloc ?_ ?_ _); rotate_left; (focus (first | omega | (simp; omega) | simp))) | ((with_reducible refine Below.setCell ?_ ?_ _); rotate_left; (focus (first | omega | (simp; omega) | simp))) | (refine Below.trans ?_ (Below.mono (by assumption) (by first | omega | (simp; omega) | simp)))))⟩
      case measure => simp [intOf]; omega
    · go_wp2_with fail
      go_ret
      exact ⟨rfl, hb⟩
theorem lawseqSwing_same (x0 : ByteArray) (x1 : Int) (x2 : Int) (w : World) : Calls Try.prog 105 #[.agg #[.string x0, .int .i64 x1, .int .i64 x2], .agg #[.string x0, .int .i64 x1, .int .i64 x2]] w fun e w' => e = .returned (.bool true) ∧ Below w.heap.size w w' := by
  go_enter Try.func105, Try.ntmps105
  go_wp2
  go_ret
  exact ⟨rfl, (by repeat (first | with_reducible exact Below.refl _ _ | with_reducible assumption | (with_reducible refine Below.drew ?_) | (with_reducible refine below_drewN ?_ _) | ((with_reducible refine Below.alloc ?_ ?_ _); rotate_left; (focus (first | omega | (simp; omega) | simp))) | ((with_reducible refine Below.setCell ?_ ?_ _); rotate_left; (focus (first | omega | (simp; omega) | simp))) | (refine Below.trans ?_ (Below.mono (by assumption) (by first | omega | (simp; omega) | simp)))))⟩
theorem lawseqSwingS_same (A A' : Option Addr) (c c' : Nat) (xs : List SwingR) (w : World) (h : SlAt encSwing 3 w A xs) (h' : SlAt encSwing 3 w A' xs) (hn : xs.length ≤ 1048576) :
    Calls Try.prog 40 #[.slice A xs.length c, .slice A' xs.length c'] w fun e w' => e = .returned (.bool true) ∧ Below w.heap.size w w' := by
  have HX := hide h
  have HY := hide h'
  clear h h'
  go_enter Try.func40, Try.ntmps40
  go_wp2_with fail
  go_loopw [5] (fun v wr => ∃ k : Nat, v = .int .i64 k ∧ k ≤ xs.length ∧ Below w.heap.size w wr) (fun v _ => xs.length - (intOf v).toNat)
  case atStart => exact ⟨0, rfl, by omega, (by repeat (first | with_reducible exact Below.refl _ _ | with_reducible assumption | (with_reducible refine Below.drew ?_) | (with_reducible refine below_drewN ?_ _) | ((with_reducible refine Below.alloc ?_ ?_ _); rotate_left; (focus (first | omega | (simp; omega) | simp))) | ((with_reducible refine Below.setCell ?_ ?_ _); rotate_left; (focus (first | omega | (simp; omega) | simp))) | (refine Below.trans ?_ (Below.mono (by assumption) (by first | omega | (simp; omega) | simp)))))⟩
  case round =>
    obtain ⟨k, rfl, hk, hb⟩ := hrel
    by_cases hlt : k < xs.length
    · obtain ⟨b, off, rfl, hbl, hc⟩ := HX.out.below hb k hlt
      obtain ⟨b2, off2, rfl, hbl2, hd⟩ := HY.out.below hb k hlt
      have hc0 := hc 0 _ rfl
      have hd0 := hd 0 _ rfl
      have hc1 := hc 1 _ rfl
      have hd1 := hd 1 _ rfl
      have hc2 := hc 2 _ rfl
      have hd2 := hd 2 _ rfl
      simp only [Nat.add_zero] at hc0 hd0
      have hz := hb.size
      have HB := hide hb
      clear hc hd
      generalize hx : xs[k] = x at *
      clear hx
      obtain ⟨x0, x1, x2⟩ := x
      simp only at hc0 hd0 hc1 hd1 hc2 hd2
      go_wp2_with fail
      refine wp_region_kept (by kernel_rfl) (by kernel_rfl) ?_
      intro gc gf gz
      repeat (go_big_quiet_step ((go_at_call 105; exact Calls.kept (lawseqSwing_same x0 x1 x2 _))))
      refine wpQuiet_nil ?_
      intro w1 hw'
      obtain ⟨⟨_, hb1⟩, rfl⟩ := hw'
      clear gc gf gz
      try dsimp only
      have fs1 := hb1.size
      try simp at fs1 hb1
      go_wp2_with fail
      go_roundw
      case rel => exact ⟨k + 1, by go_num, by omega, (by repeat (first | with_reducible exact Below.refl _ _ | with_reducible assumption | (with_reducible refine Below.drew ?_) | (with_reducible refine below_drewN ?_ _) | ((with_reducible refine Below.alloc ?_ ?_ _); rotate_left; (focus (first | omega | (simp; omega) | simp))) | ((with_reducible refine Below.setCell ?_ ?_ _); rotate_left; (focus (first | omega | (simp; omega) | simp))) | (refine Below.trans ?_ (Below.mono (by assumption) (by first | omega | (simp; omega) | simp)))))⟩
      case measure => simp [intOf]; omega
    · go_wp2_with fail
      go_ret
      exact ⟨rfl, hb⟩
theorem lawseqPlace_same (x0 : ByteArray) (x1 : Int) (x2 : Int) (x3 : Int) (x4 : Int) (w : World) : Calls Try.prog 130 #[.agg #[.string x0, .int .i64 x1, .int .i64 x2, .int .i64 x3, .int .i64 x4], .agg #[.string x0, .int .i64 x1, .int .i64 x2, .int .i64 x3, .int .i64 x4]] w fun e w' => e = .returned (.bool true) ∧ Below w.heap.size w w' := by
  go_enter Try.func130, Try.ntmps130
  go_wp2
  go_ret
  exact ⟨rfl, (by repeat (first | with_reducible exact Below.refl _ _ | with_reducible assumption | (with_reducible refine Below.drew ?_) | (with_reducible refine below_drewN ?_ _) | ((with_reducible refine Below.alloc ?_ ?_ _); rotate_left; (focus (first | omega | (simp; omega) | simp))) | ((with_reducible refine Below.setCell ?_ ?_ _); rotate_left; (focus (first | omega | (simp; omega) | simp))) | (refine Below.trans ?_ (Below.mono (by assumption) (by first | omega | (simp; omega) | simp)))))⟩
theorem lawseqPlaceS_same (A A' : Option Addr) (c c' : Nat) (xs : List PlaceR) (w : World) (h : SlAt encPlace 5 w A xs) (h' : SlAt encPlace 5 w A' xs) (hn : xs.length ≤ 1048576) :
    Calls Try.prog 59 #[.slice A xs.length c, .slice A' xs.length c'] w fun e w' => e = .returned (.bool true) ∧ Below w.heap.size w w' := by
  have HX := hide h
  have HY := hide h'
  clear h h'
  go_enter Try.func59, Try.ntmps59
  go_wp2_with fail
  go_loopw [5] (fun v wr => ∃ k : Nat, v = .int .i64 k ∧ k ≤ xs.length ∧ Below w.heap.size w wr) (fun v _ => xs.length - (intOf v).toNat)
  case atStart => exact ⟨0, rfl, by omega, (by repeat (first | with_reducible exact Below.refl _ _ | with_reducible assumption | (with_reducible refine Below.drew ?_) | (with_reducible refine below_drewN ?_ _) | ((with_reducible refine Below.alloc ?_ ?_ _); rotate_left; (focus (first | omega | (simp; omega) | simp))) | ((with_reducible refine Below.setCell ?_ ?_ _); rotate_left; (focus (first | omega | (simp; omega) | simp))) | (refine Below.trans ?_ (Below.mono (by assumption) (by first | omega | (simp; omega) | simp)))))⟩
  case round =>
    obtain ⟨k, rfl, hk, hb⟩ := hrel
    by_cases hlt : k < xs.length
    · obtain ⟨b, off, rfl, hbl, hc⟩ := HX.out.below hb k hlt
      obtain ⟨b2, off2, rfl, hbl2, hd⟩ := HY.out.below hb k hlt
      have hc0 := hc 0 _ rfl
      have hd0 := hd 0 _ rfl
      have hc1 := hc 1 _ rfl
      have hd1 := hd 1 _ rfl
      have hc2 := hc 2 _ rfl
      have hd2 := hd 2 _ rfl
      have hc3 := hc 3 _ rfl
      have hd3 := hd 3 _ rfl
      have hc4 := hc 4 _ rfl
      have hd4 := hd 4 _ rfl
      simp only [Nat.add_zero] at hc0 hd0
      have hz := hb.size
      have HB := hide hb
      clear hc hd
      generalize hx : xs[k] = x at *
      clear hx
      obtain ⟨x0, x1, x2, x3, x4⟩ := x
      simp only at hc0 hd0 hc1 hd1 hc2 hd2 hc3 hd3 hc4 hd4
      go_wp2_with fail
      refine wp_region_kept (by kernel_rfl) (by kernel_rfl) ?_
      intro gc gf gz
      repeat (go_big_quiet_step ((go_at_call 130; exact Calls.kept (lawseqPlace_same x0 x1 x2 x3 x4 _))))
      refine wpQuiet_nil ?_
      intro w1 hw'
      obtain ⟨⟨_, hb1⟩, rfl⟩ := hw'
      clear gc gf gz
      try dsimp only
      have fs1 := hb1.size
      try simp at fs1 hb1
      go_wp2_with fail
      go_roundw
      case rel => exact ⟨k + 1, by go_num, by omega, (by repeat (first | with_reducible exact Below.refl _ _ | with_reducible assumption | (with_reducible refine Below.drew ?_) | (with_reducible refine below_drewN ?_ _) | ((with_reducible refine Below.alloc ?_ ?_ _); rotate_left; (focus (first | omega | (simp; omega) | simp))) | ((with_reducible refine Below.setCell ?_ ?_ _); rotate_left; (focus (first | omega | (simp; omega) | simp))) | (refine Below.trans ?_ (Below.mono (by assumption) (by first | omega | (simp; omega) | simp)))))⟩
      case measure => simp [intOf]; omega
    · go_wp2_with fail
      go_ret
      exact ⟨rfl, hb⟩
theorem lawsszSwingS_any (A : Option Addr) (c : Nat) (xs : List SwingR) (left : Int) (w : World) (h : SlAt encSwing 3 w A xs) (hn : xs.length ≤ 9223372036854775807) (hs : ∀ x ∈ xs, x.nm.size ≤ maxLen) (h0 : 0 ≤ left) (h1 : left ≤ 1048576) :
    Calls Try.prog 35 #[.slice A xs.length c, .int .i64 left] w fun e w' => ∃ r : Int, e = .returned (.int .i64 r) ∧ -1 ≤ r ∧ r ≤ left ∧ (0 ≤ r → (xs.length : Int) ≤ left) ∧ Below w.heap.size w w' := by
  have HX := hide h
  have HS := hide hs
  clear h hs
  by_cases hz : (xs.length : Int) ≤ left
  · go_enter Try.func35, Try.ntmps35
    go_wp2_with fail
    go_loopw [5, 1] (fun v l wr => ∃ k : Nat, v = .int .i64 k ∧ k ≤ xs.length ∧ (∃ r : Int, l = .int .i64 r ∧ 0 ≤ r ∧ r ≤ left) ∧ Below w.heap.size w wr) (fun v _ _ => xs.length - (intOf v).toNat)
    case atStart => exact ⟨0, rfl, by omega, ⟨_, rfl, by omega, by omega⟩, (by repeat (first | with_reducible exact Below.refl _ _ | with_reducible assumption | (with_reducible refine Below.drew ?_) | (with_reducible refine below_drewN ?_ _) | ((with_reducible refine Below.alloc ?_ ?_ _); rotate_left; (focus (first | omega | (simp; omega) | simp))) | ((with_reducible refine Below.setCell ?_ ?_ _); rotate_left; (focus (first | omega | (simp; omega) | simp))) | (refine Below.trans ?_ (Below.mono (by assumption) (by first | omega | (simp; omega) | simp)))))⟩
    case round =>
      obtain ⟨k, rfl, hk, ⟨r, rfl, r0, r1⟩, hb⟩ := hrel
      by_cases hlt : k < xs.length
      · obtain ⟨b, off, rfl, hbl, hc⟩ := HX.out.below hb k hlt
        have hc0 := hc 0 _ rfl
        have hc1 := hc 1 _ rfl
        have hc2 := hc 2 _ rfl
        simp only [Nat.add_zero] at hc0
        have hsz := HS.out xs[k] (List.getElem_mem hlt)
        have hz := hb.size
        clear hc
        generalize hx : xs[k] = x at *
        clear hx
        obtain ⟨x0, x1, x2⟩ := x
        simp only at hc0 hc1 hc2 hsz
        by_cases hq : (x0.size : Int) ≤ r
        · go_wp2_with fail
          refine (lawsszSwing_ok _ _ _ _ _ hq (by omega)).mono ?_
          rintro e w1 ⟨rfl, hb1⟩
          obtain ⟨fcb1, ffb1, fzb1⟩ := bfacts hb1 (by first | exact Nat.le_refl _ | omega | (simp; omega) | simp); have fsb1 := hb1.size; try simp at fcb1 ffb1 fzb1 fsb1 hb1
          go_wp2_with fail
          go_roundw
          case rel => exact ⟨k + 1, by go_num, by omega, ⟨_, rfl, by omega, by omega⟩, (by repeat (first | with_reducible exact Below.refl _ _ | with_reducible assumption | (with_reducible refine Below.drew ?_) | (with_reducible refine below_drewN ?_ _) | ((with_reducible refine Below.alloc ?_ ?_ _); rotate_left; (focus (first | omega | (simp; omega) | simp))) | ((with_reducible refine Below.setCell ?_ ?_ _); rotate_left; (focus (first | omega | (simp; omega) | simp))) | (refine Below.trans ?_ (Below.mono (by assumption) (by first | omega | (simp; omega) | simp)))))⟩
          case measure => simp [intOf]; omega
        · go_wp2_with fail
          refine (lawsszSwing_big _ _ _ _ _ hsz (by omega) r0).mono ?_
          rintro e w1 ⟨rfl, hb1⟩
          obtain ⟨fcb1, ffb1, fzb1⟩ := bfacts hb1 (by first | exact Nat.le_refl _ | omega | (simp; omega) | simp); have fsb1 := hb1.size; try simp at fcb1 ffb1 fzb1 fsb1 hb1
          go_wp2_with fail
          go_ret
          exact ⟨-1, rfl, by omega, by omega, fun h => by omega, (by repeat (first | with_reducible exact Below.refl _ _ | with_reducible assumption | (with_reducible refine Below.drew ?_) | (with_reducible refine below_drewN ?_ _) | ((with_reducible refine Below.alloc ?_ ?_ _); rotate_left; (focus (first | omega | (simp; omega) | simp))) | ((with_reducible refine Below.setCell ?_ ?_ _); rotate_left; (focus (first | omega | (simp; omega) | simp))) | (refine Below.trans ?_ (Below.mono (by assumption) (by first | omega | (simp; omega) | simp)))))⟩
      · go_wp2_with fail
        go_ret
        exact ⟨r, rfl, by omega, r1, fun _ => hz, hb⟩
  · go_enter Try.func35, Try.ntmps35
    go_wp2_with fail
    go_ret
    exact ⟨-1, rfl, by omega, by omega, fun h => by omega, (by repeat (first | with_reducible exact Below.refl _ _ | with_reducible assumption | (with_reducible refine Below.drew ?_) | (with_reducible refine below_drewN ?_ _) | ((with_reducible refine Below.alloc ?_ ?_ _); rotate_left; (focus (first | omega | (simp; omega) | simp))) | ((with_reducible refine Below.setCell ?_ ?_ _); rotate_left; (focus (first | omega | (simp; omega) | simp))) | (refine Below.trans ?_ (Below.mono (by assumption) (by first | omega | (simp; omega) | simp)))))⟩
end Go.Proofs.Ytjklhacffdhgaaa
