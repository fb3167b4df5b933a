/- The laws' counts and comparisons of slices; the laws of ValidSwings and ValidPlaces. -/
import Derived.Test.YtobcjhbfkanakaaDoorRows1
namespace Go.Proofs.YtobcjhbfkanakaaDoor
open Go.RowKit

theorem lawseqLoad_same (x0 : Int) (x1 : Int) (w : World) : Calls Tryd.prog 66 #[.agg #[.int .i64 x0, .int .i64 x1], .agg #[.int .i64 x0, .int .i64 x1]] w fun e w' => e = .returned (.bool true) ∧ Below w.heap.size w w' := by
  go_enter Tryd.func66, Tryd.ntmps66
  go_wp2
  go_ret
  exact ⟨rfl, (by repeat (first | with_reducible exact Below.refl _ _ | with_reducible assumption | (with_reducible refine Below.drew ?_) | (with_reducible refine below_drewN ?_ _) | ((with_reducible refine Below.alloc ?_ ?_ _); rotate_left; (focus (first | omega | (simp; omega) | simp))) | ((with_reducible refine Below.setCell ?_ ?_ _); rotate_left; (focus (first | omega | (simp; omega) | simp))) | (refine Below.trans ?_ (Below.mono (by assumption) (by first | omega | (simp; omega) | simp)))))⟩
theorem lawseqLoadS_same (A A' : Option Addr) (c c' : Nat) (xs : List LoadR) (w : World) (h : SlAt encLoad 2 w A xs) (h' : SlAt encLoad 2 w A' xs) (hn : xs.length ≤ 1048576) :
    Calls Tryd.prog 42 #[.slice A xs.length c, .slice A' xs.length c'] w fun e w' => e = .returned (.bool true) ∧ Below w.heap.size w w' := by
  have HX := hide h
  have HY := hide h'
  clear h h'
  go_enter Tryd.func42, Tryd.ntmps42
  go_wp2_with fail
  go_loopw [5] (fun v wr => ∃ k : Nat, v = .int .i64 k ∧ k ≤ xs.length ∧ Below w.heap.size w wr) (fun v _ => xs.length - (intOf v).toNat)
  case atStart => exact ⟨0, rfl, by omega, (by repeat (first | with_reducible exact Below.refl _ _ | with_reducible assumption | (with_reducible refine Below.drew ?_) | (with_reducible refine below_drewN ?_ _) | ((with_reducible refine Below.alloc ?_ ?_ _); rotate_left; (focus (first | omega | (simp; omega) | simp))) | ((with_reducible refine Below.setCell ?_ ?_ _); rotate_left; (focus (first | omega | (simp; omega) | simp))) | (refine Below.trans ?_ (Below.mono (by assumption) (by first | omega | (simp; omega) | simp)))))⟩
  case round =>
    obtain ⟨k, rfl, hk, hb⟩ := hrel
    by_cases hlt : k < xs.length
    · obtain ⟨b, off, rfl, hbl, hc⟩ := HX.out.below hb k hlt
      obtain ⟨b2, off2, rfl, hbl2, hd⟩ := HY.out.below hb k hlt
      have hc0 := hc 0 _ rfl
      have hd0 := hd 0 _ rfl
      have hc1 := hc 1 _ rfl
      have hd1 := hd 1 _ rfl
      simp only [Nat.add_zero] at hc0 hd0
      have hz := hb.size
      have HB := hide hb
      clear hc hd
      generalize hx : xs[k] = x at *
      clear hx
      obtain ⟨x0, x1⟩ := x
      simp only at hc0 hd0 hc1 hd1
      go_wp2_with fail
      refine wp_region_kept (by kernel_rfl) (by kernel_rfl) ?_
      intro gc gf gz
      repeat (go_big_quiet_step ((go_at_call 66; exact Calls.kept (lawseqLoad_same x0 x1 _))))
      refine wpQuiet_nil ?_
      intro w1 hw'
      obtain ⟨⟨_, hb1⟩, rfl⟩ := hw'
      clear gc gf gz
      try dsimp only
      have fs1 := hb1.size
      try simp at fs1 hb1
      go_wp2_with fail
      go_roundw
      case rel => exact ⟨k + 1, by go_num, by omega, (by repeat (first | with_reducible exact Below.refl _ _ | with_reducible assumption | (with_reducible refine Below.drew ?_) | (with_reducible refine below_drewN ?_ _) | ((with_reducible refine Below.alloc ?_ ?_ _); rotate_left; (focus (first | omega | (simp; omega) | simp))) | ((with_reducible refine Below.setCell ?_ ?_ _); rotate_left; (focus (first | omega | (simp; omega) | simp))) | (refine Below.trans ?_ (Below.mono (by assumption) (by first | omega | (simp; omega) | simp)))))⟩
      case measure => simp [intOf]; omega
    · go_wp2_with fail
      go_ret
      exact ⟨rfl, hb⟩


end Go.Proofs.YtobcjhbfkanakaaDoor
