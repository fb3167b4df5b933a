/- Contracts: copies, counts and comparisons of beams; whether two beams are equal; the laws of ValidBeam and SameBeam. -/
import Derived.Test.YtobcjhbfkanakaaDoorBeam
namespace Go.Proofs.YtobcjhbfkanakaaDoor
open Go.RowKit


open Classical in
theorem dec_true {p : Prop} (h : p) : @decide p (Classical.propDecidable p) = true := @decide_eq_true p _ h
theorem dec_false {p : Prop} (h : ¬ p) : @decide p (Classical.propDecidable p) = false := @decide_eq_false p (Classical.propDecidable p) h
/-- Two lists are one. -/
noncomputable def eqB {α : Type} (a b : α) : Bool := @decide (a = b) (Classical.propDecidable _)

theorem lawseqBeam_same (nm : ByteArray) (span wd dp wood : Int) (A A' : Option Addr) (c c' : Nat) (ls : List LoadR) (w : World) (h : SlAt encLoad 2 w A ls) (h' : SlAt encLoad 2 w A' ls) (hn : ls.length ≤ 1048576) :
    Calls Tryd.prog 19 #[.agg #[.string nm, .int .i64 span, .int .i64 wd, .int .i64 dp, .int .i64 wood, .slice A ls.length c], .agg #[.string nm, .int .i64 span, .int .i64 wd, .int .i64 dp, .int .i64 wood, .slice A' ls.length c']] w fun e w' =>
      e = .returned (.bool true) ∧ Below w.heap.size w w' := by
  have HX := hide h
  have HY := hide h'
  clear h h'
  go_enter Tryd.func19, Tryd.ntmps19
  go_wp2_with fail
  refine (lawseqLoadS_same A A' c c' ls _ (HX.out.below (by repeat (first | with_reducible exact Below.refl _ _ | with_reducible assumption | (with_reducible refine Below.drew ?_) | (with_reducible refine below_drewN ?_ _) | ((with_reducible refine Below.alloc ?_ ?_ _); rotate_left; (focus (first | omega | (simp; omega) | simp))) | ((with_reducible refine Below.setCell ?_ ?_ _); rotate_left; (focus (first | omega | (simp; omega) | simp))) | (refine Below.trans ?_ (Below.mono (by assumption) (by first | omega | (simp; omega) | simp)))))) (HY.out.below (by repeat (first | with_reducible exact Below.refl _ _ | with_reducible assumption | (with_reducible refine Below.drew ?_) | (with_reducible refine below_drewN ?_ _) | ((with_reducible refine Below.alloc ?_ ?_ _); rotate_left; (focus (first | omega | (simp; omega) | simp))) | ((with_reducible refine Below.setCell ?_ ?_ _); rotate_left; (focus (first | omega | (simp; omega) | simp))) | (refine Below.trans ?_ (Below.mono (by assumption) (by first | omega | (simp; omega) | simp)))))) hn).mono ?_
  rintro e w1 ⟨rfl, hb1⟩
  obtain ⟨fcb1, ffb1, fzb1⟩ := bfacts hb1 (by first | exact Nat.le_refl _ | omega | (simp; omega) | simp); have fsb1 := hb1.size; try simp at fcb1 ffb1 fzb1 fsb1 hb1
  go_wp2_with fail
  go_ret
  exact ⟨rfl, (by repeat (first | with_reducible exact Below.refl _ _ | with_reducible assumption | (with_reducible refine Below.drew ?_) | (with_reducible refine below_drewN ?_ _) | ((with_reducible refine Below.alloc ?_ ?_ _); rotate_left; (focus (first | omega | (simp; omega) | simp))) | ((with_reducible refine Below.setCell ?_ ?_ _); rotate_left; (focus (first | omega | (simp; omega) | simp))) | (refine Below.trans ?_ (Below.mono (by assumption) (by first | omega | (simp; omega) | simp)))))⟩
end Go.Proofs.YtobcjhbfkanakaaDoor
