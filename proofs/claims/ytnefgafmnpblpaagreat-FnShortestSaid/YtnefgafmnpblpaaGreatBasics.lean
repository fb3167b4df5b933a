/- Contracts of small functions: within and its kin. -/
import Derived.Test.YtnefgafmnpblpaaGreatRows
import Derived.Test.YtnefgafmnpblpaaGreatPlain
import Derived.WalkKit
import Derived.WalkSpells
import Derived.RowKit3
import Derived.Below
import Derived.WalkLawsBesides
import Derived.IntWalk
import Derived.Deep.QuietTactic
import Derived.BigQuiet
import Derived.Deep.LoopGhost
namespace Go.Proofs.YtnefgafmnpblpaaGreat
open Go.RowKit

/-- Between two bounds: the program's word, kept closed. -/
def inB (n lo hi : Int) : Bool := decide (lo ≤ n) && decide (n ≤ hi)
theorem inB_true {n lo hi : Int} (h : inB n lo hi = true) : lo ≤ n ∧ n ≤ hi := by unfold inB at h; simpa using h
theorem inB_mk {n lo hi : Int} (h1 : lo ≤ n) (h2 : n ≤ hi) : inB n lo hi = true := by unfold inB; simp [h1, h2]
theorem inB_false {n lo hi : Int} (h : inB n lo hi = false) : n < lo ∨ hi < n := by unfold inB at h; simp at h; omega
theorem ret_bool {a b : Bool} (h : a = b) : Ending.returned (.bool a) = .returned (.bool b) := by rw [h]
theorem ret_int {k : IntKind} {a b : Int} (h : a = b) : Ending.returned (.int k a) = .returned (.int k b) := by rw [h]
/-- A pair of numbers as a result. -/
abbrev two (p : Int × Int) : Value := .tuple #[.int .i64 p.1, .int .i64 p.2]
theorem ret_two {a b : Int} {p : Int × Int} (h : p = (a, b)) : Ending.returned (.tuple #[.int .i64 a, .int .i64 b]) = .returned (.tuple #[.int .i64 p.1, .int .i64 p.2]) := by subst h; rfl

theorem hide {p : Prop} (h : p) : Hid p := h

theorem bcell {W w1 : World} {B : Nat} (hb : Below B W w1) : (∀ b o, b < B → w1.cell? ⟨b, o, none⟩ = W.cell? ⟨b, o, none⟩) ∧ (∀ b o, b < B → w1.frozen? ⟨b, o, none⟩ = W.frozen? ⟨b, o, none⟩) :=
  ⟨fun b o h => hb.cell (p := ⟨b, o, none⟩) h, fun b o h => hb.frozen (p := ⟨b, o, none⟩) h⟩
theorem bfacts {W w1 : World} {B : Nat} (hb : Below B W w1) (hB : B ≤ W.heap.size) : (∀ b o, b < B → w1.cell? ⟨b, o, none⟩ = W.cell? ⟨b, o, none⟩) ∧ (∀ b o, b < B → w1.frozen? ⟨b, o, none⟩ = W.frozen? ⟨b, o, none⟩) ∧ (∀ b, b < B → b < w1.heap.size) :=
  ⟨(bcell hb).1, (bcell hb).2, fun _ h => Nat.lt_of_lt_of_le h (Nat.le_trans hB hb.size)⟩
theorem below_drewN {B : Nat} {a w : World} (h : Below B a w) (n : Nat) : Below B a (w.drewN n) := ⟨h.os, h.tape, h.output, h.size, h.block⟩

theorem quiet_add {P : Program} {f : FuncId} {args : Array Value} {w : World} {a n : Nat} {v : Value}
    (h : Calls P f args (w.drewN (a + n)) fun e w' => e = .returned v ∧ ∃ m, w' = (w.drewN (a + n)).drewN m) :
    Calls P f args (w.drewN (a + n)) fun e w'' => e = .returned v ∧ ∃ m, w'' = w.drewN (a + m) :=
  h.mono fun _ _ ⟨he, m, hm⟩ => ⟨he, n + m, by rw [hm, World.drewN_drewN, Nat.add_assoc]⟩
theorem quiet_add_same {P : Program} {f : FuncId} {args : Array Value} {w : World} {a n : Nat} {v : Value}
    (h : Calls P f args (w.drewN (a + n)) fun e w' => e = .returned v ∧ w' = w.drewN (a + n)) :
    Calls P f args (w.drewN (a + n)) fun e w'' => e = .returned v ∧ ∃ m, w'' = w.drewN (a + m) :=
  h.mono fun _ _ ⟨he, hm⟩ => ⟨he, n, hm⟩
/-- The worlds in which all that lies in w is as it was. -/
structure Kept (w : World) where
  w' : World
  h : Below w.heap.size w w'
instance (w : World) : Nonempty (Kept w) := ⟨⟨w, Below.refl _ _⟩⟩
theorem Kept.step {w a b : World} (h : Below w.heap.size w a) (k : Below a.heap.size a b) : Below w.heap.size w b := h.trans (k.mono h.size)
/-- A region that draws its order, whose operations only read what lay there and whose calls leave that alone: one walk, in the order of the text. -/
theorem wp_region_kept {P : Program} {id : Nat} {Q : Exit → Act → World → Prop} {a : Act} {w : World} {l : List Oper} (hm : P.follows .mixedOrders = true) (hB : Region.lexB .any l.toArray = true)
    (h : (∀ (u : Kept w) b o, b < w.heap.size → u.w'.cell? ⟨b, o, none⟩ = w.cell? ⟨b, o, none⟩) → (∀ (u : Kept w) b o, b < w.heap.size → u.w'.frozen? ⟨b, o, none⟩ = w.frozen? ⟨b, o, none⟩) → (∀ (u : Kept w) b, b < w.heap.size → b < u.w'.heap.size) →
      wpQuiet P l.toArray (fun w' => ∃ u : Kept w, w' = u.w') (fun a' => ∀ w', (∃ u : Kept w, w' = u.w') → Q .normal a' w') l a) : (Code.region id l.toArray true).wp P Q a w :=
  wp_region_quiet (C := fun w' => ∃ u : Kept w, w' = u.w') hm hB ⟨⟨_, (Below.refl _ _).drew⟩, rfl⟩
    (by simpa using h (fun u b o hb => u.h.cell (p := ⟨b, o, none⟩) hb) (fun u b o hb => u.h.frozen (p := ⟨b, o, none⟩) hb) (fun u b hb => Nat.lt_of_lt_of_le hb u.h.size))
theorem Calls.kept {P : Program} {f : FuncId} {args : Array Value} {w : World} {u : Kept w} {v : Value} (h : Calls P f args u.w' fun e w' => e = .returned v ∧ Below u.w'.heap.size u.w' w') :
    Calls P f args u.w' fun e w'' => e = .returned v ∧ ∃ m : Kept w, w'' = m.w' := h.mono fun _ _ ⟨he, hb⟩ => ⟨he, ⟨_, Kept.step u.h hb⟩, rfl⟩
theorem Calls.kept_same {P : Program} {f : FuncId} {args : Array Value} {w : World} {u : Kept w} {v : Value} (h : Calls P f args u.w' fun e w' => e = .returned v ∧ u.w' = w') :
    Calls P f args u.w' fun e w'' => e = .returned v ∧ ∃ m : Kept w, w'' = m.w' := h.mono fun _ _ ⟨he, hb⟩ => ⟨he, u, hb.symm⟩
theorem Calls.kept_drew {P : Program} {f : FuncId} {args : Array Value} {w : World} {u : Kept w} {v : Value} (h : Calls P f args u.w' fun e w' => e = .returned v ∧ ∃ n, u.w'.drewN n = w') :
    Calls P f args u.w' fun e w'' => e = .returned v ∧ ∃ m : Kept w, w'' = m.w' := h.mono fun _ _ ⟨he, n, hb⟩ => ⟨he, ⟨_, by rw [← hb]; exact below_drewN u.h n⟩, rfl⟩

theorem implwithin_any (n lo hi : Int) (w : World) : Calls Tryz.prog 120 #[.int .i64 n, .int .i64 lo, .int .i64 hi] w fun e w' => e = .returned (.bool (inB n lo hi)) ∧ w = w' := by
  by_cases h1 : lo ≤ n
  · by_cases h2 : n ≤ hi
    · have e : Hid (inB n lo hi = true) := inB_mk h1 h2
      go_enter Tryz.func120, Tryz.ntmps120
      go_wp2
      go_ret
      exact ⟨ret_bool e.out.symm, rfl⟩
    · have e : Hid (inB n lo hi = false) := by unfold Hid inB; simp [h2]
      go_enter Tryz.func120, Tryz.ntmps120
      go_wp2
      go_ret
      exact ⟨ret_bool e.out.symm, rfl⟩
  · have e : Hid (inB n lo hi = false) := by unfold Hid inB; simp [h1]
    go_enter Tryz.func120, Tryz.ntmps120
    go_wp2
    go_ret
    exact ⟨ret_bool e.out.symm, rfl⟩
theorem implwithin_is (n lo hi : Int) (b : Bool) (h : inB n lo hi = b) (w : World) : Calls Tryz.prog 120 #[.int .i64 n, .int .i64 lo, .int .i64 hi] w fun e w' => e = .returned (.bool b) ∧ w = w' := by
  subst h
  exact implwithin_any n lo hi w
theorem specl00In_any (n lo hi : Int) (w : World) : Calls Tryz.prog 109 #[.int .i64 n, .int .i64 lo, .int .i64 hi] w fun e w' => e = .returned (.bool (inB n lo hi)) ∧ w = w' := by
  by_cases h1 : lo ≤ n
  · by_cases h2 : n ≤ hi
    · have e : Hid (inB n lo hi = true) := inB_mk h1 h2
      go_enter Tryz.func109, Tryz.ntmps109
      go_wp2
      go_ret
      exact ⟨ret_bool e.out.symm, rfl⟩
    · have e : Hid (inB n lo hi = false) := by unfold Hid inB; simp [h2]
      go_enter Tryz.func109, Tryz.ntmps109
      go_wp2
      go_ret
      exact ⟨ret_bool e.out.symm, rfl⟩
  · have e : Hid (inB n lo hi = false) := by unfold Hid inB; simp [h1]
    go_enter Tryz.func109, Tryz.ntmps109
    go_wp2
    go_ret
    exact ⟨ret_bool e.out.symm, rfl⟩
theorem specl00In_is (n lo hi : Int) (b : Bool) (h : inB n lo hi = b) (w : World) : Calls Tryz.prog 109 #[.int .i64 n, .int .i64 lo, .int .i64 hi] w fun e w' => e = .returned (.bool b) ∧ w = w' := by
  subst h
  exact specl00In_any n lo hi w
theorem implisBudget_any (n : Int) (w : World) : Calls Tryz.prog 94 #[.int .i64 n] w fun e w' => e = .returned (.bool (inB n (1) 20000)) ∧ w = w' := by
  go_enter Tryz.func94, Tryz.ntmps94
  go_wp2_with (go_at_call 120; refine (implwithin_any _ _ _ _).mono ?_; rintro e w' ⟨rfl, rfl⟩)
  go_ret
  exact ⟨rfl, rfl⟩
end Go.Proofs.YtnefgafmnpblpaaGreat
