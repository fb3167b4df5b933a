/- Slices that a call makes itself, told as lists: the predicate; slices of numbers compared, marked, held. -/
import Derived.Test.YtajodbhbmfjmjaaGreatDoorSlice
namespace Go.Proofs.YtajodbhbmfjmjaaGreatDoor
open Go.RowKit

abbrev encI (n : Int) : List Value := [.int .i64 n]
theorem encI_map (xs : List Int) : xs.flatMap encI = xs.map (Value.int .i64) := by
  induction xs with
  | nil => rfl
  | cons x xs ih => simp [List.flatMap_cons, ih]
abbrev OwnI (w : World) (B : Nat) (v : Value) (xs : List Int) : Prop := Own encI 1 2 w B v xs
/-- k, k + 1, .. : n of them. -/
def marks (k : Int) (n : Nat) : List Int := (List.range n).map fun i : Nat => k + (i : Int)
theorem marks_length (k : Int) (n : Nat) : (marks k n).length = n := by simp [marks]
theorem marks_get (k : Int) (n j : Nat) (h : j < n) : (marks k n)[j]'(by rw [marks_length]; exact h) = k + j := by simp [marks]
theorem marks_succ (k : Int) (n : Nat) : marks k (n + 1) = marks k n ++ [k + n] := by simp [marks, List.range_succ]
theorem info_i64 : (Tryz.prog.info? 2).map (fun i => (i.zero, i.size, i.bytes)) = some (some (.int .i64 0), 1, 8) := by kernel_rfl

set_option maxRecDepth 100000 in
theorem wpList_appI {w : World} {ops : Array Oper} {rest : List Oper} {o : Oper} {a : Act} {Q : Exit → Act → World → Prop} (hgd : o.guard = none) (s x : Operand) (ho : o.op = .call { callee := .builtin .append, args := #[s, x], argTypes := #[51, 51] }) (B : Nat) {v : Value} {xs : List Int} (hs : a.eval s = v)
    (hown : OwnI w B v xs) {y : Int} (hx : a.eval x = .slice (some ⟨w.heap.size, 0, none⟩) 1 1) (hn : xs.length ≤ 1048576) (hB : B ≤ w.heap.size)
    (h : ∀ (A : Option Addr) (c : Nat) (w' : World), OwnI w' B (.slice A (xs.length + 1) c) (xs ++ [y]) → Below B w w' → w.grownBy w' v.ownBlock → wpList Tryz.prog ops Q rest (a.put o.dst (.slice A (xs.length + 1) c)) w') : wpList Tryz.prog ops Q (o :: rest) a (w.alloc (.cells #[.int .i64 y] 2)) := by
  obtain ⟨i0, hi, hz0, hz1, hz2⟩ := info_parts info_i64
  have hb0 : Below w.heap.size w (w.alloc (.cells #[.int .i64 y] 2)) := (Below.refl _ _).alloc (Nat.le_refl _) _
  refine wpList_app Tryz.underlying51 hi hz0 hz1 hz2 rfl (by omega) (by omega) (fun _ => rfl) hgd s x ho B hs (hown.below hb0) y (fun u hu => by simp at hu; subst hu; rfl) hx (fun j u hj => ?_) hn (by simp; omega) fun A c w' h1 h2 h3 => h A c w' h1 ((hb0.mono hB).trans h2) (grown_trans (grown_of_below hb0 _) h3)
  match j, hj with
  | 0, hj => injection hj with hj; subst hj; simp [Addr.add]
end Go.Proofs.YtajodbhbmfjmjaaGreatDoor
