/- Draws that fill a struct: the state between two draws. -/
import Derived.Test.YtnefgafmnpblpaaGreatSrc
namespace Go.Proofs.YtnefgafmnpblpaaGreat
open Go.RowKit

theorem slat_new {α : Type} {enc : α → List Value} {sz : Nat} (he : ∀ x, (enc x).length = sz) (w : World) (xs : List α) (cs : Array Value) (T : TypeId) (hc : cs = (xs.flatMap enc).toArray) : SlAt enc sz (w.alloc (.cells cs T)) (some ⟨w.heap.size, 0, none⟩) xs :=
  Fill.fin (t := T) (N := cs.size) he ⟨cs, heap_alloc_new w _, rfl, fun j v h => by rw [hc]; simpa using h⟩
theorem specl00From (A : Option Addr) (n c : Nat) (w : World) (h : ByAt w w.heap.size A n) (hn : n ≤ 9223372036854775807) :
    Calls Tryz.prog 38 #[.slice A n c] w fun e w' => e = .returned (.pointer (some ⟨w.heap.size, 0, none⟩)) ∧ Src w' w.heap.size w.heap.size 0 ∧ Below w.heap.size w w' := by
  have HX := hide h
  clear h
  go_enter Tryz.func38, Tryz.ntmps38
  go_wp2_with fail
  go_ret
  exact ⟨rfl, ⟨Nat.le_refl _, A, n, c, 0, 0, ⟨by go_simp, by go_simp, by go_simp, by go_simp, by go_simp⟩, HX.out.below (by repeat (first | with_reducible exact Below.refl _ _ | with_reducible assumption | (with_reducible refine Below.drew ?_) | (with_reducible refine below_drewN ?_ _) | ((with_reducible refine Below.alloc ?_ ?_ _); rotate_left; (focus (first | omega | (simp; omega) | simp))) | ((with_reducible refine Below.setCell ?_ ?_ _); rotate_left; (focus (first | omega | (simp; omega) | simp))) | (refine Below.trans ?_ (Below.mono (by assumption) (by first | omega | (simp; omega) | simp))))), hn, by omega, by omega⟩, (by repeat (first | with_reducible exact Below.refl _ _ | with_reducible assumption | (with_reducible refine Below.drew ?_) | (with_reducible refine below_drewN ?_ _) | ((with_reducible refine Below.alloc ?_ ?_ _); rotate_left; (focus (first | omega | (simp; omega) | simp))) | ((with_reducible refine Below.setCell ?_ ?_ _); rotate_left; (focus (first | omega | (simp; omega) | simp))) | (refine Below.trans ?_ (Below.mono (by assumption) (by first | omega | (simp; omega) | simp)))))⟩
/-- The state of a draw that fills a struct: the source in block b, the result's block R, the struct's block Q. -/
structure DrawSt (T : TypeId) (B b R Q : Nat) (Z : Array Value) (w0 w : World) (N : Nat) (vs : Array Value) : Prop where
  src : Src w B b N
  bel : Below B w0 w
  r : w.heap[R]? = some (.cells Z T (0, 0))
  q : w.heap[Q]? = some (.cells vs T (0, 0))
section
variable {T : TypeId} {B b R Q N : Nat} {Z vs : Array Value} {w0 w w' : World}
theorem heap_lt {o : Obj} {k : Nat} (h : w.heap[k]? = some o) : k < w.heap.size := (Array.getElem?_eq_some_iff.1 h).1
theorem DrawSt.call {N' : Nat} (h : DrawSt T B b R Q Z w0 w N vs) (hR : R ≠ b) (hQ : Q ≠ b) (hs : Src w' B b N') (hb : Below B w w') (hg : w.grownBy w' (some b)) : DrawSt T B b R Q Z w0 w' N' vs :=
  ⟨hs, h.bel.trans hb, (hg.block R (heap_lt h.r) (by simpa using hR)).trans h.r, (hg.block Q (heap_lt h.q) (by simpa using hQ)).trans h.q⟩
theorem DrawSt.grow {row : Option Nat} (h : DrawSt T B b R Q Z w0 w N vs) (hb : Below B w w') (hg : w.grownBy w' row) (h1 : some b ≠ row) (h2 : some R ≠ row) (h3 : some Q ≠ row) : DrawSt T B b R Q Z w0 w' N vs :=
  ⟨h.src.kept hg hb h1, h.bel.trans hb, (hg.block R (heap_lt h.r) h2).trans h.r, (hg.block Q (heap_lt h.q) h3).trans h.q⟩
theorem DrawSt.below (h : DrawSt T B b R Q Z w0 w N vs) (hb : Below w.heap.size w w') : DrawSt T B b R Q Z w0 w' N vs :=
  h.grow (hb.mono (Nat.le_trans h.src.1 (Nat.le_of_lt h.src.lt))) (grown_of_below hb none) (by simp) (by simp) (by simp)
theorem DrawSt.set (h : DrawSt T B b R Q Z w0 w N vs) (hQ : Q ≠ b) (hRQ : R ≠ Q) (hB : B ≤ Q) (j : Nat) (v : Value) : DrawSt T B b R Q Z w0 (w.setCell ⟨Q, j, none⟩ v) N (vs.setIfInBounds j v) :=
  ⟨h.src.kept (grown_set (grown_refl _ _) j v) ((Below.refl _ _).setCell hB v) (by simpa using Ne.symm hQ), h.bel.setCell hB v,
   ((grown_set (grown_refl w (some Q)) j v).block R (heap_lt h.r) (by simpa using hRQ)).trans h.r, by simp [World.setCell, Array.getElem?_modify, h.q]⟩
theorem DrawSt.cell (h : DrawSt T B b R Q Z w0 w N vs) (j : Nat) (v : Value) (hv : vs[j]? = some v) : w.cell? ⟨Q, j, none⟩ = some v := by simp [World.cell?, h.q, hv]
theorem DrawSt.froz (h : DrawSt T B b R Q Z w0 w N vs) (j : Nat) : w.frozen? ⟨Q, j, none⟩ = false := by simp [World.frozen?, h.q]
theorem DrawSt.rcell (h : DrawSt T B b R Q Z w0 w N vs) (j : Nat) (v : Value) (hv : Z[j]? = some v) : w.cell? ⟨R, j, none⟩ = some v := by simp [World.cell?, h.r, hv]
theorem DrawSt.rfroz (h : DrawSt T B b R Q Z w0 w N vs) (j : Nat) : w.frozen? ⟨R, j, none⟩ = false := by simp [World.frozen?, h.r]
end
theorem DrawSt.pushed {T : TypeId} {B b R Q N : Nat} {Z vs : Array Value} {w0 w w' : World} {o : Obj} {row : Option Nat} (h : DrawSt T B b R Q Z w0 w N vs) (hg : (w.alloc o).grownBy w' row) (hrow : ∀ x, x ≤ Q → some x ≠ row) (hb : b ≤ Q) (hR : R ≤ Q) : DrawSt T B b R Q Z w0 w' N vs := by
  have h1 := h.below (w' := w.alloc o) ((Below.refl _ _).alloc (Nat.le_refl _) _)
  have hB := h.src.1
  have hQ := heap_lt h1.q
  exact h1.grow ⟨hg.os, hg.tape, hg.output, hg.size, fun k hk => hg.block k (by omega) (hrow k (by omega))⟩ hg (hrow b hb) (hrow R hR) (hrow Q (Nat.le_refl _))
/-- What a draw made and wrote in new blocks leaves of the older ones but the source. -/
theorem grown_alloc {w0 w : World} {row : Option Nat} (h : w0.grownBy w row) (o : Obj) : w0.grownBy (w.alloc o) row := grown_trans h (grown_of_below ((Below.refl _ _).alloc (Nat.le_refl _) _) _)
theorem grown_new {w0 w : World} {row : Option Nat} (h : w0.grownBy w row) {Q : Nat} (hQ : w0.heap.size ≤ Q) (j : Nat) (v : Value) : w0.grownBy (w.setCell ⟨Q, j, none⟩ v) row :=
  ⟨h.os, h.tape, h.output, by simpa [World.setCell] using h.size, fun k hk hne => by
    refine Eq.trans ?_ (h.block k hk hne)
    have : k ≠ Q := by omega
    simp [World.setCell, Array.getElem?_modify, Ne.symm this]⟩
end Go.Proofs.YtnefgafmnpblpaaGreat
