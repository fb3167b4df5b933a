/- What lives in the walks of the planner's laws. -/
import Derived.Test.YtnefgafmnpblpaaGreatPnH
namespace Go.Proofs.YtnefgafmnpblpaaGreat
open Go.RowKit Pn

/-- The law's boxed arguments. -/
structure Lb (x : Cx) (w W : World) : Prop where
  s0 : W.heap[w.heap.size]? = some (.cells #[.slice x.Az x.zs.length x.cz, .slice x.Aw x.ws.length x.cw, .slice x.Ab x.bs.length x.cb] 55 (0, 0))
  s1 : W.heap[w.heap.size + 1]? = some (.cells #[.string x.nm, .slice x.A x.rs.length x.c] 58 (0, 0))
  s2 : W.heap[w.heap.size + 1 + 1]? = some (.cells #[.int .i64 x.t0, .int .i64 x.t1, .int .i64 x.t2, .int .i64 x.t3, .int .i64 x.t4, .int .i64 x.tol, .int .i64 x.most] 61 (0, 0))
  bel : Below w.heap.size w W
theorem Lb.below {x : Cx} {w W W' : World} (h : Lb x w W) (hb : Below W.heap.size W W') : Lb x w W' := by
  have := heap_lt h.s2
  exact ⟨(hb.block _ (by omega)).trans h.s0, (hb.block _ (by omega)).trans h.s1, (hb.block _ (by omega)).trans h.s2, h.bel.trans (hb.mono h.bel.size)⟩
theorem Lb.new (x : Cx) (w : World) : Lb x w (((w.alloc (.cells #[.slice x.Az x.zs.length x.cz, .slice x.Aw x.ws.length x.cw, .slice x.Ab x.bs.length x.cb] 55)).alloc (.cells #[.string x.nm, .slice x.A x.rs.length x.c] 58)).alloc (.cells #[.int .i64 x.t0, .int .i64 x.t1, .int .i64 x.t2, .int .i64 x.t3, .int .i64 x.t4, .int .i64 x.tol, .int .i64 x.most] 61)) := by
  refine ⟨?_, ?_, ?_, (by repeat (first | with_reducible exact Below.refl _ _ | with_reducible assumption | (with_reducible refine Below.drew ?_) | (with_reducible refine below_drewN ?_ _) | ((with_reducible refine Below.alloc ?_ ?_ _); rotate_left; (focus (first | omega | (simp; omega) | simp))) | ((with_reducible refine Below.setCell ?_ ?_ _); rotate_left; (focus (first | omega | (simp; omega) | simp))) | (refine Below.trans ?_ (Below.mono (by assumption) (by first | omega | (simp; omega) | simp)))))⟩
  · have a1 : Below (w.heap.size + 1) (w.alloc (.cells #[.slice x.Az x.zs.length x.cz, .slice x.Aw x.ws.length x.cw, .slice x.Ab x.bs.length x.cb] 55)) (((w.alloc (.cells #[.slice x.Az x.zs.length x.cz, .slice x.Aw x.ws.length x.cw, .slice x.Ab x.bs.length x.cb] 55)).alloc (.cells #[.string x.nm, .slice x.A x.rs.length x.c] 58)).alloc (.cells #[.int .i64 x.t0, .int .i64 x.t1, .int .i64 x.t2, .int .i64 x.t3, .int .i64 x.t4, .int .i64 x.tol, .int .i64 x.most] 61)) := ((Below.refl _ _).alloc (by simp) _).alloc (by simp) _
    exact (a1.block _ (by omega)).trans (heap_alloc_new w _)
  · have a := heap_alloc_new (w.alloc (.cells #[.slice x.Az x.zs.length x.cz, .slice x.Aw x.ws.length x.cw, .slice x.Ab x.bs.length x.cb] 55)) (.cells #[.string x.nm, .slice x.A x.rs.length x.c] 58)
    have a1 : Below (w.heap.size + 2) ((w.alloc (.cells #[.slice x.Az x.zs.length x.cz, .slice x.Aw x.ws.length x.cw, .slice x.Ab x.bs.length x.cb] 55)).alloc (.cells #[.string x.nm, .slice x.A x.rs.length x.c] 58)) (((w.alloc (.cells #[.slice x.Az x.zs.length x.cz, .slice x.Aw x.ws.length x.cw, .slice x.Ab x.bs.length x.cb] 55)).alloc (.cells #[.string x.nm, .slice x.A x.rs.length x.c] 58)).alloc (.cells #[.int .i64 x.t0, .int .i64 x.t1, .int .i64 x.t2, .int .i64 x.t3, .int .i64 x.t4, .int .i64 x.tol, .int .i64 x.most] 61)) := (Below.refl _ _).alloc (by simp) _
    exact (a1.block _ (by omega)).trans (by simpa using a)
  · have a := heap_alloc_new ((w.alloc (.cells #[.slice x.Az x.zs.length x.cz, .slice x.Aw x.ws.length x.cw, .slice x.Ab x.bs.length x.cb] 55)).alloc (.cells #[.string x.nm, .slice x.A x.rs.length x.c] 58)) (.cells #[.int .i64 x.t0, .int .i64 x.t1, .int .i64 x.t2, .int .i64 x.t3, .int .i64 x.t4, .int .i64 x.tol, .int .i64 x.most] 61)
    simpa using a
theorem Lb.cells {x : Cx} {w W : World} (h : Lb x w W) : W.cell? ⟨w.heap.size, 0, none⟩ = some (.slice x.Az x.zs.length x.cz) ∧ W.cell? ⟨w.heap.size, 1, none⟩ = some (.slice x.Aw x.ws.length x.cw) ∧ W.cell? ⟨w.heap.size, 2, none⟩ = some (.slice x.Ab x.bs.length x.cb) ∧ W.cell? ⟨w.heap.size + 1, 0, none⟩ = some (.string x.nm) ∧ W.cell? ⟨w.heap.size + 1, 1, none⟩ = some (.slice x.A x.rs.length x.c) ∧ W.cell? ⟨w.heap.size + 1 + 1, 0, none⟩ = some (.int .i64 x.t0) ∧ W.cell? ⟨w.heap.size + 1 + 1, 1, none⟩ = some (.int .i64 x.t1) ∧ W.cell? ⟨w.heap.size + 1 + 1, 2, none⟩ = some (.int .i64 x.t2) ∧ W.cell? ⟨w.heap.size + 1 + 1, 3, none⟩ = some (.int .i64 x.t3) ∧ W.cell? ⟨w.heap.size + 1 + 1, 4, none⟩ = some (.int .i64 x.t4) ∧ W.cell? ⟨w.heap.size + 1 + 1, 5, none⟩ = some (.int .i64 x.tol) ∧ W.cell? ⟨w.heap.size + 1 + 1, 6, none⟩ = some (.int .i64 x.most) := by
  have a := h.s0
  have b := h.s1
  have c := h.s2
  exact ⟨by simp [World.cell?, a], by simp [World.cell?, a], by simp [World.cell?, a], by simp [World.cell?, b], by simp [World.cell?, b], by simp [World.cell?, c], by simp [World.cell?, c], by simp [World.cell?, c], by simp [World.cell?, c], by simp [World.cell?, c], by simp [World.cell?, c], by simp [World.cell?, c]⟩
/-- Where the copies and the reference's cuts lie. -/
structure Ld where
  As : Option Addr
  cs : Nat
  B0 : Nat
  Az : Option Addr
  cz : Nat
  Aw : Option Addr
  cw : Nat
  Ab : Option Addr
  cb : Nat
  N1 : Nat
  N2 : Nat
  b0 : Nat
  A : Option Addr
  c : Nat
  b1 : Nat
/-- What lives in a law behind its first copies. -/
structure Lv (x : Cx) (w3 : World) (d : Ld) (xs : List CutR) (W : World) : Prop where
  bel : Below w3.heap.size w3 W
  s0 : OwnC W w3.heap.size (.slice d.As xs.length d.cs) xs
  sB : ∀ k, (Value.slice d.As xs.length d.cs).ownBlock = some k → k < d.B0
  h0 : W.heap[d.b0]? = some (.cells #[.slice d.Az x.zs.length d.cz, .slice d.Aw x.ws.length d.cw, .slice d.Ab x.bs.length d.cb] 27 (0, 0))
  m0 : MdOwn W d.B0 d.N1 d.N2 d.b0 d.Az d.cz d.Aw d.cw d.Ab d.cb x.zs x.ws x.bs
  h1 : W.heap[d.b1]? = some (.cells #[.string x.nm, .slice d.A x.rs.length d.c] 30 (0, 0))
  r1 : OwnR W (d.b0 + 1) (.slice d.A x.rs.length d.c) x.rs
  rB : ∀ k, (Value.slice d.A x.rs.length d.c).ownBlock = some k → k < d.b1
  o0 : w3.heap.size ≤ d.B0
  o1 : d.b0 < d.b1
theorem Lv.below {x : Cx} {w3 W W' : World} {d : Ld} {xs : List CutR} (h : Lv x w3 d xs W) (hb : Below W.heap.size W W') : Lv x w3 d xs W' :=
  ⟨h.bel.trans (hb.mono h.bel.size), h.s0.below hb, h.sB, (hb.block _ (heap_lt h.h0)).trans h.h0, h.m0.below hb, (hb.block _ (heap_lt h.h1)).trans h.h1, h.r1.below hb, h.rB, h.o0, h.o1⟩
theorem Lv.cells {x : Cx} {w3 W : World} {d : Ld} {xs : List CutR} (h : Lv x w3 d xs W) : W.cell? ⟨d.b0, 0, none⟩ = some (.slice d.Az x.zs.length d.cz) ∧ W.cell? ⟨d.b0, 1, none⟩ = some (.slice d.Aw x.ws.length d.cw) ∧ W.cell? ⟨d.b0, 2, none⟩ = some (.slice d.Ab x.bs.length d.cb) ∧ W.cell? ⟨d.b1, 0, none⟩ = some (.string x.nm) ∧ W.cell? ⟨d.b1, 1, none⟩ = some (.slice d.A x.rs.length d.c) := by
  have a := h.h0
  have b := h.h1
  exact ⟨by simp [World.cell?, a], by simp [World.cell?, a], by simp [World.cell?, a], by simp [World.cell?, b], by simp [World.cell?, b]⟩
theorem own_after {α : Type} {enc : α → List Value} {sz : Nat} {T : TypeId} {w : World} {B M : Nat} {v : Value} {xs : List α} (h : Own enc sz T w M v xs) (hM : B ≤ M) : ∀ k, v.ownBlock = some k → B ≤ k := fun k e => Nat.le_trans hM (h.lt k e).1
end Go.Proofs.YtnefgafmnpblpaaGreat
