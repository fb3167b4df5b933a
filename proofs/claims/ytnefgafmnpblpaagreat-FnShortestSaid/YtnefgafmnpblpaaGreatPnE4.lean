/- Contracts: a model of one's own, the usual model. -/
import Derived.Test.YtnefgafmnpblpaaGreatPnE3
namespace Go.Proofs.YtnefgafmnpblpaaGreat
open Go.RowKit Pn

theorem LL.push {w w' : World} {B N c : Nat} {v : Value} {vs : List Value} {ls : List (List Int)} {A : Option Addr} {u : Value} {l : List Int} (h : LL w B N v vs ls) (hu : OwnI w B u l) (hap : ∀ k, u.ownBlock = some k → N ≤ k) (h1 : Own encV 1 24 w' B (.slice A (ls.length + 1) c) (vs ++ [u])) (hg : (w.alloc (.cells #[u] 24)).grownBy w' v.ownBlock) :
    LL w' B w'.heap.size (.slice A (ls.length + 1) c) (vs ++ [u]) (ls ++ [l]) := by
  have hb0 : Below w.heap.size w (w.alloc (.cells #[u] 24)) := (Below.refl _ _).alloc (Nat.le_refl _) _
  have hL := h.below hb0
  have hU := hu.below hb0
  refine ⟨by simp [h.len], h1, fun b hb => (h1.lt b hb).2, fun i y l' hy hl => ?_, fun i j y y' hij hy hy' b hb => ?_⟩
  · by_cases hi : i < vs.length
    · rw [List.getElem?_append_left hi] at hy
      rw [List.getElem?_append_left (by rw [← h.len]; exact hi)] at hl
      have q := hL.inner i y l' hy hl
      have q2 := q.1.kept hg (own_types q.1 hL.outer (by decide))
      exact ⟨q2, fun b hb => (q2.lt b hb).2⟩
    · have hil : i = vs.length := by
        have := (List.getElem?_eq_some_iff.1 hy).1
        simp at this; omega
      subst hil
      rw [List.getElem?_append_right (Nat.le_refl _)] at hy
      rw [h.len, List.getElem?_append_right (Nat.le_refl _)] at hl
      simp at hy hl
      subst hy; subst hl
      have q2 := hU.kept hg (own_types hU hL.outer (by decide))
      exact ⟨q2, fun b hb => (q2.lt b hb).2⟩
  · have hi : i < vs.length := by
      have := (List.getElem?_eq_some_iff.1 hy').1
      simp at this; omega
    rw [List.getElem?_append_left hi] at hy
    by_cases hj : j < vs.length
    · rw [List.getElem?_append_left hj] at hy'
      exact h.apart i j y y' hij hy hy' b hb
    · have hjl : j = vs.length := by
        have := (List.getElem?_eq_some_iff.1 hy').1
        simp at this; omega
      subst hjl
      rw [List.getElem?_append_right (Nat.le_refl _)] at hy'
      simp at hy'
      subst hy'
      intro e
      have h1 := hap b e
      have hil : i < ls.length := by rw [← h.len]; exact hi
      have := (h.inner i y _ hy (List.getElem?_eq_getElem hil)).2 b hb
      omega
set_option maxRecDepth 100000 in
/-- An append of one row to rows. -/
theorem wpList_appRow {w : World} {ops : Array Oper} {rest : List Oper} {o : Oper} {a : Act} {Q : Exit → Act → World → Prop} (hgd : o.guard = none) (s x : Operand) (ho : o.op = .call { callee := .builtin .append, args := #[s, x], argTypes := #[25, 25] }) (B N : Nat) {v : Value} {vs : List Value} {ls : List (List Int)} (hs : a.eval s = v)
    (hown : LL w B N v vs ls) {u : Value} {l : List Int} (hu : OwnI w B u l) (hap : ∀ k, u.ownBlock = some k → N ≤ k) {q : Nat} (hx : a.eval x = .slice (some ⟨q, 0, none⟩) 1 1) (hn : ls.length ≤ 1048576) (hB : B ≤ w.heap.size)
    (h : ∀ (A : Option Addr) (c : Nat) (w' : World), LL w' B w'.heap.size (.slice A (ls.length + 1) c) (vs ++ [u]) (ls ++ [l]) → Below B w w' → w.grownBy w' v.ownBlock → wpList Tryz.prog ops Q rest (a.put o.dst (.slice A (ls.length + 1) c)) w') (hq : q = w.heap.size := by first | rfl | simp) : wpList Tryz.prog ops Q (o :: rest) a (w.alloc (.cells #[u] 24)) := by
  subst hq
  obtain ⟨i0, hi, hz0, hz1, hz2⟩ := info_parts info_sl
  have hb0 : Below w.heap.size w (w.alloc (.cells #[u] 24)) := (Below.refl _ _).alloc (Nat.le_refl _) _
  have hO := (hown.below hb0).outer
  have h1u : ∀ y ∈ [u], y.oneCell' = true := by
    intro y hy
    simp at hy
    subst hy
    obtain ⟨A, c, rfl⟩ := own_slice hu
    rfl
  refine wpList_append_own_at (w := w.alloc (.cells #[u] 24)) hgd s x 25 ho B 24 i0 _ 1 24 Tryz.underlying25 hi hz0 hz1 hz2 rfl (by omega) v ls.length (vs.flatMap encV) hs (by have := hO; unfold Own at this; rw [hown.len] at this; exact this) ⟨w.heap.size, 0, none⟩ 1 1 [u] hx (by simp) (cell_one_new w u _) h1u (by unfold maxLen; omega) (by omega) (by simp; omega) ?_
  intro v' w' hown' hg _ hat
  obtain ⟨A, c, rfl⟩ := own_slice hown'
  have hbl : Below B (w.alloc (.cells #[u] 24)) w' := Below.grown (Below.refl _ _) hg (by simp; omega) fun k hk => (Own.lt hown.outer k hk).1
  refine h A c w' (hown.push hu hap ?_ hg) ((hb0.mono hB).trans hbl) (grown_trans (grown_of_below hb0 _) hg)
  unfold Own
  rw [List.length_append, List.flatMap_append, hown.len]
  simpa using hown'
set_option maxRecDepth 100000 in
theorem step_appRow {w : World} {ops : Array Oper} {o : Oper} {a : Act} {K : Act → World → Prop} {Q : Exit → Act → World → Prop} {E : Prop} (hgd : o.guard = none) (s x : Operand) (ho : o.op = .call { callee := .builtin .append, args := #[s, x], argTypes := #[25, 25] }) (B N : Nat) {v : Value} {vs : List Value} {ls : List (List Int)} (hs : a.eval s = v)
    (hown : LL w B N v vs ls) {u : Value} {l : List Int} (hu : OwnI w B u l) (hap : ∀ k, u.ownBlock = some k → N ≤ k) {q : Nat} (hx : a.eval x = .slice (some ⟨q, 0, none⟩) 1 1) (hn : ls.length ≤ 1048576) (hB : B ≤ w.heap.size)
    (h : ∀ (A : Option Addr) (c : Nat) (w' : World), LL w' B w'.heap.size (.slice A (ls.length + 1) c) (vs ++ [u]) (ls ++ [l]) → Below B w w' → w.grownBy w' v.ownBlock → K (a.put o.dst (.slice A (ls.length + 1) c)) w') (hq : q = w.heap.size := by first | rfl | simp) : if Region.wanted o (yielded ops a.tmps) = true then Oper.wp Tryz.prog o a (w.alloc (.cells #[u] 24)) K Q else E := by
  subst hq
  obtain ⟨i0, hi, hz0, hz1, hz2⟩ := info_parts info_sl
  have hb0 : Below w.heap.size w (w.alloc (.cells #[u] 24)) := (Below.refl _ _).alloc (Nat.le_refl _) _
  have hO := (hown.below hb0).outer
  have h1u : ∀ y ∈ [u], y.oneCell' = true := by
    intro y hy
    simp at hy
    subst hy
    obtain ⟨A, c, rfl⟩ := own_slice hu
    rfl
  refine step_append_lies _ hgd s x 25 ho B 24 i0 _ 1 24 Tryz.underlying25 hi hz0 hz1 hz2 rfl (by omega) v ls.length (vs.flatMap encV) hs (by have := hO; unfold Own at this; rw [hown.len] at this; exact this) ⟨w.heap.size, 0, none⟩ 1 1 [u] hx (by simp) (cell_one_new w u _) h1u (by omega) (by unfold maxLen; omega) (by omega) (by simp; omega) _ rfl ?_
  intro g cap w' hown' hg _ _
  have hbl : Below B (w.alloc (.cells #[u] 24)) w' := Below.grown (Below.refl _ _) hg (by simp; omega) fun k hk => (Own.lt hown.outer k hk).1
  refine h _ cap w' (hown.push hu hap ?_ hg) ((hb0.mono hB).trans hbl) (grown_trans (grown_of_below hb0 _) hg)
  unfold Own
  rw [List.length_append, List.flatMap_append, hown.len]
  simpa using hown'
/-- A model whose base lies in a row of its own. -/
structure MdO (w : World) (B N : Nat) (Az : Option Addr) (cz : Nat) (Aw : Option Addr) (cw : Nat) (Ab : Option Addr) (cb : Nat) (zs : List Int) (ws : List (List Int)) (bs : List Int) : Prop where
  z : OwnI w B (.slice Az zs.length cz) zs
  b : OwnI w B (.slice Ab bs.length cb) bs
  bN : ∀ k, (Value.slice Ab bs.length cb).ownBlock = some k → k < N
  zb : ∀ k, (Value.slice Az zs.length cz).ownBlock = some k → (Value.slice Ab bs.length cb).ownBlock ≠ some k
  g : ∃ vs N2, LL w N N2 (.slice Aw ws.length cw) vs ws
  o : B ≤ N
  zN : ∀ k, (Value.slice Az zs.length cz).ownBlock = some k → k < N
theorem own_cell {α : Type} {enc : α → List Value} {sz : Nat} {T T' : TypeId} {w : World} {B Q j : Nat} {v x : Value} {xs : List α} {cs : Array Value} {fr : Nat × Nat} (h : Own enc sz T w B v xs) (hq : w.heap[Q]? = some (.cells cs T' fr)) (hT : T ≠ T') : Own enc sz T (w.setCell ⟨Q, j, none⟩ x) B v xs := by
  exact h.kept (grown_set (grown_refl w (some Q)) j x) (own_neB h hq (fun q => hT q.symm))
section
variable {w w' : World} {B B' N : Nat} {Az : Option Addr} {cz : Nat} {Aw : Option Addr} {cw : Nat} {Ab : Option Addr} {cb : Nat} {zs : List Int} {ws : List (List Int)} {bs : List Int}
theorem MdO.md (h : MdO w B N Az cz Aw cw Ab cb zs ws bs) : MdAt w Az Aw Ab zs ws bs := by
  obtain ⟨vs, N2, hg⟩ := h.g
  exact ⟨h.z.at_ (fun _ => rfl), LL.at_ hg, h.b.at_ (fun _ => rfl)⟩
theorem MdO.below (h : MdO w B N Az cz Aw cw Ab cb zs ws bs) (hb : Below w.heap.size w w') : MdO w' B N Az cz Aw cw Ab cb zs ws bs := by
  obtain ⟨vs, N2, hg⟩ := h.g
  exact ⟨h.z.below hb, h.b.below hb, h.bN, h.zb, ⟨vs, N2, hg.below hb⟩, h.o, h.zN⟩
theorem MdO.mono (h : MdO w B N Az cz Aw cw Ab cb zs ws bs) (hB : B' ≤ B) : MdO w B' N Az cz Aw cw Ab cb zs ws bs :=
  ⟨h.z.mono hB, h.b.mono hB, h.bN, h.zb, h.g, Nat.le_trans hB h.o, h.zN⟩
/-- Writes to one block ahead of it. -/
theorem MdO.far {q : Nat} (h : MdO w B N Az cz Aw cw Ab cb zs ws bs) (hq : q < B) (hg : w.grownBy w' (some q)) : MdO w' B N Az cz Aw cw Ab cb zs ws bs := by
  obtain ⟨vs, N2, hl⟩ := h.g
  exact ⟨own_farN h.z hq hg, own_farN h.b hq hg, h.bN, h.zb, ⟨vs, N2, LL.older (v' := .slice (some ⟨q, 0, none⟩) 1 1) hl hg (fun k e => by simp [Value.ownBlock] at e; omega) h.o⟩, h.o, h.zN⟩
/-- A number of the base is written. -/
theorem MdO.set {gb k : Nat} (h : MdO w B N (Az) cz Aw cw (some ⟨gb, 0, none⟩) cb zs ws bs) (v : Int) : MdO (w.setCell ⟨gb, k, none⟩ (.int .i64 v)) B N Az cz Aw cw (some ⟨gb, 0, none⟩) cb zs ws (bs.set k v) := by
  obtain ⟨vs, N2, hl⟩ := h.g
  have hg := grown_set (grown_refl w (some gb)) k (.int .i64 v)
  have hgN := h.bN gb rfl
  refine ⟨h.z.kept hg ?_, ?_, ?_, ?_, ⟨vs, N2, LL.older (v' := .slice (some ⟨gb, 0, none⟩) 1 1) hl hg (fun k e => by simp [Value.ownBlock] at e; omega) (Nat.le_refl _)⟩, h.o, h.zN⟩
  · cases e : (Value.slice Az zs.length cz).ownBlock with
    | none => exact .inl rfl
    | some j => exact .inr fun q => by injection q with q; subst q; exact h.zb _ e rfl
  · have := own_set1 (f := fun x : Int => .int .i64 x) (fun _ => rfl) h.b (k := k) v
    rw [List.length_set]; exact this
  · rw [List.length_set]; exact h.bN
  · rw [List.length_set]; exact h.zb
end
/-- A model under way: the result's cell, the local in block Q. -/
structure Mo (w0 w : World) (Q N : Nat) (Az : Option Addr) (cz : Nat) (Aw : Option Addr) (cw : Nat) (Ab : Option Addr) (cb : Nat) (zs : List Int) (ws : List (List Int)) (bs : List Int) : Prop where
  r : w.heap[w0.heap.size]? = some (.cells #[.slice none 0 0, .slice none 0 0, .slice none 0 0] 27 (0, 0))
  q : w.heap[Q]? = some (.cells #[.slice Az zs.length cz, .slice Aw ws.length cw, .slice Ab bs.length cb] 27 (0, 0))
  m : MdO w (w0.heap.size + 1) N Az cz Aw cw Ab cb zs ws bs
  bel : Below w0.heap.size w0 w
  hQ : w0.heap.size < Q
  hN : Q < N
  hz : N ≤ w.heap.size
section
variable {w0 w w' : World} {Q N : Nat} {Az : Option Addr} {cz : Nat} {Aw : Option Addr} {cw : Nat} {Ab : Option Addr} {cb : Nat} {zs : List Int} {ws : List (List Int)} {bs : List Int}
theorem Mo.below (h : Mo w0 w Q N Az cz Aw cw Ab cb zs ws bs) (hb : Below w.heap.size w w') : Mo w0 w' Q N Az cz Aw cw Ab cb zs ws bs :=
  ⟨(hb.block _ (heap_lt h.r)).trans h.r, (hb.block _ (heap_lt h.q)).trans h.q, h.m.below hb, h.bel.trans (hb.mono h.bel.size), h.hQ, h.hN, Nat.le_trans h.hz hb.size⟩
theorem Mo.cells (h : Mo w0 w Q N Az cz Aw cw Ab cb zs ws bs) : w.cell? ⟨Q, 0, none⟩ = some (.slice Az zs.length cz) ∧ w.cell? ⟨Q, 1, none⟩ = some (.slice Aw ws.length cw) ∧ w.cell? ⟨Q, 2, none⟩ = some (.slice Ab bs.length cb) ∧ (∀ j, w.frozen? ⟨Q, j, none⟩ = false) := by
  have a := h.q
  exact ⟨by simp [World.cell?, a], by simp [World.cell?, a], by simp [World.cell?, a], fun j => by simp [World.frozen?, a]⟩
theorem Mo.rcells (h : Mo w0 w Q N Az cz Aw cw Ab cb zs ws bs) : w.cell? ⟨w0.heap.size, 0, none⟩ = some (.slice none 0 0) ∧ w.cell? ⟨w0.heap.size, 1, none⟩ = some (.slice none 0 0) ∧ w.cell? ⟨w0.heap.size, 2, none⟩ = some (.slice none 0 0) ∧ (∀ j, w.frozen? ⟨w0.heap.size, j, none⟩ = false) := by
  have a := h.r
  exact ⟨by simp [World.cell?, a], by simp [World.cell?, a], by simp [World.cell?, a], fun j => by simp [World.frozen?, a]⟩
/-- A row more. -/
theorem Mo.push {u : Value} {l : List Int} {vs : List Value} {Aw' : Option Addr} {cw' : Nat} (h : Mo w0 w Q N Az cz Aw cw Ab cb zs ws bs) (hb : Below N w w') (hl : LL w' N w'.heap.size (.slice Aw' (ws.length + 1) cw') (vs ++ [u]) (ws ++ [l])) :
    Mo w0 (w'.setCell ⟨Q, 1, none⟩ (.slice Aw' (ws.length + 1) cw')) Q N Az cz Aw' cw' Ab cb zs (ws ++ [l]) bs := by
  have hQ := h.hQ
  have hN := h.hN
  have hz := h.hz
  have h1 := (hb.block Q hN).trans h.q
  have h2 := (hb.block w0.heap.size (by omega)).trans h.r
  have hbQ : Below w0.heap.size w (w'.setCell ⟨Q, 1, none⟩ (.slice Aw' (ws.length + 1) cw')) := (hb.mono (by have := h.m.o; omega)).setCell (show w0.heap.size ≤ Q by omega) _
  have hgQ := grown_set (grown_refl w' (some Q)) 1 (.slice Aw' (ws.length + 1) cw')
  have hlen : (ws ++ [l]).length = ws.length + 1 := by simp
  refine ⟨(heap_other (by omega)).trans h2, ?_, ⟨?_, ?_, h.m.bN, h.m.zb, ⟨vs ++ [u], w'.heap.size, ?_⟩, h.m.o, h.m.zN⟩, h.bel.trans hbQ, hQ, hN, by simp; have := hb.size; omega⟩
  · rw [hlen]; exact heap_setD (j := 1) _ h1
  · exact own_cell (kept_out h.m.z h.m.zN hb) h1 (by decide)
  · exact own_cell (kept_out h.m.b h.m.bN hb) h1 (by decide)
  · rw [hlen]; exact LL.older (v' := .slice (some ⟨Q, 0, none⟩) 1 1) hl hgQ (fun k e => by simp [Value.ownBlock] at e; omega) (Nat.le_refl N)
theorem Mo.fin (h : Mo w0 w Q N Az cz Aw cw Ab cb zs ws bs) (a0 a1 a2 : Value) : MdO (((w.setCell ⟨w0.heap.size, 0, none⟩ a0).setCell ⟨w0.heap.size, 1, none⟩ a1).setCell ⟨w0.heap.size, 2, none⟩ a2) w0.heap.size N Az cz Aw cw Ab cb zs ws bs ∧ Below w0.heap.size w0 (((w.setCell ⟨w0.heap.size, 0, none⟩ a0).setCell ⟨w0.heap.size, 1, none⟩ a1).setCell ⟨w0.heap.size, 2, none⟩ a2) := by
  refine ⟨MdO.mono (B := w0.heap.size + 1) ?_ (by omega), ((h.bel.setCell (Nat.le_refl _) _).setCell (Nat.le_refl _) _).setCell (Nat.le_refl _) _⟩
  exact ((h.m.far (by omega) (grown_set (grown_refl w (some w0.heap.size)) 0 a0)).far (by omega) (grown_set (grown_refl _ (some w0.heap.size)) 1 a1)).far (by omega) (grown_set (grown_refl _ (some w0.heap.size)) 2 a2)
end
theorem LL.get {w : World} {B N c : Nat} {A : Option Addr} {vs : List Value} {ls : List (List Int)} (h : LL w B N (.slice A ls.length c) vs ls) {k : Nat} (hk : k < ls.length) : ∃ b o A' c', A = some ⟨b, o, none⟩ ∧ b < w.heap.size ∧ w.cell? ⟨b, o + k, none⟩ = some (.slice A' (wr_ ls k).length c') ∧ OwnI w B (.slice A' (wr_ ls k).length c') (wr_ ls k) := by
  have e : wr_ ls k = ls[k] := by unfold wr_; rw [List.getD_eq_getElem?_getD, List.getElem?_eq_getElem hk]; rfl
  have hv : k < vs.length := by rw [h.len]; exact hk
  have ho := h.outer
  rw [← h.len] at ho
  obtain ⟨b, off, e1, hlt, hc⟩ := Own.at_ (enc := encV) (sz := 1) (fun _ => rfl) ho k hv
  have hi := (h.inner k _ _ (List.getElem?_eq_getElem hv) (List.getElem?_eq_getElem hk)).1
  obtain ⟨A', c', hs⟩ := hi.slice
  rw [e]
  refine ⟨b, off, A', c', e1, hlt, ?_, ?_⟩
  · have := hc 0 _ rfl
    rw [hs] at this
    simpa using this
  · rw [← hs]; exact hi
theorem nil3_cells {w : World} {Q : Nat} (h : w.heap[Q]? = some (.cells #[.slice none 0 0, .slice none 0 0, .slice none 0 0] 27 (0, 0))) : w.cell? ⟨Q, 0, none⟩ = some (.slice none 0 0) ∧ w.cell? ⟨Q, 1, none⟩ = some (.slice none 0 0) ∧ w.cell? ⟨Q, 2, none⟩ = some (.slice none 0 0) ∧ w.frozen? ⟨Q, 0, none⟩ = false ∧ w.frozen? ⟨Q, 1, none⟩ = false ∧ w.frozen? ⟨Q, 2, none⟩ = false :=
  ⟨by simp [World.cell?, h], by simp [World.cell?, h], by simp [World.cell?, h], by simp [World.frozen?, h], by simp [World.frozen?, h], by simp [World.frozen?, h]⟩
theorem mo_new {w w6 : World} {Az Ab : Option Addr} {cz cb : Nat} {zs bs : List Int} (hr : w6.heap[w.heap.size]? = some (.cells #[.slice none 0 0, .slice none 0 0, .slice none 0 0] 27 (0, 0))) (hb : Below w.heap.size w w6) (hz : OwnI w6 (w.heap.size + 1) (.slice Az zs.length cz) zs) (hbs : OwnI w6 (w.heap.size + 1) (.slice Ab bs.length cb) bs) (hne : ∀ k, (Value.slice Az zs.length cz).ownBlock = some k → (Value.slice Ab bs.length cb).ownBlock ≠ some k) :
    Mo w (w6.alloc (.cells #[.slice Az zs.length cz, .slice none 0 0, .slice Ab bs.length cb] 27)) w6.heap.size (w6.heap.size + 1) Az cz none 0 Ab cb zs [] bs := by
  have ha : Below w6.heap.size w6 (w6.alloc (.cells #[.slice Az zs.length cz, .slice none 0 0, .slice Ab bs.length cb] 27)) := (Below.refl _ _).alloc (Nat.le_refl _) _
  have hl := heap_lt hr
  exact ⟨(ha.block _ hl).trans hr, heap_alloc_new w6 _, ⟨hz.below ha, hbs.below ha, fun k e => by have := (hbs.lt k e).2; omega, hne, ⟨[], _, LL.nil _ _⟩, by omega, fun k e => by have := (hz.lt k e).2; omega⟩, hb.trans (ha.mono hb.size), hl, by omega, by simp⟩
theorem mo_old {w w6 : World} {Q : Nat} {Az Ab : Option Addr} {cz cb : Nat} {zs bs : List Int} (hq : w6.heap[Q]? = some (.cells #[.slice none 0 0, .slice none 0 0, .slice none 0 0] 27 (0, 0))) (hQ : w.heap.size < Q) (hr : w6.heap[w.heap.size]? = some (.cells #[.slice none 0 0, .slice none 0 0, .slice none 0 0] 27 (0, 0))) (hb : Below w.heap.size w w6) (hz : OwnI w6 (w.heap.size + 1) (.slice Az zs.length cz) zs) (hbs : OwnI w6 (w.heap.size + 1) (.slice Ab bs.length cb) bs) (hne : ∀ k, (Value.slice Az zs.length cz).ownBlock = some k → (Value.slice Ab bs.length cb).ownBlock ≠ some k) :
    Mo w (((w6.setCell ⟨Q, 0, none⟩ (.slice Az zs.length cz)).setCell ⟨Q, 1, none⟩ (.slice none 0 0)).setCell ⟨Q, 2, none⟩ (.slice Ab bs.length cb)) Q w6.heap.size Az cz none 0 Ab cb zs [] bs := by
  have hl := heap_lt hr
  have hlq := heap_lt hq
  have q0 := heap_setD (j := 0) (.slice Az zs.length cz) hq
  have q1 := heap_setD (j := 1) (.slice none 0 0) q0
  have q2 := heap_setD (j := 2) (.slice Ab bs.length cb) q1
  refine ⟨(heap_other (by omega)).trans ((heap_other (by omega)).trans ((heap_other (by omega)).trans hr)), q2, ⟨?_, ?_, fun k e => by have := (hbs.lt k e).2; omega, hne, ⟨[], _, LL.nil _ _⟩, by omega, fun k e => by have := (hz.lt k e).2; omega⟩, ((hb.setCell (show w.heap.size ≤ Q by omega) _).setCell (show w.heap.size ≤ Q by omega) _).setCell (show w.heap.size ≤ Q by omega) _, hQ, by omega, by simp⟩
  · exact own_cell (own_cell (own_cell hz hq (by decide)) q0 (by decide)) q1 (by decide)
  · exact own_cell (own_cell (own_cell hbs hq (by decide)) q0 (by decide)) q1 (by decide)
theorem LL.fit {w : World} {B N : Nat} {v : Value} {vs : List Value} {ls : List (List Int)} (h : LL w B N v vs ls) : LL w B w.heap.size v vs ls :=
  ⟨h.len, h.outer, fun b e => (h.outer.lt b e).2, fun i u l a b => ⟨(h.inner i u l a b).1, fun c d => ((h.inner i u l a b).1.lt c d).2⟩, h.apart⟩
theorem take_wr {ws : List (List Int)} {k : Nat} (h : k < ws.length) : ws.take k ++ [wr_ ws k] = ws.take (k + 1) := by
  rw [List.take_succ_eq_append_getElem h]
  unfold wr_
  rw [List.getD_eq_getElem?_getD, List.getElem?_eq_getElem h]; rfl
theorem wr_mem {ws : List (List Int)} {k : Nat} (h : k < ws.length) : wr_ ws k ∈ ws := by
  have e : wr_ ws k = ws[k] := by unfold wr_; rw [List.getD_eq_getElem?_getD, List.getElem?_eq_getElem h]; rfl
  rw [e]; exact List.getElem_mem h
def OwnMdRes (zs : List Int) (ws : List (List Int)) (bs : List Int) (w : World) (e : Ending) (w' : World) : Prop :=
  ∃ (Az : Option Addr) (cz : Nat) (Aw : Option Addr) (cw : Nat) (Ab : Option Addr) (cb : Nat) (N : Nat), e = .returned (.agg #[.slice Az zs.length cz, .slice Aw ws.length cw, .slice Ab bs.length cb]) ∧ MdO w' w.heap.size N Az cz Aw cw Ab cb zs ws bs ∧ N ≤ w'.heap.size ∧ Below w.heap.size w w'
set_option maxRecDepth 100000 in
set_option maxHeartbeats 1000000 in
theorem specl08Own (bm B N : Nat) (Az : Option Addr) (cz : Nat) (Aw : Option Addr) (cw : Nat) (Ab : Option Addr) (cb : Nat) (zs : List Int) (ws : List (List Int)) (bs : List Int) (w : World) (hm : MpAt w bm Az cz Aw cw Ab cb zs ws bs) (ho : MdO w B N Az cz Aw cw Ab cb zs ws bs) (hz : zs.length ≤ 8) (hw : ws.length = 5) (HBL : Hid (bs.length = 5)) (HR : Hid (∀ l ∈ ws, l.length ≤ 8)) :
    Calls Tryz.prog 143 #[.pointer (some ⟨bm, 0, none⟩)] w (OwnMdRes zs ws bs w) := by
  obtain ⟨w1, hw1⟩ : ∃ w1, w1 = w.alloc (.cells #[.slice none 0 0, .slice none 0 0, .slice none 0 0] 27) := ⟨_, rfl⟩
  have hb1 : Below w.heap.size w w1 := by rw [hw1]; exact (by repeat (first | with_reducible exact Below.refl _ _ | with_reducible assumption | (with_reducible refine Below.drew ?_) | (with_reducible refine below_drewN ?_ _) | ((with_reducible refine Below.alloc ?_ ?_ _); rotate_left; (focus (first | omega | (simp; omega) | simp))) | ((with_reducible refine Below.setCell ?_ ?_ _); rotate_left; (focus (first | omega | (simp; omega) | simp))) | (refine Below.trans ?_ (Below.mono (by assumption) (by first | omega | (simp; omega) | simp)))))
  have s1 : w1.heap[w.heap.size]? = some (.cells #[.slice none 0 0, .slice none 0 0, .slice none 0 0] 27 (0, 0)) := by rw [hw1]; exact heap_alloc_new w _
  have HR1 := hide s1
  have HB1 := hide hb1
  have HWL := hide hw
  have HM0 := hide hm
  have HO0 := hide ho
  clear hb1 s1 hm ho hw
  go_enter Tryz.func143, Tryz.ntmps143
  go_upto_region 1 with fail
  rw [← hw1]
  clear hw1
  go_cut [3] (fun s3 wx => ∃ (Q N0 : Nat) (A1 : Option Addr) (c1 : Nat) (A2 : Option Addr) (c2 : Nat), s3 = .pointer (some ⟨Q, 0, none⟩) ∧ Hid (Mo w wx Q N0 A1 c1 none 0 A2 c2 zs [] bs))
  case first =>
    have P0 : ∀ W, Below w.heap.size w W → W.cell? ⟨bm, 0, none⟩ = some (.slice Az zs.length cz) := fun W hb => (HM0.out.below hb).c0
    have P2 : ∀ W, Below w.heap.size w W → W.cell? ⟨bm, 2, none⟩ = some (.slice Ab bs.length cb) := fun W hb => (HM0.out.below hb).c2
    have HCZ := hide (fun W (hb : Below w.heap.size w W) => specl00Own B Az cz zs W (HO0.out.below hb).z (by omega))
    have HCB := hide (fun W (hb : Below w.heap.size w W) => specl00Own B Ab cb bs W (HO0.out.below hb).b (by have := HBL.out; omega))
    refine wp_region_noPanic ?_
    refine wp_region_held_drew (S := (fun w' => Below w.heap.size w w' ∧ w'.heap[w.heap.size]? = some (.cells #[.slice none 0 0, .slice none 0 0, .slice none 0 0] 27 (0, 0)))) (by kernel_rfl) (⟨HB1.out.drew, HR1.out⟩) (fun hHeld => ?_)
    refine wpAnyH_take (i := 0) (oi := ?o0_1) (v := ?v0_1) ?hi0_1 ?hs0_1 ?hf0_1 ?hr0_1 (fun _ _ _ h => h) ?hy0_1 (by assumption) ?hh0_1
    case hi0_1 => ((simp only [List.getElem?_toArray, List.getElem?_cons_zero]); rfl)
    case hs0_1 => kernel_rfl
    case hf0_1 => kernel_rfl
    case hr0_1 => kernel_rfl
    case hy0_1 => exact Or.inl ⟨by rfl, by (intro wq hSw; (try dsimp only at hSw); go_simp; (try with_reducible rfl))⟩
    try simp only [Act.put, List.setIfInBounds_toArray, List.set_cons_zero, List.set_cons_succ]
    refine wpAnyH_take (i := 1) (oi := ?o1_2) (v := ?v1_2) ?hi1_2 ?hs1_2 ?hf1_2 ?hr1_2 (fun _ _ _ h => h) ?hy1_2 (by assumption) ?hh1_2
    case hi1_2 => ((simp only [List.getElem?_toArray, List.getElem?_cons_succ, List.getElem?_cons_zero]); rfl)
    case hs1_2 => kernel_rfl
    case hf1_2 => kernel_rfl
    case hr1_2 => kernel_rfl
    case hy1_2 => exact Or.inl ⟨by rfl, by (intro wq hSw; (try dsimp only at hSw); go_simp; (try with_reducible rfl))⟩
    try simp only [Act.put, List.setIfInBounds_toArray, List.set_cons_zero, List.set_cons_succ]
    refine wpAnyH_take (i := 2) (oi := ?o2_3) (v := ?v2_3) ?hi2_3 ?hs2_3 ?hf2_3 ?hr2_3 (fun _ _ _ h => h) ?hy2_3 (by assumption) ?hh2_3
    case hi2_3 => ((simp only [List.getElem?_toArray, List.getElem?_cons_succ, List.getElem?_cons_zero]); rfl)
    case hs2_3 => kernel_rfl
    case hf2_3 => kernel_rfl
    case hr2_3 => kernel_rfl
    case hy2_3 => exact Or.inl ⟨by rfl, by (intro wq hSw; (try dsimp only at hSw); go_simp; (try with_reducible rfl))⟩
    try simp only [Act.put, List.setIfInBounds_toArray, List.set_cons_zero, List.set_cons_succ]
    refine wpAnyH_take (i := 3) (oi := ?o3_4) (v := ?v3_4) ?hi3_4 ?hs3_4 ?hf3_4 ?hr3_4 (fun _ _ _ h => h) ?hy3_4 (by assumption) ?hh3_4
    case hi3_4 => ((simp only [List.getElem?_toArray, List.getElem?_cons_succ, List.getElem?_cons_zero]); rfl)
    case hs3_4 => kernel_rfl
    case hf3_4 => kernel_rfl
    case hr3_4 => kernel_rfl
    case hy3_4 => exact Or.inl ⟨by rfl, by (intro wq hSw; (try dsimp only at hSw); go_simp; (try with_reducible rfl))⟩
    try simp only [Act.put, List.setIfInBounds_toArray, List.set_cons_zero, List.set_cons_succ]
    refine wpAnyH_take (i := 5) (oi := ?o5_5) (v := ?v5_5) ?hi5_5 ?hs5_5 ?hf5_5 ?hr5_5 (fun _ _ _ h => h) ?hy5_5 (by assumption) ?hh5_5
    case hi5_5 => ((simp only [List.getElem?_toArray, List.getElem?_cons_succ, List.getElem?_cons_zero]); rfl)
    case hs5_5 => kernel_rfl
    case hf5_5 => kernel_rfl
    case hr5_5 => kernel_rfl
    case hy5_5 => exact Or.inl ⟨by rfl, by (intro wq hSw; (try dsimp only at hSw); go_simp; (try with_reducible rfl))⟩
    try simp only [Act.put, List.setIfInBounds_toArray, List.set_cons_zero, List.set_cons_succ]
    refine wpAnyH_take (i := 6) (oi := ?o6_6) (v := ?v6_6) ?hi6_6 ?hs6_6 ?hf6_6 ?hr6_6 (fun _ _ _ h => h) ?hy6_6 (by assumption) ?hh6_6
    case hi6_6 => ((simp only [List.getElem?_toArray, List.getElem?_cons_succ, List.getElem?_cons_zero]); rfl)
    case hs6_6 => kernel_rfl
    case hf6_6 => kernel_rfl
    case hr6_6 => kernel_rfl
    case hy6_6 => exact Or.inl ⟨by rfl, by (intro wq hSw; (try dsimp only at hSw); go_simp; (try with_reducible rfl))⟩
    try simp only [Act.put, List.setIfInBounds_toArray, List.set_cons_zero, List.set_cons_succ]
    refine wpAnyH_take (i := 7) (oi := ?o7_7) (v := ?v7_7) ?hi7_7 ?hs7_7 ?hf7_7 ?hr7_7 (fun _ _ _ h => h) ?hy7_7 (by assumption) ?hh7_7
    case hi7_7 => ((simp only [List.getElem?_toArray, List.getElem?_cons_succ, List.getElem?_cons_zero]); rfl)
    case hs7_7 => kernel_rfl
    case hf7_7 => kernel_rfl
    case hr7_7 => kernel_rfl
    case hy7_7 => exact Or.inl ⟨by rfl, by (intro wq hSw; (try dsimp only at hSw); go_simp; (try with_reducible rfl))⟩
    try simp only [Act.put, List.setIfInBounds_toArray, List.set_cons_zero, List.set_cons_succ]
    refine wpAnyH_take (i := 8) (oi := ?o8_8) (v := ?v8_8) ?hi8_8 ?hs8_8 ?hf8_8 ?hr8_8 (fun _ _ _ h => h) ?hy8_8 (by assumption) ?hh8_8
    case hi8_8 => ((simp only [List.getElem?_toArray, List.getElem?_cons_succ, List.getElem?_cons_zero]); rfl)
    case hs8_8 => kernel_rfl
    case hf8_8 => kernel_rfl
    case hr8_8 => kernel_rfl
    case hy8_8 => exact Or.inl ⟨by rfl, by (intro wq hSw; (try dsimp only at hSw); go_simp; (try with_reducible rfl))⟩
    try simp only [Act.put, List.setIfInBounds_toArray, List.set_cons_zero, List.set_cons_succ]
    refine wpAnyH_ready (rs := [4, 11]) (by kernel_rfl) (by simp) ?_
    refine AllReadyH.cons (o := ?o4_9) ?hi4_9 (fun K hK => ?hh4_9) (AllReadyH.cons (o := ?o11_10) ?hi11_10 (fun K hK => ?hh11_10) AllReadyH.nil)
    case hi4_9 => ((simp only [List.getElem?_toArray, List.getElem?_cons_succ, List.getElem?_cons_zero]); rfl)
    case hi11_10 => ((simp only [List.getElem?_toArray, List.getElem?_cons_succ, List.getElem?_cons_zero]); rfl)
    go_simp
    (go_at_call 137; refine (HCZ.out _ hHeld.1).mono ?_; rintro e w5 ⟨A1, c1, rfl, ho1, hb5⟩; have HB5 := hide (show Below w.heap.size w w5 ∧ w5.heap[w.heap.size]? = some (.cells #[.slice none 0 0, .slice none 0 0, .slice none 0 0] 27 (0, 0)) from ⟨hHeld.1.trans (hb5.mono hHeld.1.size), (hb5.block _ (heap_lt hHeld.2)).trans hHeld.2⟩); have HO5 := hide (Own.mono ho1 (heap_lt hHeld.2)); (try have HQ := hide ((hb5.block _ (heap_lt HQ.out)).trans HQ.out)); clear ho1 hb5)
    (try dsimp only)
    refine hK.out _ _ (HB5.out) (fun hHeld2 => ?_)
    clear hK K hHeld
    have hHeld := hHeld2
    clear hHeld2
    try simp only [Act.put, List.setIfInBounds_toArray, List.set_cons_zero, List.set_cons_succ]
    refine wpAnyH_ready (rs := [9, 11]) (by kernel_rfl) (by simp) ?_
    refine AllReadyH.cons (o := ?o9_11) ?hi9_11 (fun K hK => ?hh9_11) (AllReadyH.cons (o := ?o11_12) ?hi11_12 (fun K hK => ?hh11_12) AllReadyH.nil)
    case hi9_11 => ((simp only [List.getElem?_toArray, List.getElem?_cons_succ, List.getElem?_cons_zero]); rfl)
    case hi11_12 => ((simp only [List.getElem?_toArray, List.getElem?_cons_succ, List.getElem?_cons_zero]); rfl)
    go_simp
    (go_at_call 137; refine (HCB.out _ hHeld.1).mono ?_; rintro e w6 ⟨A2, c2, rfl, ho2, hb6⟩; have HB6 := hide (show Below w.heap.size w w6 ∧ w6.heap[w.heap.size]? = some (.cells #[.slice none 0 0, .slice none 0 0, .slice none 0 0] 27 (0, 0)) from ⟨hHeld.1.trans (hb6.mono hHeld.1.size), (hb6.block _ (heap_lt hHeld.2)).trans hHeld.2⟩); have HO6 := hide (Own.below HO5.out hb6); have HNE := hide (show ∀ k, (Value.slice A1 zs.length c1).ownBlock = some k → (Value.slice A2 bs.length c2).ownBlock ≠ some k from fun k e e2 => by have := (HO5.out.lt k e).2; have := (ho2.lt k e2).1; omega); have HO7 := hide (Own.mono ho2 (heap_lt hHeld.2)); (try have HQ := hide ((hb6.block _ (heap_lt HQ.out)).trans HQ.out)); (try (have hq6 := nil3_cells (w := w6) HQ.out; obtain ⟨q0, q1, q2, f0, f1, f2⟩ := hq6)); clear ho2 hb6)
    (try dsimp only)
    refine hK.out _ _ (HB6.out) (fun hHeld2 => ?_)
    clear hK K hHeld
    have hHeld := hHeld2
    clear hHeld2
    try simp only [Act.put, List.setIfInBounds_toArray, List.set_cons_zero, List.set_cons_succ]
    refine wpAnyH_take (i := 10) (oi := ?o10_13) (v := ?v10_13) ?hi10_13 ?hs10_13 ?hf10_13 ?hr10_13 (fun _ _ _ h => h) ?hy10_13 (by assumption) ?hh10_13
    case hi10_13 => ((simp only [List.getElem?_toArray, List.getElem?_cons_succ, List.getElem?_cons_zero]); rfl)
    case hs10_13 => kernel_rfl
    case hf10_13 => kernel_rfl
    case hr10_13 => kernel_rfl
    case hy10_13 => exact Or.inl ⟨by rfl, by (intro wq hSw; (try dsimp only at hSw); go_simp; (try with_reducible rfl))⟩
    try simp only [Act.put, List.setIfInBounds_toArray, List.set_cons_zero, List.set_cons_succ]
    refine wpAnyH_ready (rs := [11]) (by kernel_rfl) (by simp) ?_
    refine AllReadyH.cons (o := ?o11_14) ?hi11_14 (fun K hK => ?hh11_14) AllReadyH.nil
    case hi11_14 => ((simp only [List.getElem?_toArray, List.getElem?_cons_succ, List.getElem?_cons_zero]); rfl)
    go_simp
    (try have HO5 := hide (HO5.out.below ((Below.refl _ _).alloc (Nat.le_refl _) (.cells #[.slice none 0 0, .slice none 0 0, .slice none 0 0] 27)))); (first | have HQ := hide (heap_alloc_new w6 (.cells #[.slice none 0 0, .slice none 0 0, .slice none 0 0] 27)) | have HQ := hide (heap_alloc_new w5 (.cells #[.slice none 0 0, .slice none 0 0, .slice none 0 0] 27)) | have HQ := hide (show (w1.drew.alloc (.cells #[.slice none 0 0, .slice none 0 0, .slice none 0 0] 27)).heap[w1.heap.size]? = _ from heap_alloc_new w1.drew (.cells #[.slice none 0 0, .slice none 0 0, .slice none 0 0] 27)))
    (try dsimp only)
    refine hK.out _ _ (⟨hHeld.1.alloc hHeld.1.size (.cells #[.slice none 0 0, .slice none 0 0, .slice none 0 0] 27), (((Below.refl _ _).alloc (Nat.le_refl _) (.cells #[.slice none 0 0, .slice none 0 0, .slice none 0 0] 27)).block _ (heap_lt hHeld.2)).trans hHeld.2⟩) (fun hHeld2 => ?_)
    clear hK K hHeld
    have hHeld := hHeld2
    clear hHeld2
    try simp only [Act.put, List.setIfInBounds_toArray, List.set_cons_zero, List.set_cons_succ]
    refine wpAnyH_ready (rs := [12]) (by kernel_rfl) (by simp) ?_
    refine AllReadyH.cons (o := ?o12_15) ?hi12_15 (fun K hK => ?hh12_15) AllReadyH.nil
    case hi12_15 => ((simp only [List.getElem?_toArray, List.getElem?_cons_succ, List.getElem?_cons_zero]); rfl)
    go_simp
    (first | have HMo := hide (mo_old HQ.out (by have := (heap_lt HR1.out); have := HB5.out.1.size; have := heap_lt HB5.out.2; simp; omega) HB6.out.2 HB6.out.1 HO6.out HO7.out HNE.out) | have HMo := hide (mo_new HB6.out.2 HB6.out.1 HO6.out HO7.out HNE.out))
    (try dsimp only)
    refine hK.out _ _ (⟨HMo.out.bel, HMo.out.r⟩) (fun hHeld2 => ?_)
    clear hK K hHeld
    have hHeld := hHeld2
    clear hHeld2
    try simp only [Act.put, List.setIfInBounds_toArray, List.set_cons_zero, List.set_cons_succ]
    refine wpAnyH_done (by kernel_rfl) ?_ _
    refine NoPanic.normal ?_
    rotate_left
    go_simp
    (try have HO5 := hide (HO5.out.below ((Below.refl _ _).alloc (Nat.le_refl _) (.cells #[.slice none 0 0, .slice none 0 0, .slice none 0 0] 27)))); (first | have HQ := hide (heap_alloc_new w6 (.cells #[.slice none 0 0, .slice none 0 0, .slice none 0 0] 27)) | have HQ := hide (heap_alloc_new w5 (.cells #[.slice none 0 0, .slice none 0 0, .slice none 0 0] 27)) | have HQ := hide (show (w1.drew.alloc (.cells #[.slice none 0 0, .slice none 0 0, .slice none 0 0] 27)).heap[w1.heap.size]? = _ from heap_alloc_new w1.drew (.cells #[.slice none 0 0, .slice none 0 0, .slice none 0 0] 27)))
    (try dsimp only)
    refine hK.out _ _ (⟨hHeld.1.alloc hHeld.1.size (.cells #[.slice none 0 0, .slice none 0 0, .slice none 0 0] 27), (((Below.refl _ _).alloc (Nat.le_refl _) (.cells #[.slice none 0 0, .slice none 0 0, .slice none 0 0] 27)).block _ (heap_lt hHeld.2)).trans hHeld.2⟩) (fun hHeld2 => ?_)
    clear hK K hHeld
    have hHeld := hHeld2
    clear hHeld2
    try simp only [Act.put, List.setIfInBounds_toArray, List.set_cons_zero, List.set_cons_succ]
    refine wpAnyH_ready (rs := [9]) (by kernel_rfl) (by simp) ?_
    refine AllReadyH.cons (o := ?o9_16) ?hi9_16 (fun K hK => ?hh9_16) AllReadyH.nil
    case hi9_16 => ((simp only [List.getElem?_toArray, List.getElem?_cons_succ, List.getElem?_cons_zero]); rfl)
    go_simp
    (go_at_call 137; refine (HCB.out _ hHeld.1).mono ?_; rintro e w6 ⟨A2, c2, rfl, ho2, hb6⟩; have HB6 := hide (show Below w.heap.size w w6 ∧ w6.heap[w.heap.size]? = some (.cells #[.slice none 0 0, .slice none 0 0, .slice none 0 0] 27 (0, 0)) from ⟨hHeld.1.trans (hb6.mono hHeld.1.size), (hb6.block _ (heap_lt hHeld.2)).trans hHeld.2⟩); have HO6 := hide (Own.below HO5.out hb6); have HNE := hide (show ∀ k, (Value.slice A1 zs.length c1).ownBlock = some k → (Value.slice A2 bs.length c2).ownBlock ≠ some k from fun k e e2 => by have := (HO5.out.lt k e).2; have := (ho2.lt k e2).1; omega); have HO7 := hide (Own.mono ho2 (heap_lt hHeld.2)); (try have HQ := hide ((hb6.block _ (heap_lt HQ.out)).trans HQ.out)); (try (have hq6 := nil3_cells (w := w6) HQ.out; obtain ⟨q0, q1, q2, f0, f1, f2⟩ := hq6)); clear ho2 hb6)
    (try dsimp only)
    refine hK.out _ _ (HB6.out) (fun hHeld2 => ?_)
    clear hK K hHeld
    have hHeld := hHeld2
    clear hHeld2
    try simp only [Act.put, List.setIfInBounds_toArray, List.set_cons_zero, List.set_cons_succ]
    refine wpAnyH_take (i := 10) (oi := ?o10_17) (v := ?v10_17) ?hi10_17 ?hs10_17 ?hf10_17 ?hr10_17 (fun _ _ _ h => h) ?hy10_17 (by assumption) ?hh10_17
    case hi10_17 => ((simp only [List.getElem?_toArray, List.getElem?_cons_succ, List.getElem?_cons_zero]); rfl)
    case hs10_17 => kernel_rfl
    case hf10_17 => kernel_rfl
    case hr10_17 => kernel_rfl
    case hy10_17 => exact Or.inl ⟨by rfl, by (intro wq hSw; (try dsimp only at hSw); go_simp; (try with_reducible rfl))⟩
    try simp only [Act.put, List.setIfInBounds_toArray, List.set_cons_zero, List.set_cons_succ]
    refine wpAnyH_ready (rs := [12]) (by kernel_rfl) (by simp) ?_
    refine AllReadyH.cons (o := ?o12_18) ?hi12_18 (fun K hK => ?hh12_18) AllReadyH.nil
    case hi12_18 => ((simp only [List.getElem?_toArray, List.getElem?_cons_succ, List.getElem?_cons_zero]); rfl)
    go_simp
    (first | have HMo := hide (mo_old HQ.out (by have := (heap_lt HR1.out); have := HB5.out.1.size; have := heap_lt HB5.out.2; simp; omega) HB6.out.2 HB6.out.1 HO6.out HO7.out HNE.out) | have HMo := hide (mo_new HB6.out.2 HB6.out.1 HO6.out HO7.out HNE.out))
    (try dsimp only)
    refine hK.out _ _ (⟨HMo.out.bel, HMo.out.r⟩) (fun hHeld2 => ?_)
    clear hK K hHeld
    have hHeld := hHeld2
    clear hHeld2
    try simp only [Act.put, List.setIfInBounds_toArray, List.set_cons_zero, List.set_cons_succ]
    refine wpAnyH_done (by kernel_rfl) ?_ _
    refine NoPanic.normal ?_
    rotate_left
    go_simp
    (try have HO5 := hide (HO5.out.below ((Below.refl _ _).alloc (Nat.le_refl _) (.cells #[.slice none 0 0, .slice none 0 0, .slice none 0 0] 27)))); (first | have HQ := hide (heap_alloc_new w6 (.cells #[.slice none 0 0, .slice none 0 0, .slice none 0 0] 27)) | have HQ := hide (heap_alloc_new w5 (.cells #[.slice none 0 0, .slice none 0 0, .slice none 0 0] 27)) | have HQ := hide (show (w1.drew.alloc (.cells #[.slice none 0 0, .slice none 0 0, .slice none 0 0] 27)).heap[w1.heap.size]? = _ from heap_alloc_new w1.drew (.cells #[.slice none 0 0, .slice none 0 0, .slice none 0 0] 27)))
    (try dsimp only)
    refine hK.out _ _ (⟨hHeld.1.alloc hHeld.1.size (.cells #[.slice none 0 0, .slice none 0 0, .slice none 0 0] 27), (((Below.refl _ _).alloc (Nat.le_refl _) (.cells #[.slice none 0 0, .slice none 0 0, .slice none 0 0] 27)).block _ (heap_lt hHeld.2)).trans hHeld.2⟩) (fun hHeld2 => ?_)
    clear hK K hHeld
    have hHeld := hHeld2
    clear hHeld2
    try simp only [Act.put, List.setIfInBounds_toArray, List.set_cons_zero, List.set_cons_succ]
    refine wpAnyH_ready (rs := [4]) (by kernel_rfl) (by simp) ?_
    refine AllReadyH.cons (o := ?o4_19) ?hi4_19 (fun K hK => ?hh4_19) AllReadyH.nil
    case hi4_19 => ((simp only [List.getElem?_toArray, List.getElem?_cons_succ, List.getElem?_cons_zero]); rfl)
    go_simp
    (go_at_call 137; refine (HCZ.out _ hHeld.1).mono ?_; rintro e w5 ⟨A1, c1, rfl, ho1, hb5⟩; have HB5 := hide (show Below w.heap.size w w5 ∧ w5.heap[w.heap.size]? = some (.cells #[.slice none 0 0, .slice none 0 0, .slice none 0 0] 27 (0, 0)) from ⟨hHeld.1.trans (hb5.mono hHeld.1.size), (hb5.block _ (heap_lt hHeld.2)).trans hHeld.2⟩); have HO5 := hide (Own.mono ho1 (heap_lt hHeld.2)); (try have HQ := hide ((hb5.block _ (heap_lt HQ.out)).trans HQ.out)); clear ho1 hb5)
    (try dsimp only)
    refine hK.out _ _ (HB5.out) (fun hHeld2 => ?_)
    clear hK K hHeld
    have hHeld := hHeld2
    clear hHeld2
    try simp only [Act.put, List.setIfInBounds_toArray, List.set_cons_zero, List.set_cons_succ]
    refine wpAnyH_ready (rs := [9]) (by kernel_rfl) (by simp) ?_
    refine AllReadyH.cons (o := ?o9_20) ?hi9_20 (fun K hK => ?hh9_20) AllReadyH.nil
    case hi9_20 => ((simp only [List.getElem?_toArray, List.getElem?_cons_succ, List.getElem?_cons_zero]); rfl)
    go_simp
    (go_at_call 137; refine (HCB.out _ hHeld.1).mono ?_; rintro e w6 ⟨A2, c2, rfl, ho2, hb6⟩; have HB6 := hide (show Below w.heap.size w w6 ∧ w6.heap[w.heap.size]? = some (.cells #[.slice none 0 0, .slice none 0 0, .slice none 0 0] 27 (0, 0)) from ⟨hHeld.1.trans (hb6.mono hHeld.1.size), (hb6.block _ (heap_lt hHeld.2)).trans hHeld.2⟩); have HO6 := hide (Own.below HO5.out hb6); have HNE := hide (show ∀ k, (Value.slice A1 zs.length c1).ownBlock = some k → (Value.slice A2 bs.length c2).ownBlock ≠ some k from fun k e e2 => by have := (HO5.out.lt k e).2; have := (ho2.lt k e2).1; omega); have HO7 := hide (Own.mono ho2 (heap_lt hHeld.2)); (try have HQ := hide ((hb6.block _ (heap_lt HQ.out)).trans HQ.out)); (try (have hq6 := nil3_cells (w := w6) HQ.out; obtain ⟨q0, q1, q2, f0, f1, f2⟩ := hq6)); clear ho2 hb6)
    (try dsimp only)
    refine hK.out _ _ (HB6.out) (fun hHeld2 => ?_)
    clear hK K hHeld
    have hHeld := hHeld2
    clear hHeld2
    try simp only [Act.put, List.setIfInBounds_toArray, List.set_cons_zero, List.set_cons_succ]
    refine wpAnyH_take (i := 10) (oi := ?o10_21) (v := ?v10_21) ?hi10_21 ?hs10_21 ?hf10_21 ?hr10_21 (fun _ _ _ h => h) ?hy10_21 (by assumption) ?hh10_21
    case hi10_21 => ((simp only [List.getElem?_toArray, List.getElem?_cons_succ, List.getElem?_cons_zero]); rfl)
    case hs10_21 => kernel_rfl
    case hf10_21 => kernel_rfl
    case hr10_21 => kernel_rfl
    case hy10_21 => exact Or.inl ⟨by rfl, by (intro wq hSw; (try dsimp only at hSw); go_simp; (try with_reducible rfl))⟩
    try simp only [Act.put, List.setIfInBounds_toArray, List.set_cons_zero, List.set_cons_succ]
    refine wpAnyH_ready (rs := [12]) (by kernel_rfl) (by simp) ?_
    refine AllReadyH.cons (o := ?o12_22) ?hi12_22 (fun K hK => ?hh12_22) AllReadyH.nil
    case hi12_22 => ((simp only [List.getElem?_toArray, List.getElem?_cons_succ, List.getElem?_cons_zero]); rfl)
    go_simp
    (first | have HMo := hide (mo_old HQ.out (by have := (heap_lt HR1.out); have := HB5.out.1.size; have := heap_lt HB5.out.2; simp; omega) HB6.out.2 HB6.out.1 HO6.out HO7.out HNE.out) | have HMo := hide (mo_new HB6.out.2 HB6.out.1 HO6.out HO7.out HNE.out))
    (try dsimp only)
    refine hK.out _ _ (⟨HMo.out.bel, HMo.out.r⟩) (fun hHeld2 => ?_)
    clear hK K hHeld
    have hHeld := hHeld2
    clear hHeld2
    try simp only [Act.put, List.setIfInBounds_toArray, List.set_cons_zero, List.set_cons_succ]
    refine wpAnyH_done (by kernel_rfl) ?_ _
    refine NoPanic.normal ?_
    rotate_left
    all_goals
      go_wp2_with fail
      go_meet
      exact ⟨_, _, _, _, _, _, rfl, HMo⟩
  case rest =>
    obtain ⟨Q, N0, A1, e1, A2, e2, rfl, HMo⟩ := hcut
    clear HR1
    go_wp2_with fail
    go_loopw [4] (fun v wr => ∃ (k : Nat) (A : Option Addr) (c : Nat) (ls : List (List Int)), v = .int .i64 k ∧ k ≤ 5 ∧ ls.length = k ∧ Hid (ls = ws.take k) ∧ Hid (Mo w wr Q N0 A1 e1 A c A2 e2 zs ls bs)) (fun v _ => 5 - (intOf v).toNat)
    case atStart => exact ⟨0, _, _, [], rfl, by omega, rfl, hide (by simp), HMo⟩
    case round =>
      clear HMo
      obtain ⟨k, A, c, ls, rfl, hk, hl, HLS, HM⟩ := hrel
      have HLL := hide hl
      have b0 := HM.out.bel
      have p1 := (HM0.out.below b0).c1
      rw [HWL.out] at p1
      have pl : bm < wr.heap.size := Nat.lt_of_lt_of_le HM0.out.lt b0.size
      by_cases hlt : k < 5
      · have hki : (k : Int) < 5 := by omega
        have hk0 : (0 : Int) ≤ k := by omega
        obtain ⟨vs0, N2, hg0⟩ := HO0.out.g
        obtain ⟨b, o, Ar, cr, rfl, hb, hck, hro⟩ := LL.get hg0 (k := k) (by rw [HWL.out]; exact hlt)
        have HRL := hide (HR.out _ (wr_mem (k := k) (by rw [HWL.out]; exact hlt)))
        have HN2 := hide (show ls ++ [wr_ ws k] = ws.take (k + 1) from by rw [HLS.out]; exact take_wr (by rw [HWL.out]; exact hlt))
        clear hg0 hl
        have P1 : ∀ W, Below w.heap.size w W → W.cell? ⟨bm, 1, none⟩ = some (.slice (some ⟨b, o, none⟩) 5 cw) := fun W hb => by
          have := (HM0.out.below hb).c1
          rw [HWL.out] at this
          exact this
        have P3 : ∀ W, Below w.heap.size w W → W.cell? ⟨b, o + k, none⟩ = some (.slice Ar (wr_ ws k).length cr) := fun W h => (h.cell (p := ⟨b, o + k, none⟩) hb).trans hck
        have HCW := hide (fun W (hb : Below w.heap.size w W) => specl00Own N Ar cr (wr_ ws k) W (Own.below hro hb) (by have := HRL.out; omega))
        clear hro hck
        obtain ⟨vs, N3, hlv⟩ := HM.out.m.g
        have hdr : Below wr.heap.size wr wr.drew := (Below.refl wr.heap.size wr).drew
        have HG := hide (LL.below (LL.fit hlv) hdr)
        have HMD := hide (HM.out.below hdr)
        obtain ⟨_, c1, _, cf⟩ := HM.out.cells
        have f1 := cf 1
        have hql := heap_lt HM.out.q
        clear cf hlv hdr N3
        generalize wr_ ws k = row at *
        go_wp2_with fail
        refine wp_region_noPanic ?_
        refine wp_region_held_drew (S := (fun w' => Below w.heap.size w w')) (by kernel_rfl) (b0.drew) (fun hHeld => ?_)
        refine wpAnyH_take (i := 0) (oi := ?o0_23) (v := ?v0_23) ?hi0_23 ?hs0_23 ?hf0_23 ?hr0_23 (fun _ _ _ h => h) ?hy0_23 (by assumption) ?hh0_23
        case hi0_23 => ((simp only [List.getElem?_toArray, List.getElem?_cons_zero]); rfl)
        case hs0_23 => kernel_rfl
        case hf0_23 => kernel_rfl
        case hr0_23 => kernel_rfl
        case hy0_23 => exact Or.inl ⟨by rfl, by (intro wq hSw; (try dsimp only at hSw); go_simp; (try with_reducible rfl))⟩
        try simp only [Act.put, List.setIfInBounds_toArray, List.set_cons_zero, List.set_cons_succ]
        refine wpAnyH_take (i := 2) (oi := ?o2_24) (v := ?v2_24) ?hi2_24 ?hs2_24 ?hf2_24 ?hr2_24 (fun _ _ _ h => h) ?hy2_24 (by assumption) ?hh2_24
        case hi2_24 => ((simp only [List.getElem?_toArray, List.getElem?_cons_succ, List.getElem?_cons_zero]); rfl)
        case hs2_24 => kernel_rfl
        case hf2_24 => kernel_rfl
        case hr2_24 => kernel_rfl
        case hy2_24 => exact Or.inl ⟨by rfl, by (intro wq hSw; (try dsimp only at hSw); go_simp; (try with_reducible rfl))⟩
        try simp only [Act.put, List.setIfInBounds_toArray, List.set_cons_zero, List.set_cons_succ]
        refine wpAnyH_take (i := 3) (oi := ?o3_25) (v := ?v3_25) ?hi3_25 ?hs3_25 ?hf3_25 ?hr3_25 (fun _ _ _ h => h) ?hy3_25 (by assumption) ?hh3_25
        case hi3_25 => ((simp only [List.getElem?_toArray, List.getElem?_cons_succ, List.getElem?_cons_zero]); rfl)
        case hs3_25 => kernel_rfl
        case hf3_25 => kernel_rfl
        case hr3_25 => kernel_rfl
        case hy3_25 => exact Or.inl ⟨by rfl, by (intro wq hSw; (try dsimp only at hSw); go_simp; (try with_reducible rfl))⟩
        try simp only [Act.put, List.setIfInBounds_toArray, List.set_cons_zero, List.set_cons_succ]
        refine wpAnyH_take (i := 4) (oi := ?o4_26) (v := ?v4_26) ?hi4_26 ?hs4_26 ?hf4_26 ?hr4_26 (fun _ _ _ h => h) ?hy4_26 (by assumption) ?hh4_26
        case hi4_26 => ((simp only [List.getElem?_toArray, List.getElem?_cons_succ, List.getElem?_cons_zero]); rfl)
        case hs4_26 => kernel_rfl
        case hf4_26 => kernel_rfl
        case hr4_26 => kernel_rfl
        case hy4_26 => exact Or.inl ⟨by rfl, by (intro wq hSw; (try dsimp only at hSw); go_simp; (try with_reducible rfl))⟩
        try simp only [Act.put, List.setIfInBounds_toArray, List.set_cons_zero, List.set_cons_succ]
        refine wpAnyH_take (i := 5) (oi := ?o5_27) (v := ?v5_27) ?hi5_27 ?hs5_27 ?hf5_27 ?hr5_27 (fun _ _ _ h => h) ?hy5_27 (by assumption) ?hh5_27
        case hi5_27 => ((simp only [List.getElem?_toArray, List.getElem?_cons_succ, List.getElem?_cons_zero]); rfl)
        case hs5_27 => kernel_rfl
        case hf5_27 => kernel_rfl
        case hr5_27 => kernel_rfl
        case hy5_27 => exact Or.inl ⟨by rfl, by (intro wq hSw; (try dsimp only at hSw); go_simp; (try with_reducible rfl))⟩
        try simp only [Act.put, List.setIfInBounds_toArray, List.set_cons_zero, List.set_cons_succ]
        refine wpAnyH_take (i := 6) (oi := ?o6_28) (v := ?v6_28) ?hi6_28 ?hs6_28 ?hf6_28 ?hr6_28 (fun _ _ _ h => h) ?hy6_28 (by assumption) ?hh6_28
        case hi6_28 => ((simp only [List.getElem?_toArray, List.getElem?_cons_succ, List.getElem?_cons_zero]); rfl)
        case hs6_28 => kernel_rfl
        case hf6_28 => kernel_rfl
        case hr6_28 => kernel_rfl
        case hy6_28 => exact Or.inl ⟨by rfl, by (intro wq hSw; (try dsimp only at hSw); go_simp; (try with_reducible rfl))⟩
        try simp only [Act.put, List.setIfInBounds_toArray, List.set_cons_zero, List.set_cons_succ]
        refine wpAnyH_take (i := 7) (oi := ?o7_29) (v := ?v7_29) ?hi7_29 ?hs7_29 ?hf7_29 ?hr7_29 (fun _ _ _ h => h) ?hy7_29 (by assumption) ?hh7_29
        case hi7_29 => ((simp only [List.getElem?_toArray, List.getElem?_cons_succ, List.getElem?_cons_zero]); rfl)
        case hs7_29 => kernel_rfl
        case hf7_29 => kernel_rfl
        case hr7_29 => kernel_rfl
        case hy7_29 => exact Or.inl ⟨by rfl, by (intro wq hSw; (try dsimp only at hSw); go_simp; (try with_reducible rfl))⟩
        try simp only [Act.put, List.setIfInBounds_toArray, List.set_cons_zero, List.set_cons_succ]
        refine wpAnyH_take (i := 8) (oi := ?o8_30) (v := ?v8_30) ?hi8_30 ?hs8_30 ?hf8_30 ?hr8_30 (fun _ _ _ h => h) ?hy8_30 (by assumption) ?hh8_30
        case hi8_30 => ((simp only [List.getElem?_toArray, List.getElem?_cons_succ, List.getElem?_cons_zero]); rfl)
        case hs8_30 => kernel_rfl
        case hf8_30 => kernel_rfl
        case hr8_30 => kernel_rfl
        case hy8_30 => exact Or.inl ⟨by rfl, by (intro wq hSw; (try dsimp only at hSw); go_simp; (try with_reducible rfl))⟩
        try simp only [Act.put, List.setIfInBounds_toArray, List.set_cons_zero, List.set_cons_succ]
        refine wpAnyH_ready (rs := [1, 9]) (by kernel_rfl) (by simp) ?_
        refine AllReadyH.cons (o := ?o1_31) ?hi1_31 (fun K hK => ?hh1_31) (AllReadyH.cons (o := ?o9_32) ?hi9_32 (fun K hK => ?hh9_32) AllReadyH.nil)
        case hi1_31 => ((simp only [List.getElem?_toArray, List.getElem?_cons_succ, List.getElem?_cons_zero]); rfl)
        case hi9_32 => ((simp only [List.getElem?_toArray, List.getElem?_cons_succ, List.getElem?_cons_zero]); rfl)
        go_simp
        refine hK.out _ _ (hHeld) (fun hHeld2 => ?_)
        clear hK K hHeld
        have hHeld := hHeld2
        clear hHeld2
        try simp only [Act.put, List.setIfInBounds_toArray, List.set_cons_zero, List.set_cons_succ]
        refine wpAnyH_ready (rs := [9]) (by kernel_rfl) (by simp) ?_
        refine AllReadyH.cons (o := ?o9_33) ?hi9_33 (fun K hK => ?hh9_33) AllReadyH.nil
        case hi9_33 => ((simp only [List.getElem?_toArray, List.getElem?_cons_succ, List.getElem?_cons_zero]); rfl)
        go_simp
        (go_at_call 137; refine (HCW.out _ hHeld).mono ?_; rintro e w5 ⟨A5, c5, rfl, ho5, hb5⟩; have HB5 := hide (show Below w.heap.size w w5 from hHeld.trans (hb5.mono hHeld.size)); have HM5 := hide (HMD.out.below hb5); have HG5 := hide (HG.out.below hb5); have cA := HM5.out.cells.2.1; have fA := HM5.out.cells.2.2.2 1; have hqA := heap_lt HM5.out.q; have HAP := hide (show ∀ j, (Value.slice A5 row.length c5).ownBlock = some j → wr.heap.size ≤ j from fun j e => (ho5.lt j e).1); have HO5 := hide (Own.mono ho5 HMD.out.hz); clear ho5 hb5)
        (try dsimp only)
        refine hK.out _ _ (HB5.out) (fun hHeld2 => ?_)
        clear hK K hHeld
        have hHeld := hHeld2
        clear hHeld2
        try simp only [Act.put, List.setIfInBounds_toArray, List.set_cons_zero, List.set_cons_succ]
        refine wpAnyH_ready (rs := [10]) (by kernel_rfl) (by simp) ?_
        refine AllReadyH.cons (o := ?o10_34) ?hi10_34 (fun K hK => ?hh10_34) AllReadyH.nil
        case hi10_34 => ((simp only [List.getElem?_toArray, List.getElem?_cons_succ, List.getElem?_cons_zero]); rfl)
        go_simp
        refine hK.out _ _ (HB5.out.alloc HB5.out.size _) (fun hHeld2 => ?_)
        clear hK K hHeld
        have hHeld := hHeld2
        clear hHeld2
        try simp only [Act.put, List.setIfInBounds_toArray, List.set_cons_zero, List.set_cons_succ]
        refine wpAnyH_ready (rs := [11]) (by kernel_rfl) (by simp) ?_
        refine AllReadyH.cons (o := ?o11_35) ?hi11_35 (fun K hK => ?hh11_35) AllReadyH.nil
        case hi11_35 => ((simp only [List.getElem?_toArray, List.getElem?_cons_succ, List.getElem?_cons_zero]); rfl)
        refine step_appRow (by rfl) _ _ (by rfl) N0 wr.heap.size (by rfl) HG5.out HO5.out HAP.out (by rfl) (by have := HLL.out; omega) (by have := HM5.out.hz; omega) ?_; intro A6 c6 w6 hl6 hb6 hg6; have HP := hide (Mo.push HM5.out hb6 hl6); have HB6 := hide (show Below w.heap.size w w6 from HB5.out.trans (hb6.mono (by have := HM5.out.hQ; have := HM5.out.hN; omega))); have cB := (hb6.cell (p := ⟨Q, 1, none⟩) HM5.out.hN).trans cA; have fB := (hb6.frozen (p := ⟨Q, 1, none⟩) HM5.out.hN).trans fA; clear hl6 hb6 hg6
        refine hK.out _ _ (HB6.out) (fun hHeld2 => ?_)
        clear hK K hHeld
        have hHeld := hHeld2
        clear hHeld2
        try simp only [Act.put, List.setIfInBounds_toArray, List.set_cons_zero, List.set_cons_succ]
        refine wpAnyH_take (i := 12) (oi := ?o12_36) (v := ?v12_36) ?hi12_36 ?hs12_36 ?hf12_36 ?hr12_36 (fun _ _ _ h => h) ?hy12_36 (by assumption) ?hh12_36
        case hi12_36 => ((simp only [List.getElem?_toArray, List.getElem?_cons_succ, List.getElem?_cons_zero]); rfl)
        case hs12_36 => kernel_rfl
        case hf12_36 => kernel_rfl
        case hr12_36 => kernel_rfl
        case hy12_36 => exact Or.inl ⟨by rfl, by (intro wq hSw; (try dsimp only at hSw); go_simp; (try with_reducible rfl))⟩
        try simp only [Act.put, List.setIfInBounds_toArray, List.set_cons_zero, List.set_cons_succ]
        refine wpAnyH_ready (rs := [13]) (by kernel_rfl) (by simp) ?_
        refine AllReadyH.cons (o := ?o13_37) ?hi13_37 (fun K hK => ?hh13_37) AllReadyH.nil
        case hi13_37 => ((simp only [List.getElem?_toArray, List.getElem?_cons_succ, List.getElem?_cons_zero]); rfl)
        go_simp
        refine hK.out _ _ (HP.out.bel) (fun hHeld2 => ?_)
        clear hK K hHeld
        have hHeld := hHeld2
        clear hHeld2
        try simp only [Act.put, List.setIfInBounds_toArray, List.set_cons_zero, List.set_cons_succ]
        refine wpAnyH_done (by kernel_rfl) ?_ _
        refine NoPanic.normal ?_
        rotate_left
        go_simp
        (go_at_call 137; refine (HCW.out _ hHeld).mono ?_; rintro e w5 ⟨A5, c5, rfl, ho5, hb5⟩; have HB5 := hide (show Below w.heap.size w w5 from hHeld.trans (hb5.mono hHeld.size)); have HM5 := hide (HMD.out.below hb5); have HG5 := hide (HG.out.below hb5); have cA := HM5.out.cells.2.1; have fA := HM5.out.cells.2.2.2 1; have hqA := heap_lt HM5.out.q; have HAP := hide (show ∀ j, (Value.slice A5 row.length c5).ownBlock = some j → wr.heap.size ≤ j from fun j e => (ho5.lt j e).1); have HO5 := hide (Own.mono ho5 HMD.out.hz); clear ho5 hb5)
        (try dsimp only)
        refine hK.out _ _ (HB5.out) (fun hHeld2 => ?_)
        clear hK K hHeld
        have hHeld := hHeld2
        clear hHeld2
        try simp only [Act.put, List.setIfInBounds_toArray, List.set_cons_zero, List.set_cons_succ]
        refine wpAnyH_ready (rs := [1, 10]) (by kernel_rfl) (by simp) ?_
        refine AllReadyH.cons (o := ?o1_38) ?hi1_38 (fun K hK => ?hh1_38) (AllReadyH.cons (o := ?o10_39) ?hi10_39 (fun K hK => ?hh10_39) AllReadyH.nil)
        case hi1_38 => ((simp only [List.getElem?_toArray, List.getElem?_cons_succ, List.getElem?_cons_zero]); rfl)
        case hi10_39 => ((simp only [List.getElem?_toArray, List.getElem?_cons_succ, List.getElem?_cons_zero]); rfl)
        go_simp
        refine hK.out _ _ (hHeld) (fun hHeld2 => ?_)
        clear hK K hHeld
        have hHeld := hHeld2
        clear hHeld2
        try simp only [Act.put, List.setIfInBounds_toArray, List.set_cons_zero, List.set_cons_succ]
        refine wpAnyH_ready (rs := [10]) (by kernel_rfl) (by simp) ?_
        refine AllReadyH.cons (o := ?o10_40) ?hi10_40 (fun K hK => ?hh10_40) AllReadyH.nil
        case hi10_40 => ((simp only [List.getElem?_toArray, List.getElem?_cons_succ, List.getElem?_cons_zero]); rfl)
        go_simp
        refine hK.out _ _ (HB5.out.alloc HB5.out.size _) (fun hHeld2 => ?_)
        clear hK K hHeld
        have hHeld := hHeld2
        clear hHeld2
        try simp only [Act.put, List.setIfInBounds_toArray, List.set_cons_zero, List.set_cons_succ]
        refine wpAnyH_ready (rs := [11]) (by kernel_rfl) (by simp) ?_
        refine AllReadyH.cons (o := ?o11_41) ?hi11_41 (fun K hK => ?hh11_41) AllReadyH.nil
        case hi11_41 => ((simp only [List.getElem?_toArray, List.getElem?_cons_succ, List.getElem?_cons_zero]); rfl)
        refine step_appRow (by rfl) _ _ (by rfl) N0 wr.heap.size (by rfl) HG5.out HO5.out HAP.out (by rfl) (by have := HLL.out; omega) (by have := HM5.out.hz; omega) ?_; intro A6 c6 w6 hl6 hb6 hg6; have HP := hide (Mo.push HM5.out hb6 hl6); have HB6 := hide (show Below w.heap.size w w6 from HB5.out.trans (hb6.mono (by have := HM5.out.hQ; have := HM5.out.hN; omega))); have cB := (hb6.cell (p := ⟨Q, 1, none⟩) HM5.out.hN).trans cA; have fB := (hb6.frozen (p := ⟨Q, 1, none⟩) HM5.out.hN).trans fA; clear hl6 hb6 hg6
        refine hK.out _ _ (HB6.out) (fun hHeld2 => ?_)
        clear hK K hHeld
        have hHeld := hHeld2
        clear hHeld2
        try simp only [Act.put, List.setIfInBounds_toArray, List.set_cons_zero, List.set_cons_succ]
        refine wpAnyH_take (i := 12) (oi := ?o12_42) (v := ?v12_42) ?hi12_42 ?hs12_42 ?hf12_42 ?hr12_42 (fun _ _ _ h => h) ?hy12_42 (by assumption) ?hh12_42
        case hi12_42 => ((simp only [List.getElem?_toArray, List.getElem?_cons_succ, List.getElem?_cons_zero]); rfl)
        case hs12_42 => kernel_rfl
        case hf12_42 => kernel_rfl
        case hr12_42 => kernel_rfl
        case hy12_42 => exact Or.inl ⟨by rfl, by (intro wq hSw; (try dsimp only at hSw); go_simp; (try with_reducible rfl))⟩
        try simp only [Act.put, List.setIfInBounds_toArray, List.set_cons_zero, List.set_cons_succ]
        refine wpAnyH_ready (rs := [13]) (by kernel_rfl) (by simp) ?_
        refine AllReadyH.cons (o := ?o13_43) ?hi13_43 (fun K hK => ?hh13_43) AllReadyH.nil
        case hi13_43 => ((simp only [List.getElem?_toArray, List.getElem?_cons_succ, List.getElem?_cons_zero]); rfl)
        go_simp
        refine hK.out _ _ (HP.out.bel) (fun hHeld2 => ?_)
        clear hK K hHeld
        have hHeld := hHeld2
        clear hHeld2
        try simp only [Act.put, List.setIfInBounds_toArray, List.set_cons_zero, List.set_cons_succ]
        refine wpAnyH_done (by kernel_rfl) ?_ _
        refine NoPanic.normal ?_
        rotate_left
        go_simp
        refine hK.out _ _ (HB5.out.alloc HB5.out.size _) (fun hHeld2 => ?_)
        clear hK K hHeld
        have hHeld := hHeld2
        clear hHeld2
        try simp only [Act.put, List.setIfInBounds_toArray, List.set_cons_zero, List.set_cons_succ]
        refine wpAnyH_ready (rs := [1]) (by kernel_rfl) (by simp) ?_
        refine AllReadyH.cons (o := ?o1_44) ?hi1_44 (fun K hK => ?hh1_44) AllReadyH.nil
        case hi1_44 => ((simp only [List.getElem?_toArray, List.getElem?_cons_succ, List.getElem?_cons_zero]); rfl)
        go_simp
        refine hK.out _ _ (hHeld) (fun hHeld2 => ?_)
        clear hK K hHeld
        have hHeld := hHeld2
        clear hHeld2
        try simp only [Act.put, List.setIfInBounds_toArray, List.set_cons_zero, List.set_cons_succ]
        refine wpAnyH_ready (rs := [11]) (by kernel_rfl) (by simp) ?_
        refine AllReadyH.cons (o := ?o11_45) ?hi11_45 (fun K hK => ?hh11_45) AllReadyH.nil
        case hi11_45 => ((simp only [List.getElem?_toArray, List.getElem?_cons_succ, List.getElem?_cons_zero]); rfl)
        refine step_appRow (by rfl) _ _ (by rfl) N0 wr.heap.size (by rfl) HG5.out HO5.out HAP.out (by rfl) (by have := HLL.out; omega) (by have := HM5.out.hz; omega) ?_; intro A6 c6 w6 hl6 hb6 hg6; have HP := hide (Mo.push HM5.out hb6 hl6); have HB6 := hide (show Below w.heap.size w w6 from HB5.out.trans (hb6.mono (by have := HM5.out.hQ; have := HM5.out.hN; omega))); have cB := (hb6.cell (p := ⟨Q, 1, none⟩) HM5.out.hN).trans cA; have fB := (hb6.frozen (p := ⟨Q, 1, none⟩) HM5.out.hN).trans fA; clear hl6 hb6 hg6
        refine hK.out _ _ (HB6.out) (fun hHeld2 => ?_)
        clear hK K hHeld
        have hHeld := hHeld2
        clear hHeld2
        try simp only [Act.put, List.setIfInBounds_toArray, List.set_cons_zero, List.set_cons_succ]
        refine wpAnyH_take (i := 12) (oi := ?o12_46) (v := ?v12_46) ?hi12_46 ?hs12_46 ?hf12_46 ?hr12_46 (fun _ _ _ h => h) ?hy12_46 (by assumption) ?hh12_46
        case hi12_46 => ((simp only [List.getElem?_toArray, List.getElem?_cons_succ, List.getElem?_cons_zero]); rfl)
        case hs12_46 => kernel_rfl
        case hf12_46 => kernel_rfl
        case hr12_46 => kernel_rfl
        case hy12_46 => exact Or.inl ⟨by rfl, by (intro wq hSw; (try dsimp only at hSw); go_simp; (try with_reducible rfl))⟩
        try simp only [Act.put, List.setIfInBounds_toArray, List.set_cons_zero, List.set_cons_succ]
        refine wpAnyH_ready (rs := [13]) (by kernel_rfl) (by simp) ?_
        refine AllReadyH.cons (o := ?o13_47) ?hi13_47 (fun K hK => ?hh13_47) AllReadyH.nil
        case hi13_47 => ((simp only [List.getElem?_toArray, List.getElem?_cons_succ, List.getElem?_cons_zero]); rfl)
        go_simp
        refine hK.out _ _ (HP.out.bel) (fun hHeld2 => ?_)
        clear hK K hHeld
        have hHeld := hHeld2
        clear hHeld2
        try simp only [Act.put, List.setIfInBounds_toArray, List.set_cons_zero, List.set_cons_succ]
        refine wpAnyH_done (by kernel_rfl) ?_ _
        refine NoPanic.normal ?_
        rotate_left
        all_goals
          go_wp2_with fail
          go_roundw
          case rel => exact ⟨k + 1, A6, c6, ls ++ [row], by go_num, by omega, by simp [HLL.out], HN2, HP⟩
          case measure => simp [intOf]; omega
      · obtain rfl : k = 5 := by omega
        have he : ls = ws := by rw [HLS.out, ← HWL.out, List.take_length]
        subst he
        obtain ⟨c0, c1, c2, _⟩ := HM.out.cells
        obtain ⟨r0, r1, r2, rf⟩ := HM.out.rcells
        have rf0 := rf 0
        have rf1 := rf 1
        have rf2 := rf 2
        have HF := hide (fun a0 a1 a2 => HM.out.fin a0 a1 a2)
        have HZ := hide HM.out.hz
        rw [HWL.out] at c1
        clear rf hl
        go_wp2_with fail
        refine bodyPost_ret (v := .agg #[.slice A1 zs.length e1, .slice A ls.length c, .slice A2 bs.length e2]) (by simp [results, Tryz.results143, go_sem, r0, r1, r2, HWL.out]) rfl ⟨_, _, _, _, _, _, N0, rfl, (HF.out _ _ _).1, by simpa using HZ.out, (HF.out _ _ _).2⟩
end Go.Proofs.YtnefgafmnpblpaaGreat
