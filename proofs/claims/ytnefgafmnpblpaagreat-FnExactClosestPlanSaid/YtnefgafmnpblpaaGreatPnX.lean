/- The reference's search for plans: the state of its struct, what each store does to it, and its partials. -/
import Derived.Test.YtnefgafmnpblpaaGreatPnI2
namespace Go.Proofs.YtnefgafmnpblpaaGreat
open Go.RowKit Pn

set_option maxRecDepth 100000 in
/-- An append of one number, and where the row then lies. -/
theorem wpList_appI_at {w : World} {ops : Array Oper} {rest : List Oper} {o : Oper} {a : Act} {Q : Exit → Act → World → Prop} (hgd : o.guard = none) (s x : Operand) (ho : o.op = .call { callee := .builtin .append, args := #[s, x], argTypes := #[24, 24] }) (B : Nat) {v : Value} {xs : List Int} (hs : a.eval s = v)
    (hown : OwnI w B v xs) {y : Int} {q : Nat} (hx : a.eval x = .slice (some ⟨q, 0, none⟩) 1 1) (hn : xs.length ≤ 1048576) (hB : B ≤ w.heap.size)
    (h : ∀ (A : Option Addr) (c : Nat) (w' : World), OwnI w' B (.slice A (xs.length + 1) c) (xs ++ [y]) → Below B w w' → w.grownBy w' v.ownBlock → ((Value.slice A (xs.length + 1) c).ownBlock = v.ownBlock ∨ ∃ g, (Value.slice A (xs.length + 1) c).ownBlock = some g ∧ w.heap.size ≤ g) → wpList Tryz.prog ops Q rest (a.put o.dst (.slice A (xs.length + 1) c)) w') (hq : q = w.heap.size := by first | rfl | simp) : wpList Tryz.prog ops Q (o :: rest) a (w.alloc (.cells #[.int .i64 y] 2)) := by
  subst hq
  obtain ⟨i0, hi, hz0, hz1, hz2⟩ := info_parts info_i64
  have hb0 : Below w.heap.size w (w.alloc (.cells #[.int .i64 y] 2)) := (Below.refl _ _).alloc (Nat.le_refl _) _
  refine wpList_append_own_at (w := w.alloc (.cells #[.int .i64 y] 2)) hgd s x 24 ho B 2 i0 _ 1 8 Tryz.underlying24 hi hz0 hz1 hz2 rfl (by omega) v xs.length (xs.flatMap encI) hs (hown.below hb0) ⟨w.heap.size, 0, none⟩ 1 1 [.int .i64 y] hx (by simp) ?_ (encI_one y) (by unfold maxLen; omega) (by omega) (by simp; omega) ?_
  · intro j u hj
    match j, hj with
    | 0, hj => injection hj with hj; subst hj; simp [Addr.add]
  · intro v' w' hown' hg _ hat
    obtain ⟨A, c, rfl⟩ := own_slice hown'
    have hbl : Below B (w.alloc (.cells #[.int .i64 y] 2)) w' := Below.grown (Below.refl _ _) hg (by simp; omega) fun k hk => (Own.lt hown k hk).1
    refine h A c w' ?_ ((hb0.mono hB).trans hbl) (grown_trans (grown_of_below hb0 _) hg) ?_
    · unfold OwnI Own
      rw [List.length_append, List.flatMap_append]
      simpa using hown'
    · rcases hat with e | e
      · exact .inl e
      · exact .inr ⟨_, e, by simp⟩
theorem own_farN {α : Type} {enc : α → List Value} {sz : Nat} {T : TypeId} {w w' : World} {q N : Nat} {v : Value} {xs : List α} (h : Own enc sz T w N v xs) (hq : q < N) (hg : w.grownBy w' (some q)) : Own enc sz T w' N v xs := by
  refine h.kept hg ?_
  cases e : v.ownBlock with
  | none => exact .inl rfl
  | some g => exact .inr fun k => by injection k with k; have := (h.lt g e).1; omega
/-- What a search of the reference is about: where its arguments lie. -/
structure RefOK (x : Cx) (w0 : World) (bm bp bg : Nat) : Prop where
  ok : x.OK w0
  m : MpAt w0 bm x.Az x.cz x.Aw x.cw x.Ab x.cb x.zs x.ws x.bs
  p : ProfAt w0 bp x.nm x.A x.c x.rs
  g : GoalAt w0 bg 0 [x.t0, x.t1, x.t2, x.t3, x.t4] x.tol x.most
theorem RefOK.below {x : Cx} {w0 w : World} {bm bp bg : Nat} (h : RefOK x w0 bm bp bg) (hb : Below w0.heap.size w0 w) : RefOK x w bm bp bg := ⟨h.ok.below hb, h.m.below hb, h.p.below hb, h.g.below hb⟩
abbrev xCellsB (bm bp bg : Nat) (A : Option Addr) (n c : Nat) (sA : Option Addr) (sn sc : Nat) (sum : Int) (all clo : Bool) (bA : Option Addr) (bn bc : Nat) (bud : Int) (s : S) : Array Value :=
  #[.pointer (some ⟨bm, 0, none⟩), .pointer (some ⟨bp, 0, none⟩), .pointer (some ⟨bg, 0, none⟩), .slice A n c, .slice sA sn sc, .int .i64 (-1), .int .i64 sum, .bool all, .bool clo, .slice bA bn bc, .int .i64 s.least, .int .i64 s.count, .int .i64 (bud - s.left), .int .i64 bud, .bool s.spent]
/-- The searching struct in block q, its limits below block N, its steps and its best from there on. -/
structure Xs (x : Cx) (w0 : World) (q N bm bp bg : Nat) (lA : Option Addr) (lc : Nat) (all clo : Bool) (bud : Int) (w : World) (l : List Int) (sm : Int) (sA : Option Addr) (sc : Nat) (s : S) : Prop where
  st : ∃ (bA : Option Addr) (bc : Nat) (bs : List Int), w.heap[q]? = some (.cells (xCellsB bm bp bg lA x.zs.length lc sA l.length sc sm all clo bA bs.length bc bud s) 121 (0, 0)) ∧ OwnI w N (.slice bA bs.length bc) bs ∧ (all = false → bs = s.found) ∧ ∀ g, (Value.slice bA bs.length bc).ownBlock = some g → (Value.slice sA l.length sc).ownBlock ≠ some g
  lim : OwnI w (q + 1) (.slice lA x.zs.length lc) x.lim
  limN : ∀ g, (Value.slice lA x.zs.length lc).ownBlock = some g → g < N
  row : OwnI w N (.slice sA l.length sc) l
  inv : Inv x.lim s
  bel : Below w0.heap.size w0 w
  hq : w0.heap.size ≤ q
  hN : q < N
  hNw : N ≤ w.heap.size
  bd : s.left ≤ bud ∧ bud ≤ 20000
section
variable {x : Cx} {w0 : World} {q N bm bp bg : Nat} {lA : Option Addr} {lc : Nat} {all clo : Bool} {bud : Int} {w w' : World} {l : List Int} {sm : Int} {sA : Option Addr} {sc : Nat} {s : S}
theorem Xs.lt (h : Xs x w0 q N bm bp bg lA lc all clo bud w l sm sA sc s) : q < w.heap.size := by have := h.hN; have := h.hNw; omega
theorem Xs.below (h : Xs x w0 q N bm bp bg lA lc all clo bud w l sm sA sc s) (hb : Below w.heap.size w w') : Xs x w0 q N bm bp bg lA lc all clo bud w' l sm sA sc s := by
  obtain ⟨bA, bc, bs, h1, h2, h3, h4⟩ := h.st
  exact ⟨⟨bA, bc, bs, (hb.block q h.lt).trans h1, h2.below hb, h3, h4⟩, h.lim.below hb, h.limN, h.row.below hb, h.inv, h.bel.trans (hb.mono h.bel.size), h.hq, h.hN, Nat.le_trans h.hNw hb.size, h.bd⟩
/-- A cell is written. -/
theorem Xs.put (h : Xs x w0 q N bm bp bg lA lc all clo bud w l sm sA sc s) {j : Nat} {v : Value} {sm' : Int} {s' : S} (hst : ∀ bA bn bc, (xCellsB bm bp bg lA x.zs.length lc sA l.length sc sm all clo bA bn bc bud s).setIfInBounds j v = xCellsB bm bp bg lA x.zs.length lc sA l.length sc sm' all clo bA bn bc bud s') (hf : all = false → s'.found = s.found) (hi : Inv x.lim s') (hb : s'.left ≤ bud) :
    Xs x w0 q N bm bp bg lA lc all clo bud (w.setCell ⟨q, j, none⟩ v) l sm' sA sc s' := by
  obtain ⟨bA, bc, bs, h1, h2, h3, h4⟩ := h.st
  have hg := grown_set (grown_refl w (some q)) j v
  exact ⟨⟨bA, bc, bs, (heap_set' v h1).trans (by rw [hst]), own_farN h2 h.hN hg, fun e => by rw [h3 e, hf e], h4⟩, own_far' h.lim hg, h.limN, own_farN h.row h.hN hg, hi, h.bel.setCell h.hq _, h.hq, h.hN, by simpa using h.hNw, ⟨hb, h.bd.2⟩⟩
theorem Xs.node (h : Xs x w0 q N bm bp bg lA lc all clo bud w l sm sA sc s) (h0 : s.left ≠ 0) {nd : Int} (hn : nd = bud - s.left + 1) : Xs x w0 q N bm bp bg lA lc all clo bud (w.setCell ⟨q, 12, none⟩ (.int .i64 nd)) l sm sA sc { s with left := s.left - 1 } :=
  h.put (s' := { s with left := s.left - 1 }) (fun _ _ _ => by
    have e : bud - (s.left - 1) = nd := by omega
    simp [e]) (fun _ => rfl) (h.inv.node h0).1 (by have := h.bd; simp only; omega)
theorem Xs.over (h : Xs x w0 q N bm bp bg lA lc all clo bud w l sm sA sc s) : Xs x w0 q N bm bp bg lA lc all clo bud (w.setCell ⟨q, 14, none⟩ (.bool true)) l sm sA sc { s with spent := true } :=
  h.put (s' := { s with spent := true }) (fun _ _ _ => rfl) (fun _ => rfl) ⟨h.inv.l0, h.inv.c0, h.inv.sum, h.inv.fnd, h.inv.le⟩ h.bd.1
theorem Xs.sum (h : Xs x w0 q N bm bp bg lA lc all clo bud w l sm sA sc s) (v : Int) : Xs x w0 q N bm bp bg lA lc all clo bud (w.setCell ⟨q, 6, none⟩ (.int .i64 v)) l v sA sc s :=
  h.put (s' := s) (fun _ _ _ => rfl) (fun _ => rfl) h.inv h.bd.1
theorem Xs.leastTo (h : Xs x w0 q N bm bp bg lA lc all clo bud w l sm sA sc s) (v : Int) (h0 : 0 ≤ v) (h1 : v ≤ 4000000000000000000) : Xs x w0 q N bm bp bg lA lc all clo bud (w.setCell ⟨q, 10, none⟩ (.int .i64 v)) l sm sA sc { s with least := v } :=
  h.put (s' := { s with least := v }) (fun _ _ _ => rfl) (fun _ => rfl) ⟨h.inv.l0, h.inv.c0, h.inv.sum, h.inv.fnd, by simp only; omega⟩ h.bd.1
theorem Xs.more (h : Xs x w0 q N bm bp bg lA lc all clo bud w l sm sA sc s) (hc : s.count + s.left + 1 ≤ 20000) : Xs x w0 q N bm bp bg lA lc all clo bud (w.setCell ⟨q, 11, none⟩ (.int .i64 (s.count + 1))) l sm sA sc { s with count := s.count + 1 } :=
  h.put (s' := { s with count := s.count + 1 }) (fun _ _ _ => rfl) (fun _ => rfl) ⟨h.inv.l0, by have := h.inv.c0; simp only; omega, by simp only; omega, h.inv.fnd, h.inv.le⟩ h.bd.1
/-- In a search that counts all, what is found is not kept. -/
theorem Xs.fnd_all (h : Xs x w0 q N bm bp bg lA lc true clo bud w l sm sA sc s) {f : List Int} (hf : f = [] ∨ (Pre x.lim f ∧ f.length = x.lim.length)) : Xs x w0 q N bm bp bg lA lc true clo bud w l sm sA sc { s with found := f } := by
  obtain ⟨bA, bc, bs, h1, h2, h3, h4⟩ := h.st
  exact ⟨⟨bA, bc, bs, h1, h2, (fun e => nomatch e), h4⟩, h.lim, h.limN, h.row, ⟨h.inv.l0, h.inv.c0, h.inv.sum, hf, h.inv.le⟩, h.bel, h.hq, h.hN, h.hNw, h.bd⟩
/-- A copy of the steps is kept. -/
theorem Xs.find {A : Option Addr} {c : Nat} (h : Xs x w0 q N bm bp bg lA lc all clo bud w l sm sA sc s) (ho : OwnI w' w.heap.size (.slice A l.length c) l) (hb : Below w.heap.size w w') (hp : Pre x.lim l) (hl : l.length = x.lim.length) :
    Xs x w0 q N bm bp bg lA lc all clo bud (w'.setCell ⟨q, 9, none⟩ (.slice A l.length c)) l sm sA sc { s with found := l } := by
  have h' := h.below hb
  obtain ⟨bA, bc, bs, h1, h2, h3, h4⟩ := h'.st
  have hg := grown_set (grown_refl w' (some q)) 9 (.slice A l.length c)
  have hnw := h.hNw
  refine ⟨⟨A, c, l, heap_set' _ h1, own_farN (ho.mono hnw) h.hN hg, fun _ => rfl, fun g e k => ?_⟩, own_far' h'.lim hg, h.limN, own_farN h'.row h.hN hg, ⟨h.inv.l0, h.inv.c0, h.inv.sum, .inr ⟨hp, hl⟩, h.inv.le⟩, h'.bel.setCell h.hq _, h.hq, h.hN, by simpa using h'.hNw, h.bd⟩
  have a := (ho.lt g e).1
  have b := (h.row.lt g k).2
  omega
/-- One step more. -/
theorem Xs.push {A : Option Addr} {c : Nat} {n : Int} (h : Xs x w0 q N bm bp bg lA lc all clo bud w l sm sA sc s) (ho : OwnI w' N (.slice A (l.length + 1) c) (l ++ [n])) (hb : Below N w w') (hg : w.grownBy w' (Value.slice sA l.length sc).ownBlock)
    (hat : (Value.slice A (l.length + 1) c).ownBlock = (Value.slice sA l.length sc).ownBlock ∨ ∃ g, (Value.slice A (l.length + 1) c).ownBlock = some g ∧ w.heap.size ≤ g) :
    Xs x w0 q N bm bp bg lA lc all clo bud (w'.setCell ⟨q, 4, none⟩ (.slice A (l.length + 1) c)) (l ++ [n]) sm A c s := by
  obtain ⟨bA, bc, bs, h1, h2, h3, h4⟩ := h.st
  have hg2 := grown_set (grown_refl w' (some q)) 4 (.slice A (l.length + 1) c)
  have hl : (l ++ [n]).length = l.length + 1 := by simp
  have hst : w'.heap[q]? = _ := (hb.block q h.hN).trans h1
  have hlim : OwnI w' (q + 1) (.slice lA x.zs.length lc) x.lim := kept_out h.lim h.limN hb
  have hbs : OwnI w' N (.slice bA bs.length bc) bs := h2.kept hg (by
    cases e : (Value.slice bA bs.length bc).ownBlock with
    | none => exact .inl rfl
    | some g => exact .inr fun k => h4 g e k.symm)
  have hz : w.heap.size ≤ w'.heap.size := hg.size
  refine ⟨⟨bA, bc, bs, ?_, own_farN hbs h.hN hg2, h3, ?_⟩, own_far' hlim hg2, h.limN, ?_, h.inv, (h.bel.trans (hb.mono (by have := h.hq; have := h.hN; omega))).setCell h.hq _, h.hq, h.hN, ?_, h.bd⟩
  · rw [hl]; exact heap_set' _ hst
  · intro g e k
    rw [hl] at k
    rcases hat with e2 | ⟨g2, e2, hz2⟩
    · rw [e2] at k; exact h4 g e k
    · rw [e2] at k
      injection k with k
      have := (h2.lt g e).2
      omega
  · rw [hl]; exact own_farN ho h.hN hg2
  · simp; exact Nat.le_trans h.hNw hz
/-- The last one is taken back. -/
theorem Xs.pop {n : Int} {k : Nat} (h : Xs x w0 q N bm bp bg lA lc all clo bud w (l ++ [n]) sm sA sc s) (hk : k = l.length) : Xs x w0 q N bm bp bg lA lc all clo bud (w.setCell ⟨q, 4, none⟩ (.slice sA k sc)) l sm sA sc s := by
  subst hk
  obtain ⟨bA, bc, bs, h1, h2, h3, h4⟩ := h.st
  have hg := grown_set (grown_refl w (some q)) 4 (.slice sA l.length sc)
  exact ⟨⟨bA, bc, bs, heap_set' _ h1, own_farN h2 h.hN hg, h3, fun g e k => h4 g e (by cases sA with | none => simp [Value.ownBlock] at k | some a => exact k)⟩, own_far' h.lim hg, h.limN, own_farN (own_short (fun _ => rfl) h.row rfl) h.hN hg, h.inv, h.bel.setCell h.hq _, h.hq, h.hN, by simpa using h.hNw, h.bd⟩
theorem Xs.cells (h : Xs x w0 q N bm bp bg lA lc all clo bud w l sm sA sc s) : w.cell? ⟨q, 0, none⟩ = some (.pointer (some ⟨bm, 0, none⟩)) ∧ w.cell? ⟨q, 1, none⟩ = some (.pointer (some ⟨bp, 0, none⟩)) ∧ w.cell? ⟨q, 2, none⟩ = some (.pointer (some ⟨bg, 0, none⟩)) ∧ w.cell? ⟨q, 3, none⟩ = some (.slice lA x.zs.length lc) ∧ w.cell? ⟨q, 4, none⟩ = some (.slice sA l.length sc) ∧ w.cell? ⟨q, 5, none⟩ = some (.int .i64 (-1)) ∧ w.cell? ⟨q, 6, none⟩ = some (.int .i64 sm) ∧ w.cell? ⟨q, 7, none⟩ = some (.bool all) ∧ w.cell? ⟨q, 8, none⟩ = some (.bool clo) ∧ w.cell? ⟨q, 10, none⟩ = some (.int .i64 s.least) ∧ w.cell? ⟨q, 11, none⟩ = some (.int .i64 s.count) ∧ w.cell? ⟨q, 12, none⟩ = some (.int .i64 (bud - s.left)) ∧ w.cell? ⟨q, 13, none⟩ = some (.int .i64 bud) ∧ w.cell? ⟨q, 14, none⟩ = some (.bool s.spent) ∧ ∀ j, w.frozen? ⟨q, j, none⟩ = false := by
  obtain ⟨bA, bc, bs, h1, h2, h3, h4⟩ := h.st
  exact ⟨by simp [World.cell?, h1], by simp [World.cell?, h1], by simp [World.cell?, h1], by simp [World.cell?, h1], by simp [World.cell?, h1], by simp [World.cell?, h1], by simp [World.cell?, h1], by simp [World.cell?, h1], by simp [World.cell?, h1], by simp [World.cell?, h1], by simp [World.cell?, h1], by simp [World.cell?, h1], by simp [World.cell?, h1], by simp [World.cell?, h1], fun j => by simp [World.frozen?, h1]⟩
theorem Xs.best (h : Xs x w0 q N bm bp bg lA lc all clo bud w l sm sA sc s) (ha : all = false) : ∃ bA bc, w.cell? ⟨q, 9, none⟩ = some (.slice bA s.found.length bc) ∧ OwnI w N (.slice bA s.found.length bc) s.found := by
  obtain ⟨bA, bc, bs, h1, h2, h3, h4⟩ := h.st
  obtain rfl := h3 ha
  exact ⟨bA, bc, by simp [World.cell?, h1], h2⟩
/-- The steps so far and the limit of the next zone. -/
theorem Xs.limAt (h : Xs x w0 q N bm bp bg lA lc all clo bud w l sm sA sc s) {k : Nat} (hk : k < x.zs.length) : ∃ g, lA = some ⟨g, 0, none⟩ ∧ w.cell? ⟨g, k, none⟩ = some (.int .i64 (ig x.lim k)) := by
  obtain ⟨g, e, _, _, h1, _⟩ := own_get1 h.lim (k := k) (by rw [x.lim_length]; exact hk)
  exact ⟨g, e, h1⟩
end
end Go.Proofs.YtnefgafmnpblpaaGreat
