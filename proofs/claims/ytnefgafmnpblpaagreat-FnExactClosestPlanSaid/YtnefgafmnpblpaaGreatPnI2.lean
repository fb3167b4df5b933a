/- The program's search for plans: the state of its struct, what each store does to it, and its small methods. -/
import Derived.Test.YtnefgafmnpblpaaGreatPnI
namespace Go.Proofs.YtnefgafmnpblpaaGreat
open Go.RowKit Pn

/-- What a search is about: a model, a profile, a goal, and where they lie. -/
structure Cx where
  Az : Option Addr
  cz : Nat
  zs : List Int
  Aw : Option Addr
  cw : Nat
  ws : List (List Int)
  Ab : Option Addr
  cb : Nat
  bs : List Int
  nm : ByteArray
  A : Option Addr
  c : Nat
  rs : List RingR
  t0 : Int
  t1 : Int
  t2 : Int
  t3 : Int
  t4 : Int
  tol : Int
  most : Int
abbrev Cx.t (x : Cx) : List Int := [x.t0, x.t1, x.t2, x.t3, x.t4]
noncomputable def Cx.lim (x : Cx) : List Int := limB x.zs x.rs x.most
theorem Cx.lim_length (x : Cx) : x.lim.length = x.zs.length := limB_length _ _ _
/-- The partials after steps. -/
noncomputable def Cx.raw (x : Cx) (l : List Int) : List Int := rawT x.zs x.ws x.bs x.rs l
theorem Cx.raw_length (x : Cx) (l : List Int) : (x.raw l).length = 5 := rawP_length _ _ _ _
noncomputable def Cx.low (x : Cx) (l : List Int) : Bool := lowB x.t x.tol (x.raw l)
noncomputable def Cx.snd (x : Cx) (l : List Int) : Bool := dc (SoundOK (x.raw l))
noncomputable def Cx.dev (x : Cx) (l : List Int) : Int := grB (devs x.t (x.raw l))
noncomputable def Cx.plan (x : Cx) (l : List Int) : Bool := x.snd l && decide (x.dev l ≤ x.tol)
/-- Valid arguments of a search, in memory. -/
structure Cx.OK (x : Cx) (w0 : World) : Prop where
  md : MdAt w0 x.Az x.Aw x.Ab x.zs x.ws x.bs
  rg : SlAt encRing 3 w0 x.A x.rs
  ask : AskOK x.zs x.ws x.bs x.nm x.rs
  goal : GoalOK x.t x.tol x.most
  nm : x.nm.size ≤ maxLen
theorem Cx.OK.below {x : Cx} {w0 w : World} (h : x.OK w0) (hb : Below w0.heap.size w0 w) : x.OK w := ⟨h.md.below hb, h.rg.below hb, h.ask, h.goal, h.nm⟩
theorem Cx.OK.lim_bd {x : Cx} {w0 : World} (h : x.OK w0) : ∀ k, 0 ≤ ig x.lim k ∧ ig x.lim k ≤ 20 := Pn.lim_bd x.zs x.rs h.goal.most.1
/-- Steps so far, and no steps in the zones behind. -/
def pad (n : Nat) (l : List Int) : List Int := l ++ List.replicate (n - l.length) 0
theorem pad_length {n : Nat} {l : List Int} (h : l.length ≤ n) : (pad n l).length = n := by unfold pad; simp; omega
theorem ig_pad (n : Nat) (l : List Int) (k : Nat) : ig (pad n l) k = ig l k := by
  unfold pad ig
  rw [List.getD_eq_getElem?_getD, List.getD_eq_getElem?_getD]
  by_cases h : k < l.length
  · rw [List.getElem?_append_left h]
  · rw [List.getElem?_append_right (by omega), List.getElem?_replicate, List.getElem?_eq_none (by omega)]
    split <;> rfl
theorem raw_pad (x : Cx) (n : Nat) (l : List Int) : x.raw (pad n l) = x.raw l := by
  unfold Cx.raw rawT
  rw [turn_congr fun k => ig_pad n l k]
theorem pad_full {n : Nat} {l : List Int} (h : l.length = n) : pad n l = l := by unfold pad; rw [h, Nat.sub_self]; simp
theorem pad_set {n : Nat} {l : List Int} (v k : Int) : (pad n (l ++ [v])).set l.length k = pad n (l ++ [k]) := by
  unfold pad
  rw [List.append_assoc, List.append_assoc, List.set_append_right _ _ (Nat.le_refl _), Nat.sub_self]
  simp
theorem pad_zero {n : Nat} {l : List Int} (h : l.length < n) : pad n (l ++ [0]) = pad n l := by
  unfold pad
  rw [List.append_assoc, show n - l.length = (n - (l ++ [(0 : Int)]).length) + 1 by simp; omega, List.replicate_succ]
  rfl
/-- The cells of the searching struct. -/
abbrev Cx.cells (x : Cx) (left : Int) (spent : Bool) (gl lc gs sc : Nat) (sum : Int) (first : Bool) (cnt : Int) (fA : Option Addr) (fn fc : Nat) : Array Value :=
  #[.int .i64 left, .bool spent, .slice x.Az x.zs.length x.cz, .slice x.Aw x.ws.length x.cw, .slice x.Ab x.bs.length x.cb, .string x.nm, .slice x.A x.rs.length x.c, .int .i64 x.t0, .int .i64 x.t1, .int .i64 x.t2, .int .i64 x.t3, .int .i64 x.t4, .int .i64 x.tol, .int .i64 x.most,
    .slice (some ⟨gl, 0, none⟩) x.zs.length lc, .slice (some ⟨gs, 0, none⟩) x.zs.length sc, .int .i64 sum, .bool first, .int .i64 cnt, .slice fA fn fc]
/-- The searching struct in block b, its limits in block gl, its steps in block gs. -/
structure CuI (x : Cx) (w0 : World) (b gl lc gs sc : Nat) (sum : Int) (first : Bool) (w : World) (ss : List Int) (s : S) : Prop where
  st : ∃ fA fc, w.heap[b]? = some (.cells (x.cells s.left s.spent gl lc gs sc sum first s.count fA s.found.length fc) 85 (0, 0)) ∧ OwnI w (b + 1) (.slice fA s.found.length fc) s.found
  lim : OwnI w w0.heap.size (.slice (some ⟨gl, 0, none⟩) x.zs.length lc) x.lim
  row : OwnI w w0.heap.size (.slice (some ⟨gs, 0, none⟩) x.zs.length sc) ss
  ne : gl ≠ gs ∧ gl < b ∧ gs < b
  inv : Inv x.lim s
  bel : Below w0.heap.size w0 w
  hb : w0.heap.size ≤ b
section
variable {x : Cx} {w0 w w' : World} {b gl lc gs sc : Nat} {sum : Int} {first : Bool} {ss : List Int} {s : S}
theorem CuI.lt (h : CuI x w0 b gl lc gs sc sum first w ss s) : b < w.heap.size := by
  obtain ⟨fA, fc, h1, _⟩ := h.st
  exact heap_lt h1
theorem CuI.below (h : CuI x w0 b gl lc gs sc sum first w ss s) (hb : Below w.heap.size w w') : CuI x w0 b gl lc gs sc sum first w' ss s := by
  have hl := h.lt
  obtain ⟨fA, fc, h1, h2⟩ := h.st
  exact ⟨⟨fA, fc, (hb.block b hl).trans h1, h2.below hb⟩, h.lim.below hb, h.row.below hb, h.ne, h.inv, h.bel.trans (hb.mono h.bel.size), h.hb⟩
theorem own_ne {T : TypeId} {α : Type} {enc : α → List Value} {sz : Nat} {w : World} {B g n c q : Nat} {xs : List α} (h : Own enc sz T w B (.slice (some ⟨g, 0, none⟩) n c) xs) (hne : g ≠ q) (j : Nat) (v : Value) : Own enc sz T (w.setCell ⟨q, j, none⟩ v) B (.slice (some ⟨g, 0, none⟩) n c) xs :=
  h.kept (grown_set (grown_refl w (some q)) j v) (.inr fun e => by simp [Value.ownBlock] at e; exact hne e)
/-- A step is set. -/
theorem CuI.step (h : CuI x w0 b gl lc gs sc sum first w ss s) (k : Nat) (v : Int) : CuI x w0 b gl lc gs sc sum first (w.setCell ⟨gs, k, none⟩ (.int .i64 v)) (ss.set k v) s := by
  obtain ⟨fA, fc, h1, h2⟩ := h.st
  have hne := h.ne
  refine ⟨⟨fA, fc, (heap_other (by omega)).trans h1, ?_⟩, own_ne h.lim h.ne.1 _ _, own_set1 (f := fun x : Int => .int .i64 x) (fun _ => rfl) h.row v, h.ne, h.inv, h.bel.setCell (h.row.lt gs (by simp [Value.ownBlock])).1 _, h.hb⟩
  refine h2.kept (grown_set (grown_refl w (some gs)) k _) ?_
  cases e : (Value.slice fA s.found.length fc).ownBlock with
  | none => exact .inl rfl
  | some g => exact .inr fun q => by injection q with q; have := (h2.lt g e).1; omega
theorem CuI.cell (h : CuI x w0 b gl lc gs sc sum first w ss s) {j : Nat} {v : Value} {s' : S} (hst : ∀ fA fc, (x.cells s.left s.spent gl lc gs sc sum first s.count fA s.found.length fc).setIfInBounds j v = x.cells s'.left s'.spent gl lc gs sc sum first s'.count fA s'.found.length fc) (hf : s'.found = s.found) (hi : Inv x.lim s') :
    CuI x w0 b gl lc gs sc sum first (w.setCell ⟨b, j, none⟩ v) ss s' := by
  obtain ⟨fA, fc, h1, h2⟩ := h.st
  have hg := grown_set (grown_refl w (some b)) j v
  have hne := h.ne
  refine ⟨⟨fA, fc, (heap_set' v h1).trans (by rw [hst]), by rw [hf]; exact own_far' h2 hg⟩, own_ne h.lim (by omega) _ _, own_ne h.row (by omega) _ _, h.ne, hi, h.bel.setCell h.hb _, h.hb⟩
theorem CuI.node (h : CuI x w0 b gl lc gs sc sum first w ss s) (h0 : s.left ≠ 0) : CuI x w0 b gl lc gs sc sum first (w.setCell ⟨b, 0, none⟩ (.int .i64 (s.left - 1))) ss { s with left := s.left - 1 } :=
  h.cell (s' := { s with left := s.left - 1 }) (fun _ _ => rfl) rfl (h.inv.node h0).1
theorem CuI.over (h : CuI x w0 b gl lc gs sc sum first w ss s) : CuI x w0 b gl lc gs sc sum first (w.setCell ⟨b, 1, none⟩ (.bool true)) ss { s with spent := true } :=
  h.cell (s' := { s with spent := true }) (fun _ _ => rfl) rfl ⟨h.inv.l0, h.inv.c0, h.inv.sum, h.inv.fnd, h.inv.le⟩
theorem CuI.more (h : CuI x w0 b gl lc gs sc sum first w ss s) (hc : s.count + s.left + 1 ≤ 20000) : CuI x w0 b gl lc gs sc sum first (w.setCell ⟨b, 18, none⟩ (.int .i64 (s.count + 1))) ss { s with count := s.count + 1 } :=
  h.cell (s' := { s with count := s.count + 1 }) (fun _ _ => rfl) rfl ⟨h.inv.l0, by have := h.inv.c0; simp only; omega, by simp only; omega, h.inv.fnd, h.inv.le⟩
/-- A find is kept. -/
theorem CuI.find {A : Option Addr} {c : Nat} {l : List Int} (h : CuI x w0 b gl lc gs sc sum first w ss s) (ho : OwnI w' w.heap.size (.slice A l.length c) l) (hb : Below w.heap.size w w') (hp : Pre x.lim l) (hl : l.length = x.lim.length) :
    CuI x w0 b gl lc gs sc sum first (w'.setCell ⟨b, 19, none⟩ (.slice A l.length c)) ss { s with found := l } := by
  have hlt := h.lt
  obtain ⟨fA, fc, h1, h2⟩ := (h.below hb).st
  have hg := grown_set (grown_refl w' (some b)) 19 (.slice A l.length c)
  have hne := h.ne
  refine ⟨⟨A, c, (heap_set' _ h1), own_far' (ho.mono (by omega)) hg⟩, own_ne (h.below hb).lim (by omega) _ _, own_ne (h.below hb).row (by omega) _ _, h.ne, ⟨h.inv.l0, h.inv.c0, h.inv.sum, .inr ⟨hp, hl⟩, h.inv.le⟩, (h.below hb).bel.setCell h.hb _, h.hb⟩
end
end Go.Proofs.YtnefgafmnpblpaaGreat
