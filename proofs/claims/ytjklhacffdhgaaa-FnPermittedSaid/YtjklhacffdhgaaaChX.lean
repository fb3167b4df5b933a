/- The reference's search for charges: the state of its struct, and what each store does to it. -/
import Derived.Test.YtjklhacffdhgaaaCh
import Derived.Test.YtjklhacffdhgaaaRowI
import Derived.Test.YtjklhacffdhgaaaSrc2
import Derived.Deep.DeepCutAuto
import Derived.BigRegion
namespace Go.Proofs.Ytjklhacffdhgaaa
open Go.RowKit

set_option maxRecDepth 100000 in
/-- An append of one number, and where the row then lies. -/
theorem wpList_appI_at {w : World} {ops : Array Oper} {rest : List Oper} {o : Oper} {a : Act} {Q : Exit → Act → World → Prop} (hgd : o.guard = none) (s x : Operand) (ho : o.op = .call { callee := .builtin .append, args := #[s, x], argTypes := #[34, 34] }) (B : Nat) {v : Value} {xs : List Int} (hs : a.eval s = v)
    (hown : OwnI w B v xs) {y : Int} {q : Nat} (hx : a.eval x = .slice (some ⟨q, 0, none⟩) 1 1) (hn : xs.length ≤ 1048576) (hB : B ≤ w.heap.size)
    (h : ∀ (A : Option Addr) (c : Nat) (w' : World), OwnI w' B (.slice A (xs.length + 1) c) (xs ++ [y]) → Below B w w' → w.grownBy w' v.ownBlock → ((Value.slice A (xs.length + 1) c).ownBlock = v.ownBlock ∨ ∃ g, (Value.slice A (xs.length + 1) c).ownBlock = some g ∧ w.heap.size ≤ g) → wpList Try.prog ops Q rest (a.put o.dst (.slice A (xs.length + 1) c)) w') (hq : q = w.heap.size := by first | rfl | simp) : wpList Try.prog ops Q (o :: rest) a (w.alloc (.cells #[.int .i64 y] 2)) := by
  subst hq
  obtain ⟨i0, hi, hz0, hz1, hz2⟩ := info_parts info_i64
  have hb0 : Below w.heap.size w (w.alloc (.cells #[.int .i64 y] 2)) := (Below.refl _ _).alloc (Nat.le_refl _) _
  refine wpList_append_own_at (w := w.alloc (.cells #[.int .i64 y] 2)) hgd s x 34 ho B 2 i0 _ 1 8 Try.underlying34 hi hz0 hz1 hz2 rfl (by omega) v xs.length (xs.flatMap encI) hs (hown.below hb0) ⟨w.heap.size, 0, none⟩ 1 1 [.int .i64 y] hx (by simp) ?_ (encI_one y) (by unfold maxLen; omega) (by omega) (by simp; omega) ?_
  · intro j u hj
    match j, hj with
    | 0, hj => injection hj with hj; subst hj; simp [Addr.add]
  · intro v' w' hown' hg _ hat
    obtain ⟨A, c, rfl⟩ := own_slice hown'
    have hbl : Below B (w.alloc (.cells #[.int .i64 y] 2)) w' := Below.grown (Below.refl _ _) hg (by simp; omega) fun k hk => (Own.lt hown k hk).1
    refine h A c w' ?_ ((hb0.mono hB).trans hbl) (grown_trans (grown_of_below hb0 _) hg) ?_
    · unfold OwnI Own
      rw [List.length_append, List.flatMap_append]
      simpa using hown'
    · rcases hat with e | e
      · exact .inl e
      · exact .inr ⟨_, e, by simp⟩
/-- What the reference's count of nodes is. -/
def Ch.nodes (budget : Int) (s : Ch.S) : Int := if s.spent then budget + 1 else budget - s.left
theorem heap_set' {w : World} {b j : Nat} {vs : Array Value} {T : TypeId} (v : Value) (h : w.heap[b]? = some (.cells vs T (0, 0))) : (w.setCell ⟨b, j, none⟩ v).heap[b]? = some (.cells (vs.setIfInBounds j v) T (0, 0)) := by
  simp [World.setCell, Array.getElem?_modify, h]
theorem own_far' {α : Type} {enc : α → List Value} {sz : Nat} {T : TypeId} {w w' : World} {b : Nat} {v : Value} {xs : List α} (h : Own enc sz T w (b + 1) v xs) (hg : w.grownBy w' (some b)) : Own enc sz T w' (b + 1) v xs := by
  refine h.kept hg ?_
  cases e : v.ownBlock with
  | none => exact .inl rfl
  | some g => exact .inr fun q => by injection q with q; have := (h.lt g e).1; omega
theorem heap_other {w : World} {b g j : Nat} {x : Value} (h : g ≠ b) : (w.setCell ⟨b, j, none⟩ x).heap[g]? = w.heap[g]? := by
  simp [World.setCell, Array.getElem?_modify, Ne.symm h]
theorem own_cap {α : Type} {enc : α → List Value} {sz : Nat} {T : TypeId} {w : World} {B n c : Nat} {A : Option Addr} {xs : List α} (h : Own enc sz T w B (.slice A n c) xs) (hn : n = xs.length) (h0 : 0 < n) : ∃ g, A = some ⟨g, 0, none⟩ ∧ n ≤ c := by
  subst hn
  rcases h.2 with ⟨e, q⟩ | ⟨g, cap, cur, e, _, _, hc, _⟩
  · omega
  · injection e with e1 e2 e3
    exact ⟨g, e1, by rw [e3]; exact hc⟩
/-- The searching struct in block b. -/
structure ChX (w0 : World) (b : Nat) (A : Option Addr) (n c dq : Nat) (first : Bool) (budget : Int) (w : World) (cv : Option Addr) (cc : Nat) (ch : List Int) (m t o : Int) (bv : Option Addr) (bc : Nat) (s : Ch.S) : Prop where
  st : w.heap[b]? = some (.cells #[.slice A n c, .pointer (some ⟨dq, 0, none⟩), .slice cv ch.length cc, .int .i64 m, .int .i64 t, .int .i64 o, .bool first, .slice bv s.best.length bc, .int .i64 s.least, .int .i64 s.count, .int .i64 (Ch.nodes budget s), .int .i64 budget] 124 (0, 0))
  oc : OwnI w (b + 1) (.slice cv ch.length cc) ch
  ob : OwnI w (b + 1) (.slice bv s.best.length bc) s.best
  ap : ∀ g, (Value.slice bv s.best.length bc).ownBlock = some g → (Value.slice cv ch.length cc).ownBlock ≠ some g
  inv : Ch.Inv s
  bud : s.left ≤ budget ∧ budget ≤ 20000
  bel : Below w0.heap.size w0 w
  hb : w0.heap.size ≤ b
section
variable {w0 : World} {b : Nat} {A : Option Addr} {n c dq : Nat} {first : Bool} {budget : Int} {w : World} {cv : Option Addr} {cc : Nat} {ch : List Int} {m t o : Int} {bv : Option Addr} {bc : Nat} {s : Ch.S}
theorem ChX.lt (h : ChX w0 b A n c dq first budget w cv cc ch m t o bv bc s) : b < w.heap.size := heap_lt h.st
theorem ChX.below {w' : World} (h : ChX w0 b A n c dq first budget w cv cc ch m t o bv bc s) (hb : Below w.heap.size w w') : ChX w0 b A n c dq first budget w' cv cc ch m t o bv bc s :=
  ⟨(hb.block b h.lt).trans h.st, h.oc.below hb, h.ob.below hb, h.ap, h.inv, h.bud, h.bel.trans (hb.mono h.bel.size), h.hb⟩
theorem ChX.setM (h : ChX w0 b A n c dq first budget w cv cc ch m t o bv bc s) (m' : Int) : ChX w0 b A n c dq first budget (w.setCell ⟨b, 3, none⟩ (.int .i64 m')) cv cc ch m' t o bv bc s :=
  have hg := grown_set (grown_refl w (some b)) 3 (.int .i64 m')
  ⟨heap_set' _ h.st, own_far' h.oc hg, own_far' h.ob hg, h.ap, h.inv, h.bud, h.bel.setCell h.hb _, h.hb⟩
theorem ChX.setT (h : ChX w0 b A n c dq first budget w cv cc ch m t o bv bc s) (t' : Int) : ChX w0 b A n c dq first budget (w.setCell ⟨b, 4, none⟩ (.int .i64 t')) cv cc ch m t' o bv bc s :=
  have hg := grown_set (grown_refl w (some b)) 4 (.int .i64 t')
  ⟨heap_set' _ h.st, own_far' h.oc hg, own_far' h.ob hg, h.ap, h.inv, h.bud, h.bel.setCell h.hb _, h.hb⟩
theorem ChX.setO (h : ChX w0 b A n c dq first budget w cv cc ch m t o bv bc s) (o' : Int) : ChX w0 b A n c dq first budget (w.setCell ⟨b, 5, none⟩ (.int .i64 o')) cv cc ch m t o' bv bc s :=
  have hg := grown_set (grown_refl w (some b)) 5 (.int .i64 o')
  ⟨heap_set' _ h.st, own_far' h.oc hg, own_far' h.ob hg, h.ap, h.inv, h.bud, h.bel.setCell h.hb _, h.hb⟩
/-- One more is chosen. -/
theorem ChX.push {w' : World} {A' : Option Addr} {c' : Nat} {y : Int} (h : ChX w0 b A n c dq first budget w cv cc ch m t o bv bc s) (ho : OwnI w' (b + 1) (.slice A' (ch.length + 1) c') (ch ++ [y])) (hb : Below (b + 1) w w') (hg : w.grownBy w' (Value.slice cv ch.length cc).ownBlock)
    (hat : (Value.slice A' (ch.length + 1) c').ownBlock = (Value.slice cv ch.length cc).ownBlock ∨ ∃ g, (Value.slice A' (ch.length + 1) c').ownBlock = some g ∧ w.heap.size ≤ g) : ChX w0 b A n c dq first budget (w'.setCell ⟨b, 2, none⟩ (.slice A' (ch.length + 1) c')) A' c' (ch ++ [y]) m t o bv bc s := by
  have hg2 := grown_set (grown_refl w' (some b)) 2 (.slice A' (ch.length + 1) c')
  have hl : (ch ++ [y]).length = ch.length + 1 := by simp
  have hst : w'.heap[b]? = _ := (hb.block b (by omega)).trans h.st
  have hob : OwnI w' (b + 1) (.slice bv s.best.length bc) s.best := h.ob.kept hg (by
    cases e : (Value.slice bv s.best.length bc).ownBlock with
    | none => exact .inl rfl
    | some g => exact .inr fun q => h.ap g e q.symm)
  refine ⟨?_, ?_, own_far' hob hg2, ?_, h.inv, h.bud, (h.bel.trans (hb.mono (by have := h.hb; omega))).setCell h.hb _, h.hb⟩
  · rw [hl]; exact heap_set' _ hst
  · rw [hl]; exact own_far' ho hg2
  · intro g e q
    rw [hl] at q
    rcases hat with e2 | ⟨g2, e2, hz⟩
    · rw [e2] at q; exact h.ap g e q
    · rw [e2] at q
      injection q with q
      have := (h.ob.lt g e).2
      omega
/-- The last one is taken back. -/
theorem ChX.pop {y : Int} {l : Nat} (h : ChX w0 b A n c dq first budget w cv cc (ch ++ [y]) m t o bv bc s) (hl : l = ch.length) : ChX w0 b A n c dq first budget (w.setCell ⟨b, 2, none⟩ (.slice cv l cc)) cv cc ch m t o bv bc s := by
  subst hl
  have hg := grown_set (grown_refl w (some b)) 2 (.slice cv ch.length cc)
  exact ⟨heap_set' _ h.st, own_far' (own_short (fun _ => rfl) h.oc rfl) hg, own_far' h.ob hg, fun g e q => h.ap g e (by cases cv with | none => simp [Value.ownBlock] at q | some a => exact q), h.inv, h.bud, h.bel.setCell h.hb _, h.hb⟩
/-- A node is counted. -/
theorem ChX.node {left count : Int} {best : List Int} {least nd : Int} (h : ChX w0 b A n c dq first budget w cv cc ch m t o bv bc ⟨left, false, count, best, least⟩) (h0 : left ≠ 0) (hn : nd = Ch.nodes budget ⟨left, false, count, best, least⟩ + 1) : ChX w0 b A n c dq first budget (w.setCell ⟨b, 10, none⟩ (.int .i64 nd)) cv cc ch m t o bv bc ⟨left - 1, false, count, best, least⟩ := by
  have hg := grown_set (grown_refl w (some b)) 10 (.int .i64 nd)
  obtain ⟨i1, i2, i3⟩ := h.inv
  obtain ⟨u1, u2⟩ := h.bud
  simp only at i1 i2 i3 u1
  have e : nd = Ch.nodes budget ⟨left - 1, false, count, best, least⟩ := by rw [hn]; simp only [Ch.nodes]; simp; omega
  rw [e] at hg ⊢
  exact ⟨heap_set' _ h.st, own_far' h.oc hg, own_far' h.ob hg, h.ap, ⟨by simp only; omega, i2, by simp only; omega⟩, ⟨by simp only; omega, u2⟩, h.bel.setCell h.hb _, h.hb⟩
/-- There was no node left. -/
theorem ChX.over {count : Int} {best : List Int} {least nd : Int} (h : ChX w0 b A n c dq first budget w cv cc ch m t o bv bc ⟨0, false, count, best, least⟩) (hn : nd = Ch.nodes budget ⟨0, false, count, best, least⟩ + 1) : ChX w0 b A n c dq first budget (w.setCell ⟨b, 10, none⟩ (.int .i64 nd)) cv cc ch m t o bv bc ⟨0, true, count, best, least⟩ := by
  have hg := grown_set (grown_refl w (some b)) 10 (.int .i64 nd)
  have e : nd = Ch.nodes budget ⟨0, true, count, best, least⟩ := by rw [hn]; simp [Ch.nodes]
  rw [e] at hg ⊢
  exact ⟨heap_set' _ h.st, own_far' h.oc hg, own_far' h.ob hg, h.ap, h.inv, h.bud, h.bel.setCell h.hb _, h.hb⟩
/-- One more fits, and it is no better. -/
theorem ChX.count1 {left count : Int} {best : List Int} {least : Int} (h : ChX w0 b A n c dq first budget w cv cc ch m t o bv bc ⟨left, false, count, best, least⟩) (hc : count + left ≤ 19999) : ChX w0 b A n c dq first budget (w.setCell ⟨b, 9, none⟩ (.int .i64 (count + 1))) cv cc ch m t o bv bc ⟨left, false, count + 1, best, least⟩ := by
  have hg := grown_set (grown_refl w (some b)) 9 (.int .i64 (count + 1))
  obtain ⟨i1, i2, i3⟩ := h.inv
  simp only at i1 i2 i3
  exact ⟨heap_set' _ h.st, own_far' h.oc hg, own_far' h.ob hg, h.ap, ⟨i1, by simp only; omega, by simp only; omega⟩, h.bud, h.bel.setCell h.hb _, h.hb⟩
theorem ChX.least1 {left count : Int} {best : List Int} {least : Int} (h : ChX w0 b A n c dq first budget w cv cc ch m t o bv bc ⟨left, false, count, best, least⟩) (l : Int) : ChX w0 b A n c dq first budget (w.setCell ⟨b, 8, none⟩ (.int .i64 l)) cv cc ch m t o bv bc ⟨left, false, count, best, l⟩ := by
  have hg := grown_set (grown_refl w (some b)) 8 (.int .i64 l)
  exact ⟨heap_set' _ h.st, own_far' h.oc hg, own_far' h.ob hg, h.ap, h.inv, h.bud, h.bel.setCell h.hb _, h.hb⟩
theorem ChX.best1 {w' : World} {A' : Option Addr} {c' : Nat} {left count : Int} {best : List Int} {least : Int} (h : ChX w0 b A n c dq first budget w cv cc ch m t o bv bc ⟨left, false, count, best, least⟩) (ho : OwnI w' w.heap.size (.slice A' ch.length c') ch) (hb : Below w.heap.size w w') : ChX w0 b A n c dq first budget (w'.setCell ⟨b, 7, none⟩ (.slice A' ch.length c')) cv cc ch m t o A' c' ⟨left, false, count, ch, least⟩ := by
  have h' := h.below hb
  have hg := grown_set (grown_refl w' (some b)) 7 (.slice A' ch.length c')
  have hl := h.lt
  exact ⟨heap_set' _ h'.st, own_far' h'.oc hg, own_far' (ho.mono (by omega)) hg, fun g e q => by have := (ho.lt g e).1; have := (h.oc.lt g q).2; omega, h'.inv, h'.bud, h'.bel.setCell h'.hb _, h'.hb⟩
end
/-- What a visit leaves: of the older blocks only the struct's own and the row of what is chosen may have changed; where that row then lies. -/
structure Fr (b : Nat) (w w' : World) (v v' : Value) : Prop where
  size : w.heap.size ≤ w'.heap.size
  keep : ∀ g, g < w.heap.size → g ≠ b → v.ownBlock ≠ some g → w'.heap[g]? = w.heap[g]?
  loc : v'.ownBlock = v.ownBlock ∨ ∃ g, v'.ownBlock = some g ∧ w.heap.size ≤ g
section
variable {b : Nat} {w w1 w2 : World} {v v1 v2 : Value}
theorem Fr.refl : Fr b w w v v := ⟨Nat.le_refl _, fun _ _ _ _ => rfl, .inl rfl⟩
theorem Fr.below (h : Fr b w w1 v v1) (hb : Below w1.heap.size w1 w2) : Fr b w w2 v v1 :=
  ⟨Nat.le_trans h.size hb.size, fun g hg h1 h2 => (hb.block g (Nat.lt_of_lt_of_le hg h.size)).trans (h.keep g hg h1 h2), h.loc⟩
theorem Fr.set (h : Fr b w w1 v v1) (j : Nat) (x : Value) : Fr b w (w1.setCell ⟨b, j, none⟩ x) v v1 :=
  ⟨by simpa [World.setCell] using h.size, fun g hg h1 h2 => by
    refine Eq.trans ?_ (h.keep g hg h1 h2)
    simp [World.setCell, Array.getElem?_modify, Ne.symm h1], h.loc⟩
theorem Fr.trans (h : Fr b w w1 v v1) (k : Fr b w1 w2 v1 v2) : Fr b w w2 v v2 := by
  refine ⟨Nat.le_trans h.size k.size, fun g hg h1 h2 => (k.keep g (Nat.lt_of_lt_of_le hg h.size) h1 ?_).trans (h.keep g hg h1 h2), ?_⟩
  · rcases h.loc with e | ⟨g2, e, hz⟩
    · rw [e]; exact h2
    · rw [e]; intro q; injection q with q; omega
  · rcases k.loc with e | ⟨g2, e, hz⟩
    · rcases h.loc with e3 | ⟨g3, e3, hz3⟩
      · exact .inl (e.trans e3)
      · exact .inr ⟨g3, e.trans e3, hz3⟩
    · exact .inr ⟨g2, e, Nat.le_trans h.size hz⟩
theorem Fr.push (h : Fr b w w1 v v1) (hg : w1.grownBy w2 v1.ownBlock) (hat : v2.ownBlock = v1.ownBlock ∨ ∃ g, v2.ownBlock = some g ∧ w1.heap.size ≤ g) : Fr b w w2 v v2 :=
  h.trans ⟨hg.size, fun g hl _ h2 => hg.block g hl (fun q => h2 q.symm), hat⟩
/-- The same slice cut short lies where it lay. -/
theorem Fr.short {A : Option Addr} {n c n' : Nat} (h : Fr b w w1 v (.slice A n c)) : Fr b w w1 v (.slice A n' c) :=
  ⟨h.size, h.keep, by have q := h.loc; cases A with | none => simpa [Value.ownBlock] using q | some a => exact q⟩
end
end Go.Proofs.Ytjklhacffdhgaaa
