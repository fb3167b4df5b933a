/- The reference's search for schedules: the state of its struct, and what each store does to it. -/
import Derived.Test.YtklmbgefdopifaaHtR
import Derived.Test.YtklmbgefdopifaaSrc2
import Derived.Deep.DeepCutAuto
import Derived.BigRegion
namespace Go.Proofs.Ytklmbgefdopifaa
open Go.RowKit

abbrev encB (x : Bool) : List Value := [.bool x]
abbrev OwnB (w : World) (B : Nat) (v : Value) (xs : List Bool) : Prop := Own encB 1 4 w B v xs
theorem own_apart {α β : Type} {e1 : α → List Value} {e2 : β → List Value} {z1 z2 B1 B2 : Nat} {T1 T2 : TypeId} {w : World} {v1 v2 : Value} {xs : List α} {ys : List β} (h1 : Own e1 z1 T1 w B1 v1 xs) (h2 : Own e2 z2 T2 w B2 v2 ys) (hT : T1 ≠ T2) : v1.ownBlock = none ∨ v1.ownBlock ≠ v2.ownBlock := by
  rcases h1.2 with ⟨e, _⟩ | ⟨g, cap, cur, e, _, hc, _⟩
  · left; rw [e]; rfl
  · right
    intro q
    rcases h2.2 with ⟨e', _⟩ | ⟨g', cap', cur', e', _, hc', _⟩
    · rw [e, e'] at q; cases q
    · rw [e, e'] at q
      injection q with q
      have q : g = g' := q
      subst q
      rw [hc] at hc'
      injection hc' with hc'
      injection hc' with _ h3 _
      exact hT h3
/-- What the reference's count of nodes is. -/
def Ht.nodes (budget : Int) (s : Ht.S) : Int := if s.spent then budget + 1 else budget - s.left
theorem heap_setX {w : World} {b j : Nat} {vs : Array Value} {T : TypeId} (v : Value) (h : w.heap[b]? = some (.cells vs T (0, 0))) : (w.setCell ⟨b, j, none⟩ v).heap[b]? = some (.cells (vs.setIfInBounds j v) T (0, 0)) := by
  simp [World.setCell, Array.getElem?_modify, h]
theorem own_farX {α : Type} {enc : α → List Value} {sz : Nat} {T : TypeId} {w w' : World} {b : Nat} {v : Value} {xs : List α} (h : Own enc sz T w (b + 1) v xs) (hg : w.grownBy w' (some b)) : Own enc sz T w' (b + 1) v xs := by
  refine h.kept hg ?_
  cases e : v.ownBlock with
  | none => exact .inl rfl
  | some g => exact .inr fun q => by injection q with q; have := (h.lt g e).1; omega
theorem own_neB {α : Type} {enc : α → List Value} {sz : Nat} {T T' : TypeId} {w : World} {B b : Nat} {v : Value} {xs : List α} {cs : Array Value} {fr : Nat × Nat} (h : Own enc sz T w B v xs) (hk : w.heap[b]? = some (.cells cs T' fr)) (hT : T' ≠ T) : v.ownBlock = none ∨ v.ownBlock ≠ some b := by
  rcases h.2 with ⟨e, _⟩ | ⟨g, cap, cur, e, _, hc, _⟩
  · left; rw [e]; rfl
  · right
    rw [e]
    intro q
    injection q with q
    have q : g = b := q
    subst q
    rw [hc] at hk
    injection hk with hk
    injection hk with _ h3 _
    exact hT h3.symm
theorem own_farT {α : Type} {enc : α → List Value} {sz : Nat} {T T' : TypeId} {w w' : World} {B b : Nat} {v : Value} {xs : List α} {cs : Array Value} {fr : Nat × Nat} (h : Own enc sz T w B v xs) (hk : w.heap[b]? = some (.cells cs T' fr)) (hT : T' ≠ T) (hg : w.grownBy w' (some b)) : Own enc sz T w' B v xs :=
  h.kept hg (own_neB h hk hT)
theorem heap_other {w : World} {b g j : Nat} {x : Value} (h : g ≠ b) : (w.setCell ⟨b, j, none⟩ x).heap[g]? = w.heap[g]? := by
  simp [World.setCell, Array.getElem?_modify, Ne.symm h]
/-- The searching struct in block b. -/
structure HtX (w0 : World) (b : Nat) (A : Option Addr) (n c : Nat) (A1 : Option Addr) (m c1 : Nat) (fA : Option Addr) (fc : Nat) (dA : Option Addr) (dc : Nat) (first : Bool) (budget : Int) (w : World) (hv : Option Addr) (hc : Nat) (hs : List HeatR) (bv : Option Addr) (bc : Nat) (fs : List Int) (ds : List Bool) (le : Int) (s : Ht.S) : Prop where
  st : w.heap[b]? = some (.cells #[.slice A n c, .slice A1 m c1, .slice fA m fc, .slice dA n dc, .slice hv hs.length hc, .bool first, .int .i64 s.count, .slice bv s.best.length bc, .int .i64 le, .int .i64 (Ht.nodes budget s), .int .i64 budget] 92 (0, 0))
  of_ : OwnI w w0.heap.size (.slice fA m fc) fs
  od : OwnB w w0.heap.size (.slice dA n dc) ds
  oh : OwnH w (b + 1) (.slice hv hs.length hc) hs
  ob : OwnH w (b + 1) (.slice bv s.best.length bc) s.best
  ap : ∀ g, (Value.slice bv s.best.length bc).ownBlock = some g → (Value.slice hv hs.length hc).ownBlock ≠ some g
  fl : fs.length = m
  dl : ds.length = n
  inv : Ht.Inv s
  bud : s.left ≤ budget ∧ budget ≤ 20000
  bel : Below w0.heap.size w0 w
  hb : w0.heap.size ≤ b
section
variable {w0 : World} {b : Nat} {A : Option Addr} {n c : Nat} {A1 : Option Addr} {m c1 : Nat} {fA : Option Addr} {fc : Nat} {dA : Option Addr} {dc : Nat} {first : Bool} {budget : Int} {w : World} {hv : Option Addr} {hc : Nat} {hs : List HeatR} {bv : Option Addr} {bc : Nat} {fs : List Int} {ds : List Bool} {le : Int} {s : Ht.S}
theorem HtX.lt (h : HtX w0 b A n c A1 m c1 fA fc dA dc first budget w hv hc hs bv bc fs ds le s) : b < w.heap.size := heap_lt h.st
theorem HtX.below {w' : World} (h : HtX w0 b A n c A1 m c1 fA fc dA dc first budget w hv hc hs bv bc fs ds le s) (hb : Below w.heap.size w w') : HtX w0 b A n c A1 m c1 fA fc dA dc first budget w' hv hc hs bv bc fs ds le s :=
  ⟨(hb.block b h.lt).trans h.st, h.of_.below hb, h.od.below hb, h.oh.below hb, h.ob.below hb, h.ap, h.fl, h.dl, h.inv, h.bud, h.bel.trans (hb.mono h.bel.size), h.hb⟩
theorem HtX.leastTo (h : HtX w0 b A n c A1 m c1 fA fc dA dc first budget w hv hc hs bv bc fs ds le s) (l : Int) : HtX w0 b A n c A1 m c1 fA fc dA dc first budget (w.setCell ⟨b, 8, none⟩ (.int .i64 l)) hv hc hs bv bc fs ds l s :=
  have hg := grown_set (grown_refl w (some b)) 8 (.int .i64 l)
  ⟨heap_setX _ h.st, own_farT h.of_ h.st (by decide) hg, own_farT h.od h.st (by decide) hg, own_farX h.oh hg, own_farX h.ob hg, h.ap, h.fl, h.dl, h.inv, h.bud, h.bel.setCell h.hb _, h.hb⟩
/-- A node is counted. -/
theorem HtX.node {left count : Int} {best : List HeatR} {nd : Int} (h : HtX w0 b A n c A1 m c1 fA fc dA dc first budget w hv hc hs bv bc fs ds le ⟨left, false, count, best⟩) (h0 : left ≠ 0) (hn : nd = Ht.nodes budget ⟨left, false, count, best⟩ + 1) : HtX w0 b A n c A1 m c1 fA fc dA dc first budget (w.setCell ⟨b, 9, none⟩ (.int .i64 nd)) hv hc hs bv bc fs ds le ⟨left - 1, false, count, best⟩ := by
  have hg := grown_set (grown_refl w (some b)) 9 (.int .i64 nd)
  obtain ⟨i1, i2, i3, i4⟩ := h.inv
  obtain ⟨u1, u2⟩ := h.bud
  simp only at i1 i2 i3 i4 u1
  have e : nd = Ht.nodes budget ⟨left - 1, false, count, best⟩ := by rw [hn]; simp only [Ht.nodes]; simp; omega
  rw [e] at hg ⊢
  exact ⟨heap_setX _ h.st, own_farT h.of_ h.st (by decide) hg, own_farT h.od h.st (by decide) hg, own_farX h.oh hg, own_farX h.ob hg, h.ap, h.fl, h.dl, ⟨by simp only; omega, i2, by simp only; omega, i4⟩, ⟨by simp only; omega, u2⟩, h.bel.setCell h.hb _, h.hb⟩
/-- There was no node left. -/
theorem HtX.over {count : Int} {best : List HeatR} {nd : Int} (h : HtX w0 b A n c A1 m c1 fA fc dA dc first budget w hv hc hs bv bc fs ds le ⟨0, false, count, best⟩) (hn : nd = Ht.nodes budget ⟨0, false, count, best⟩ + 1) : HtX w0 b A n c A1 m c1 fA fc dA dc first budget (w.setCell ⟨b, 9, none⟩ (.int .i64 nd)) hv hc hs bv bc fs ds le ⟨0, true, count, best⟩ := by
  have hg := grown_set (grown_refl w (some b)) 9 (.int .i64 nd)
  have e : nd = Ht.nodes budget ⟨0, true, count, best⟩ := by rw [hn]; simp [Ht.nodes]
  rw [e] at hg ⊢
  exact ⟨heap_setX _ h.st, own_farT h.of_ h.st (by decide) hg, own_farT h.od h.st (by decide) hg, own_farX h.oh hg, own_farX h.ob hg, h.ap, h.fl, h.dl, h.inv, h.bud, h.bel.setCell h.hb _, h.hb⟩
/-- One more schedule. -/
theorem HtX.count1 {left count : Int} {best : List HeatR} (h : HtX w0 b A n c A1 m c1 fA fc dA dc first budget w hv hc hs bv bc fs ds le ⟨left, false, count, best⟩) (hq : count + left ≤ 19999) : HtX w0 b A n c A1 m c1 fA fc dA dc first budget (w.setCell ⟨b, 6, none⟩ (.int .i64 (count + 1))) hv hc hs bv bc fs ds le ⟨left, false, count + 1, best⟩ := by
  have hg := grown_set (grown_refl w (some b)) 6 (.int .i64 (count + 1))
  obtain ⟨i1, i2, i3, i4⟩ := h.inv
  simp only at i1 i2 i3 i4
  exact ⟨heap_setX _ h.st, own_farT h.of_ h.st (by decide) hg, own_farT h.od h.st (by decide) hg, own_farX h.oh hg, own_farX h.ob hg, h.ap, h.fl, h.dl, ⟨i1, by simp only; omega, by simp only; omega, i4⟩, h.bud, h.bel.setCell h.hb _, h.hb⟩
theorem HtX.best1 {w' : World} {A' : Option Addr} {c' : Nat} {left count : Int} {best : List HeatR} (h : HtX w0 b A n c A1 m c1 fA fc dA dc first budget w hv hc hs bv bc fs ds le ⟨left, false, count, best⟩) (ho : OwnH w' w.heap.size (.slice A' hs.length c') hs) (hb : Below w.heap.size w w') (hl : hs.length ≤ 12) : HtX w0 b A n c A1 m c1 fA fc dA dc first budget (w'.setCell ⟨b, 7, none⟩ (.slice A' hs.length c')) hv hc hs A' c' fs ds le ⟨left, false, count, hs⟩ := by
  have h' := h.below hb
  have hg := grown_set (grown_refl w' (some b)) 7 (.slice A' hs.length c')
  have hl := h.lt
  obtain ⟨i1, i2, i3, i4⟩ := h.inv
  exact ⟨heap_setX _ h'.st, own_farT h'.of_ h'.st (by decide) hg, own_farT h'.od h'.st (by decide) hg, own_farX h'.oh hg, own_farX (ho.mono (by omega)) hg, fun g e q => by have := (ho.lt g e).1; have := (h.oh.lt g q).2; omega, h.fl, h.dl, ⟨i1, i2, i3, by assumption⟩, h'.bud, h'.bel.setCell h'.hb _, h'.hb⟩
/-- One heat more. -/
theorem HtX.push {w' : World} {A' : Option Addr} {c' : Nat} {y : HeatR} (h : HtX w0 b A n c A1 m c1 fA fc dA dc first budget w hv hc hs bv bc fs ds le s) (ho : OwnH w' (b + 1) (.slice A' (hs.length + 1) c') (hs ++ [y])) (hb : Below (b + 1) w w') (hg : w.grownBy w' (Value.slice hv hs.length hc).ownBlock)
    (hat : (Value.slice A' (hs.length + 1) c').ownBlock = (Value.slice hv hs.length hc).ownBlock ∨ ∃ g, (Value.slice A' (hs.length + 1) c').ownBlock = some g ∧ w.heap.size ≤ g) : HtX w0 b A n c A1 m c1 fA fc dA dc first budget (w'.setCell ⟨b, 4, none⟩ (.slice A' (hs.length + 1) c')) A' c' (hs ++ [y]) bv bc fs ds le s := by
  have hg2 := grown_set (grown_refl w' (some b)) 4 (.slice A' (hs.length + 1) c')
  have hl : (hs ++ [y]).length = hs.length + 1 := by simp
  have hst : w'.heap[b]? = _ := (hb.block b (by omega)).trans h.st
  have hob : OwnH w' (b + 1) (.slice bv s.best.length bc) s.best := h.ob.kept hg (by
    cases e : (Value.slice bv s.best.length bc).ownBlock with
    | none => exact .inl rfl
    | some g => exact .inr fun q => h.ap g e q.symm)
  have hof : OwnI w' w0.heap.size (.slice fA m fc) fs := h.of_.kept hg (own_apart h.of_ h.oh (by decide))
  have hod : OwnB w' w0.heap.size (.slice dA n dc) ds := h.od.kept hg (own_apart h.od h.oh (by decide))
  refine ⟨?_, own_farT hof hst (by decide) hg2, own_farT hod hst (by decide) hg2, ?_, own_farX hob hg2, ?_, h.fl, h.dl, h.inv, h.bud, (h.bel.trans (hb.mono (by have := h.hb; omega))).setCell h.hb _, h.hb⟩
  · rw [hl]; exact heap_setX _ hst
  · rw [hl]; exact own_farX ho hg2
  · intro g e q
    rw [hl] at q
    rcases hat with e2 | ⟨g2, e2, hz⟩
    · rw [e2] at q; exact h.ap g e q
    · rw [e2] at q
      injection q with q
      have := (h.ob.lt g e).2
      omega
/-- The last one is taken back. -/
theorem HtX.pop {y : HeatR} {l : Nat} (h : HtX w0 b A n c A1 m c1 fA fc dA dc first budget w hv hc (hs ++ [y]) bv bc fs ds le s) (hl : l = hs.length) : HtX w0 b A n c A1 m c1 fA fc dA dc first budget (w.setCell ⟨b, 4, none⟩ (.slice hv l hc)) hv hc hs bv bc fs ds le s := by
  subst hl
  have hg := grown_set (grown_refl w (some b)) 4 (.slice hv hs.length hc)
  exact ⟨heap_setX _ h.st, own_farT h.of_ h.st (by decide) hg, own_farT h.od h.st (by decide) hg, own_farX (own_short (fun _ => rfl) h.oh rfl) hg, own_farX h.ob hg, fun g e q => h.ap g e (by cases hv with | none => simp [Value.ownBlock] at q | some a => exact q), h.fl, h.dl, h.inv, h.bud, h.bel.setCell h.hb _, h.hb⟩
/-- A time is written. -/
theorem HtX.setF {g k : Nat} (h : HtX w0 b A n c A1 m c1 (some ⟨g, 0, none⟩) fc dA dc first budget w hv hc hs bv bc fs ds le s) (v : Int) : HtX w0 b A n c A1 m c1 (some ⟨g, 0, none⟩) fc dA dc first budget (w.setCell ⟨g, k, none⟩ (.int .i64 v)) hv hc hs bv bc (fs.set k v) ds le s := by
  have hg := grown_set (grown_refl w (some g)) k (.int .i64 v)
  have hgb := (h.of_.lt g rfl).1
  have hne : b ≠ g := fun q => by
    rcases own_neB h.of_ h.st (by decide) with e | e
    · cases e
    · exact e (by rw [q]; rfl)
  exact ⟨(heap_other hne).trans h.st, own_set1 (fun _ => rfl) h.of_ v, h.od.kept hg (own_apart h.od h.of_ (by decide)), h.oh.kept hg (own_apart h.oh h.of_ (by decide)), h.ob.kept hg (own_apart h.ob h.of_ (by decide)), h.ap, by rw [List.length_set]; exact h.fl, h.dl, h.inv, h.bud, h.bel.setCell hgb _, h.hb⟩
/-- Whether a pour is done is written. -/
theorem HtX.setD {g k : Nat} (h : HtX w0 b A n c A1 m c1 fA fc (some ⟨g, 0, none⟩) dc first budget w hv hc hs bv bc fs ds le s) (v : Bool) : HtX w0 b A n c A1 m c1 fA fc (some ⟨g, 0, none⟩) dc first budget (w.setCell ⟨g, k, none⟩ (.bool v)) hv hc hs bv bc fs (ds.set k v) le s := by
  have hg := grown_set (grown_refl w (some g)) k (.bool v)
  have hgb := (h.od.lt g rfl).1
  have hne : b ≠ g := fun q => by
    rcases own_neB h.od h.st (by decide) with e | e
    · cases e
    · exact e (by rw [q]; rfl)
  exact ⟨(heap_other hne).trans h.st, h.of_.kept hg (own_apart h.of_ h.od (by decide)), own_set1 (fun _ => rfl) h.od v, h.oh.kept hg (own_apart h.oh h.od (by decide)), h.ob.kept hg (own_apart h.ob h.od (by decide)), h.ap, h.fl, by rw [List.length_set]; exact h.dl, h.inv, h.bud, h.bel.setCell hgb _, h.hb⟩
end
end Go.Proofs.Ytklmbgefdopifaa
