/- The reference's search for the greatest force: the state of its struct, what each store does to it. -/
import Derived.Test.YtjklhacffdhgaaaPuK
import Derived.Test.YtjklhacffdhgaaaChRX
namespace Go.Proofs.Ytjklhacffdhgaaa
open Go.RowKit

namespace Pu
variable {s : S} {c : Bool} {next : S → S}
theorem enter_no (h : c = false) : enter c next s = s := by rw [nodeB_no (node_1 h).1, (node_1 h).2]
theorem enter_spent (h : s.spent = true) : enter c next s = s := by rw [nodeB_no (node_2 h).1, (node_2 h).2]
theorem enter_full (h : c = true) (h1 : s.left = 0) : enter c next s = { s with spent := true } := by
  cases hs : s.spent
  · rw [nodeB_no (node_3 h hs h1).1, (node_3 h hs h1).2]
  · rw [enter_spent hs]; cases s; simp only at hs; subst hs; rfl
theorem enter_go (h : c = true) (h1 : s.spent = false) (h2 : s.left ≠ 0) : enter c next s = next { s with left := s.left - 1 } := by rw [nodeB_yes (node_4 h h1 h2).1, (node_4 h h1 h2).2]
end Pu
/-- The cells of the reference's struct. -/
def puCellsX (lA : Option Addr) (lc : Nat) (aA : Option Addr) (ac : Nat) (rA : Option Addr) (rc n : Nat) (lim : Int) (tv : Option Addr) (tl tc : Nat) (sway force : Int) (bv : Option Addr) (bl bc : Nat) (most nodes bud : Int) (full : Bool) : Array Value :=
  #[.slice lA n lc, .slice aA n ac, .slice rA (n + 1) rc, .int .i64 lim, .slice tv tl tc, .int .i64 sway, .int .i64 force, .slice bv bl bc, .int .i64 most, .int .i64 nodes, .int .i64 bud, .bool full]
structure PuX (w0 : World) (b : Nat) (lA : Option Addr) (lc : Nat) (aA : Option Addr) (ac : Nat) (rA : Option Addr) (rc n : Nat) (lim bud : Int) (w : World) (tv : Option Addr) (tc : Nat) (taken : List Int) (sway force : Int) (bv : Option Addr) (bc : Nat) (s : Pu.S) : Prop where
  st : w.heap[b]? = some (.cells (puCellsX lA lc aA ac rA rc n lim tv taken.length tc sway force bv s.best.length bc s.most (bud - s.left) bud s.spent) 158 (0, 0))
  ot : OwnI w w0.heap.size (.slice tv taken.length tc) taken
  ob : OwnI w w0.heap.size (.slice bv s.best.length bc) s.best
  ap : ∀ g, (Value.slice bv s.best.length bc).ownBlock = some g → (Value.slice tv taken.length tc).ownBlock ≠ some g
  inv : Pu.Inv s
  sp : s.spent = true → s.left = 0
  bd : s.left ≤ bud ∧ bud ≤ 20000
  gr : w0.grownBy w (some b)
  hb : b < w0.heap.size
section
variable {w0 : World} {b : Nat} {lA aA rA : Option Addr} {lc ac rc n : Nat} {lim bud : Int} {w : World} {tv : Option Addr} {tc : Nat} {taken : List Int} {sway force : Int} {bv : Option Addr} {bc : Nat} {s : Pu.S}
theorem PuX.lt (h : PuX w0 b lA lc aA ac rA rc n lim bud w tv tc taken sway force bv bc s) : b < w.heap.size := heap_lt h.st
theorem PuX.below {w' : World} (h : PuX w0 b lA lc aA ac rA rc n lim bud w tv tc taken sway force bv bc s) (hb : Below w.heap.size w w') : PuX w0 b lA lc aA ac rA rc n lim bud w' tv tc taken sway force bv bc s :=
  ⟨(hb.block b h.lt).trans h.st, h.ot.below hb, h.ob.below hb, h.ap, h.inv, h.sp, h.bd, grown_trans h.gr (grown_of_below hb _), h.hb⟩
theorem PuX.drew (h : PuX w0 b lA lc aA ac rA rc n lim bud w tv tc taken sway force bv bc s) : PuX w0 b lA lc aA ac rA rc n lim bud w.drew tv tc taken sway force bv bc s := h.below (Below.refl _ _).drew
theorem PuX.full (h : PuX w0 b lA lc aA ac rA rc n lim bud w tv tc taken sway force bv bc s) (h0 : s.left = 0) : PuX w0 b lA lc aA ac rA rc n lim bud (w.setCell ⟨b, 11, none⟩ (.bool true)) tv tc taken sway force bv bc { s with spent := true } :=
  have hg := grown_set (grown_refl w (some b)) 11 (.bool true)
  ⟨heap_set' _ h.st, own_b h.ot h.hb hg, own_b h.ob h.hb hg, h.ap, h.inv, fun _ => h0, h.bd, grown_set h.gr _ _, h.hb⟩
theorem PuX.node (h : PuX w0 b lA lc aA ac rA rc n lim bud w tv tc taken sway force bv bc s) (h0 : s.left ≠ 0) (nd : Int) (hn : nd = bud - s.left + 1) : PuX w0 b lA lc aA ac rA rc n lim bud (w.setCell ⟨b, 9, none⟩ (.int .i64 nd)) tv tc taken sway force bv bc { s with left := s.left - 1 } := by
  have hg := grown_set (grown_refl w (some b)) 9 (.int .i64 nd)
  obtain ⟨i1, i2, i3⟩ := h.inv
  obtain ⟨u1, u2⟩ := h.bd
  have e : nd = bud - (s.left - 1) := by omega
  refine ⟨?_, own_b h.ot h.hb hg, own_b h.ob h.hb hg, h.ap, ⟨by simp only; omega, by simp only; omega, i3⟩, fun q => absurd (h.sp q) h0, ⟨by simp only; omega, u2⟩, grown_set h.gr _ _, h.hb⟩
  rw [e]
  exact heap_set' _ h.st
theorem PuX.most (h : PuX w0 b lA lc aA ac rA rc n lim bud w tv tc taken sway force bv bc s) (m : Int) (h0 : -1 ≤ m) (h1 : m ≤ 100000000) : PuX w0 b lA lc aA ac rA rc n lim bud (w.setCell ⟨b, 8, none⟩ (.int .i64 m)) tv tc taken sway force bv bc { s with most := m } := by
  have hg := grown_set (grown_refl w (some b)) 8 (.int .i64 m)
  obtain ⟨i1, i2, i3, i4, i5⟩ := h.inv
  exact ⟨heap_set' _ h.st, own_b h.ot h.hb hg, own_b h.ob h.hb hg, h.ap, ⟨i1, i2, h0, h1, i5⟩, h.sp, h.bd, grown_set h.gr _ _, h.hb⟩
theorem PuX.swayTo (h : PuX w0 b lA lc aA ac rA rc n lim bud w tv tc taken sway force bv bc s) (y : Int) : PuX w0 b lA lc aA ac rA rc n lim bud (w.setCell ⟨b, 5, none⟩ (.int .i64 y)) tv tc taken y force bv bc s := by
  have hg := grown_set (grown_refl w (some b)) 5 (.int .i64 y)
  exact ⟨heap_set' _ h.st, own_b h.ot h.hb hg, own_b h.ob h.hb hg, h.ap, h.inv, h.sp, h.bd, grown_set h.gr _ _, h.hb⟩
theorem PuX.forceTo (h : PuX w0 b lA lc aA ac rA rc n lim bud w tv tc taken sway force bv bc s) (y : Int) : PuX w0 b lA lc aA ac rA rc n lim bud (w.setCell ⟨b, 6, none⟩ (.int .i64 y)) tv tc taken sway y bv bc s := by
  have hg := grown_set (grown_refl w (some b)) 6 (.int .i64 y)
  exact ⟨heap_set' _ h.st, own_b h.ot h.hb hg, own_b h.ob h.hb hg, h.ap, h.inv, h.sp, h.bd, grown_set h.gr _ _, h.hb⟩
theorem PuX.best {w' : World} {A' : Option Addr} {c' : Nat} (h : PuX w0 b lA lc aA ac rA rc n lim bud w tv tc taken sway force bv bc s) (ho : OwnI w' w.heap.size (.slice A' taken.length c') taken) (hb : Below w.heap.size w w') (hl : taken.length ≤ 16) : PuX w0 b lA lc aA ac rA rc n lim bud (w'.setCell ⟨b, 7, none⟩ (.slice A' taken.length c')) tv tc taken sway force A' c' { s with best := taken } := by
  have h' := h.below hb
  have hg := grown_set (grown_refl w' (some b)) 7 (.slice A' taken.length c')
  have hz := h.gr.size
  obtain ⟨i1, i2, i3, i4, i5⟩ := h.inv
  exact ⟨heap_set' _ h'.st, own_b h'.ot h.hb hg, own_b (ho.mono hz) h.hb hg, fun g e q => by have := (ho.lt g e).1; have := (h.ot.lt g q).2; omega, ⟨i1, i2, i3, i4, hl⟩, h.sp, h.bd, grown_set h'.gr _ _, h.hb⟩
theorem PuX.push {w' : World} {A' : Option Addr} {c' : Nat} {y : Int} (h : PuX w0 b lA lc aA ac rA rc n lim bud w tv tc taken sway force bv bc s) (ho : OwnI w' w0.heap.size (.slice A' (taken.length + 1) c') (taken ++ [y])) (hb : Below w0.heap.size w w') (hg : w.grownBy w' (Value.slice tv taken.length tc).ownBlock)
    (hat : (Value.slice A' (taken.length + 1) c').ownBlock = (Value.slice tv taken.length tc).ownBlock ∨ ∃ g, (Value.slice A' (taken.length + 1) c').ownBlock = some g ∧ w.heap.size ≤ g) : PuX w0 b lA lc aA ac rA rc n lim bud (w'.setCell ⟨b, 4, none⟩ (.slice A' (taken.length + 1) c')) A' c' (taken ++ [y]) sway force bv bc s := by
  have hg2 := grown_set (grown_refl w' (some b)) 4 (.slice A' (taken.length + 1) c')
  have hl : (taken ++ [y]).length = taken.length + 1 := by simp
  have hst : w'.heap[b]? = _ := (hb.block b h.hb).trans h.st
  have hob : OwnI w' w0.heap.size (.slice bv s.best.length bc) s.best := h.ob.kept hg (by
    cases e : (Value.slice bv s.best.length bc).ownBlock with
    | none => exact .inl rfl
    | some g => exact .inr fun q => h.ap g e q.symm)
  have hgr : w0.grownBy w' (some b) := ⟨hg.os.trans h.gr.os, hg.tape.trans h.gr.tape, hg.output.trans h.gr.output, Nat.le_trans h.gr.size hg.size, fun i hi hn => (hb.block i hi).trans (h.gr.block i hi hn)⟩
  refine ⟨?_, ?_, own_b hob h.hb hg2, ?_, h.inv, h.sp, h.bd, grown_set hgr _ _, h.hb⟩
  · rw [hl]; exact heap_set' _ hst
  · rw [hl]; exact own_b ho h.hb hg2
  · intro g e q
    rw [hl] at q
    rcases hat with e2 | ⟨g2, e2, hz⟩
    · rw [e2] at q; exact h.ap g e q
    · rw [e2] at q
      injection q with q
      have := (h.ob.lt g e).2
      omega
theorem PuX.pop {y : Int} {l : Nat} (h : PuX w0 b lA lc aA ac rA rc n lim bud w tv tc (taken ++ [y]) sway force bv bc s) (hl : l = taken.length) : PuX w0 b lA lc aA ac rA rc n lim bud (w.setCell ⟨b, 4, none⟩ (.slice tv l tc)) tv tc taken sway force bv bc s := by
  subst hl
  have hg := grown_set (grown_refl w (some b)) 4 (.slice tv taken.length tc)
  exact ⟨heap_set' _ h.st, own_b (own_short (fun _ => rfl) h.ot rfl) h.hb hg, own_b h.ob h.hb hg, fun g e q => h.ap g e (by cases tv with | none => simp [Value.ownBlock] at q | some a => exact q), h.inv, h.sp, h.bd, grown_set h.gr _ _, h.hb⟩
end
end Go.Proofs.Ytjklhacffdhgaaa
