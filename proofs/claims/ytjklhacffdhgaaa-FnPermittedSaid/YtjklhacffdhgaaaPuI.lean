/- The program's search for the greatest force: the state of its struct, what each store does to it. -/
import Derived.Test.YtjklhacffdhgaaaTotal
import Derived.Test.YtjklhacffdhgaaaChI
import Derived.Test.YtjklhacffdhgaaaChX
import Derived.Test.YtjklhacffdhgaaaPuS
import Derived.Deep.DeepCutAuto
import Derived.Deep.AppendLies
import Derived.Deep.RegionLaw
namespace Go.Proofs.Ytjklhacffdhgaaa
open Go.RowKit

theorem sumF_eq (l : List Int) : Pu.sumF l = sumI l := by
  induction l with
  | nil => rfl
  | cons x l ih => simp only [Pu.sumF, sumI, ih]
theorem rest_bd {fs : List Int} {k : Nat} (h : ∀ x ∈ fs, 0 ≤ x ∧ x ≤ 1000000) (hn : fs.length ≤ 16) : 0 ≤ Pu.rest fs k ∧ Pu.rest fs k ≤ 16000000 := by
  unfold Pu.rest
  rw [sumF_eq]
  have := sumI_bd (l := fs.drop (k + 1)) (M := 1000000) fun x hx => h x (List.mem_of_mem_drop hx)
  have hl : (fs.drop (k + 1)).length ≤ 16 := by rw [List.length_drop]; omega
  omega
/-- The searching struct in block b; the rows of forces and amplitudes lie below B. -/
structure PuI (w0 : World) (b : Nat) (fA : Option Addr) (fc : Nat) (aA : Option Addr) (ac n : Nat) (lim : Int) (w : World) (tv : Option Addr) (tc : Nat) (taken : List Int) (bv : Option Addr) (bc : Nat) (s : Pu.S) : Prop where
  st : w.heap[b]? = some (.cells #[.int .i64 s.left, .bool s.spent, .slice fA n fc, .slice aA n ac, .int .i64 lim, .slice tv taken.length tc, .slice bv s.best.length bc, .int .i64 s.most] 166 (0, 0))
  ot : OwnI w w0.heap.size (.slice tv taken.length tc) taken
  ob : OwnI w w0.heap.size (.slice bv s.best.length bc) s.best
  ap : ∀ g, (Value.slice bv s.best.length bc).ownBlock = some g → (Value.slice tv taken.length tc).ownBlock ≠ some g
  inv : Pu.Inv s
  gr : w0.grownBy w (some b)
  hb : b < w0.heap.size
theorem own_b {w w' : World} {b B : Nat} {v : Value} {xs : List Int} (h : OwnI w B v xs) (hb : b < B) (hg : w.grownBy w' (some b)) : OwnI w' B v xs := by
  refine h.kept hg ?_
  cases e : v.ownBlock with
  | none => exact .inl rfl
  | some g => exact .inr fun q => by injection q with q; have := (h.lt g e).1; omega
section
variable {w0 : World} {b : Nat} {fA aA : Option Addr} {fc ac n : Nat} {lim : Int} {w : World} {tv : Option Addr} {tc : Nat} {taken : List Int} {bv : Option Addr} {bc : Nat} {s : Pu.S}
theorem PuI.lt (h : PuI w0 b fA fc aA ac n lim w tv tc taken bv bc s) : b < w.heap.size := heap_lt h.st
theorem PuI.below {w' : World} (h : PuI w0 b fA fc aA ac n lim w tv tc taken bv bc s) (hb : Below w.heap.size w w') : PuI w0 b fA fc aA ac n lim w' tv tc taken bv bc s :=
  ⟨(hb.block b h.lt).trans h.st, h.ot.below hb, h.ob.below hb, h.ap, h.inv, grown_trans h.gr (grown_of_below hb _), h.hb⟩
theorem PuI.drew (h : PuI w0 b fA fc aA ac n lim w tv tc taken bv bc s) : PuI w0 b fA fc aA ac n lim w.drew tv tc taken bv bc s := h.below (Below.refl _ _).drew
theorem PuI.spend (h : PuI w0 b fA fc aA ac n lim w tv tc taken bv bc s) : PuI w0 b fA fc aA ac n lim (w.setCell ⟨b, 1, none⟩ (.bool true)) tv tc taken bv bc { s with spent := true } :=
  have hg := grown_set (grown_refl w (some b)) 1 (.bool true)
  ⟨heap_set' _ h.st, own_b h.ot h.hb hg, own_b h.ob h.hb hg, h.ap, h.inv, grown_set h.gr _ _, h.hb⟩
theorem PuI.count (h : PuI w0 b fA fc aA ac n lim w tv tc taken bv bc s) (h0 : s.left ≠ 0) : PuI w0 b fA fc aA ac n lim (w.setCell ⟨b, 0, none⟩ (.int .i64 (s.left - 1))) tv tc taken bv bc { s with left := s.left - 1 } := by
  have hg := grown_set (grown_refl w (some b)) 0 (.int .i64 (s.left - 1))
  obtain ⟨i1, i2, i3⟩ := h.inv
  exact ⟨heap_set' _ h.st, own_b h.ot h.hb hg, own_b h.ob h.hb hg, h.ap, ⟨by simp only; omega, by simp only; omega, i3⟩, grown_set h.gr _ _, h.hb⟩
theorem PuI.most (h : PuI w0 b fA fc aA ac n lim w tv tc taken bv bc s) (m : Int) (h0 : -1 ≤ m) (h1 : m ≤ 100000000) : PuI w0 b fA fc aA ac n lim (w.setCell ⟨b, 7, none⟩ (.int .i64 m)) tv tc taken bv bc { s with most := m } := by
  have hg := grown_set (grown_refl w (some b)) 7 (.int .i64 m)
  obtain ⟨i1, i2, i3, i4, i5⟩ := h.inv
  exact ⟨heap_set' _ h.st, own_b h.ot h.hb hg, own_b h.ob h.hb hg, h.ap, ⟨i1, i2, h0, h1, i5⟩, grown_set h.gr _ _, h.hb⟩
theorem PuI.best {w' : World} {A' : Option Addr} {c' : Nat} (h : PuI w0 b fA fc aA ac n lim w tv tc taken bv bc s) (ho : OwnI w' w.heap.size (.slice A' taken.length c') taken) (hb : Below w.heap.size w w') (hl : taken.length ≤ 16) : PuI w0 b fA fc aA ac n lim (w'.setCell ⟨b, 6, none⟩ (.slice A' taken.length c')) tv tc taken A' c' { s with best := taken } := by
  have h' := h.below hb
  have hg := grown_set (grown_refl w' (some b)) 6 (.slice A' taken.length c')
  have hz := h.gr.size
  obtain ⟨i1, i2, i3, i4, i5⟩ := h.inv
  exact ⟨heap_set' _ h'.st, own_b h'.ot h.hb hg, own_b (ho.mono hz) h.hb hg, fun g e q => by have := (ho.lt g e).1; have := (h.ot.lt g q).2; omega, ⟨i1, i2, i3, i4, hl⟩, grown_set h'.gr _ _, h.hb⟩
theorem PuI.push {w' : World} {A' : Option Addr} {c' : Nat} {y : Int} (h : PuI w0 b fA fc aA ac n lim w tv tc taken bv bc s) (ho : OwnI w' w0.heap.size (.slice A' (taken.length + 1) c') (taken ++ [y])) (hb : Below w0.heap.size w w') (hg : w.grownBy w' (Value.slice tv taken.length tc).ownBlock)
    (hat : (Value.slice A' (taken.length + 1) c').ownBlock = (Value.slice tv taken.length tc).ownBlock ∨ ∃ g, (Value.slice A' (taken.length + 1) c').ownBlock = some g ∧ w.heap.size ≤ g) : PuI w0 b fA fc aA ac n lim (w'.setCell ⟨b, 5, none⟩ (.slice A' (taken.length + 1) c')) A' c' (taken ++ [y]) bv bc s := by
  have hg2 := grown_set (grown_refl w' (some b)) 5 (.slice A' (taken.length + 1) c')
  have hl : (taken ++ [y]).length = taken.length + 1 := by simp
  have hst : w'.heap[b]? = _ := (hb.block b h.hb).trans h.st
  have hob : OwnI w' w0.heap.size (.slice bv s.best.length bc) s.best := h.ob.kept hg (by
    cases e : (Value.slice bv s.best.length bc).ownBlock with
    | none => exact .inl rfl
    | some g => exact .inr fun q => h.ap g e q.symm)
  have hgr : w0.grownBy w' (some b) := ⟨hg.os.trans h.gr.os, hg.tape.trans h.gr.tape, hg.output.trans h.gr.output, Nat.le_trans h.gr.size hg.size, fun i hi hn => (hb.block i hi).trans (h.gr.block i hi hn)⟩
  refine ⟨?_, ?_, own_b hob h.hb hg2, ?_, h.inv, grown_set hgr _ _, h.hb⟩
  · rw [hl]; exact heap_set' _ hst
  · rw [hl]; exact own_b ho h.hb hg2
  · intro g e q
    rw [hl] at q
    rcases hat with e2 | ⟨g2, e2, hz⟩
    · rw [e2] at q; exact h.ap g e q
    · rw [e2] at q
      injection q with q
      have := (h.ob.lt g e).2
      omega
theorem PuI.pop {y : Int} {l : Nat} (h : PuI w0 b fA fc aA ac n lim w tv tc (taken ++ [y]) bv bc s) (hl : l = taken.length) : PuI w0 b fA fc aA ac n lim (w.setCell ⟨b, 5, none⟩ (.slice tv l tc)) tv tc taken bv bc s := by
  subst hl
  have hg := grown_set (grown_refl w (some b)) 5 (.slice tv taken.length tc)
  exact ⟨heap_set' _ h.st, own_b (own_short (fun _ => rfl) h.ot rfl) h.hb hg, own_b h.ob h.hb hg, fun g e q => h.ap g e (by cases tv with | none => simp [Value.ownBlock] at q | some a => exact q), h.inv, grown_set h.gr _ _, h.hb⟩
end
/-- What a call of the search is to show. -/
def PullPost (w0 : World) (b : Nat) (fA : Option Addr) (fc : Nat) (aA : Option Addr) (ac : Nat) (lim : Int) (fs am : List Int) (f k : Nat) (taken : List Int) (force sway : Int) (s : Pu.S) (e : Ending) (w' : World) : Prop :=
  e = .returned (.tuple #[]) ∧ ∃ (tv' : Option Addr) (tc' : Nat) (bv' : Option Addr) (bc' : Nat), PuI w0 b fA fc aA ac fs.length lim w' tv' tc' taken bv' bc' (Pu.pull fs am lim f k taken force sway s)
def PullOK (w0 : World) (b : Nat) (fA : Option Addr) (fc : Nat) (aA : Option Addr) (ac : Nat) (lim : Int) (fs am : List Int) (f : Nat) : Prop :=
  ∀ (k : Nat) (taken : List Int) (force sway : Int) (s : Pu.S) (w : World) (tv : Option Addr) (tc : Nat) (bv : Option Addr) (bc : Nat), fs.length < f + k → k ≤ fs.length → taken.length ≤ k → 0 ≤ force → force ≤ 1000000 * k → 0 ≤ sway → sway ≤ lim → Hid (PuI w0 b fA fc aA ac fs.length lim w tv tc taken bv bc s) →
    Calls Try.prog 104 #[.pointer (some ⟨b, 0, none⟩), .int .i64 k, .int .i64 force, .int .i64 sway] w (PullPost w0 b fA fc aA ac lim fs am f k taken force sway s)
set_option maxRecDepth 100000 in
set_option maxHeartbeats 1000000 in
theorem pull_last (w0 : World) (b : Nat) (fA : Option Addr) (fc : Nat) (aA : Option Addr) (ac : Nat) (lim : Int) (fs am : List Int) (hn : fs.length ≤ 16) (f : Nat) (taken : List Int) (force sway : Int) (s : Pu.S) (w : World) (tv : Option Addr) (tc : Nat) (bv : Option Addr) (bc : Nat) (htl : taken.length ≤ fs.length) (f0 : 0 ≤ force) (f1 : force ≤ 16000000)
    (HS : Hid (PuI w0 b fA fc aA ac fs.length lim w tv tc taken bv bc s)) :
    Calls Try.prog 104 #[.pointer (some ⟨b, 0, none⟩), .int .i64 fs.length, .int .i64 force, .int .i64 sway] w (PullPost w0 b fA fc aA ac lim fs am (f + 1) fs.length taken force sway s) := by
  have hst := HS.out.st
  obtain ⟨left, spent, most, best⟩ := s
  simp only at hst
  have g2 : w.cell? ⟨b, 2, none⟩ = some (.slice fA fs.length fc) := by simp [World.cell?, hst]
  have g5 : w.cell? ⟨b, 5, none⟩ = some (.slice tv taken.length tc) := by simp [World.cell?, hst]
  have g7 : w.cell? ⟨b, 7, none⟩ = some (.int .i64 most) := by simp [World.cell?, hst]
  have f6 : w.frozen? ⟨b, 6, none⟩ = false := by simp [World.frozen?, hst]
  have f7 : w.frozen? ⟨b, 7, none⟩ = false := by simp [World.frozen?, hst]
  have hbl := HS.out.lt
  clear hst
  by_cases hm : most < force
  · have e := hide (show Pu.pull fs am lim (f + 1) fs.length taken force sway ⟨left, spent, most, best⟩ = ⟨left, spent, force, taken⟩ from by rw [Pu.pull_end rfl]; unfold Pu.look; rw [if_pos hm])
    go_enter Try.func104, Try.ntmps104
    go_wp2_with fail
    refine (cloneI w0.heap.size tv tc taken _ HS.out.ot (by omega)).mono ?_
    rintro e2 w1 ⟨A1, c1, rfl, ho1, hb1⟩
    have HB := hide (HS.out.best ho1 hb1 (by omega))
    have g6' : ∃ u, w1.cell? ⟨b, 6, none⟩ = some u := by have hst := HS.out.st; have q := (hb1.block b hbl).trans hst; exact ⟨_, by simp [World.cell?, q]; rfl⟩
    have f6' : w1.frozen? ⟨b, 6, none⟩ = false := (hb1.frozen (p := ⟨b, 6, none⟩) hbl).trans f6
    have f7' : w1.frozen? ⟨b, 7, none⟩ = false := (hb1.frozen (p := ⟨b, 7, none⟩) hbl).trans f7
    have g7' : w1.cell? ⟨b, 7, none⟩ = some (.int .i64 most) := (hb1.cell (p := ⟨b, 7, none⟩) hbl).trans g7
    obtain ⟨u6, g6'⟩ := g6'
    clear ho1 hb1 hm
    go_wp2_with fail
    ((try simp only [Exit.inBlock, Exit.then]); refine bodyPost_ret (results_none rfl _ _ _) rfl ?_)
    exact ⟨rfl, tv, tc, A1, c1, by rw [e.out]; exact HB.out.most force (by omega) (by omega)⟩
  · have e := hide (show Pu.pull fs am lim (f + 1) fs.length taken force sway ⟨left, spent, most, best⟩ = ⟨left, spent, most, best⟩ from by rw [Pu.pull_end rfl]; unfold Pu.look; rw [if_neg hm])
    go_enter Try.func104, Try.ntmps104
    go_wp2_with fail
    ((try simp only [Exit.inBlock, Exit.then]); refine bodyPost_ret (results_none rfl _ _ _) rfl ?_)
    exact ⟨rfl, tv, tc, bv, bc, by rw [e.out]; exact HS.out⟩
end Go.Proofs.Ytjklhacffdhgaaa
