/- The program's search for a layout: the state of its struct, what each store does to it, and the short ways. -/
import Derived.Test.YtjklhacffdhgaaaLyF
import Derived.Test.YtjklhacffdhgaaaMove
import Derived.Deep.DeepCutAuto
import Derived.Deep.AppendLies
import Derived.Deep.RegionLaw
namespace Go.Proofs.Ytjklhacffdhgaaa
open Go.RowKit

theorem not_thereL {v v1 : Value} {q N : Nat} (hat : v1.ownBlock = v.ownBlock ∨ ∃ g, v1.ownBlock = some g ∧ N ≤ g) (h : v.ownBlock ≠ some q) (hN : q < N) : v1.ownBlock ≠ some q := by
  intro e
  rcases hat with e2 | ⟨g, e2, hz⟩
  · exact h (e2.symm.trans e)
  · rw [e2] at e; injection e with e; omega
theorem Fr.new {b : Nat} {w w1 : World} {v v1 : Value} (h : Fr b w w1 v v1) {q : Nat} (hq : w.heap.size ≤ q) (j : Nat) (x : Value) : Fr b w (w1.setCell ⟨q, j, none⟩ x) v v1 :=
  ⟨by simpa [World.setCell] using h.size, fun g hg h1 h2 => (heap_other (by omega)).trans (h.keep g hg h1 h2), h.loc⟩
/-- The searching struct in block b. -/
structure LyI (w0 : World) (b : Nat) (A : Option Addr) (n c : Nat) (a1 a2 a3 g sp z : Int) (w : World) (pv : Option Addr) (pc : Nat) (l : List PlaceR) (s : Ly.S PlaceR) : Prop where
  st : w.heap[b]? = some (.cells (lyCells s.left s.spent a1 a2 a3 A n c g sp z pv l.length pc) 189 (0, 0))
  oc : Own encPlace 5 95 w (b + 1) (.slice pv l.length pc) l
  inv : Ly.Inv s
  bel : Below w0.heap.size w0 w
  hb : w0.heap.size ≤ b
section
variable {w0 : World} {b : Nat} {A : Option Addr} {n c : Nat} {a1 a2 a3 g sp z : Int} {w : World} {pv : Option Addr} {pc : Nat} {l : List PlaceR} {s : Ly.S PlaceR}
theorem LyI.lt (h : LyI w0 b A n c a1 a2 a3 g sp z w pv pc l s) : b < w.heap.size := heap_lt h.st
theorem LyI.below {w' : World} (h : LyI w0 b A n c a1 a2 a3 g sp z w pv pc l s) (hb : Below w.heap.size w w') : LyI w0 b A n c a1 a2 a3 g sp z w' pv pc l s :=
  ⟨(hb.block b h.lt).trans h.st, h.oc.below hb, h.inv, h.bel.trans (hb.mono h.bel.size), h.hb⟩
/-- A store into a block of the frame's own. -/
theorem LyI.other (h : LyI w0 b A n c a1 a2 a3 g sp z w pv pc l s) {q : Nat} (hq : w0.heap.size ≤ q) (hne : q ≠ b) (ho : (Value.slice pv l.length pc).ownBlock ≠ some q) (j : Nat) (x : Value) : LyI w0 b A n c a1 a2 a3 g sp z (w.setCell ⟨q, j, none⟩ x) pv pc l s :=
  ⟨(heap_other (Ne.symm hne)).trans h.st, h.oc.kept (grown_set (grown_refl w (some q)) j x) (.inr ho), h.inv, h.bel.setCell hq _, h.hb⟩
theorem LyI.push {w' : World} {A' : Option Addr} {c' : Nat} {y : PlaceR} (h : LyI w0 b A n c a1 a2 a3 g sp z w pv pc l s) (ho : Own encPlace 5 95 w' (b + 1) (.slice A' (l.length + 1) c') (l ++ [y])) (hb : Below (b + 1) w w') : LyI w0 b A n c a1 a2 a3 g sp z (w'.setCell ⟨b, 9, none⟩ (.slice A' (l.length + 1) c')) A' c' (l ++ [y]) s := by
  have hg2 := grown_set (grown_refl w' (some b)) 9 (.slice A' (l.length + 1) c')
  have hl : (l ++ [y]).length = l.length + 1 := by simp
  have hst : w'.heap[b]? = _ := (hb.block b (by omega)).trans h.st
  refine ⟨?_, ?_, h.inv, (h.bel.trans (hb.mono (by have := h.hb; omega))).setCell h.hb _, h.hb⟩
  · rw [hl]; exact heap_set' _ hst
  · rw [hl]; exact own_far' ho hg2
theorem LyI.pop {y : PlaceR} {k : Nat} (h : LyI w0 b A n c a1 a2 a3 g sp z w pv pc (l ++ [y]) s) (hk : k = l.length) : LyI w0 b A n c a1 a2 a3 g sp z (w.setCell ⟨b, 9, none⟩ (.slice pv k pc)) pv pc l s := by
  subst hk
  have hg := grown_set (grown_refl w (some b)) 9 (.slice pv l.length pc)
  exact ⟨heap_set' _ h.st, own_far' (own_short (fun _ => rfl) h.oc rfl) hg, h.inv, h.bel.setCell h.hb _, h.hb⟩
theorem LyI.over (h : LyI w0 b A n c a1 a2 a3 g sp z w pv pc l s) : LyI w0 b A n c a1 a2 a3 g sp z (w.setCell ⟨b, 1, none⟩ (.bool true)) pv pc l { s with spent := true } :=
  have hg := grown_set (grown_refl w (some b)) 1 (.bool true)
  ⟨heap_set' _ h.st, own_far' h.oc hg, h.inv, h.bel.setCell h.hb _, h.hb⟩
theorem LyI.node (h : LyI w0 b A n c a1 a2 a3 g sp z w pv pc l s) (h0 : s.left ≠ 0) : LyI w0 b A n c a1 a2 a3 g sp z (w.setCell ⟨b, 0, none⟩ (.int .i64 (s.left - 1))) pv pc l { s with left := s.left - 1 } := by
  have hg := grown_set (grown_refl w (some b)) 0 (.int .i64 (s.left - 1))
  obtain ⟨i1, i2⟩ := h.inv
  exact ⟨heap_set' _ h.st, own_far' h.oc hg, ⟨by simp only; omega, by simp only; omega⟩, h.bel.setCell h.hb _, h.hb⟩
theorem LyI.same {s' : Ly.S PlaceR} (h : LyI w0 b A n c a1 a2 a3 g sp z w pv pc l s) (h1 : s'.left = s.left) (h2 : s'.spent = s.spent) : LyI w0 b A n c a1 a2 a3 g sp z w pv pc l s' := by
  refine ⟨?_, h.oc, ?_, h.bel, h.hb⟩
  · rw [h1, h2]; exact h.st
  · have := h.inv; unfold Ly.Inv at *; rw [h1]; exact this
end
/-- The places behind a visit. -/
def Ly.now (l : List PlaceR) (s : Ly.S PlaceR) : List PlaceR := if s.got then s.list else l
/-- What a visit is to show. -/
abbrev lyVisit (a1 a2 a3 g sp z : Int) (rs : List Int) : Nat → List PlaceR → Ly.S PlaceR → Ly.S PlaceR := Ly.visit (freeB a1 a2 a3 g) (lyP sp z rs) rs.length (lyN a1 sp) (lyN a2 sp)
def SearchPost (w0 : World) (b : Nat) (A : Option Addr) (c : Nat) (a1 a2 a3 g sp z : Int) (rs : List Int) (f : Nat) (l : List PlaceR) (s : Ly.S PlaceR) (pv : Option Addr) (pc : Nat) (w : World) (e : Ending) (w' : World) : Prop :=
  ∃ (s' : Ly.S PlaceR) (pv' : Option Addr) (pc' : Nat), e = .returned (.bool s'.got) ∧ lyVisit a1 a2 a3 g sp z rs f l s = s' ∧ LyI w0 b A rs.length c a1 a2 a3 g sp z w' pv' pc' (Ly.now l s') s' ∧ Fr b w w' (.slice pv l.length pc) (.slice pv' (Ly.now l s').length pc')
def GoodL (l : List PlaceR) : Prop := ∀ q ∈ l, vPlaceR q = true
theorem GoodL.snoc {l : List PlaceR} {p : PlaceR} (h : GoodL l) (hp : vPlaceR p = true) : GoodL (l ++ [p]) := fun q hq => by
  rcases List.mem_append.1 hq with hq | hq
  · exact h q hq
  · simp at hq; subst hq; exact hp
def SearchOK (w0 : World) (b : Nat) (A : Option Addr) (c : Nat) (a1 a2 a3 g sp z : Int) (rs : List Int) (f : Nat) : Prop :=
  ∀ (l : List PlaceR) (s : Ly.S PlaceR) (w : World) (pv : Option Addr) (pc : Nat), rs.length < f + l.length → l.length ≤ rs.length → Hid (LyI w0 b A rs.length c a1 a2 a3 g sp z w pv pc l s) → Hid (GoodL l) → s.got = false →
    Calls Try.prog 129 #[.pointer (some ⟨b, 0, none⟩)] w (SearchPost w0 b A c a1 a2 a3 g sp z rs f l s pv pc w)
set_option maxRecDepth 100000 in
set_option maxHeartbeats 1000000 in
theorem search_short (w0 : World) (b : Nat) (A : Option Addr) (c : Nat) (a1 a2 a3 g sp z : Int) (rs : List Int) (f : Nat) (left : Int) (spent : Bool) (list : List PlaceR) (l : List PlaceR) (w : World) (pv : Option Addr) (pc : Nat)
    (HS : Hid (LyI w0 b A rs.length c a1 a2 a3 g sp z w pv pc l ⟨left, spent, false, list⟩)) (h24 : rs.length ≤ 24) (hw : spent = true ∨ (spent = false ∧ (left = 0 ∨ l.length = rs.length))) :
    Calls Try.prog 129 #[.pointer (some ⟨b, 0, none⟩)] w (SearchPost w0 b A c a1 a2 a3 g sp z rs (f + 1) l ⟨left, spent, false, list⟩ pv pc w) := by
  have hst := HS.out.st
  simp only at hst
  have g0 : w.cell? ⟨b, 0, none⟩ = some (.int .i64 left) := by simp [World.cell?, hst]
  have g1 : w.cell? ⟨b, 1, none⟩ = some (.bool spent) := by simp [World.cell?, hst]
  have g5 : w.cell? ⟨b, 5, none⟩ = some (.slice A rs.length c) := by simp [World.cell?, hst]
  have g9 : w.cell? ⟨b, 9, none⟩ = some (.slice pv l.length pc) := by simp [World.cell?, hst]
  have f0 : w.frozen? ⟨b, 0, none⟩ = false := by simp [World.frozen?, hst]
  have f1 : w.frozen? ⟨b, 1, none⟩ = false := by simp [World.frozen?, hst]
  obtain ⟨i0, i1⟩ := HS.out.inv
  simp only at i0 i1
  clear hst
  rcases hw with rfl | ⟨rfl, hw⟩
  · have e1 := hide (show lyVisit a1 a2 a3 g sp z rs (f + 1) l ⟨left, true, false, list⟩ = ⟨left, true, false, list⟩ from Ly.visit_ended rfl)
    go_enter Try.func129, Try.ntmps129
    go_wp2_with fail
    go_ret
    exact ⟨_, pv, pc, rfl, e1.out, HS.out, Fr.refl⟩
  · by_cases h0 : left = 0
    · subst h0
      have e1 := hide (show lyVisit a1 a2 a3 g sp z rs (f + 1) l ⟨0, false, false, list⟩ = ⟨0, true, false, list⟩ from Ly.visit_spent rfl rfl)
      have HN0 := hide (node_none b false w g0 g1 f1)
      clear hw
      go_enter Try.func129, Try.ntmps129
      go_wp2_with (go_at_call 165; refine HN0.out.mono ?_; rintro e w2 ⟨rfl, rfl⟩)
      go_ret
      exact ⟨_, pv, pc, rfl, e1.out, HS.out.over, Fr.refl.set _ _⟩
    · have hl := hw.resolve_left h0
      have e1 := hide (show lyVisit a1 a2 a3 g sp z rs (f + 1) l ⟨left, false, false, list⟩ = ⟨left - 1, false, true, l⟩ from Ly.visit_full rfl h0 hl)
      have HN0 := hide (node_some b left w h0 i0 (by omega) g0 f0)
      have H0 := hide h0
      have hd : ((l.length : Int) == (rs.length : Int)) = true := by simp [hl]
      have hd2 : (l.length == rs.length) = true := by simp [hl]
      have hll : l.length ≤ 24 := by omega
      have HL := hide hl
      clear hw h0 hl
      go_enter Try.func129, Try.ntmps129
      go_wp2_with (go_at_call 165; refine HN0.out.mono ?_; rintro e w2 ⟨rfl, rfl⟩)
      go_ret
      exact ⟨_, pv, pc, rfl, e1.out, (HS.out.node H0.out).same rfl rfl, Fr.refl.set _ _⟩
end Go.Proofs.Ytjklhacffdhgaaa
