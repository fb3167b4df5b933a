/- The reference's search for a layout: the state of its struct, what each store does to it, and the short ways. -/
import Derived.Test.YtjklhacffdhgaaaLyK
import Derived.BigRegion
namespace Go.Proofs.Ytjklhacffdhgaaa
open Go.RowKit

/-- What the reference's count of nodes is. -/
def Ly.nodes (bud : Int) (s : Ly.S PlaceR) : Int := if s.spent then bud + 1 else bud - s.left
structure LyX (w0 : World) (b bc : Nat) (A : Option Addr) (n c : Nat) (g sp z bud : Int) (w : World) (pv : Option Addr) (pc : Nat) (l : List PlaceR) (s : Ly.S PlaceR) : Prop where
  st : w.heap[b]? = some (.cells (lyCellsX bc A n c g sp z pv l.length pc (Ly.nodes bud s) bud) 184 (0, 0))
  oc : Own encPlace 5 95 w (b + 1) (.slice pv l.length pc) l
  inv : Ly.Inv s
  bud : s.left ≤ bud ∧ bud ≤ 20000
  bel : Below w0.heap.size w0 w
  hb : w0.heap.size ≤ b
section
variable {w0 : World} {b bc : Nat} {A : Option Addr} {n c : Nat} {g sp z bud : Int} {w : World} {pv : Option Addr} {pc : Nat} {l : List PlaceR} {s : Ly.S PlaceR}
theorem LyX.lt (h : LyX w0 b bc A n c g sp z bud w pv pc l s) : b < w.heap.size := heap_lt h.st
theorem LyX.below {w' : World} (h : LyX w0 b bc A n c g sp z bud w pv pc l s) (hb : Below w.heap.size w w') : LyX w0 b bc A n c g sp z bud w' pv pc l s :=
  ⟨(hb.block b h.lt).trans h.st, h.oc.below hb, h.inv, h.bud, h.bel.trans (hb.mono h.bel.size), h.hb⟩
theorem LyX.push {w' : World} {A' : Option Addr} {c' : Nat} {y : PlaceR} (h : LyX w0 b bc A n c g sp z bud w pv pc l s) (ho : Own encPlace 5 95 w' (b + 1) (.slice A' (l.length + 1) c') (l ++ [y])) (hb : Below (b + 1) w w') : LyX w0 b bc A n c g sp z bud (w'.setCell ⟨b, 5, none⟩ (.slice A' (l.length + 1) c')) A' c' (l ++ [y]) s := by
  have hg2 := grown_set (grown_refl w' (some b)) 5 (.slice A' (l.length + 1) c')
  have hl : (l ++ [y]).length = l.length + 1 := by simp
  have hst : w'.heap[b]? = _ := (hb.block b (by omega)).trans h.st
  refine ⟨?_, ?_, h.inv, h.bud, (h.bel.trans (hb.mono (by have := h.hb; omega))).setCell h.hb _, h.hb⟩
  · rw [hl]; exact heap_set' _ hst
  · rw [hl]; exact own_far' ho hg2
theorem LyX.pop {y : PlaceR} {k : Nat} (h : LyX w0 b bc A n c g sp z bud w pv pc (l ++ [y]) s) (hk : k = l.length) : LyX w0 b bc A n c g sp z bud (w.setCell ⟨b, 5, none⟩ (.slice pv k pc)) pv pc l s := by
  subst hk
  have hg := grown_set (grown_refl w (some b)) 5 (.slice pv l.length pc)
  exact ⟨heap_set' _ h.st, own_far' (own_short (fun _ => rfl) h.oc rfl) hg, h.inv, h.bud, h.bel.setCell h.hb _, h.hb⟩
theorem LyX.node {left : Int} {list : List PlaceR} {nd : Int} (h : LyX w0 b bc A n c g sp z bud w pv pc l ⟨left, false, false, list⟩) (h0 : left ≠ 0) (hn : nd = bud - left + 1) : LyX w0 b bc A n c g sp z bud (w.setCell ⟨b, 6, none⟩ (.int .i64 nd)) pv pc l ⟨left - 1, false, false, list⟩ := by
  have hg := grown_set (grown_refl w (some b)) 6 (.int .i64 nd)
  obtain ⟨i1, i2⟩ := h.inv
  obtain ⟨u1, u2⟩ := h.bud
  simp only at i1 i2 u1
  have e : nd = Ly.nodes bud ⟨left - 1, false, false, list⟩ := by rw [hn]; simp only [Ly.nodes]; simp; omega
  rw [e] at hg ⊢
  exact ⟨heap_set' _ h.st, own_far' h.oc hg, ⟨by simp only; omega, by simp only; omega⟩, ⟨by simp only; omega, u2⟩, h.bel.setCell h.hb _, h.hb⟩
theorem LyX.over {list : List PlaceR} {nd : Int} (h : LyX w0 b bc A n c g sp z bud w pv pc l ⟨0, false, false, list⟩) (hn : nd = bud + 1) : LyX w0 b bc A n c g sp z bud (w.setCell ⟨b, 6, none⟩ (.int .i64 nd)) pv pc l ⟨0, true, false, list⟩ := by
  have hg := grown_set (grown_refl w (some b)) 6 (.int .i64 nd)
  have e : nd = Ly.nodes bud ⟨0, true, false, list⟩ := by rw [hn]; simp [Ly.nodes]
  rw [e] at hg ⊢
  exact ⟨heap_set' _ h.st, own_far' h.oc hg, h.inv, h.bud, h.bel.setCell h.hb _, h.hb⟩
theorem LyX.same {s' : Ly.S PlaceR} (h : LyX w0 b bc A n c g sp z bud w pv pc l s) (h1 : s'.left = s.left) (h2 : s'.spent = s.spent) : LyX w0 b bc A n c g sp z bud w pv pc l s' := by
  refine ⟨?_, h.oc, ?_, by rw [h1]; exact h.bud, h.bel, h.hb⟩
  · have e : Ly.nodes bud s' = Ly.nodes bud s := by unfold Ly.nodes; rw [h1, h2]
    rw [e]; exact h.st
  · have := h.inv; unfold Ly.Inv at *; rw [h1]; exact this
end
def VisitPost (w0 : World) (b bc : Nat) (A : Option Addr) (c : Nat) (a1 a2 a3 g sp z bud : Int) (rs : List Int) (f : Nat) (l : List PlaceR) (s : Ly.S PlaceR) (pv : Option Addr) (pc : Nat) (w : World) (e : Ending) (w' : World) : Prop :=
  ∃ (s' : Ly.S PlaceR) (pv' : Option Addr) (pc' : Nat) (l' : List PlaceR), e = .returned (.bool (Ly.ended s')) ∧ lyVisit a1 a2 a3 g sp z rs f l s = s' ∧ LyX w0 b bc A rs.length c g sp z bud w' pv' pc' l' s' ∧ (s'.spent = false → l' = Ly.now l s') ∧ Fr b w w' (.slice pv l.length pc) (.slice pv' l'.length pc')
def VisitLy (w0 : World) (b bc : Nat) (A : Option Addr) (c : Nat) (a1 a2 a3 g sp z bud : Int) (rs : List Int) (f : Nat) : Prop :=
  ∀ (l : List PlaceR) (s : Ly.S PlaceR) (w : World) (pv : Option Addr) (pc : Nat), rs.length < f + l.length → l.length ≤ rs.length → Hid (LyX w0 b bc A rs.length c g sp z bud w pv pc l s) → Hid (GoodL l) → Ly.ended s = false →
    Calls Try.prog 125 #[.pointer (some ⟨b, 0, none⟩)] w (VisitPost w0 b bc A c a1 a2 a3 g sp z bud rs f l s pv pc w)
set_option maxRecDepth 100000 in
set_option maxHeartbeats 1000000 in
theorem visit_short (w0 : World) (b bc : Nat) (A : Option Addr) (c : Nat) (a1 a2 a3 g sp z bud : Int) (rs : List Int) (f : Nat) (left : Int) (list : List PlaceR) (l : List PlaceR) (w : World) (pv : Option Addr) (pc : Nat)
    (HS : Hid (LyX w0 b bc A rs.length c g sp z bud w pv pc l ⟨left, false, false, list⟩)) (h24 : rs.length ≤ 24) (hw : left = 0 ∨ l.length = rs.length) :
    Calls Try.prog 125 #[.pointer (some ⟨b, 0, none⟩)] w (VisitPost w0 b bc A c a1 a2 a3 g sp z bud rs (f + 1) l ⟨left, false, false, list⟩ pv pc w) := by
  have hst := HS.out.st
  obtain ⟨i0, i1⟩ := HS.out.inv
  obtain ⟨u1, u2⟩ := HS.out.bud
  simp only at i0 i1 u1
  have hnd : Ly.nodes bud ⟨left, false, false, list⟩ = bud - left := rfl
  rw [hnd] at hst
  have g1 : w.cell? ⟨b, 1, none⟩ = some (.slice A rs.length c) := by simp [World.cell?, hst]
  have g5 : w.cell? ⟨b, 5, none⟩ = some (.slice pv l.length pc) := by simp [World.cell?, hst]
  have g6 : w.cell? ⟨b, 6, none⟩ = some (.int .i64 (bud - left)) := by simp [World.cell?, hst]
  have g7 : w.cell? ⟨b, 7, none⟩ = some (.int .i64 bud) := by simp [World.cell?, hst]
  have f6 : w.frozen? ⟨b, 6, none⟩ = false := by simp [World.frozen?, hst]
  have hbl := HS.out.lt
  obtain ⟨nd, hnd2⟩ : ∃ nd, nd = bud - left + 1 := ⟨_, rfl⟩
  have k0 : IntKind.i64.wrap (bud - left + 1) = nd := by rw [hnd2]; exact IntWalk.i64_in _ (by omega)
  have HND := hide hnd2
  clear hst hnd hnd2
  have F2 := hide (Fr.set (b := b) (w := w) (v := .slice pv l.length pc) Fr.refl 6 (.int .i64 nd))
  by_cases h0 : left = 0
  · have e1 := hide (show lyVisit a1 a2 a3 g sp z rs (f + 1) l ⟨left, false, false, list⟩ = ⟨0, true, false, list⟩ from by subst h0; exact Ly.visit_spent rfl rfl)
    have HX2 := hide (show LyX w0 b bc A rs.length c g sp z bud (w.setCell ⟨b, 6, none⟩ (.int .i64 nd)) pv pc l ⟨0, true, false, list⟩ from by
      have q := HS.out
      subst h0
      exact q.over (by rw [HND.out]; omega))
    have hgt : decide (bud < nd) = true := by simp [HND.out]; omega
    clear hw h0
    go_enter Try.func125, Try.ntmps125
    go_wp2_with fail
    clear k0
    have hst2 := HX2.out.st
    generalize w.setCell ⟨b, 6, none⟩ (.int .i64 nd) = w2 at *
    have q6 : w2.cell? ⟨b, 6, none⟩ = some (.int .i64 (Ly.nodes bud ⟨0, true, false, list⟩)) := by simp [World.cell?, hst2]
    have q7 : w2.cell? ⟨b, 7, none⟩ = some (.int .i64 bud) := by simp [World.cell?, hst2]
    have hn2 : Ly.nodes bud ⟨0, true, false, list⟩ = bud + 1 := rfl
    rw [hn2] at q6
    have hbl2 := HX2.out.lt
    have hgt2 : decide (bud < bud + 1) = true := by simp; omega
    clear hst2 hn2 g1 g5 g6 g7 f6
    refine wp_region_kept (by kernel_rfl) (by kernel_rfl) ?_
    intro gc gf gz
    repeat (go_big_quiet_step (fail))
    refine wpQuiet_nil ?_
    intro w3 hw'
    obtain ⟨⟨_, hb3⟩, rfl⟩ := hw'
    clear gc gf gz
    try dsimp only
    have fs3 := hb3.size
    try simp at fs3 hb3
    have HX3 := hide (HX2.out.below hb3)
    have F3 := hide (F2.out.below hb3)
    clear hb3
    go_wp2_with fail
    go_ret
    exact ⟨⟨0, true, false, list⟩, pv, pc, l, rfl, e1.out, HX3.out, (fun h => by cases h), F3.out⟩
  · have hl := hw.resolve_left h0
    have e1 := hide (show lyVisit a1 a2 a3 g sp z rs (f + 1) l ⟨left, false, false, list⟩ = ⟨left - 1, false, true, l⟩ from Ly.visit_full rfl h0 hl)
    have HX2 := hide (HS.out.node h0 (nd := nd) HND.out)
    have hle : decide (bud < nd) = false := by simp [HND.out]; omega
    have hd : ((l.length : Int) == (rs.length : Int)) = true := by simp [hl]
    have hd2 : (l.length == rs.length) = true := by simp [hl]
    have hll : l.length ≤ 24 := by omega
    have HND2 := hide (show Ly.nodes bud ⟨left - 1, false, false, list⟩ = nd from by rw [HND.out]; simp [Ly.nodes]; omega)
    clear hw h0 hl
    go_enter Try.func125, Try.ntmps125
    go_wp2_with fail
    clear k0
    have hst2 := HX2.out.st
    rw [HND2.out] at hst2
    generalize w.setCell ⟨b, 6, none⟩ (.int .i64 nd) = w2 at *
    have q6 : w2.cell? ⟨b, 6, none⟩ = some (.int .i64 nd) := by simp [World.cell?, hst2]
    have q7 : w2.cell? ⟨b, 7, none⟩ = some (.int .i64 bud) := by simp [World.cell?, hst2]
    have q1 : w2.cell? ⟨b, 1, none⟩ = some (.slice A rs.length c) := by simp [World.cell?, hst2]
    have q5 : w2.cell? ⟨b, 5, none⟩ = some (.slice pv l.length pc) := by simp [World.cell?, hst2]
    have hbl2 := HX2.out.lt
    clear hst2 g1 g5 g6 g7 f6
    refine wp_region_kept (by kernel_rfl) (by kernel_rfl) ?_
    intro gc gf gz
    repeat (go_big_quiet_step (fail))
    refine wpQuiet_nil ?_
    intro w3 hw'
    obtain ⟨⟨_, hb3⟩, rfl⟩ := hw'
    clear gc gf gz
    try dsimp only
    have fs3 := hb3.size
    try simp at fs3 hb3
    have HX3 := hide (HX2.out.below hb3)
    have F3 := hide (F2.out.below hb3)
    clear hb3
    go_wp2_with fail
    go_ret
    exact ⟨⟨left - 1, false, true, l⟩, pv, pc, l, rfl, e1.out, HX3.out.same rfl rfl, (fun _ => rfl), F3.out⟩
end Go.Proofs.Ytjklhacffdhgaaa
