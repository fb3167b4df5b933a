/- Contracts: draws of profiles. -/
import Derived.Test.YtnefgafmnpblpaaGreatPnE1
namespace Go.Proofs.YtnefgafmnpblpaaGreat
open Go.RowKit Pn

theorem infoA_Ring : (Tryz.prog.info? 156).map (fun i => (i.zero, i.size, i.bytes)) = some (some (.agg #[.int .i64 0, .int .i64 0, .int .i64 0]), 3, 24) := by kernel_rfl
theorem one_Ring (x : RingR) : ∀ u ∈ encRing x, u.oneCell' = true := by intro u hu; simp [encRing] at hu; rcases hu with rfl | rfl | rfl <;> rfl
set_option maxRecDepth 100000 in
theorem wpList_appRing {w : World} {ops : Array Oper} {rest : List Oper} {o : Oper} {a : Act} {Q : Exit → Act → World → Prop} (hgd : o.guard = none) (s x : Operand) (ho : o.op = .call { callee := .builtin .append, args := #[s, x], argTypes := #[28, 28] }) (B : Nat) {v : Value} {xs : List RingR} (hs : a.eval s = v)
    (hown : Own encRing 3 156 w B v xs) {y0 : Int} {y1 : Int} {y2 : Int} {b : Nat} (hx : a.eval x = .slice (some ⟨b, 0, none⟩) 1 1) (hn : xs.length ≤ 1048576) (hB : B ≤ w.heap.size)
    (h : ∀ (A : Option Addr) (c : Nat) (w' : World), Own encRing 3 156 w' B (.slice A (xs.length + 1) c) (xs ++ [⟨y0, y1, y2⟩]) → Below B w w' → w.grownBy w' v.ownBlock → wpList Tryz.prog ops Q rest (a.put o.dst (.slice A (xs.length + 1) c)) w') (hbk : b = w.heap.size := by first | rfl | simp) : wpList Tryz.prog ops Q (o :: rest) a (w.alloc (.cells #[.int .i64 y0, .int .i64 y1, .int .i64 y2] 156)) := by
  subst hbk
  obtain ⟨i0, hi, hz0, hz1, hz2⟩ := info_parts infoA_Ring
  have hb0 : Below w.heap.size w (w.alloc (.cells #[.int .i64 y0, .int .i64 y1, .int .i64 y2] 156)) := (Below.refl _ _).alloc (Nat.le_refl _) _
  refine wpList_app Tryz.underlying28 hi hz0 hz1 hz2 rfl (by omega) (by omega) (fun _ => rfl) hgd s x ho B hs (hown.below hb0) ⟨y0, y1, y2⟩ (one_Ring _) hx (fun j u hj => ?_) hn (by simp; omega) fun A c w' h1 h2 h3 => h A c w' h1 ((hb0.mono hB).trans h2) (grown_trans (grown_of_below hb0 _) h3)
  match j, hj with
  | 0, hj => injection hj with hj; subst hj; simp [Addr.add]
  | 1, hj => injection hj with hj; subst hj; simp [Addr.add]
  | 2, hj => injection hj with hj; subst hj; simp [Addr.add]
set_option maxRecDepth 100000 in
/-- An append of one ring, as a step of a region that draws its order. -/
theorem step_appR {w : World} {ops : Array Oper} {o : Oper} {a : Act} {K : Act → World → Prop} {Q : Exit → Act → World → Prop} {E : Prop} (hgd : o.guard = none) (s x : Operand) (ho : o.op = .call { callee := .builtin .append, args := #[s, x], argTypes := #[28, 28] }) (B : Nat) {v : Value} {xs : List RingR} (hs : a.eval s = v)
    (hown : OwnR w B v xs) {y0 y1 y2 : Int} {q : Nat} (hx : a.eval x = .slice (some ⟨q, 0, none⟩) 1 1) (hn : xs.length ≤ 1048576) (hB : B ≤ w.heap.size)
    (h : ∀ (A : Option Addr) (c : Nat) (w' : World), OwnR w' B (.slice A (xs.length + 1) c) (xs ++ [⟨y0, y1, y2⟩]) → Below B (w.alloc (.cells #[.int .i64 y0, .int .i64 y1, .int .i64 y2] 156)) w' → (w.alloc (.cells #[.int .i64 y0, .int .i64 y1, .int .i64 y2] 156)).grownBy w' v.ownBlock → K (a.put o.dst (.slice A (xs.length + 1) c)) w') (hq : q = w.heap.size := by first | rfl | simp) : if Region.wanted o (yielded ops a.tmps) = true then Oper.wp Tryz.prog o a (w.alloc (.cells #[.int .i64 y0, .int .i64 y1, .int .i64 y2] 156)) K Q else E := by
  subst hq
  obtain ⟨i0, hi, hz0, hz1, hz2⟩ := info_parts infoA_Ring
  have hb0 : Below w.heap.size w (w.alloc (.cells #[.int .i64 y0, .int .i64 y1, .int .i64 y2] 156)) := (Below.refl _ _).alloc (Nat.le_refl _) _
  have hO := hown.below hb0
  refine step_append_lies _ hgd s x _ ho B 156 i0 _ 3 24 Tryz.underlying28 hi hz0 hz1 hz2 rfl (by omega) v xs.length (xs.flatMap encRing) hs hO ⟨w.heap.size, 0, none⟩ 1 1 [.int .i64 y0, .int .i64 y1, .int .i64 y2] hx rfl (World.news_of_block (cs := #[.int .i64 y0, .int .i64 y1, .int .i64 y2]) (heap_alloc_new w _)) (one_Ring ⟨y0, y1, y2⟩) (by omega) (by unfold maxLen; omega) (by omega) (by simp; omega) _ rfl ?_
  intro g cap w' h1 h2 _ _
  refine h _ cap w' ?_ (Below.grown (Below.refl _ _) h2 (by simp; omega) fun k hk => (Own.lt hO k hk).1) h2
  unfold OwnR Own
  rw [List.length_append, List.flatMap_append]
  simpa [encRing] using h1
abbrev PCELLS (nm : ByteArray) (A : Option Addr) (n c : Nat) : Array Value := #[.string nm, .slice A n c]
/-- A profile under way: the result's cell, the local in block Q with its rings. -/
structure Bd (B b N : Nat) (w0 w : World) (Q : Nat) (nm : ByteArray) (A : Option Addr) (c : Nat) (rs : List RingR) : Prop where
  d : Dw B b N w0 w
  r : w.heap[w0.heap.size]? = some (.cells (PCELLS ⟨#[]⟩ none 0 0) 30 (0, 0))
  q : w.heap[Q]? = some (.cells (PCELLS nm A rs.length c) 30 (0, 0))
  o : OwnR w (Q + 1) (.slice A rs.length c) rs
  hQ : w0.heap.size < Q
section
variable {B b N N' : Nat} {w0 w w' : World} {Q : Nat} {nm : ByteArray} {A : Option Addr} {c : Nat} {rs : List RingR}
theorem Bd.step (h : Bd B b N w0 w Q nm A c rs) (hs : Src w' B b N') (hb : Below B w w') (hg : w.grownBy w' (some b)) : Bd B b N' w0 w' Q nm A c rs := by
  have hbl := h.d.bl
  have hQ := h.hQ
  exact ⟨h.d.step hs hb hg, (hg.block _ (heap_lt h.r) (fun e => by injection e with e; omega)).trans h.r, (hg.block _ (heap_lt h.q) (fun e => by injection e with e; omega)).trans h.q, own_farN h.o (by omega) hg, hQ⟩
theorem Bd.below (h : Bd B b N w0 w Q nm A c rs) (hb : Below w.heap.size w w') : Bd B b N w0 w' Q nm A c rs :=
  ⟨h.d.below hb, (hb.block _ (heap_lt h.r)).trans h.r, (hb.block _ (heap_lt h.q)).trans h.q, h.o.below hb, h.hQ⟩
theorem Bd.more (h : Bd B b N w0 w Q nm A c rs) (hN : N ≤ N') : Bd B b N' w0 w Q nm A c rs := ⟨h.d.more hN, h.r, h.q, h.o, h.hQ⟩
theorem Bd.cells (h : Bd B b N w0 w Q nm A c rs) : w.cell? ⟨Q, 0, none⟩ = some (.string nm) ∧ w.cell? ⟨Q, 1, none⟩ = some (.slice A rs.length c) ∧ (∀ j, w.frozen? ⟨Q, j, none⟩ = false) ∧ w.cell? ⟨w0.heap.size, 0, none⟩ = some (.string ⟨#[]⟩) ∧ w.cell? ⟨w0.heap.size, 1, none⟩ = some (.slice none 0 0) ∧ (∀ j, w.frozen? ⟨w0.heap.size, j, none⟩ = false) := by
  have a := h.q
  have b := h.r
  exact ⟨by simp [World.cell?, a], by simp [World.cell?, a], fun j => by simp [World.frozen?, a], by simp [World.cell?, b], by simp [World.cell?, b], fun j => by simp [World.frozen?, b]⟩
theorem Bd.name (h : Bd B b N w0 w Q nm A c rs) (v : ByteArray) : Bd B b N w0 (w.setCell ⟨Q, 0, none⟩ (.string v)) Q v A c rs := by
  have hQ := h.hQ
  exact ⟨h.d.set (by omega) _ _, (heap_other (by omega)).trans h.r, heap_setD (j := 0) _ h.q, own_far' h.o (grown_set (grown_refl w (some Q)) 0 (.string v)), hQ⟩
/-- The rings are put anew. -/
theorem Bd.put {A' : Option Addr} {c' : Nat} {rs' : List RingR} (h : Bd B b N w0 w Q nm A c rs) (ho : OwnR w' (Q + 1) (.slice A' rs'.length c') rs') {row : Option Nat} (hg : w.grownBy w' row) (hr : ∀ j, row = some j → Q + 1 ≤ j) : Bd B b N w0 (w'.setCell ⟨Q, 1, none⟩ (.slice A' rs'.length c')) Q nm A' c' rs' := by
  have hQ := h.hQ
  have h1 := (hg.block _ (heap_lt h.q) (fun e => by have := hr Q e.symm; omega)).trans h.q
  have h2 := (hg.block _ (heap_lt h.r) (fun e => by have := hr _ e.symm; omega)).trans h.r
  exact ⟨(h.d.grown hg (fun j e => by have := hr j e; omega)).set (by omega) _ _, (heap_other (by omega)).trans h2, heap_setD (j := 1) _ h1, own_far' ho (grown_set (grown_refl w' (some Q)) 1 (.slice A' rs'.length c')), hQ⟩
/-- The local's name and rings go into the result. -/
theorem Bd.fin (h : Bd B b N w0 w Q nm A c rs) (a0 a1 : Value) : OwnR ((w.setCell ⟨w0.heap.size, 0, none⟩ a0).setCell ⟨w0.heap.size, 1, none⟩ a1) w0.heap.size (.slice A rs.length c) rs ∧ Dw B b N w0 ((w.setCell ⟨w0.heap.size, 0, none⟩ a0).setCell ⟨w0.heap.size, 1, none⟩ a1) := by
  have hQ := h.hQ
  exact ⟨(own_farN (own_farN h.o (show w0.heap.size < Q + 1 by omega) (grown_set (grown_refl w (some w0.heap.size)) 0 a0)) (show w0.heap.size < Q + 1 by omega) (grown_set (grown_refl _ (some w0.heap.size)) 1 a1)).mono (by omega), (h.d.set (Nat.le_refl _) 0 a0).set (Nat.le_refl _) 1 a1⟩
end
/-- A drawn profile. -/
def DrProf (P : List RingR → Prop) (B b N : Nat) (w : World) (e : Ending) (w' : World) : Prop := ∃ (nm : ByteArray) (A : Option Addr) (c : Nat) (rs : List RingR), e = .returned (.agg #[.string nm, .slice A rs.length c]) ∧ nm.size ≤ 100 ∧ P rs ∧ OwnR w' w.heap.size (.slice A rs.length c) rs ∧ Dw B b N w w'
/-- Rings as l05Draw makes them. -/
structure RingsD (rs : List RingR) : Prop where
  len1 : 2 ≤ rs.length
  len9 : rs.length ≤ 9
  ring : ∀ k, k < rs.length → 10000 ≤ (rg rs k).outer ∧ (rg rs k).outer ≤ 50000 ∧ 1000 ≤ (rg rs k).outer - (rg rs k).inner ∧ (rg rs k).outer - (rg rs k).inner ≤ 4000
theorem RingsD.walls {rs : List RingR} (h : RingsD rs) : WallOK rs := fun k hk => by have := h.ring k hk; omega
theorem rg_snoc {rs : List RingR} {r : RingR} {k : Nat} (h : k < (rs ++ [r]).length) : rg (rs ++ [r]) k = if k < rs.length then rg rs k else r := by
  split
  · rw [← rg_eq h, ← rg_eq ‹_›, List.getElem_append_left]
  · have e : k = rs.length := by simp at h; omega
    subst e
    rw [← rg_eq h]; simp
theorem bd_push {B b N : Nat} {w0 wA w6 : World} {Q : Nat} {nm : ByteArray} {A A6 : Option Addr} {c c6 : Nat} {rs : List RingR} {y0 y1 y2 : Int} (h : Bd B b N w0 wA Q nm A c rs) (ho : OwnR w6 (Q + 1) (.slice A6 (rs.length + 1) c6) (rs ++ [⟨y0, y1, y2⟩])) (hg : (wA.alloc (.cells #[.int .i64 y0, .int .i64 y1, .int .i64 y2] 156)).grownBy w6 (Value.slice A rs.length c).ownBlock) :
    Bd B b N w0 (w6.setCell ⟨Q, 1, none⟩ (.slice A6 (rs.length + 1) c6)) Q nm A6 c6 (rs ++ [⟨y0, y1, y2⟩]) := by
  have hl : (rs ++ [(⟨y0, y1, y2⟩ : RingR)]).length = rs.length + 1 := by simp
  have q := h.put (rs' := rs ++ [⟨y0, y1, y2⟩]) (by rw [hl]; exact ho) (grown_trans (grown_of_below ((Below.refl _ _).alloc (Nat.le_refl _) _) _) hg) (fun j e => (h.o.lt j e).1)
  rw [hl] at q
  exact q
def nm4 : List ByteArray := [⟨#[116, 101, 110, 111, 114]⟩, ⟨#[116, 114, 101, 98, 108, 101]⟩, ⟨#[98, 101, 108, 108]⟩, ⟨#[103, 52]⟩]
theorem nm4_small : ∀ x ∈ nm4, x.size ≤ 100 := by
  unfold nm4
  intro x hx
  simp only [List.mem_cons, List.not_mem_nil, or_false] at hx
  rcases hx with rfl | rfl | rfl | rfl <;> decide
def nm13 : List ByteArray := [⟨#[97]⟩, ⟨#[98]⟩, ⟨#[99]⟩, ⟨#[98, 101, 108, 108]⟩, ⟨#[116, 101, 110, 111, 114, 55]⟩, ⟨#[104, 117, 109]⟩, ⟨#[120, 57]⟩, ⟨#[97, 98, 99, 100, 101, 102, 103, 104, 105, 106]⟩, ⟨#[97, 98, 99, 100, 101, 102, 103, 104, 105, 106, 107]⟩, ⟨#[65]⟩, ⟨#[]⟩, ⟨#[49, 97]⟩, ⟨#[97, 45, 98]⟩]
theorem nm13_small : ∀ x ∈ nm13, x.size ≤ 100 := by
  unfold nm13
  intro x hx
  simp only [List.mem_cons, List.not_mem_nil, or_false] at hx
  rcases hx with rfl | rfl | rfl | rfl | rfl | rfl | rfl | rfl | rfl | rfl | rfl | rfl | rfl <;> decide
set_option maxRecDepth 100000 in
theorem l01DrawName_is (B b N : Nat) (w : World) (h : Src w B b N) (hN : N ≤ 100000) :
    Calls Tryz.prog 150 #[.pointer (some ⟨b, 0, none⟩)] w fun e w' => ∃ x : ByteArray, e = .returned (.string x) ∧ x.size ≤ 100 ∧ Dw B b (N + 2) w w' := by
  have HD := hide (Dw.start h)
  have hbl := h.lt
  have HNM := hide (slat_new (enc := encS) (sz := 1) (fun _ => rfl) w nm13 #[.string ⟨#[97]⟩, .string ⟨#[98]⟩, .string ⟨#[99]⟩, .string ⟨#[98, 101, 108, 108]⟩, .string ⟨#[116, 101, 110, 111, 114, 55]⟩, .string ⟨#[104, 117, 109]⟩, .string ⟨#[120, 57]⟩, .string ⟨#[97, 98, 99, 100, 101, 102, 103, 104, 105, 106]⟩, .string ⟨#[97, 98, 99, 100, 101, 102, 103, 104, 105, 106, 107]⟩, .string ⟨#[65]⟩, .string ⟨#[]⟩, .string ⟨#[49, 97]⟩, .string ⟨#[97, 45, 98]⟩] 9 rfl)
  clear h
  go_enter Tryz.func150, Tryz.ntmps150
  go_wp2_with fail
  refine (srctext B b N (some ⟨w.heap.size, 0, none⟩) 13 nm13 _ (HD.out.below (by repeat (first | with_reducible exact Below.refl _ _ | with_reducible assumption | (with_reducible refine Below.drew ?_) | (with_reducible refine below_drewN ?_ _) | ((with_reducible refine Below.alloc ?_ ?_ _); rotate_left; (focus (first | omega | (simp; omega) | simp))) | ((with_reducible refine Below.setCell ?_ ?_ _); rotate_left; (focus (first | omega | (simp; omega) | simp))) | (refine Below.trans ?_ (Below.mono (by assumption) (by first | omega | (simp; omega) | simp)))))).s (by omega) HNM.out (fun b2 off e => by injection e with e; injection e with e; omega) (by simp [nm13]) (by simp [nm13])).mono ?_
  rintro e w1 ⟨x, rfl, hx, hs1, hb1, hg1⟩
  have hbw : Below w.heap.size w (w.alloc (.cells #[.string ⟨#[97]⟩, .string ⟨#[98]⟩, .string ⟨#[99]⟩, .string ⟨#[98, 101, 108, 108]⟩, .string ⟨#[116, 101, 110, 111, 114, 55]⟩, .string ⟨#[104, 117, 109]⟩, .string ⟨#[120, 57]⟩, .string ⟨#[97, 98, 99, 100, 101, 102, 103, 104, 105, 106]⟩, .string ⟨#[97, 98, 99, 100, 101, 102, 103, 104, 105, 106, 107]⟩, .string ⟨#[65]⟩, .string ⟨#[]⟩, .string ⟨#[49, 97]⟩, .string ⟨#[97, 45, 98]⟩] 9)) := (by repeat (first | with_reducible exact Below.refl _ _ | with_reducible assumption | (with_reducible refine Below.drew ?_) | (with_reducible refine below_drewN ?_ _) | ((with_reducible refine Below.alloc ?_ ?_ _); rotate_left; (focus (first | omega | (simp; omega) | simp))) | ((with_reducible refine Below.setCell ?_ ?_ _); rotate_left; (focus (first | omega | (simp; omega) | simp))) | (refine Below.trans ?_ (Below.mono (by assumption) (by first | omega | (simp; omega) | simp)))))
  have HD1 := hide ((HD.out.below hbw).step hs1 hb1 hg1)
  have HX := hide (nm13_small x hx)
  clear hs1 hb1 hg1 hx hbw
  go_wp2_with fail
  go_ret
  exact ⟨x, rfl, HX.out, HD1.out⟩
set_option maxRecDepth 100000 in
set_option maxHeartbeats 1000000 in
theorem l05Draw_is (B b N : Nat) (w : World) (h : Src w B b N) (hN : N ≤ 100000) :
    Calls Tryz.prog 83 #[.pointer (some ⟨b, 0, none⟩)] w (DrProf RingsD B b (N + 70) w) := by
  have hbl := h.lt
  obtain ⟨w1, hw1⟩ : ∃ w1, w1 = w.alloc (.cells (PCELLS ⟨#[]⟩ none 0 0) 30) := ⟨_, rfl⟩
  have hb1 : Below w.heap.size w w1 := by rw [hw1]; exact (by repeat (first | with_reducible exact Below.refl _ _ | with_reducible assumption | (with_reducible refine Below.drew ?_) | (with_reducible refine below_drewN ?_ _) | ((with_reducible refine Below.alloc ?_ ?_ _); rotate_left; (focus (first | omega | (simp; omega) | simp))) | ((with_reducible refine Below.setCell ?_ ?_ _); rotate_left; (focus (first | omega | (simp; omega) | simp))) | (refine Below.trans ?_ (Below.mono (by assumption) (by first | omega | (simp; omega) | simp)))))
  have s1 : w1.heap[w.heap.size]? = some (.cells (PCELLS ⟨#[]⟩ none 0 0) 30 (0, 0)) := by rw [hw1]; exact heap_alloc_new w _
  have hz1 : w1.heap.size = w.heap.size + 1 := by rw [hw1]; simp
  obtain ⟨w2, hw2⟩ : ∃ w2, w2 = w1.alloc (.cells #[.string ⟨#[116, 101, 110, 111, 114]⟩, .string ⟨#[116, 114, 101, 98, 108, 101]⟩, .string ⟨#[98, 101, 108, 108]⟩, .string ⟨#[103, 52]⟩] 9) := ⟨_, rfl⟩
  have hb2 : Below w1.heap.size w1 w2 := by rw [hw2]; exact (Below.refl _ _).alloc (Nat.le_refl _) _
  have HNM := hide (show SlAt encS 1 w2 (some ⟨w.heap.size + 1, 0, none⟩) nm4 from by
    have h := slat_new (enc := encS) (sz := 1) (fun _ => rfl) w1 nm4 #[.string ⟨#[116, 101, 110, 111, 114]⟩, .string ⟨#[116, 114, 101, 98, 108, 101]⟩, .string ⟨#[98, 101, 108, 108]⟩, .string ⟨#[103, 52]⟩] 9 rfl
    rw [hw2, ← hz1]
    exact h)
  have HD2 := hide (((Dw.start h).below hb1).below hb2)
  have HR2 := hide ((hb2.block _ (heap_lt s1)).trans s1)
  have HZ2 := hide (show w.heap.size + 1 < w2.heap.size by rw [hw2]; simp; omega)
  rw [hw1] at hw2
  clear hb1 s1 hz1 hb2 h hw1
  go_enter Tryz.func83, Tryz.ntmps83
  go_wp2_with fail
  rw [← hw2]
  clear hw2
  refine (srctext B b N (some ⟨w.heap.size + 1, 0, none⟩) 4 nm4 w2 HD2.out.s (by omega) HNM.out (fun b2 off e => by injection e with e; injection e with e; omega) (by simp [nm4]) (by simp [nm4])).mono ?_
  rintro e w3 ⟨nm, rfl, hx, hs3, hb3, hg3⟩
  have HD3 := hide (HD2.out.step hs3 hb3 hg3)
  have HR3 := hide ((hg3.block _ (heap_lt HR2.out) (fun e => by injection e with e; omega)).trans HR2.out)
  have HX := hide (nm4_small nm hx)
  have HZ3 := hide (Nat.lt_of_lt_of_le HZ2.out hg3.size)
  clear hs3 hb3 hg3 hx HD2 HR2 HNM HZ2
  go_upto_region 2 with fail
  have hal : Below w3.heap.size w3 (w3.alloc (.cells (PCELLS nm none 0 0) 30)) := (Below.refl _ _).alloc (Nat.le_refl _) _
  have HB4 := hide (show Bd B b (N + 2) w (w3.alloc (.cells (PCELLS nm none 0 0) 30)) w3.heap.size nm none 0 [] from ⟨HD3.out.below hal, (hal.block _ (heap_lt HR3.out)).trans HR3.out, heap_alloc_new w3 _, Own.nil, by have := HZ3.out; omega⟩)
  obtain ⟨Q, hQ⟩ : ∃ Q, Q = w3.heap.size := ⟨_, rfl⟩
  rw [← hQ] at HB4 ⊢
  clear hQ hal HD3 HR3 HZ3
  generalize w3.alloc (.cells (PCELLS nm none 0 0) 30) = w4 at *
  go_wp2_with fail
  refine (srcPick B b (N + 2) 3000 w4 HB4.out.d.s (by omega) (by omega)).mono ?_
  rintro e w5 ⟨p5, rfl, p50, p51, hs5, hb5, hg5⟩
  have p51' := p51 (by omega)
  have HB5 := hide (HB4.out.step hs5 hb5 hg5)
  clear hs5 hb5 hg5 p51 HB4
  go_wp2_with fail
  refine (srcPick B b (N + 2 + 2) 200 w5 HB5.out.d.s (by omega) (by omega)).mono ?_
  rintro e w6 ⟨p6, rfl, p60, p61, hs6, hb6, hg6⟩
  have p61' := p61 (by omega)
  have HB6 := hide (HB5.out.step hs6 hb6 hg6)
  clear hs6 hb6 hg6 p61 HB5
  go_wp2_with fail
  refine (srcPick B b (N + 2 + 2 + 2) 8 w6 HB6.out.d.s (by omega) (by omega)).mono ?_
  rintro e w7 ⟨p7, rfl, p70, p71, hs7, hb7, hg7⟩
  have p71' := p71 (by omega)
  have HB7 := hide (HB6.out.step hs7 hb7 hg7)
  clear hs7 hb7 hg7 p71 HB6
  obtain ⟨n7, hn7⟩ : ∃ n7 : Nat, p7 = n7 := ⟨p7.toNat, (Int.toNat_of_nonneg p70).symm⟩
  subst hn7
  go_wp2_with fail
  go_loopw [6, 4, 5] (fun v u o wr => ∃ (k m : Nat) (x y : Int) (A : Option Addr) (c : Nat) (rs : List RingR), v = .int .i64 (m : Int) ∧ u = .int .i64 x ∧ o = .int .i64 y ∧ k + m = n7 + 2 ∧ rs.length = k ∧ 20000 - 790 * (k : Int) ≤ x ∧ x ≤ 50000 ∧ 1200 ≤ y ∧ y ≤ 4000 ∧ Hid (∀ j, j < rs.length → 10000 ≤ (rg rs j).outer ∧ (rg rs j).outer ≤ 50000 ∧ 1000 ≤ (rg rs j).outer - (rg rs j).inner ∧ (rg rs j).outer - (rg rs j).inner ≤ 4000) ∧ Hid (Bd B b (N + 8 + 6 * k) w wr Q nm A c rs)) (fun v _ _ _ => (intOf v).toNat)
  case atStart => exact ⟨0, n7 + 2, 20000 + 10 * p5, 2000 + 10 * p6, none, 0, [], by go_num, by go_num, by go_num, by omega, rfl, by omega, by omega, by omega, by omega, hide (fun j hj => by simp at hj), HB7⟩
  case round =>
    clear HB7
    obtain ⟨k, m, x, y, A, c, rs, rfl, rfl, rfl, hkm, hrl, x0, x1, y0, y1, HRG, HB⟩ := hrel
    have HRL := hide hrl
    by_cases hm0 : m = 0
    · subst hm0
      have HF := hide (fun a0 a1 => HB.out.fin a0 a1)
      have HPP := hide (show RingsD rs from ⟨by omega, by omega, HRG.out⟩)
      clear hrl
      obtain ⟨c0, c1, cf, r0, r1, rf⟩ := HB.out.cells
      have rf0 := rf 0
      have rf1 := rf 1
      clear cf rf HB HRG
      go_wp2_with fail
      refine bodyPost_ret (v := .agg #[.string nm, .slice A rs.length c]) (by simp [results, Tryz.results83, go_sem, r0, r1]) rfl ⟨nm, A, c, rs, rfl, HX.out, HPP.out, (HF.out _ _).1, (HF.out _ _).2.more (by omega)⟩
    · have hmi : (0 : Int) < m := by omega
      obtain ⟨c0, c1, cf, _, _, _⟩ := HB.out.cells
      have f1 := cf 1
      have hql := heap_lt HB.out.q
      have hbQ : Q ≠ b := by have := HB.out.hQ; omega
      have kxy : IntKind.i64.wrap (x - y) = x - y := IntWalk.i64_in _ (by omega)
      have HBD := hide (HB.out.below ((Below.refl wr.heap.size wr).drew))
      have kk : k ≤ 9 := by omega
      clear c0 cf hrl
      go_wp2_with fail
      refine wp_region_noPanic ?_
      refine wp_region_held_drew (S := (fun w' => Below B wr w')) (by kernel_rfl) ((Below.refl _ _).drew) (fun hHeld => ?_)
      refine wpAnyH_take (i := 0) (oi := ?o0_1) (v := ?v0_1) ?hi0_1 ?hs0_1 ?hf0_1 ?hr0_1 (fun _ _ _ h => h) ?hy0_1 (by assumption) ?hh0_1
      case hi0_1 => ((simp only [List.getElem?_toArray, List.getElem?_cons_zero]); rfl)
      case hs0_1 => kernel_rfl
      case hf0_1 => kernel_rfl
      case hr0_1 => kernel_rfl
      case hy0_1 => exact Or.inl ⟨by rfl, by (intro wq hSw; (try dsimp only at hSw); go_simp; (try with_reducible rfl))⟩
      try simp only [Act.put, List.setIfInBounds_toArray, List.set_cons_zero, List.set_cons_succ]
      refine wpAnyH_take (i := 2) (oi := ?o2_2) (v := ?v2_2) ?hi2_2 ?hs2_2 ?hf2_2 ?hr2_2 (fun _ _ _ h => h) ?hy2_2 (by assumption) ?hh2_2
      case hi2_2 => ((simp only [List.getElem?_toArray, List.getElem?_cons_succ, List.getElem?_cons_zero]); rfl)
      case hs2_2 => kernel_rfl
      case hf2_2 => kernel_rfl
      case hr2_2 => kernel_rfl
      case hy2_2 => exact Or.inl ⟨by rfl, by (intro wq hSw; (try dsimp only at hSw); go_simp; (try with_reducible rfl))⟩
      try simp only [Act.put, List.setIfInBounds_toArray, List.set_cons_zero, List.set_cons_succ]
      refine wpAnyH_take (i := 3) (oi := ?o3_3) (v := ?v3_3) ?hi3_3 ?hs3_3 ?hf3_3 ?hr3_3 (fun _ _ _ h => h) ?hy3_3 (by assumption) ?hh3_3
      case hi3_3 => ((simp only [List.getElem?_toArray, List.getElem?_cons_succ, List.getElem?_cons_zero]); rfl)
      case hs3_3 => kernel_rfl
      case hf3_3 => kernel_rfl
      case hr3_3 => kernel_rfl
      case hy3_3 => exact Or.inl ⟨by rfl, by (intro wq hSw; (try dsimp only at hSw); go_simp; (try with_reducible rfl))⟩
      try simp only [Act.put, List.setIfInBounds_toArray, List.set_cons_zero, List.set_cons_succ]
      refine wpAnyH_take (i := 4) (oi := ?o4_4) (v := ?v4_4) ?hi4_4 ?hs4_4 ?hf4_4 ?hr4_4 (fun _ _ _ h => h) ?hy4_4 (by assumption) ?hh4_4
      case hi4_4 => ((simp only [List.getElem?_toArray, List.getElem?_cons_succ, List.getElem?_cons_zero]); rfl)
      case hs4_4 => kernel_rfl
      case hf4_4 => kernel_rfl
      case hr4_4 => kernel_rfl
      case hy4_4 => exact Or.inl ⟨by rfl, by (intro wq hSw; (try dsimp only at hSw); go_simp; (try with_reducible rfl))⟩
      try simp only [Act.put, List.setIfInBounds_toArray, List.set_cons_zero, List.set_cons_succ]
      refine wpAnyH_take (i := 5) (oi := ?o5_5) (v := ?v5_5) ?hi5_5 ?hs5_5 ?hf5_5 ?hr5_5 (fun _ _ _ h => h) ?hy5_5 (by assumption) ?hh5_5
      case hi5_5 => ((simp only [List.getElem?_toArray, List.getElem?_cons_succ, List.getElem?_cons_zero]); rfl)
      case hs5_5 => kernel_rfl
      case hf5_5 => kernel_rfl
      case hr5_5 => kernel_rfl
      case hy5_5 => exact Or.inl ⟨by rfl, by (intro wq hSw; (try dsimp only at hSw); go_simp; (try with_reducible rfl))⟩
      try simp only [Act.put, List.setIfInBounds_toArray, List.set_cons_zero, List.set_cons_succ]
      refine wpAnyH_take (i := 6) (oi := ?o6_6) (v := ?v6_6) ?hi6_6 ?hs6_6 ?hf6_6 ?hr6_6 (fun _ _ _ h => h) ?hy6_6 (by assumption) ?hh6_6
      case hi6_6 => ((simp only [List.getElem?_toArray, List.getElem?_cons_succ, List.getElem?_cons_zero]); rfl)
      case hs6_6 => kernel_rfl
      case hf6_6 => kernel_rfl
      case hr6_6 => kernel_rfl
      case hy6_6 => exact Or.inl ⟨by rfl, by (intro wq hSw; (try dsimp only at hSw); go_simp; (try with_reducible rfl))⟩
      try simp only [Act.put, List.setIfInBounds_toArray, List.set_cons_zero, List.set_cons_succ]
      refine wpAnyH_ready (rs := [1, 7]) (by kernel_rfl) (by simp) ?_
      refine AllReadyH.cons (o := ?o1_7) ?hi1_7 (fun K hK => ?hh1_7) (AllReadyH.cons (o := ?o7_8) ?hi7_8 (fun K hK => ?hh7_8) AllReadyH.nil)
      case hi1_7 => ((simp only [List.getElem?_toArray, List.getElem?_cons_succ, List.getElem?_cons_zero]); rfl)
      case hi7_8 => ((simp only [List.getElem?_toArray, List.getElem?_cons_succ, List.getElem?_cons_zero]); rfl)
      go_simp
      refine hK.out _ _ (hHeld) (fun hHeld2 => ?_)
      clear hK K hHeld
      have hHeld := hHeld2
      clear hHeld2
      try simp only [Act.put, List.setIfInBounds_toArray, List.set_cons_zero, List.set_cons_succ]
      refine wpAnyH_ready (rs := [7]) (by kernel_rfl) (by simp) ?_
      refine AllReadyH.cons (o := ?o7_9) ?hi7_9 (fun K hK => ?hh7_9) AllReadyH.nil
      case hi7_9 => ((simp only [List.getElem?_toArray, List.getElem?_cons_succ, List.getElem?_cons_zero]); rfl)
      go_simp
      (go_at_call 89; refine (srcPick B b (N + 8 + 6 * k) 200 _ HBD.out.d.s (by omega) (by omega)).mono ?_; rintro e wA ⟨r, rfl, r0, r1, hsA, hbA, hgA⟩; have hr1 := r1 (by omega); have HBA := hide (HBD.out.step hsA hbA hgA); have cA := HBA.out.cells.2.1; have fA := HBA.out.cells.2.2.1 1; have hqlA := heap_lt HBA.out.q; have HHA := hide (show Below B wr wA from (Below.refl _ _).drew.trans hbA); clear hsA hbA hgA r1)
      (try dsimp only)
      refine hK.out _ _ (HHA.out) (fun hHeld2 => ?_)
      clear hK K hHeld
      have hHeld := hHeld2
      clear hHeld2
      try simp only [Act.put, List.setIfInBounds_toArray, List.set_cons_zero, List.set_cons_succ]
      refine wpAnyH_take (i := 8) (oi := ?o8_10) (v := ?v8_10) ?hi8_10 ?hs8_10 ?hf8_10 ?hr8_10 (fun _ _ _ h => h) ?hy8_10 (by assumption) ?hh8_10
      case hi8_10 => ((simp only [List.getElem?_toArray, List.getElem?_cons_succ, List.getElem?_cons_zero]); rfl)
      case hs8_10 => kernel_rfl
      case hf8_10 => kernel_rfl
      case hr8_10 => kernel_rfl
      case hy8_10 => exact Or.inl ⟨by rfl, by (intro wq hSw; (try dsimp only at hSw); go_simp; (try with_reducible rfl))⟩
      try simp only [Act.put, List.setIfInBounds_toArray, List.set_cons_zero, List.set_cons_succ]
      refine wpAnyH_take (i := 9) (oi := ?o9_11) (v := ?v9_11) ?hi9_11 ?hs9_11 ?hf9_11 ?hr9_11 (fun _ _ _ h => h) ?hy9_11 (by assumption) ?hh9_11
      case hi9_11 => ((simp only [List.getElem?_toArray, List.getElem?_cons_succ, List.getElem?_cons_zero]); rfl)
      case hs9_11 => kernel_rfl
      case hf9_11 => kernel_rfl
      case hr9_11 => kernel_rfl
      case hy9_11 => exact Or.inl ⟨by rfl, by (intro wq hSw; (try dsimp only at hSw); go_simp; (try with_reducible rfl))⟩
      try simp only [Act.put, List.setIfInBounds_toArray, List.set_cons_zero, List.set_cons_succ]
      refine wpAnyH_take (i := 10) (oi := ?o10_12) (v := ?v10_12) ?hi10_12 ?hs10_12 ?hf10_12 ?hr10_12 (fun _ _ _ h => h) ?hy10_12 (by assumption) ?hh10_12
      case hi10_12 => ((simp only [List.getElem?_toArray, List.getElem?_cons_succ, List.getElem?_cons_zero]); rfl)
      case hs10_12 => kernel_rfl
      case hf10_12 => kernel_rfl
      case hr10_12 => kernel_rfl
      case hy10_12 => exact Or.inl ⟨by rfl, by (intro wq hSw; (try dsimp only at hSw); go_simp; (try with_reducible rfl))⟩
      try simp only [Act.put, List.setIfInBounds_toArray, List.set_cons_zero, List.set_cons_succ]
      refine wpAnyH_ready (rs := [11]) (by kernel_rfl) (by simp) ?_
      refine AllReadyH.cons (o := ?o11_13) ?hi11_13 (fun K hK => ?hh11_13) AllReadyH.nil
      case hi11_13 => ((simp only [List.getElem?_toArray, List.getElem?_cons_succ, List.getElem?_cons_zero]); rfl)
      go_simp
      refine hK.out _ _ (HHA.out.alloc (by have := HBA.out.d.bB; have := HBA.out.d.bl; have := HBA.out.d.size; omega) _) (fun hHeld2 => ?_)
      clear hK K hHeld
      have hHeld := hHeld2
      clear hHeld2
      try simp only [Act.put, List.setIfInBounds_toArray, List.set_cons_zero, List.set_cons_succ]
      refine wpAnyH_ready (rs := [12]) (by kernel_rfl) (by simp) ?_
      refine AllReadyH.cons (o := ?o12_14) ?hi12_14 (fun K hK => ?hh12_14) AllReadyH.nil
      case hi12_14 => ((simp only [List.getElem?_toArray, List.getElem?_cons_succ, List.getElem?_cons_zero]); rfl)
      refine step_appR (by rfl) _ _ (by rfl) (Q + 1) (by rfl) HBA.out.o (by rfl) (by have := HRL.out; omega) (by omega) ?_; intro A6 c6 w6 ho6 hb6 hg6; have HH6 := hide (show Below B wr w6 from (HHA.out.alloc (by have := HBA.out.d.bB; have := HBA.out.d.bl; have := HBA.out.d.size; omega) _).trans (hb6.mono (by have := HBA.out.d.bB; have := HBA.out.d.bl; have := HBA.out.hQ; omega))); have c6' := (hb6.cell (p := ⟨Q, 1, none⟩) (Nat.lt_succ_self Q)).trans ((((Below.refl wA.heap.size wA).alloc (Nat.le_refl _) _).cell (p := ⟨Q, 1, none⟩) hqlA).trans cA); have f6' := (hb6.frozen (p := ⟨Q, 1, none⟩) (Nat.lt_succ_self Q)).trans ((((Below.refl wA.heap.size wA).alloc (Nat.le_refl _) _).frozen (p := ⟨Q, 1, none⟩) hqlA).trans fA); have HPT := hide (bd_push HBA.out ho6 hg6); clear ho6 hb6 hg6
      refine hK.out _ _ (HH6.out) (fun hHeld2 => ?_)
      clear hK K hHeld
      have hHeld := hHeld2
      clear hHeld2
      try simp only [Act.put, List.setIfInBounds_toArray, List.set_cons_zero, List.set_cons_succ]
      refine wpAnyH_take (i := 13) (oi := ?o13_15) (v := ?v13_15) ?hi13_15 ?hs13_15 ?hf13_15 ?hr13_15 (fun _ _ _ h => h) ?hy13_15 (by assumption) ?hh13_15
      case hi13_15 => ((simp only [List.getElem?_toArray, List.getElem?_cons_succ, List.getElem?_cons_zero]); rfl)
      case hs13_15 => kernel_rfl
      case hf13_15 => kernel_rfl
      case hr13_15 => kernel_rfl
      case hy13_15 => exact Or.inl ⟨by rfl, by (intro wq hSw; (try dsimp only at hSw); go_simp; (try with_reducible rfl))⟩
      try simp only [Act.put, List.setIfInBounds_toArray, List.set_cons_zero, List.set_cons_succ]
      refine wpAnyH_ready (rs := [14]) (by kernel_rfl) (by simp) ?_
      refine AllReadyH.cons (o := ?o14_16) ?hi14_16 (fun K hK => ?hh14_16) AllReadyH.nil
      case hi14_16 => ((simp only [List.getElem?_toArray, List.getElem?_cons_succ, List.getElem?_cons_zero]); rfl)
      go_simp
      refine hK.out _ _ (HH6.out.setCell (show B ≤ Q by have := HBA.out.d.bB; have := HBA.out.d.bl; have := HBA.out.hQ; omega) _) (fun hHeld2 => ?_)
      clear hK K hHeld
      have hHeld := hHeld2
      clear hHeld2
      try simp only [Act.put, List.setIfInBounds_toArray, List.set_cons_zero, List.set_cons_succ]
      refine wpAnyH_done (by kernel_rfl) ?_ _
      refine NoPanic.normal ?_
      rotate_left
      go_simp
      (go_at_call 89; refine (srcPick B b (N + 8 + 6 * k) 200 _ HBD.out.d.s (by omega) (by omega)).mono ?_; rintro e wA ⟨r, rfl, r0, r1, hsA, hbA, hgA⟩; have hr1 := r1 (by omega); have HBA := hide (HBD.out.step hsA hbA hgA); have cA := HBA.out.cells.2.1; have fA := HBA.out.cells.2.2.1 1; have hqlA := heap_lt HBA.out.q; have HHA := hide (show Below B wr wA from (Below.refl _ _).drew.trans hbA); clear hsA hbA hgA r1)
      (try dsimp only)
      refine hK.out _ _ (HHA.out) (fun hHeld2 => ?_)
      clear hK K hHeld
      have hHeld := hHeld2
      clear hHeld2
      try simp only [Act.put, List.setIfInBounds_toArray, List.set_cons_zero, List.set_cons_succ]
      refine wpAnyH_take (i := 8) (oi := ?o8_17) (v := ?v8_17) ?hi8_17 ?hs8_17 ?hf8_17 ?hr8_17 (fun _ _ _ h => h) ?hy8_17 (by assumption) ?hh8_17
      case hi8_17 => ((simp only [List.getElem?_toArray, List.getElem?_cons_succ, List.getElem?_cons_zero]); rfl)
      case hs8_17 => kernel_rfl
      case hf8_17 => kernel_rfl
      case hr8_17 => kernel_rfl
      case hy8_17 => exact Or.inl ⟨by rfl, by (intro wq hSw; (try dsimp only at hSw); go_simp; (try with_reducible rfl))⟩
      try simp only [Act.put, List.setIfInBounds_toArray, List.set_cons_zero, List.set_cons_succ]
      refine wpAnyH_take (i := 9) (oi := ?o9_18) (v := ?v9_18) ?hi9_18 ?hs9_18 ?hf9_18 ?hr9_18 (fun _ _ _ h => h) ?hy9_18 (by assumption) ?hh9_18
      case hi9_18 => ((simp only [List.getElem?_toArray, List.getElem?_cons_succ, List.getElem?_cons_zero]); rfl)
      case hs9_18 => kernel_rfl
      case hf9_18 => kernel_rfl
      case hr9_18 => kernel_rfl
      case hy9_18 => exact Or.inl ⟨by rfl, by (intro wq hSw; (try dsimp only at hSw); go_simp; (try with_reducible rfl))⟩
      try simp only [Act.put, List.setIfInBounds_toArray, List.set_cons_zero, List.set_cons_succ]
      refine wpAnyH_take (i := 10) (oi := ?o10_19) (v := ?v10_19) ?hi10_19 ?hs10_19 ?hf10_19 ?hr10_19 (fun _ _ _ h => h) ?hy10_19 (by assumption) ?hh10_19
      case hi10_19 => ((simp only [List.getElem?_toArray, List.getElem?_cons_succ, List.getElem?_cons_zero]); rfl)
      case hs10_19 => kernel_rfl
      case hf10_19 => kernel_rfl
      case hr10_19 => kernel_rfl
      case hy10_19 => exact Or.inl ⟨by rfl, by (intro wq hSw; (try dsimp only at hSw); go_simp; (try with_reducible rfl))⟩
      try simp only [Act.put, List.setIfInBounds_toArray, List.set_cons_zero, List.set_cons_succ]
      refine wpAnyH_ready (rs := [1, 11]) (by kernel_rfl) (by simp) ?_
      refine AllReadyH.cons (o := ?o1_20) ?hi1_20 (fun K hK => ?hh1_20) (AllReadyH.cons (o := ?o11_21) ?hi11_21 (fun K hK => ?hh11_21) AllReadyH.nil)
      case hi1_20 => ((simp only [List.getElem?_toArray, List.getElem?_cons_succ, List.getElem?_cons_zero]); rfl)
      case hi11_21 => ((simp only [List.getElem?_toArray, List.getElem?_cons_succ, List.getElem?_cons_zero]); rfl)
      go_simp
      refine hK.out _ _ (hHeld) (fun hHeld2 => ?_)
      clear hK K hHeld
      have hHeld := hHeld2
      clear hHeld2
      try simp only [Act.put, List.setIfInBounds_toArray, List.set_cons_zero, List.set_cons_succ]
      refine wpAnyH_ready (rs := [11]) (by kernel_rfl) (by simp) ?_
      refine AllReadyH.cons (o := ?o11_22) ?hi11_22 (fun K hK => ?hh11_22) AllReadyH.nil
      case hi11_22 => ((simp only [List.getElem?_toArray, List.getElem?_cons_succ, List.getElem?_cons_zero]); rfl)
      go_simp
      refine hK.out _ _ (HHA.out.alloc (by have := HBA.out.d.bB; have := HBA.out.d.bl; have := HBA.out.d.size; omega) _) (fun hHeld2 => ?_)
      clear hK K hHeld
      have hHeld := hHeld2
      clear hHeld2
      try simp only [Act.put, List.setIfInBounds_toArray, List.set_cons_zero, List.set_cons_succ]
      refine wpAnyH_ready (rs := [12]) (by kernel_rfl) (by simp) ?_
      refine AllReadyH.cons (o := ?o12_23) ?hi12_23 (fun K hK => ?hh12_23) AllReadyH.nil
      case hi12_23 => ((simp only [List.getElem?_toArray, List.getElem?_cons_succ, List.getElem?_cons_zero]); rfl)
      refine step_appR (by rfl) _ _ (by rfl) (Q + 1) (by rfl) HBA.out.o (by rfl) (by have := HRL.out; omega) (by omega) ?_; intro A6 c6 w6 ho6 hb6 hg6; have HH6 := hide (show Below B wr w6 from (HHA.out.alloc (by have := HBA.out.d.bB; have := HBA.out.d.bl; have := HBA.out.d.size; omega) _).trans (hb6.mono (by have := HBA.out.d.bB; have := HBA.out.d.bl; have := HBA.out.hQ; omega))); have c6' := (hb6.cell (p := ⟨Q, 1, none⟩) (Nat.lt_succ_self Q)).trans ((((Below.refl wA.heap.size wA).alloc (Nat.le_refl _) _).cell (p := ⟨Q, 1, none⟩) hqlA).trans cA); have f6' := (hb6.frozen (p := ⟨Q, 1, none⟩) (Nat.lt_succ_self Q)).trans ((((Below.refl wA.heap.size wA).alloc (Nat.le_refl _) _).frozen (p := ⟨Q, 1, none⟩) hqlA).trans fA); have HPT := hide (bd_push HBA.out ho6 hg6); clear ho6 hb6 hg6
      refine hK.out _ _ (HH6.out) (fun hHeld2 => ?_)
      clear hK K hHeld
      have hHeld := hHeld2
      clear hHeld2
      try simp only [Act.put, List.setIfInBounds_toArray, List.set_cons_zero, List.set_cons_succ]
      refine wpAnyH_take (i := 13) (oi := ?o13_24) (v := ?v13_24) ?hi13_24 ?hs13_24 ?hf13_24 ?hr13_24 (fun _ _ _ h => h) ?hy13_24 (by assumption) ?hh13_24
      case hi13_24 => ((simp only [List.getElem?_toArray, List.getElem?_cons_succ, List.getElem?_cons_zero]); rfl)
      case hs13_24 => kernel_rfl
      case hf13_24 => kernel_rfl
      case hr13_24 => kernel_rfl
      case hy13_24 => exact Or.inl ⟨by rfl, by (intro wq hSw; (try dsimp only at hSw); go_simp; (try with_reducible rfl))⟩
      try simp only [Act.put, List.setIfInBounds_toArray, List.set_cons_zero, List.set_cons_succ]
      refine wpAnyH_ready (rs := [14]) (by kernel_rfl) (by simp) ?_
      refine AllReadyH.cons (o := ?o14_25) ?hi14_25 (fun K hK => ?hh14_25) AllReadyH.nil
      case hi14_25 => ((simp only [List.getElem?_toArray, List.getElem?_cons_succ, List.getElem?_cons_zero]); rfl)
      go_simp
      refine hK.out _ _ (HH6.out.setCell (show B ≤ Q by have := HBA.out.d.bB; have := HBA.out.d.bl; have := HBA.out.hQ; omega) _) (fun hHeld2 => ?_)
      clear hK K hHeld
      have hHeld := hHeld2
      clear hHeld2
      try simp only [Act.put, List.setIfInBounds_toArray, List.set_cons_zero, List.set_cons_succ]
      refine wpAnyH_done (by kernel_rfl) ?_ _
      refine NoPanic.normal ?_
      rotate_left
      go_simp
      refine hK.out _ _ (HHA.out.alloc (by have := HBA.out.d.bB; have := HBA.out.d.bl; have := HBA.out.d.size; omega) _) (fun hHeld2 => ?_)
      clear hK K hHeld
      have hHeld := hHeld2
      clear hHeld2
      try simp only [Act.put, List.setIfInBounds_toArray, List.set_cons_zero, List.set_cons_succ]
      refine wpAnyH_ready (rs := [1]) (by kernel_rfl) (by simp) ?_
      refine AllReadyH.cons (o := ?o1_26) ?hi1_26 (fun K hK => ?hh1_26) AllReadyH.nil
      case hi1_26 => ((simp only [List.getElem?_toArray, List.getElem?_cons_succ, List.getElem?_cons_zero]); rfl)
      go_simp
      refine hK.out _ _ (hHeld) (fun hHeld2 => ?_)
      clear hK K hHeld
      have hHeld := hHeld2
      clear hHeld2
      try simp only [Act.put, List.setIfInBounds_toArray, List.set_cons_zero, List.set_cons_succ]
      refine wpAnyH_ready (rs := [12]) (by kernel_rfl) (by simp) ?_
      refine AllReadyH.cons (o := ?o12_27) ?hi12_27 (fun K hK => ?hh12_27) AllReadyH.nil
      case hi12_27 => ((simp only [List.getElem?_toArray, List.getElem?_cons_succ, List.getElem?_cons_zero]); rfl)
      refine step_appR (by rfl) _ _ (by rfl) (Q + 1) (by rfl) HBA.out.o (by rfl) (by have := HRL.out; omega) (by omega) ?_; intro A6 c6 w6 ho6 hb6 hg6; have HH6 := hide (show Below B wr w6 from (HHA.out.alloc (by have := HBA.out.d.bB; have := HBA.out.d.bl; have := HBA.out.d.size; omega) _).trans (hb6.mono (by have := HBA.out.d.bB; have := HBA.out.d.bl; have := HBA.out.hQ; omega))); have c6' := (hb6.cell (p := ⟨Q, 1, none⟩) (Nat.lt_succ_self Q)).trans ((((Below.refl wA.heap.size wA).alloc (Nat.le_refl _) _).cell (p := ⟨Q, 1, none⟩) hqlA).trans cA); have f6' := (hb6.frozen (p := ⟨Q, 1, none⟩) (Nat.lt_succ_self Q)).trans ((((Below.refl wA.heap.size wA).alloc (Nat.le_refl _) _).frozen (p := ⟨Q, 1, none⟩) hqlA).trans fA); have HPT := hide (bd_push HBA.out ho6 hg6); clear ho6 hb6 hg6
      refine hK.out _ _ (HH6.out) (fun hHeld2 => ?_)
      clear hK K hHeld
      have hHeld := hHeld2
      clear hHeld2
      try simp only [Act.put, List.setIfInBounds_toArray, List.set_cons_zero, List.set_cons_succ]
      refine wpAnyH_take (i := 13) (oi := ?o13_28) (v := ?v13_28) ?hi13_28 ?hs13_28 ?hf13_28 ?hr13_28 (fun _ _ _ h => h) ?hy13_28 (by assumption) ?hh13_28
      case hi13_28 => ((simp only [List.getElem?_toArray, List.getElem?_cons_succ, List.getElem?_cons_zero]); rfl)
      case hs13_28 => kernel_rfl
      case hf13_28 => kernel_rfl
      case hr13_28 => kernel_rfl
      case hy13_28 => exact Or.inl ⟨by rfl, by (intro wq hSw; (try dsimp only at hSw); go_simp; (try with_reducible rfl))⟩
      try simp only [Act.put, List.setIfInBounds_toArray, List.set_cons_zero, List.set_cons_succ]
      refine wpAnyH_ready (rs := [14]) (by kernel_rfl) (by simp) ?_
      refine AllReadyH.cons (o := ?o14_29) ?hi14_29 (fun K hK => ?hh14_29) AllReadyH.nil
      case hi14_29 => ((simp only [List.getElem?_toArray, List.getElem?_cons_succ, List.getElem?_cons_zero]); rfl)
      go_simp
      refine hK.out _ _ (HH6.out.setCell (show B ≤ Q by have := HBA.out.d.bB; have := HBA.out.d.bl; have := HBA.out.hQ; omega) _) (fun hHeld2 => ?_)
      clear hK K hHeld
      have hHeld := hHeld2
      clear hHeld2
      try simp only [Act.put, List.setIfInBounds_toArray, List.set_cons_zero, List.set_cons_succ]
      refine wpAnyH_done (by kernel_rfl) ?_ _
      refine NoPanic.normal ?_
      rotate_left
      all_goals
        obtain ⟨w8, hw8⟩ : ∃ w8, w8 = w6.setCell ⟨Q, 1, none⟩ (.slice A6 (rs.length + 1) c6) := ⟨_, rfl⟩
        rw [← hw8] at HPT
        go_upto_region 8 with fail
        rw [← hw8]
        clear hw8 c1 f1 cA fA c6' f6' HBD HBA HH6 HHA hHeld kxy
        go_wp2_with fail
        refine (srcPick B b (N + 8 + 6 * k + 2) 80 w8 HPT.out.d.s (by omega) (by omega)).mono ?_
        rintro e w9 ⟨p9, rfl, p90, p91, hs9, hb9, hg9⟩
        have p91' := p91 (by omega)
        have HB9 := hide (HPT.out.step hs9 hb9 hg9)
        clear hs9 hb9 hg9 p91 HPT
        go_wp2_with fail
        refine (srcPick B b (N + 8 + 6 * k + 2 + 2) 150 w9 HB9.out.d.s (by omega) (by omega)).mono ?_
        rintro e wB ⟨pB, rfl, pB0, pB1, hsB, hbB, hgB⟩
        have pB1' := pB1 (by omega)
        have HBB := hide (HB9.out.step hsB hbB hgB)
        clear hsB hbB hgB pB1 HB9
        go_wp2_with fail
        go_roundw
        case rel => exact ⟨k + 1, m - 1, x - 10 * p9, 1200 + 10 * pB, A6, c6, rs ++ [⟨x, x - y, _⟩], by go_num, by go_num, by go_num, by omega, by simp [HRL.out], by omega, by omega, by omega, by omega, hide (fun j hj => by
          rw [rg_snoc hj]
          split
          · exact HRG.out j ‹_›
          · simp only; have := HRL.out; omega), hide (Bd.more (N := N + 8 + 6 * k + 2 + 2 + 2) (N' := N + 8 + 6 * (k + 1)) HBB.out (by omega))⟩
        case measure => simp [intOf]; omega
end Go.Proofs.YtnefgafmnpblpaaGreat
