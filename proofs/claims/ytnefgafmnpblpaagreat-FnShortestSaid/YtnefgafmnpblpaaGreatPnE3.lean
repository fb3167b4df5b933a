/- Contracts: draws of bent profiles. -/
import Derived.Test.YtnefgafmnpblpaaGreatPnE2
namespace Go.Proofs.YtnefgafmnpblpaaGreat
open Go.RowKit Pn

theorem flat_set0 : ∀ (rs : List RingR) (i : Nat), i < rs.length → ∀ v : Int, (rs.set i ⟨v, (rg rs i).inner, (rg rs i).hgt⟩).flatMap encRing = (rs.flatMap encRing).set (i * 3) (.int .i64 v)
  | [], i, h, v => by simp at h
  | r :: rs, 0, h, v => by simp [encRing]
  | r :: rs, i + 1, h, v => by
    have ih := flat_set0 rs i (by simpa using h) v
    have e : rg (r :: rs) (i + 1) = rg rs i := by simp
    rw [e]
    simp only [List.set_cons_succ, List.flatMap_cons]
    rw [ih]
    simp [encRing, show (i + 1) * 3 = i * 3 + 1 + 1 + 1 by omega]
theorem flat_set2 : ∀ (rs : List RingR) (i : Nat), i < rs.length → ∀ v : Int, (rs.set i ⟨(rg rs i).outer, (rg rs i).inner, v⟩).flatMap encRing = (rs.flatMap encRing).set (i * 3 + 2) (.int .i64 v)
  | [], i, h, v => by simp at h
  | r :: rs, 0, h, v => by simp [encRing]
  | r :: rs, i + 1, h, v => by
    have ih := flat_set2 rs i (by simpa using h) v
    have e : rg (r :: rs) (i + 1) = rg rs i := by simp
    rw [e]
    simp only [List.set_cons_succ, List.flatMap_cons]
    rw [ih]
    simp [encRing, show (i + 1) * 3 + 2 = i * 3 + 2 + 1 + 1 + 1 by omega]
/-- A number of a ring is written. -/
theorem own_setJ {w : World} {B g n c i j : Nat} {rs : List RingR} (h : OwnR w B (.slice (some ⟨g, 0, none⟩) n c) rs) (hn : n = rs.length) (hi : i < rs.length) (hj : j < 3) (v : Int) :
    ∃ rs' : List RingR, rs'.length = rs.length ∧ OwnR (w.setCell ⟨g, i * 3 + j, none⟩ (.int .i64 v)) B (.slice (some ⟨g, 0, none⟩) n c) rs' := by
  match j, hj with
  | 0, _ =>
    refine ⟨rs.set i ⟨v, (rg rs i).inner, (rg rs i).hgt⟩, by simp, ?_⟩
    subst hn
    unfold OwnR Own
    rw [flat_set0 rs i hi v, List.length_set]
    exact (World.ownsRow.stored h (i * 3) _).1
  | 1, _ => exact ⟨_, by simp, own_setR h hn hi v⟩
  | 2, _ =>
    refine ⟨rs.set i ⟨(rg rs i).outer, (rg rs i).inner, v⟩, by simp, ?_⟩
    subst hn
    unfold OwnR Own
    rw [flat_set2 rs i hi v, List.length_set]
    exact (World.ownsRow.stored h (i * 3 + 2) _).1
theorem ring_cells {w : World} {B c : Nat} {A : Option Addr} {rs : List RingR} (h : OwnR w B (.slice A rs.length c) rs) {i : Nat} (hi : i < rs.length) : ∃ g, A = some ⟨g, 0, none⟩ ∧ B ≤ g ∧ g < w.heap.size ∧ rs.length ≤ c ∧ w.cell? ⟨g, i * 3, none⟩ = some (.int .i64 (rg rs i).outer) ∧ w.cell? ⟨g, i * 3 + 1, none⟩ = some (.int .i64 (rg rs i).inner) ∧ w.cell? ⟨g, i * 3 + 2, none⟩ = some (.int .i64 (rg rs i).hgt) ∧ ∀ j, w.frozen? ⟨g, j, none⟩ = false := by
  obtain ⟨b, o, e, hb, hc⟩ := (Own.at_ (enc := encRing) (fun _ => rfl) h).getR (by omega)
  obtain ⟨g, e2, h1, h2⟩ := own_addr h (by omega)
  rw [e2] at e
  injection e with e; injection e with e3 e4
  subst e3; subst e4
  have h3 := hc i hi
  simp only [Nat.zero_add] at h3
  refine ⟨g, e2, h1, h2, ownR_cap h (by omega), h3.1, h3.2.1, h3.2.2, fun j => ?_⟩
  rcases h.2 with ⟨e, q⟩ | ⟨g', cap, cur, e, _, hk, _⟩
  · omega
  · rw [e2] at e
    injection e with e _ _
    injection e with e
    injection e with e _ _
    subst e
    simp [World.frozen?, hk]
set_option maxRecDepth 100000 in
/-- An append of one ring, as a step of a region that draws its order, and where the row then lies. -/
theorem step_appR2 {w : World} {ops : Array Oper} {o : Oper} {a : Act} {K : Act → World → Prop} {Q : Exit → Act → World → Prop} {E : Prop} (hgd : o.guard = none) (s x : Operand) (ho : o.op = .call { callee := .builtin .append, args := #[s, x], argTypes := #[28, 28] }) (B : Nat) {v : Value} {xs : List RingR} (hs : a.eval s = v)
    (hown : OwnR w B v xs) {y0 y1 y2 : Int} {q : Nat} (hx : a.eval x = .slice (some ⟨q, 0, none⟩) 1 1) (hn : xs.length ≤ 1048576) (hB : B ≤ w.heap.size)
    (h : ∀ (A : Option Addr) (c : Nat) (w' : World), OwnR w' B (.slice A (xs.length + 1) c) (xs ++ [⟨y0, y1, y2⟩]) → Below B (w.alloc (.cells #[.int .i64 y0, .int .i64 y1, .int .i64 y2] 156)) w' → (w.alloc (.cells #[.int .i64 y0, .int .i64 y1, .int .i64 y2] 156)).grownBy w' v.ownBlock → ((Value.slice A (xs.length + 1) c).ownBlock = v.ownBlock ∨ ∃ g, (Value.slice A (xs.length + 1) c).ownBlock = some g ∧ w.heap.size ≤ g) → K (a.put o.dst (.slice A (xs.length + 1) c)) w') (hq : q = w.heap.size := by first | rfl | simp) : if Region.wanted o (yielded ops a.tmps) = true then Oper.wp Tryz.prog o a (w.alloc (.cells #[.int .i64 y0, .int .i64 y1, .int .i64 y2] 156)) K Q else E := by
  subst hq
  obtain ⟨i0, hi, hz0, hz1, hz2⟩ := info_parts infoA_Ring
  have hb0 : Below w.heap.size w (w.alloc (.cells #[.int .i64 y0, .int .i64 y1, .int .i64 y2] 156)) := (Below.refl _ _).alloc (Nat.le_refl _) _
  have hO := hown.below hb0
  refine step_append_lies _ hgd s x _ ho B 156 i0 _ 3 24 Tryz.underlying28 hi hz0 hz1 hz2 rfl (by omega) v xs.length (xs.flatMap encRing) hs hO ⟨w.heap.size, 0, none⟩ 1 1 [.int .i64 y0, .int .i64 y1, .int .i64 y2] hx rfl (World.news_of_block (cs := #[.int .i64 y0, .int .i64 y1, .int .i64 y2]) (heap_alloc_new w _)) (one_Ring ⟨y0, y1, y2⟩) (by omega) (by unfold maxLen; omega) (by omega) (by simp; omega) _ rfl ?_
  intro g cap w' h1 h2 h3 _
  refine h _ cap w' ?_ (Below.grown (Below.refl _ _) h2 (by simp; omega) fun k hk => (Own.lt hO k hk).1) h2 (by
    rcases h3 with e | e
    · exact .inl e.symm
    · exact .inr ⟨g, rfl, by rw [e]; simp⟩)
  unfold OwnR Own
  rw [List.length_append, List.flatMap_append]
  simpa [encRing] using h1
/-- A profile under way, whose rings may be older than the local. -/
structure Be (B b N : Nat) (w0 w : World) (Q : Nat) (nm : ByteArray) (A : Option Addr) (c : Nat) (rs : List RingR) : Prop where
  d : Dw B b N w0 w
  r : w.heap[w0.heap.size]? = some (.cells (PCELLS ⟨#[]⟩ none 0 0) 30 (0, 0))
  q : w.heap[Q]? = some (.cells (PCELLS nm A rs.length c) 30 (0, 0))
  o : OwnR w (w0.heap.size + 1) (.slice A rs.length c) rs
  ne : (Value.slice A rs.length c).ownBlock ≠ some Q
  hQ : w0.heap.size < Q
section
variable {B b N N' : Nat} {w0 w w' : World} {Q : Nat} {nm : ByteArray} {A : Option Addr} {c : Nat} {rs : List RingR}
theorem Be.step (h : Be B b N w0 w Q nm A c rs) (hs : Src w' B b N') (hb : Below B w w') (hg : w.grownBy w' (some b)) : Be B b N' w0 w' Q nm A c rs := by
  have hbl := h.d.bl
  have hQ := h.hQ
  exact ⟨h.d.step hs hb hg, (hg.block _ (heap_lt h.r) (fun e => by injection e with e; omega)).trans h.r, (hg.block _ (heap_lt h.q) (fun e => by injection e with e; omega)).trans h.q, own_farN h.o (by omega) hg, h.ne, hQ⟩
theorem Be.below (h : Be B b N w0 w Q nm A c rs) (hb : Below w.heap.size w w') : Be B b N w0 w' Q nm A c rs :=
  ⟨h.d.below hb, (hb.block _ (heap_lt h.r)).trans h.r, (hb.block _ (heap_lt h.q)).trans h.q, h.o.below hb, h.ne, h.hQ⟩
theorem Be.more (h : Be B b N w0 w Q nm A c rs) (hN : N ≤ N') : Be B b N' w0 w Q nm A c rs := ⟨h.d.more hN, h.r, h.q, h.o, h.ne, h.hQ⟩
theorem Be.cells (h : Be B b N w0 w Q nm A c rs) : w.cell? ⟨Q, 0, none⟩ = some (.string nm) ∧ w.cell? ⟨Q, 1, none⟩ = some (.slice A rs.length c) ∧ (∀ j, w.frozen? ⟨Q, j, none⟩ = false) ∧ w.cell? ⟨w0.heap.size, 0, none⟩ = some (.string ⟨#[]⟩) ∧ w.cell? ⟨w0.heap.size, 1, none⟩ = some (.slice none 0 0) ∧ (∀ j, w.frozen? ⟨w0.heap.size, j, none⟩ = false) := by
  have a := h.q
  have b := h.r
  exact ⟨by simp [World.cell?, a], by simp [World.cell?, a], fun j => by simp [World.frozen?, a], by simp [World.cell?, b], by simp [World.cell?, b], fun j => by simp [World.frozen?, b]⟩
theorem own_Q (h : OwnR w (w0.heap.size + 1) (.slice A rs.length c) rs) (hne : (Value.slice A rs.length c).ownBlock ≠ some Q) (j : Nat) (v : Value) : OwnR (w.setCell ⟨Q, j, none⟩ v) (w0.heap.size + 1) (.slice A rs.length c) rs :=
  h.kept (grown_set (grown_refl w (some Q)) j v) (.inr hne)
theorem Be.name (h : Be B b N w0 w Q nm A c rs) (v : ByteArray) : Be B b N w0 (w.setCell ⟨Q, 0, none⟩ (.string v)) Q v A c rs := by
  have hQ := h.hQ
  exact ⟨h.d.set (by omega) _ _, (heap_other (by omega)).trans h.r, heap_setD (j := 0) _ h.q, own_Q h.o h.ne 0 _, h.ne, hQ⟩
/-- The rings are put anew. -/
theorem Be.put {A' : Option Addr} {c' : Nat} {rs' : List RingR} (h : Be B b N w0 w Q nm A c rs) (ho : OwnR w' (w0.heap.size + 1) (.slice A' rs'.length c') rs') (hne : (Value.slice A' rs'.length c').ownBlock ≠ some Q) {row : Option Nat} (hg : w.grownBy w' row) (hr : ∀ j, row = some j → w0.heap.size + 1 ≤ j ∧ j ≠ Q) : Be B b N w0 (w'.setCell ⟨Q, 1, none⟩ (.slice A' rs'.length c')) Q nm A' c' rs' := by
  have hQ := h.hQ
  have h1 := (hg.block _ (heap_lt h.q) (fun e => (hr Q e.symm).2 rfl)).trans h.q
  have h2 := (hg.block _ (heap_lt h.r) (fun e => by have := hr _ e.symm; omega)).trans h.r
  exact ⟨(h.d.grown hg (fun j e => by have := hr j e; omega)).set (by omega) _ _, (heap_other (by omega)).trans h2, heap_setD (j := 1) _ h1, own_Q ho hne 1 _, hne, hQ⟩
theorem be_push {w6 : World} {A6 : Option Addr} {c6 : Nat} {y0 y1 y2 : Int} (h : Be B b N w0 w Q nm A c rs) (ho : OwnR w6 (w0.heap.size + 1) (.slice A6 (rs.length + 1) c6) (rs ++ [⟨y0, y1, y2⟩])) (hg : (w.alloc (.cells #[.int .i64 y0, .int .i64 y1, .int .i64 y2] 156)).grownBy w6 (Value.slice A rs.length c).ownBlock)
    (hat : (Value.slice A6 (rs.length + 1) c6).ownBlock = (Value.slice A rs.length c).ownBlock ∨ ∃ g, (Value.slice A6 (rs.length + 1) c6).ownBlock = some g ∧ w.heap.size ≤ g) :
    Be B b N w0 (w6.setCell ⟨Q, 1, none⟩ (.slice A6 (rs.length + 1) c6)) Q nm A6 c6 (rs ++ [⟨y0, y1, y2⟩]) := by
  have hl : (rs ++ [(⟨y0, y1, y2⟩ : RingR)]).length = rs.length + 1 := by simp
  have hq := heap_lt h.q
  have q := h.put (rs' := rs ++ [⟨y0, y1, y2⟩]) (by rw [hl]; exact ho) (by
    rw [hl]
    rcases hat with e | ⟨g, e, hz⟩
    · rw [e]; exact h.ne
    · rw [e]; intro k; injection k with k; omega) (grown_trans (grown_of_below ((Below.refl _ _).alloc (Nat.le_refl _) _) _) hg) (fun j e => ⟨(h.o.lt j e).1, fun k => h.ne (by rw [e, k])⟩)
  rw [hl] at q
  exact q
theorem Be.fin (h : Be B b N w0 w Q nm A c rs) (a0 a1 : Value) : OwnR ((w.setCell ⟨w0.heap.size, 0, none⟩ a0).setCell ⟨w0.heap.size, 1, none⟩ a1) w0.heap.size (.slice A rs.length c) rs ∧ Dw B b N w0 ((w.setCell ⟨w0.heap.size, 0, none⟩ a0).setCell ⟨w0.heap.size, 1, none⟩ a1) := by
  exact ⟨(own_farN (own_farN h.o (show w0.heap.size < w0.heap.size + 1 by omega) (grown_set (grown_refl w (some w0.heap.size)) 0 a0)) (show w0.heap.size < w0.heap.size + 1 by omega) (grown_set (grown_refl _ (some w0.heap.size)) 1 a1)).mono (by omega), (h.d.set (Nat.le_refl _) 0 a0).set (Nat.le_refl _) 1 a1⟩
theorem Be.ring {rs' : List RingR} {g : Nat} (h : Be B b N w0 w Q nm A c rs) (hA : A = some ⟨g, 0, none⟩) (hl : rs'.length = rs.length) (ho : OwnR w' (w0.heap.size + 1) (.slice A rs.length c) rs') (hg : w.grownBy w' (some g)) : Be B b N w0 w' Q nm A c rs' := by
  have hQ := h.hQ
  have hne := h.ne
  have hgl := (h.o.lt g (by rw [hA]; rfl)).1
  have hgQ : g ≠ Q := fun e => hne (by rw [hA, e]; rfl)
  have h1 := (hg.block _ (heap_lt h.q) (fun e => by injection e with e; omega)).trans h.q
  have h2 := (hg.block _ (heap_lt h.r) (fun e => by injection e with e; omega)).trans h.r
  exact ⟨h.d.grown hg (fun j e => by injection e with e; omega), h2, by rw [hl]; exact h1, by rw [hl]; exact ho, by rw [hl]; exact hne, hQ⟩
end
set_option maxRecDepth 100000 in
set_option maxHeartbeats 2000000 in
theorem l05Bent_is (B b N : Nat) (w : World) (h : Src w B b N) (hN : N ≤ 90000) :
    Calls Tryz.prog 93 #[.pointer (some ⟨b, 0, none⟩)] w (DrProf (fun rs => rs.length ≤ 40) B b (N + 80) w) := by
  have hbl := h.lt
  obtain ⟨w1, hw1⟩ : ∃ w1, w1 = w.alloc (.cells (PCELLS ⟨#[]⟩ none 0 0) 30) := ⟨_, rfl⟩
  have hb1 : Below w.heap.size w w1 := by rw [hw1]; exact (by repeat (first | with_reducible exact Below.refl _ _ | with_reducible assumption | (with_reducible refine Below.drew ?_) | (with_reducible refine below_drewN ?_ _) | ((with_reducible refine Below.alloc ?_ ?_ _); rotate_left; (focus (first | omega | (simp; omega) | simp))) | ((with_reducible refine Below.setCell ?_ ?_ _); rotate_left; (focus (first | omega | (simp; omega) | simp))) | (refine Below.trans ?_ (Below.mono (by assumption) (by first | omega | (simp; omega) | simp)))))
  have s1 : w1.heap[w.heap.size]? = some (.cells (PCELLS ⟨#[]⟩ none 0 0) 30 (0, 0)) := by rw [hw1]; exact heap_alloc_new w _
  have HD1 := hide ((Dw.start h).below hb1)
  have HR1 := hide s1
  clear hb1 s1 h
  go_enter Tryz.func93, Tryz.ntmps93
  go_wp2_with fail
  rw [← hw1]
  clear hw1
  refine (l05Draw_is B b N w1 HD1.out.s (by omega)).mono ?_
  rintro e w2 ⟨nm, A, c, rs, rfl, hnm, hrd, ho2, hd2⟩
  have HNM := hide hnm
  have HRD := hide hrd
  have HD2 := hide (show Dw B b (N + 70) w w2 from HD1.out.step hd2.s hd2.bel hd2.gr)
  have HR2 := hide ((hd2.gr.block _ (heap_lt HR1.out) (fun e => by injection e with e; omega)).trans HR1.out)
  have HO2 := hide (ho2.mono (B' := w.heap.size + 1) (heap_lt HR1.out))
  clear hnm hrd ho2 hd2 HD1 HR1
  go_upto_region 2 with fail
  have hal : Below w2.heap.size w2 (w2.alloc (.cells (PCELLS nm A rs.length c) 30)) := (Below.refl _ _).alloc (Nat.le_refl _) _
  have HB3 := hide (show Be B b (N + 70) w (w2.alloc (.cells (PCELLS nm A rs.length c) 30)) w2.heap.size nm A c rs from ⟨HD2.out.below hal, (hal.block _ (heap_lt HR2.out)).trans HR2.out, heap_alloc_new w2 _, HO2.out.below hal, fun e => by have := (HO2.out.lt _ e).2; omega, heap_lt HR2.out⟩)
  obtain ⟨Q, hQ⟩ : ∃ Q, Q = w2.heap.size := ⟨_, rfl⟩
  rw [← hQ] at HB3 ⊢
  clear hQ hal HD2 HR2 HO2
  generalize w2.alloc (.cells (PCELLS nm A rs.length c) 30) = w3 at *
  go_wp2_with fail
  refine (srcPick B b (N + 70) 24 w3 HB3.out.d.s (by omega) (by omega)).mono ?_
  rintro e wS ⟨v, rfl, v0, v1, hsS, hbS, hgS⟩
  have HB := hide (HB3.out.step hsS hbS hgS)
  have HRB := hide (show -100000 ≤ (rg rs 0).outer ∧ (rg rs 0).outer ≤ 100000 from by have := HRD.out.ring 0 (by have := HRD.out.len1; omega); omega)
  have hrl2 : 2 ≤ rs.length := HRD.out.len1
  have hrl9 : rs.length ≤ 9 := HRD.out.len9
  clear hsS hbS hgS v1 HB3 HRD
  by_cases e0 : v = 0
  · subst e0
    have hal : Below wS.heap.size wS (wS.alloc (.cells #[] 156)) := (Below.refl _ _).alloc (Nat.le_refl _) _
    have hmade := own_made (enc := encRing) (sz := 3) (T := 156) (B := w.heap.size + 1) wS rfl (by have := heap_lt HB.out.r; omega)
    have HB2 := hide (HB.out.put (rs' := []) hmade (fun e => by simp [Value.ownBlock] at e; have := heap_lt HB.out.q; omega) (row := none) (grown_of_below hal none) (fun j e => by cases e))
    obtain ⟨_, c1, cf, _⟩ := HB.out.cells
    have f1 := cf 1
    have hql := heap_lt HB.out.q
    clear cf hal hmade
    go_upto_region 17 with fail
    have ew : (wS.alloc (.cells #[] 156)).setCell ⟨Q, 1, none⟩ (.slice (some ⟨wS.heap.size, 0, none⟩) ([] : List RingR).length 0) = (wS.setCell ⟨Q, 1, none⟩ (.slice (some ⟨wS.heap.size, 0, none⟩) 0 0)).alloc (.cells #[] 156) := by go_simp
    rw [ew] at HB2
    clear c1 f1 hql ew
    generalize (wS.setCell ⟨Q, 1, none⟩ (.slice (some ⟨wS.heap.size, 0, none⟩) 0 0)).alloc (.cells #[] 156) = wF at *
    generalize wS.heap.size = qz at *
    obtain ⟨nmF, hnmF⟩ : ∃ x, x = nm := ⟨_, rfl⟩
    obtain ⟨AF, hAF⟩ : ∃ x, x = (some ⟨qz, 0, none⟩ : Option Addr) := ⟨_, rfl⟩
    obtain ⟨cF, hcF⟩ : ∃ x, x = 0 := ⟨_, rfl⟩
    obtain ⟨rsF, hrsF⟩ : ∃ x, x = ([] : List RingR) := ⟨_, rfl⟩
    have HBF := hide HB2.out
    have HNF := hide (show (nm).size ≤ 100 from HNM.out)
    have HLF := hide (show (([] : List RingR)).length ≤ 40 from by simp)
    rw [← hrsF] at HLF
    rw [← hnmF] at HNF
    rw [← hnmF, ← hAF, ← hcF, ← hrsF] at HBF
    clear hnmF hAF hcF hrsF
    obtain ⟨c0, c1, cf, r0, r1, rf⟩ := HBF.out.cells
    have rf0 := rf 0
    have rf1 := rf 1
    have HFF := hide (fun a0 a1 => HBF.out.fin a0 a1)
    clear cf rf
    go_wp2_with fail
    refine bodyPost_ret (v := .agg #[.string nmF, .slice AF rsF.length cF]) (by simp [results, Tryz.results93, go_sem, r0, r1]) rfl ⟨nmF, AF, cF, rsF, rfl, HNF.out, HLF.out, (HFF.out _ _).1, (HFF.out _ _).2.more (by omega)⟩

  · have d0 : (v == 0) = false := by simpa using e0
    by_cases e1 : v = 1
    · have d1 : (v == 1) = true := by simpa using e1
      clear e0 e1
      obtain ⟨g, hA, hgQ, hgl, hcap, k0, k1, k2, kf⟩ := ring_cells HB.out.o (i := 0) (by omega)
      subst hA
      have hgb : g ≠ b := by omega
      have hgq : g ≠ Q := fun e => HB.out.ne (by rw [e]; rfl)
      have HBD := hide (HB.out.below ((Below.refl wS.heap.size wS).drew))
      obtain ⟨_, c1, _⟩ := HB.out.cells
      have hql := heap_lt HB.out.q
      simp only [Nat.reduceMul, Nat.reduceAdd] at k0 k1 k2
      have hvi : (0 : Int) < rs.length := by omega
      have hvn : 0 < rs.length := by omega
      obtain ⟨ou, hou⟩ : ∃ ou, ou = (rg rs 0).outer := ⟨_, rfl⟩
      obtain ⟨inn, hin⟩ : ∃ ou, ou = (rg rs 0).inner := ⟨_, rfl⟩
      rw [← hou] at k0 HRB
      rw [← hin] at k1
      have kw1 : IntKind.i64.wrap (ou - 100) = ou - 100 := IntWalk.i64_in _ (by have := HRB.out; omega)
      have kw2 : IntKind.i64.wrap (ou - 99) = ou - 99 := IntWalk.i64_in _ (by have := HRB.out; omega)
      clear k2 hou hin
      go_wp2_with fail
      refine wp_region_noPanic ?_
      refine wp_region_held_drew (S := (fun w' => w'.cell? ⟨Q, 1, none⟩ = some (.slice (some ⟨g, 0, none⟩) rs.length c) ∧ w'.cell? ⟨g, 0, none⟩ = some (.int .i64 ou))) (by kernel_rfl) (⟨c1, k0⟩) (fun hHeld => ?_)
      refine wpAnyH_take (i := 0) (oi := ?o0_1) (v := ?v0_1) ?hi0_1 ?hs0_1 ?hf0_1 ?hr0_1 (fun _ _ _ h => h) ?hy0_1 (by assumption) ?hh0_1
      case hi0_1 => ((simp only [List.getElem?_toArray, List.getElem?_cons_zero]); rfl)
      case hs0_1 => kernel_rfl
      case hf0_1 => kernel_rfl
      case hr0_1 => kernel_rfl
      case hy0_1 => exact Or.inl ⟨by rfl, by (intro wq hSw; (try dsimp only at hSw); go_simp; (try with_reducible rfl))⟩
      try simp only [Act.put, List.setIfInBounds_toArray, List.set_cons_zero, List.set_cons_succ]
      refine wpAnyH_take (i := 1) (oi := ?o1_2) (v := ?v1_2) ?hi1_2 ?hs1_2 ?hf1_2 ?hr1_2 (fun _ _ _ h => h) ?hy1_2 (by assumption) ?hh1_2
      case hi1_2 => ((simp only [List.getElem?_toArray, List.getElem?_cons_succ, List.getElem?_cons_zero]); rfl)
      case hs1_2 => kernel_rfl
      case hf1_2 => kernel_rfl
      case hr1_2 => kernel_rfl
      case hy1_2 => exact Or.inl ⟨by rfl, by (intro wq hSw; (try dsimp only at hSw); go_simp; (try with_reducible rfl))⟩
      try simp only [Act.put, List.setIfInBounds_toArray, List.set_cons_zero, List.set_cons_succ]
      refine wpAnyH_take (i := 2) (oi := ?o2_3) (v := ?v2_3) ?hi2_3 ?hs2_3 ?hf2_3 ?hr2_3 (fun _ _ _ h => h) ?hy2_3 (by assumption) ?hh2_3
      case hi2_3 => ((simp only [List.getElem?_toArray, List.getElem?_cons_succ, List.getElem?_cons_zero]); rfl)
      case hs2_3 => kernel_rfl
      case hf2_3 => kernel_rfl
      case hr2_3 => kernel_rfl
      case hy2_3 => exact Or.inl ⟨by rfl, by (intro wq hSw; (try dsimp only at hSw); go_simp; (try with_reducible rfl))⟩
      try simp only [Act.put, List.setIfInBounds_toArray, List.set_cons_zero, List.set_cons_succ]
      refine wpAnyH_take (i := 3) (oi := ?o3_4) (v := ?v3_4) ?hi3_4 ?hs3_4 ?hf3_4 ?hr3_4 (fun _ _ _ h => h) ?hy3_4 (by assumption) ?hh3_4
      case hi3_4 => ((simp only [List.getElem?_toArray, List.getElem?_cons_succ, List.getElem?_cons_zero]); rfl)
      case hs3_4 => kernel_rfl
      case hf3_4 => kernel_rfl
      case hr3_4 => kernel_rfl
      case hy3_4 => exact Or.inl ⟨by rfl, by (intro wq hSw; (try dsimp only at hSw); go_simp; (try with_reducible rfl))⟩
      try simp only [Act.put, List.setIfInBounds_toArray, List.set_cons_zero, List.set_cons_succ]
      refine wpAnyH_take (i := 4) (oi := ?o4_5) (v := ?v4_5) ?hi4_5 ?hs4_5 ?hf4_5 ?hr4_5 (fun _ _ _ h => h) ?hy4_5 (by assumption) ?hh4_5
      case hi4_5 => ((simp only [List.getElem?_toArray, List.getElem?_cons_succ, List.getElem?_cons_zero]); rfl)
      case hs4_5 => kernel_rfl
      case hf4_5 => kernel_rfl
      case hr4_5 => kernel_rfl
      case hy4_5 => exact Or.inl ⟨by rfl, by (intro wq hSw; (try dsimp only at hSw); go_simp; (try with_reducible rfl))⟩
      try simp only [Act.put, List.setIfInBounds_toArray, List.set_cons_zero, List.set_cons_succ]
      refine wpAnyH_take (i := 5) (oi := ?o5_6) (v := ?v5_6) ?hi5_6 ?hs5_6 ?hf5_6 ?hr5_6 (fun _ _ _ h => h) ?hy5_6 (by assumption) ?hh5_6
      case hi5_6 => ((simp only [List.getElem?_toArray, List.getElem?_cons_succ, List.getElem?_cons_zero]); rfl)
      case hs5_6 => kernel_rfl
      case hf5_6 => kernel_rfl
      case hr5_6 => kernel_rfl
      case hy5_6 => exact Or.inl ⟨by rfl, by (intro wq hSw; (try dsimp only at hSw); go_simp; (try with_reducible rfl))⟩
      try simp only [Act.put, List.setIfInBounds_toArray, List.set_cons_zero, List.set_cons_succ]
      refine wpAnyH_take (i := 6) (oi := ?o6_7) (v := ?v6_7) ?hi6_7 ?hs6_7 ?hf6_7 ?hr6_7 (fun _ _ _ h => h) ?hy6_7 (by assumption) ?hh6_7
      case hi6_7 => ((simp only [List.getElem?_toArray, List.getElem?_cons_succ, List.getElem?_cons_zero]); rfl)
      case hs6_7 => kernel_rfl
      case hf6_7 => kernel_rfl
      case hr6_7 => kernel_rfl
      case hy6_7 => exact Or.inl ⟨by rfl, by (intro wq hSw; (try dsimp only at hSw); go_simp; (try with_reducible rfl))⟩
      try simp only [Act.put, List.setIfInBounds_toArray, List.set_cons_zero, List.set_cons_succ]
      refine wpAnyH_take (i := 7) (oi := ?o7_8) (v := ?v7_8) ?hi7_8 ?hs7_8 ?hf7_8 ?hr7_8 (fun _ _ _ h => h) ?hy7_8 (by assumption) ?hh7_8
      case hi7_8 => ((simp only [List.getElem?_toArray, List.getElem?_cons_succ, List.getElem?_cons_zero]); rfl)
      case hs7_8 => kernel_rfl
      case hf7_8 => kernel_rfl
      case hr7_8 => kernel_rfl
      case hy7_8 => exact Or.inl ⟨by rfl, by (intro wq hSw; (try dsimp only at hSw); go_simp; (try with_reducible rfl))⟩
      try simp only [Act.put, List.setIfInBounds_toArray, List.set_cons_zero, List.set_cons_succ]
      refine wpAnyH_take (i := 8) (oi := ?o8_9) (v := ?v8_9) ?hi8_9 ?hs8_9 ?hf8_9 ?hr8_9 (fun _ _ _ h => h) ?hy8_9 (by assumption) ?hh8_9
      case hi8_9 => ((simp only [List.getElem?_toArray, List.getElem?_cons_succ, List.getElem?_cons_zero]); rfl)
      case hs8_9 => kernel_rfl
      case hf8_9 => kernel_rfl
      case hr8_9 => kernel_rfl
      case hy8_9 => exact Or.inl ⟨by rfl, by (intro wq hSw; (try dsimp only at hSw); go_simp; (try with_reducible rfl))⟩
      try simp only [Act.put, List.setIfInBounds_toArray, List.set_cons_zero, List.set_cons_succ]
      refine wpAnyH_take (i := 9) (oi := ?o9_10) (v := ?v9_10) ?hi9_10 ?hs9_10 ?hf9_10 ?hr9_10 (fun _ _ _ h => h) ?hy9_10 (by assumption) ?hh9_10
      case hi9_10 => ((simp only [List.getElem?_toArray, List.getElem?_cons_succ, List.getElem?_cons_zero]); rfl)
      case hs9_10 => kernel_rfl
      case hf9_10 => kernel_rfl
      case hr9_10 => kernel_rfl
      case hy9_10 => exact Or.inl ⟨by rfl, by (intro wq hSw; (try dsimp only at hSw); go_simp; (try with_reducible rfl))⟩
      try simp only [Act.put, List.setIfInBounds_toArray, List.set_cons_zero, List.set_cons_succ]
      refine wpAnyH_take (i := 10) (oi := ?o10_11) (v := ?v10_11) ?hi10_11 ?hs10_11 ?hf10_11 ?hr10_11 (fun _ _ _ h => h) ?hy10_11 (by assumption) ?hh10_11
      case hi10_11 => ((simp only [List.getElem?_toArray, List.getElem?_cons_succ, List.getElem?_cons_zero]); rfl)
      case hs10_11 => kernel_rfl
      case hf10_11 => kernel_rfl
      case hr10_11 => kernel_rfl
      case hy10_11 => exact Or.inl ⟨by rfl, by (intro wq hSw; (try dsimp only at hSw); go_simp; (try with_reducible rfl))⟩
      try simp only [Act.put, List.setIfInBounds_toArray, List.set_cons_zero, List.set_cons_succ]
      refine wpAnyH_take (i := 11) (oi := ?o11_12) (v := ?v11_12) ?hi11_12 ?hs11_12 ?hf11_12 ?hr11_12 (fun _ _ _ h => h) ?hy11_12 (by assumption) ?hh11_12
      case hi11_12 => ((simp only [List.getElem?_toArray, List.getElem?_cons_succ, List.getElem?_cons_zero]); rfl)
      case hs11_12 => kernel_rfl
      case hf11_12 => kernel_rfl
      case hr11_12 => kernel_rfl
      case hy11_12 => exact Or.inl ⟨by rfl, by (intro wq hSw; (try dsimp only at hSw); go_simp; (try with_reducible rfl))⟩
      try simp only [Act.put, List.setIfInBounds_toArray, List.set_cons_zero, List.set_cons_succ]
      refine wpAnyH_take (i := 12) (oi := ?o12_13) (v := ?v12_13) ?hi12_13 ?hs12_13 ?hf12_13 ?hr12_13 (fun _ _ _ h => h) ?hy12_13 (by assumption) ?hh12_13
      case hi12_13 => ((simp only [List.getElem?_toArray, List.getElem?_cons_succ, List.getElem?_cons_zero]); rfl)
      case hs12_13 => kernel_rfl
      case hf12_13 => kernel_rfl
      case hr12_13 => kernel_rfl
      case hy12_13 => exact Or.inl ⟨by rfl, by (intro wq hSw; (try dsimp only at hSw); go_simp; (try with_reducible rfl))⟩
      try simp only [Act.put, List.setIfInBounds_toArray, List.set_cons_zero, List.set_cons_succ]
      refine wpAnyH_take (i := 13) (oi := ?o13_14) (v := ?v13_14) ?hi13_14 ?hs13_14 ?hf13_14 ?hr13_14 (fun _ _ _ h => h) ?hy13_14 (by assumption) ?hh13_14
      case hi13_14 => ((simp only [List.getElem?_toArray, List.getElem?_cons_succ, List.getElem?_cons_zero]); rfl)
      case hs13_14 => kernel_rfl
      case hf13_14 => kernel_rfl
      case hr13_14 => kernel_rfl
      case hy13_14 => exact Or.inl ⟨by rfl, by (intro wq hSw; (try dsimp only at hSw); go_simp; (try with_reducible rfl))⟩
      try simp only [Act.put, List.setIfInBounds_toArray, List.set_cons_zero, List.set_cons_succ]
      refine wpAnyH_take (i := 14) (oi := ?o14_15) (v := ?v14_15) ?hi14_15 ?hs14_15 ?hf14_15 ?hr14_15 (fun _ _ _ h => h) ?hy14_15 (by assumption) ?hh14_15
      case hi14_15 => ((simp only [List.getElem?_toArray, List.getElem?_cons_succ, List.getElem?_cons_zero]); rfl)
      case hs14_15 => kernel_rfl
      case hf14_15 => kernel_rfl
      case hr14_15 => kernel_rfl
      case hy14_15 => exact Or.inl ⟨by rfl, by (intro wq hSw; (try dsimp only at hSw); go_simp; (try with_reducible rfl))⟩
      try simp only [Act.put, List.setIfInBounds_toArray, List.set_cons_zero, List.set_cons_succ]
      refine wpAnyH_ready (rs := [15]) (by kernel_rfl) (by simp) ?_
      refine AllReadyH.cons (o := ?o15_16) ?hi15_16 (fun K hK => ?hh15_16) AllReadyH.nil
      case hi15_16 => ((simp only [List.getElem?_toArray, List.getElem?_cons_succ, List.getElem?_cons_zero]); rfl)
      go_simp
      have HAL := hide (show Below wS.heap.size wS.drew (wS.drew.alloc (.cells #[.int .i64 0, .int .i64 (ou - 100), .int .i64 (ou - 99), .int .i64 (-1)] 2)) from (Below.refl wS.heap.size wS.drew).alloc (Nat.le_refl wS.heap.size) _)
      (try dsimp only)
      refine hK.out _ _ (⟨(HAL.out.cell (p := ⟨Q, 1, none⟩) hql).trans c1, (HAL.out.cell (p := ⟨g, 0, none⟩) hgl).trans k0⟩) (fun hHeld2 => ?_)
      clear hK K hHeld
      have hHeld := hHeld2
      clear hHeld2
      try simp only [Act.put, List.setIfInBounds_toArray, List.set_cons_zero, List.set_cons_succ]
      refine wpAnyH_ready (rs := [16]) (by kernel_rfl) (by simp) ?_
      refine AllReadyH.cons (o := ?o16_17) ?hi16_17 (fun K hK => ?hh16_17) AllReadyH.nil
      case hi16_17 => ((simp only [List.getElem?_toArray, List.getElem?_cons_succ, List.getElem?_cons_zero]); rfl)
      go_simp
      (go_at_call 88; refine (srcamong B b (N + 72) (some ⟨wS.heap.size, 0, none⟩) 4 [0, ou - 100, ou - 99, -1] _ (HBD.out.below HAL.out).d.s (by omega) (slat_new (enc := encI) (sz := 1) (fun _ => rfl) wS.drew [0, ou - 100, ou - 99, -1] #[.int .i64 0, .int .i64 (ou - 100), .int .i64 (ou - 99), .int .i64 (-1)] 2 rfl) (fun b2 off e => by injection e with e; injection e with e; have := HB.out.d.size; have := HB.out.d.bl; omega) (by simp) (by simp)).mono ?_; rintro e wA ⟨va, rfl, hva, hsA, hbA, hgA⟩; have HBB := hide ((HBD.out.below HAL.out).step hsA hbA hgA); have cA := HBB.out.cells.2.1; have hglA : g < (wS.drew.alloc (.cells #[.int .i64 0, .int .i64 (ou - 100), .int .i64 (ou - 99), .int .i64 (-1)] 2)).heap.size := Nat.lt_of_lt_of_le hgl HAL.out.size; have kA0 : wA.cell? ⟨g, 0, none⟩ = some (.int .i64 ou) := (hgA.cell_far ⟨g, 0, none⟩ hglA (fun e => by injection e with e; exact hgb e)).trans ((HAL.out.cell (p := ⟨g, 0, none⟩) hgl).trans k0); have kA : wA.cell? ⟨g, 1, none⟩ = some (.int .i64 inn) := (hgA.cell_far ⟨g, 1, none⟩ hglA (fun e => by injection e with e; exact hgb e)).trans ((HAL.out.cell (p := ⟨g, 1, none⟩) hgl).trans k1); have zA : wA.frozen? ⟨g, 1, none⟩ = false := (hgA.frozen_far ⟨g, 1, none⟩ hglA (fun e => by injection e with e; exact hgb e)).trans ((HAL.out.frozen (p := ⟨g, 1, none⟩) hgl).trans (kf 1)); clear hsA hbA hgA hva)
      (try dsimp only)
      refine hK.out _ _ (⟨cA, kA0⟩) (fun hHeld2 => ?_)
      clear hK K hHeld
      have hHeld := hHeld2
      clear hHeld2
      try simp only [Act.put, List.setIfInBounds_toArray, List.set_cons_zero, List.set_cons_succ]
      refine wpAnyH_take (i := 17) (oi := ?o17_18) (v := ?v17_18) ?hi17_18 ?hs17_18 ?hf17_18 ?hr17_18 (fun _ _ _ h => h) ?hy17_18 (by assumption) ?hh17_18
      case hi17_18 => ((simp only [List.getElem?_toArray, List.getElem?_cons_succ, List.getElem?_cons_zero]); rfl)
      case hs17_18 => kernel_rfl
      case hf17_18 => kernel_rfl
      case hr17_18 => kernel_rfl
      case hy17_18 => exact Or.inl ⟨by rfl, by (intro wq hSw; (try dsimp only at hSw); go_simp; (try with_reducible rfl))⟩
      try simp only [Act.put, List.setIfInBounds_toArray, List.set_cons_zero, List.set_cons_succ]
      refine wpAnyH_take (i := 18) (oi := ?o18_19) (v := ?v18_19) ?hi18_19 ?hs18_19 ?hf18_19 ?hr18_19 (fun _ _ _ h => h) ?hy18_19 (by assumption) ?hh18_19
      case hi18_19 => ((simp only [List.getElem?_toArray, List.getElem?_cons_succ, List.getElem?_cons_zero]); rfl)
      case hs18_19 => kernel_rfl
      case hf18_19 => kernel_rfl
      case hr18_19 => kernel_rfl
      case hy18_19 => exact Or.inl ⟨by rfl, by (intro wq hSw; (try dsimp only at hSw); go_simp; (try with_reducible rfl))⟩
      try simp only [Act.put, List.setIfInBounds_toArray, List.set_cons_zero, List.set_cons_succ]
      refine wpAnyH_ready (rs := [19]) (by kernel_rfl) (by simp) ?_
      refine AllReadyH.cons (o := ?o19_20) ?hi19_20 (fun K hK => ?hh19_20) AllReadyH.nil
      case hi19_20 => ((simp only [List.getElem?_toArray, List.getElem?_cons_succ, List.getElem?_cons_zero]); rfl)
      go_simp
      refine hK.out _ _ (⟨by go_simp, by go_simp⟩) (fun hHeld2 => ?_)
      clear hK K hHeld
      have hHeld := hHeld2
      clear hHeld2
      try simp only [Act.put, List.setIfInBounds_toArray, List.set_cons_zero, List.set_cons_succ]
      refine wpAnyH_done (by kernel_rfl) ?_ _
      refine NoPanic.normal ?_
      obtain ⟨rs2, hl2, ho2⟩ := own_setJ (j := 1) (i := 0) HBB.out.o rfl (by omega) (by omega) va
      have HB2 := hide (HBB.out.ring rfl hl2 ho2 (grown_set (grown_refl wA (some g)) _ _))
      simp only [Nat.reduceMul, Nat.reduceAdd] at HB2
      have HL2 := hide hl2
      clear ho2 HBB HAL HBD cA kA0 kA zA kw1 kw2 hl2 hHeld c1 k0 k1 kf
      go_upto_region 17 with fail
      generalize wA.setCell ⟨g, 1, none⟩ (.int .i64 va) = wF at *
      obtain ⟨nmF, hnmF⟩ : ∃ x, x = nm := ⟨_, rfl⟩
      obtain ⟨AF, hAF⟩ : ∃ x, x = (some ⟨g, 0, none⟩ : Option Addr) := ⟨_, rfl⟩
      obtain ⟨cF, hcF⟩ : ∃ x, x = c := ⟨_, rfl⟩
      obtain ⟨rsF, hrsF⟩ : ∃ x, x = rs2 := ⟨_, rfl⟩
      have HBF := hide HB2.out
      have HNF := hide (show (nm).size ≤ 100 from HNM.out)
      have HLF := hide (show (rs2).length ≤ 40 from by rw [HL2.out]; omega)
      rw [← hrsF] at HLF
      rw [← hnmF] at HNF
      rw [← hnmF, ← hAF, ← hcF, ← hrsF] at HBF
      clear hnmF hAF hcF hrsF
      obtain ⟨c0, c1, cf, r0, r1, rf⟩ := HBF.out.cells
      have rf0 := rf 0
      have rf1 := rf 1
      have HFF := hide (fun a0 a1 => HBF.out.fin a0 a1)
      clear cf rf
      go_wp2_with fail
      refine bodyPost_ret (v := .agg #[.string nmF, .slice AF rsF.length cF]) (by simp [results, Tryz.results93, go_sem, r0, r1]) rfl ⟨nmF, AF, cF, rsF, rfl, HNF.out, HLF.out, (HFF.out _ _).1, (HFF.out _ _).2.more (by omega)⟩
    · have d1 : (v == 1) = false := by simpa using e1
      by_cases e2 : v = 2
      · have d2 : (v == 2) = true := by simpa using e2
        clear e0 e1 e2
        obtain ⟨g, hA, hgQ, hgl, hcap, k0, k1, k2, kf⟩ := ring_cells HB.out.o (i := 1) (by omega)
        subst hA
        have hgb : g ≠ b := by omega
        have HBD := hide (HB.out.below ((Below.refl wS.heap.size wS).drew))
        obtain ⟨_, c1, _⟩ := HB.out.cells
        have hql := heap_lt HB.out.q
        simp only [Nat.reduceMul, Nat.reduceAdd] at k0 k1 k2
        have hvi : (1 : Int) < rs.length := by omega
        have hvn : 1 < rs.length := by omega
        obtain ⟨ou, hou⟩ : ∃ ou, ou = (rg rs 1).outer := ⟨_, rfl⟩
        rw [← hou] at k0
        clear hou
        go_wp2_with fail
        refine wp_region_noPanic ?_
        refine wp_region_held_drew (S := (fun w' => w'.cell? ⟨Q, 1, none⟩ = some (.slice (some ⟨g, 0, none⟩) rs.length c))) (by kernel_rfl) (c1) (fun hHeld => ?_)
        refine wpAnyH_take (i := 0) (oi := ?o0_21) (v := ?v0_21) ?hi0_21 ?hs0_21 ?hf0_21 ?hr0_21 (fun _ _ _ h => h) ?hy0_21 (by assumption) ?hh0_21
        case hi0_21 => ((simp only [List.getElem?_toArray, List.getElem?_cons_zero]); rfl)
        case hs0_21 => kernel_rfl
        case hf0_21 => kernel_rfl
        case hr0_21 => kernel_rfl
        case hy0_21 => exact Or.inl ⟨by rfl, by (intro wq hSw; (try dsimp only at hSw); go_simp; (try with_reducible rfl))⟩
        try simp only [Act.put, List.setIfInBounds_toArray, List.set_cons_zero, List.set_cons_succ]
        refine wpAnyH_take (i := 1) (oi := ?o1_22) (v := ?v1_22) ?hi1_22 ?hs1_22 ?hf1_22 ?hr1_22 (fun _ _ _ h => h) ?hy1_22 (by assumption) ?hh1_22
        case hi1_22 => ((simp only [List.getElem?_toArray, List.getElem?_cons_succ, List.getElem?_cons_zero]); rfl)
        case hs1_22 => kernel_rfl
        case hf1_22 => kernel_rfl
        case hr1_22 => kernel_rfl
        case hy1_22 => exact Or.inl ⟨by rfl, by (intro wq hSw; (try dsimp only at hSw); go_simp; (try with_reducible rfl))⟩
        try simp only [Act.put, List.setIfInBounds_toArray, List.set_cons_zero, List.set_cons_succ]
        refine wpAnyH_take (i := 2) (oi := ?o2_23) (v := ?v2_23) ?hi2_23 ?hs2_23 ?hf2_23 ?hr2_23 (fun _ _ _ h => h) ?hy2_23 (by assumption) ?hh2_23
        case hi2_23 => ((simp only [List.getElem?_toArray, List.getElem?_cons_succ, List.getElem?_cons_zero]); rfl)
        case hs2_23 => kernel_rfl
        case hf2_23 => kernel_rfl
        case hr2_23 => kernel_rfl
        case hy2_23 => exact Or.inl ⟨by rfl, by (intro wq hSw; (try dsimp only at hSw); go_simp; (try with_reducible rfl))⟩
        try simp only [Act.put, List.setIfInBounds_toArray, List.set_cons_zero, List.set_cons_succ]
        refine wpAnyH_ready (rs := [3]) (by kernel_rfl) (by simp) ?_
        refine AllReadyH.cons (o := ?o3_24) ?hi3_24 (fun K hK => ?hh3_24) AllReadyH.nil
        case hi3_24 => ((simp only [List.getElem?_toArray, List.getElem?_cons_succ, List.getElem?_cons_zero]); rfl)
        go_simp
        have HAL := hide (show Below wS.heap.size wS.drew (wS.drew.alloc (.cells #[.int .i64 499, .int .i64 500, .int .i64 150000, .int .i64 150001] 2)) from (Below.refl wS.heap.size wS.drew).alloc (Nat.le_refl wS.heap.size) _)
        (try dsimp only)
        refine hK.out _ _ ((HAL.out.cell (p := ⟨Q, 1, none⟩) hql).trans c1) (fun hHeld2 => ?_)
        clear hK K hHeld
        have hHeld := hHeld2
        clear hHeld2
        try simp only [Act.put, List.setIfInBounds_toArray, List.set_cons_zero, List.set_cons_succ]
        refine wpAnyH_ready (rs := [4]) (by kernel_rfl) (by simp) ?_
        refine AllReadyH.cons (o := ?o4_25) ?hi4_25 (fun K hK => ?hh4_25) AllReadyH.nil
        case hi4_25 => ((simp only [List.getElem?_toArray, List.getElem?_cons_succ, List.getElem?_cons_zero]); rfl)
        go_simp
        (go_at_call 88; refine (srcamong B b (N + 72) (some ⟨wS.heap.size, 0, none⟩) 4 [499, 500, 150000, 150001] _ (HBD.out.below HAL.out).d.s (by omega) (slat_new (enc := encI) (sz := 1) (fun _ => rfl) wS.drew [499, 500, 150000, 150001] #[.int .i64 499, .int .i64 500, .int .i64 150000, .int .i64 150001] 2 rfl) (fun b2 off e => by injection e with e; injection e with e; have := HB.out.d.size; have := HB.out.d.bl; omega) (by simp) (by simp)).mono ?_; rintro e wA ⟨va, rfl, hva, hsA, hbA, hgA⟩; have HBB := hide ((HBD.out.below HAL.out).step hsA hbA hgA); have cA := HBB.out.cells.2.1; have hglA : g < (wS.drew.alloc (.cells #[.int .i64 499, .int .i64 500, .int .i64 150000, .int .i64 150001] 2)).heap.size := Nat.lt_of_lt_of_le hgl HAL.out.size; have kA : wA.cell? ⟨g, 3, none⟩ = some (.int .i64 ou) := (hgA.cell_far ⟨g, 3, none⟩ hglA (fun e => by injection e with e; exact hgb e)).trans ((HAL.out.cell (p := ⟨g, 3, none⟩) hgl).trans k0); have zA : wA.frozen? ⟨g, 3, none⟩ = false := (hgA.frozen_far ⟨g, 3, none⟩ hglA (fun e => by injection e with e; exact hgb e)).trans ((HAL.out.frozen (p := ⟨g, 3, none⟩) hgl).trans (kf 3)); have hgq : g ≠ Q := (fun e => HB.out.ne (by rw [e]; rfl)); clear hsA hbA hgA hva)
        (try dsimp only)
        refine hK.out _ _ (cA) (fun hHeld2 => ?_)
        clear hK K hHeld
        have hHeld := hHeld2
        clear hHeld2
        try simp only [Act.put, List.setIfInBounds_toArray, List.set_cons_zero, List.set_cons_succ]
        refine wpAnyH_take (i := 5) (oi := ?o5_26) (v := ?v5_26) ?hi5_26 ?hs5_26 ?hf5_26 ?hr5_26 (fun _ _ _ h => h) ?hy5_26 (by assumption) ?hh5_26
        case hi5_26 => ((simp only [List.getElem?_toArray, List.getElem?_cons_succ, List.getElem?_cons_zero]); rfl)
        case hs5_26 => kernel_rfl
        case hf5_26 => kernel_rfl
        case hr5_26 => kernel_rfl
        case hy5_26 => exact Or.inl ⟨by rfl, by (intro wq hSw; (try dsimp only at hSw); go_simp; (try with_reducible rfl))⟩
        try simp only [Act.put, List.setIfInBounds_toArray, List.set_cons_zero, List.set_cons_succ]
        refine wpAnyH_take (i := 6) (oi := ?o6_27) (v := ?v6_27) ?hi6_27 ?hs6_27 ?hf6_27 ?hr6_27 (fun _ _ _ h => h) ?hy6_27 (by assumption) ?hh6_27
        case hi6_27 => ((simp only [List.getElem?_toArray, List.getElem?_cons_succ, List.getElem?_cons_zero]); rfl)
        case hs6_27 => kernel_rfl
        case hf6_27 => kernel_rfl
        case hr6_27 => kernel_rfl
        case hy6_27 => exact Or.inl ⟨by rfl, by (intro wq hSw; (try dsimp only at hSw); go_simp; (try with_reducible rfl))⟩
        try simp only [Act.put, List.setIfInBounds_toArray, List.set_cons_zero, List.set_cons_succ]
        refine wpAnyH_ready (rs := [7]) (by kernel_rfl) (by simp) ?_
        refine AllReadyH.cons (o := ?o7_28) ?hi7_28 (fun K hK => ?hh7_28) AllReadyH.nil
        case hi7_28 => ((simp only [List.getElem?_toArray, List.getElem?_cons_succ, List.getElem?_cons_zero]); rfl)
        go_simp
        refine hK.out _ _ (by go_simp) (fun hHeld2 => ?_)
        clear hK K hHeld
        have hHeld := hHeld2
        clear hHeld2
        try simp only [Act.put, List.setIfInBounds_toArray, List.set_cons_zero, List.set_cons_succ]
        refine wpAnyH_done (by kernel_rfl) ?_ _
        refine NoPanic.normal ?_
        obtain ⟨rs2, hl2, ho2⟩ := own_setJ (j := 0) (i := 1) HBB.out.o rfl (by omega) (by omega) va
        have HB2 := hide (HBB.out.ring rfl hl2 ho2 (grown_set (grown_refl wA (some g)) _ _))
        simp only [Nat.reduceMul, Nat.reduceAdd] at HB2
        have HL2 := hide hl2
        clear ho2 HBB HAL HBD cA kA zA hl2 hHeld c1 k0 k1 k2 kf
        go_upto_region 17 with fail
        generalize wA.setCell ⟨g, 3, none⟩ (.int .i64 va) = wF at *
        obtain ⟨nmF, hnmF⟩ : ∃ x, x = nm := ⟨_, rfl⟩
        obtain ⟨AF, hAF⟩ : ∃ x, x = (some ⟨g, 0, none⟩ : Option Addr) := ⟨_, rfl⟩
        obtain ⟨cF, hcF⟩ : ∃ x, x = c := ⟨_, rfl⟩
        obtain ⟨rsF, hrsF⟩ : ∃ x, x = rs2 := ⟨_, rfl⟩
        have HBF := hide HB2.out
        have HNF := hide (show (nm).size ≤ 100 from HNM.out)
        have HLF := hide (show (rs2).length ≤ 40 from by rw [HL2.out]; omega)
        rw [← hrsF] at HLF
        rw [← hnmF] at HNF
        rw [← hnmF, ← hAF, ← hcF, ← hrsF] at HBF
        clear hnmF hAF hcF hrsF
        obtain ⟨c0, c1, cf, r0, r1, rf⟩ := HBF.out.cells
        have rf0 := rf 0
        have rf1 := rf 1
        have HFF := hide (fun a0 a1 => HBF.out.fin a0 a1)
        clear cf rf
        go_wp2_with fail
        refine bodyPost_ret (v := .agg #[.string nmF, .slice AF rsF.length cF]) (by simp [results, Tryz.results93, go_sem, r0, r1]) rfl ⟨nmF, AF, cF, rsF, rfl, HNF.out, HLF.out, (HFF.out _ _).1, (HFF.out _ _).2.more (by omega)⟩
      · have d2 : (v == 2) = false := by simpa using e2
        by_cases e3 : v = 3
        · have d3 : (v == 3) = true := by simpa using e3
          clear e0 e1 e2 e3
          obtain ⟨g, hA, hgQ, hgl, hcap, k0, k1, k2, kf⟩ := ring_cells HB.out.o (i := 0) (by omega)
          subst hA
          have hgb : g ≠ b := by omega
          have HBD := hide (HB.out.below ((Below.refl wS.heap.size wS).drew))
          obtain ⟨_, c1, _⟩ := HB.out.cells
          have hql := heap_lt HB.out.q
          simp only [Nat.reduceMul, Nat.reduceAdd] at k0 k1 k2
          have hvi : (0 : Int) < rs.length := by omega
          have hvn : 0 < rs.length := by omega
          obtain ⟨ou, hou⟩ : ∃ ou, ou = (rg rs 0).hgt := ⟨_, rfl⟩
          rw [← hou] at k2
          clear hou
          go_wp2_with fail
          refine wp_region_noPanic ?_
          refine wp_region_held_drew (S := (fun w' => w'.cell? ⟨Q, 1, none⟩ = some (.slice (some ⟨g, 0, none⟩) rs.length c))) (by kernel_rfl) (c1) (fun hHeld => ?_)
          refine wpAnyH_take (i := 0) (oi := ?o0_29) (v := ?v0_29) ?hi0_29 ?hs0_29 ?hf0_29 ?hr0_29 (fun _ _ _ h => h) ?hy0_29 (by assumption) ?hh0_29
          case hi0_29 => ((simp only [List.getElem?_toArray, List.getElem?_cons_zero]); rfl)
          case hs0_29 => kernel_rfl
          case hf0_29 => kernel_rfl
          case hr0_29 => kernel_rfl
          case hy0_29 => exact Or.inl ⟨by rfl, by (intro wq hSw; (try dsimp only at hSw); go_simp; (try with_reducible rfl))⟩
          try simp only [Act.put, List.setIfInBounds_toArray, List.set_cons_zero, List.set_cons_succ]
          refine wpAnyH_take (i := 1) (oi := ?o1_30) (v := ?v1_30) ?hi1_30 ?hs1_30 ?hf1_30 ?hr1_30 (fun _ _ _ h => h) ?hy1_30 (by assumption) ?hh1_30
          case hi1_30 => ((simp only [List.getElem?_toArray, List.getElem?_cons_succ, List.getElem?_cons_zero]); rfl)
          case hs1_30 => kernel_rfl
          case hf1_30 => kernel_rfl
          case hr1_30 => kernel_rfl
          case hy1_30 => exact Or.inl ⟨by rfl, by (intro wq hSw; (try dsimp only at hSw); go_simp; (try with_reducible rfl))⟩
          try simp only [Act.put, List.setIfInBounds_toArray, List.set_cons_zero, List.set_cons_succ]
          refine wpAnyH_take (i := 2) (oi := ?o2_31) (v := ?v2_31) ?hi2_31 ?hs2_31 ?hf2_31 ?hr2_31 (fun _ _ _ h => h) ?hy2_31 (by assumption) ?hh2_31
          case hi2_31 => ((simp only [List.getElem?_toArray, List.getElem?_cons_succ, List.getElem?_cons_zero]); rfl)
          case hs2_31 => kernel_rfl
          case hf2_31 => kernel_rfl
          case hr2_31 => kernel_rfl
          case hy2_31 => exact Or.inl ⟨by rfl, by (intro wq hSw; (try dsimp only at hSw); go_simp; (try with_reducible rfl))⟩
          try simp only [Act.put, List.setIfInBounds_toArray, List.set_cons_zero, List.set_cons_succ]
          refine wpAnyH_ready (rs := [3]) (by kernel_rfl) (by simp) ?_
          refine AllReadyH.cons (o := ?o3_32) ?hi3_32 (fun K hK => ?hh3_32) AllReadyH.nil
          case hi3_32 => ((simp only [List.getElem?_toArray, List.getElem?_cons_succ, List.getElem?_cons_zero]); rfl)
          go_simp
          have HAL := hide (show Below wS.heap.size wS.drew (wS.drew.alloc (.cells #[.int .i64 9, .int .i64 10, .int .i64 300000, .int .i64 300001] 2)) from (Below.refl wS.heap.size wS.drew).alloc (Nat.le_refl wS.heap.size) _)
          (try dsimp only)
          refine hK.out _ _ ((HAL.out.cell (p := ⟨Q, 1, none⟩) hql).trans c1) (fun hHeld2 => ?_)
          clear hK K hHeld
          have hHeld := hHeld2
          clear hHeld2
          try simp only [Act.put, List.setIfInBounds_toArray, List.set_cons_zero, List.set_cons_succ]
          refine wpAnyH_ready (rs := [4]) (by kernel_rfl) (by simp) ?_
          refine AllReadyH.cons (o := ?o4_33) ?hi4_33 (fun K hK => ?hh4_33) AllReadyH.nil
          case hi4_33 => ((simp only [List.getElem?_toArray, List.getElem?_cons_succ, List.getElem?_cons_zero]); rfl)
          go_simp
          (go_at_call 88; refine (srcamong B b (N + 72) (some ⟨wS.heap.size, 0, none⟩) 4 [9, 10, 300000, 300001] _ (HBD.out.below HAL.out).d.s (by omega) (slat_new (enc := encI) (sz := 1) (fun _ => rfl) wS.drew [9, 10, 300000, 300001] #[.int .i64 9, .int .i64 10, .int .i64 300000, .int .i64 300001] 2 rfl) (fun b2 off e => by injection e with e; injection e with e; have := HB.out.d.size; have := HB.out.d.bl; omega) (by simp) (by simp)).mono ?_; rintro e wA ⟨va, rfl, hva, hsA, hbA, hgA⟩; have HBB := hide ((HBD.out.below HAL.out).step hsA hbA hgA); have cA := HBB.out.cells.2.1; have hglA : g < (wS.drew.alloc (.cells #[.int .i64 9, .int .i64 10, .int .i64 300000, .int .i64 300001] 2)).heap.size := Nat.lt_of_lt_of_le hgl HAL.out.size; have kA : wA.cell? ⟨g, 2, none⟩ = some (.int .i64 ou) := (hgA.cell_far ⟨g, 2, none⟩ hglA (fun e => by injection e with e; exact hgb e)).trans ((HAL.out.cell (p := ⟨g, 2, none⟩) hgl).trans k2); have zA : wA.frozen? ⟨g, 2, none⟩ = false := (hgA.frozen_far ⟨g, 2, none⟩ hglA (fun e => by injection e with e; exact hgb e)).trans ((HAL.out.frozen (p := ⟨g, 2, none⟩) hgl).trans (kf 2)); have hgq : g ≠ Q := (fun e => HB.out.ne (by rw [e]; rfl)); clear hsA hbA hgA hva)
          (try dsimp only)
          refine hK.out _ _ (cA) (fun hHeld2 => ?_)
          clear hK K hHeld
          have hHeld := hHeld2
          clear hHeld2
          try simp only [Act.put, List.setIfInBounds_toArray, List.set_cons_zero, List.set_cons_succ]
          refine wpAnyH_take (i := 5) (oi := ?o5_34) (v := ?v5_34) ?hi5_34 ?hs5_34 ?hf5_34 ?hr5_34 (fun _ _ _ h => h) ?hy5_34 (by assumption) ?hh5_34
          case hi5_34 => ((simp only [List.getElem?_toArray, List.getElem?_cons_succ, List.getElem?_cons_zero]); rfl)
          case hs5_34 => kernel_rfl
          case hf5_34 => kernel_rfl
          case hr5_34 => kernel_rfl
          case hy5_34 => exact Or.inl ⟨by rfl, by (intro wq hSw; (try dsimp only at hSw); go_simp; (try with_reducible rfl))⟩
          try simp only [Act.put, List.setIfInBounds_toArray, List.set_cons_zero, List.set_cons_succ]
          refine wpAnyH_take (i := 6) (oi := ?o6_35) (v := ?v6_35) ?hi6_35 ?hs6_35 ?hf6_35 ?hr6_35 (fun _ _ _ h => h) ?hy6_35 (by assumption) ?hh6_35
          case hi6_35 => ((simp only [List.getElem?_toArray, List.getElem?_cons_succ, List.getElem?_cons_zero]); rfl)
          case hs6_35 => kernel_rfl
          case hf6_35 => kernel_rfl
          case hr6_35 => kernel_rfl
          case hy6_35 => exact Or.inl ⟨by rfl, by (intro wq hSw; (try dsimp only at hSw); go_simp; (try with_reducible rfl))⟩
          try simp only [Act.put, List.setIfInBounds_toArray, List.set_cons_zero, List.set_cons_succ]
          refine wpAnyH_ready (rs := [7]) (by kernel_rfl) (by simp) ?_
          refine AllReadyH.cons (o := ?o7_36) ?hi7_36 (fun K hK => ?hh7_36) AllReadyH.nil
          case hi7_36 => ((simp only [List.getElem?_toArray, List.getElem?_cons_succ, List.getElem?_cons_zero]); rfl)
          go_simp
          refine hK.out _ _ (by go_simp) (fun hHeld2 => ?_)
          clear hK K hHeld
          have hHeld := hHeld2
          clear hHeld2
          try simp only [Act.put, List.setIfInBounds_toArray, List.set_cons_zero, List.set_cons_succ]
          refine wpAnyH_done (by kernel_rfl) ?_ _
          refine NoPanic.normal ?_
          obtain ⟨rs2, hl2, ho2⟩ := own_setJ (j := 2) (i := 0) HBB.out.o rfl (by omega) (by omega) va
          have HB2 := hide (HBB.out.ring rfl hl2 ho2 (grown_set (grown_refl wA (some g)) _ _))
          simp only [Nat.reduceMul, Nat.reduceAdd] at HB2
          have HL2 := hide hl2
          clear ho2 HBB HAL HBD cA kA zA hl2 hHeld c1 k0 k1 k2 kf
          go_upto_region 17 with fail
          generalize wA.setCell ⟨g, 2, none⟩ (.int .i64 va) = wF at *
          obtain ⟨nmF, hnmF⟩ : ∃ x, x = nm := ⟨_, rfl⟩
          obtain ⟨AF, hAF⟩ : ∃ x, x = (some ⟨g, 0, none⟩ : Option Addr) := ⟨_, rfl⟩
          obtain ⟨cF, hcF⟩ : ∃ x, x = c := ⟨_, rfl⟩
          obtain ⟨rsF, hrsF⟩ : ∃ x, x = rs2 := ⟨_, rfl⟩
          have HBF := hide HB2.out
          have HNF := hide (show (nm).size ≤ 100 from HNM.out)
          have HLF := hide (show (rs2).length ≤ 40 from by rw [HL2.out]; omega)
          rw [← hrsF] at HLF
          rw [← hnmF] at HNF
          rw [← hnmF, ← hAF, ← hcF, ← hrsF] at HBF
          clear hnmF hAF hcF hrsF
          obtain ⟨c0, c1, cf, r0, r1, rf⟩ := HBF.out.cells
          have rf0 := rf 0
          have rf1 := rf 1
          have HFF := hide (fun a0 a1 => HBF.out.fin a0 a1)
          clear cf rf
          go_wp2_with fail
          refine bodyPost_ret (v := .agg #[.string nmF, .slice AF rsF.length cF]) (by simp [results, Tryz.results93, go_sem, r0, r1]) rfl ⟨nmF, AF, cF, rsF, rfl, HNF.out, HLF.out, (HFF.out _ _).1, (HFF.out _ _).2.more (by omega)⟩
        · have d3 : (v == 3) = false := by simpa using e3
          by_cases e4 : v = 4
          · have d4 : (v == 4) = true := by simpa using e4
            clear e0 e1 e2 e3 e4
            go_wp2_with fail
            refine (srcPick B b (N + 72) 3 wS HB.out.d.s (by omega) (by omega)).mono ?_
            rintro e wA ⟨p, rfl, p0, p1, hsA, hbA, hgA⟩
            have p1' := p1 (by omega)
            have HBA := hide (HB.out.step hsA hbA hgA)
            clear hsA hbA hgA p1 HB
            obtain ⟨n, hn⟩ : ∃ n, n = 31 + p := ⟨_, rfl⟩
            have n0 : n ≤ 33 := by omega
            obtain ⟨L0, hL0⟩ : ∃ L0, L0 = rs.length := ⟨_, rfl⟩
            have HL0 := hide hL0
            have hL9 : L0 ≤ 9 := by omega
            have hL2 : 2 ≤ L0 := by omega
            go_wp2_with fail
            go_loopg [] 40 (fun gk wr => ∃ (i : Nat) (A : Option Addr) (c : Nat) (rs : List RingR), gk + i = 40 ∧ Hid (rs.length = i + L0) ∧ Hid (rs.length ≤ 33) ∧ Hid (Be B b (N + 74) w wr Q nm A c rs)) 
            case atStart => exact ⟨0, A, c, rs, by omega, hide (by have := HL0.out; omega), hide (by omega), HBA⟩
            case round =>
              clear HBA hL0 hrl2 hrl9
              obtain ⟨i, A2, c2, rs2, hgi, HRL, HR33, HB2⟩ := hrel
              obtain ⟨_, c1, cf, _⟩ := HB2.out.cells
              have f1 := cf 1
              have hql := heap_lt HB2.out.q
              clear cf
              by_cases hlt : (rs2.length : Int) < n
              · have hi33 : i < 33 := by have := HRL.out; omega
                have hr2 : 2 ≤ rs2.length := by have := HRL.out; omega
                obtain ⟨g, hA, hgQ, hgl, hcap, k0, k1, k2, kf⟩ := ring_cells HB2.out.o (i := rs2.length - 1) (by omega)
                subst hA
                obtain ⟨y0, hy0⟩ : ∃ y, y = (rg rs2 (rs2.length - 1)).outer := ⟨_, rfl⟩
                obtain ⟨y1, hy1⟩ : ∃ y, y = (rg rs2 (rs2.length - 1)).inner := ⟨_, rfl⟩
                obtain ⟨y2, hy2⟩ : ∃ y, y = (rg rs2 (rs2.length - 1)).hgt := ⟨_, rfl⟩
                rw [← hy0] at k0
                rw [← hy1] at k1
                rw [← hy2] at k2
                obtain ⟨ix, hix⟩ : ∃ ix : Nat, ix = rs2.length - 1 := ⟨_, rfl⟩
                rw [← hix] at k0 k1 k2
                have hii : ((rs2.length : Int) - 1) = (ix : Int) := by omega
                have kw : IntKind.i64.wrap ((rs2.length : Int) - 1) = (ix : Int) := by rw [hii]; exact IntWalk.i64_in _ (by have := HR33.out; omega)
                have hixl : (ix : Int) < rs2.length := by omega
                have hixn : ix < rs2.length := by omega
                have hix0 : (0 : Int) ≤ ix := by omega
                have HBD := hide (HB2.out.below ((Below.refl wr.heap.size wr).drew))
                clear hy0 hy1 hy2 hix hii kf
                go_wp2_with fail
                go_region_law (refine step_appR2 (by rfl) _ _ (by rfl) (w.heap.size + 1) (by rfl) HBD.out.o (by rfl) (by have := HR33.out; omega) (by have := heap_lt HB2.out.r; show w.heap.size + 1 ≤ wr.heap.size; omega) ?_; intro A6 c6 w6 ho6 hb6 hg6 hat6; have HPT := hide (be_push HBD.out ho6 hg6 hat6); have hal6 : Below wr.heap.size wr (wr.drew.alloc (.cells #[.int .i64 y0, .int .i64 y1, .int .i64 y2] 156)) := (Below.refl wr.heap.size wr).drew.alloc (Nat.le_refl wr.heap.size) _; have cQ := (hg6.cell_far ⟨Q, 1, none⟩ (Nat.lt_of_lt_of_le hql hal6.size) (fun e => HB2.out.ne e.symm)).trans ((hal6.cell (p := ⟨Q, 1, none⟩) hql).trans c1); have fQ := (hg6.frozen_far ⟨Q, 1, none⟩ (Nat.lt_of_lt_of_le hql hal6.size) (fun e => HB2.out.ne e.symm)).trans ((hal6.frozen (p := ⟨Q, 1, none⟩) hql).trans f1); clear ho6 hb6 hg6 hat6 hal6)
                all_goals
                  go_wp2_with fail
                  go_roundg (gk - 1)
                  case measure => omega
                  case rel => exact ⟨i + 1, A6, c6, _, by omega, hide (by have := HRL.out; simp; omega), hide (by have := HRL.out; have := HR33.out; simp; omega), HPT⟩
              · have HLE := hide (show rs2.length ≤ 40 from by have := HR33.out; omega)
                obtain ⟨c0, c1, cf, r0, r1, rf⟩ := HB2.out.cells
                have rf0 := rf 0
                have rf1 := rf 1
                have HFF := hide (fun a0 a1 => HB2.out.fin a0 a1)
                clear cf rf
                go_wp2_with fail
                refine bodyPost_ret (v := .agg #[.string nm, .slice A2 rs2.length c2]) (by simp [results, Tryz.results93, go_sem, r0, r1]) rfl ⟨nm, A2, c2, rs2, rfl, HNM.out, HLE.out, (HFF.out _ _).1, (HFF.out _ _).2.more (by omega)⟩
          · have d4 : (v == 4) = false := by simpa using e4
            by_cases e5 : v = 5
            · have d5 : (v == 5) = true := by simpa using e5
              clear e0 e1 e2 e3 e4 e5
              go_wp2_with fail
              refine (l01DrawName_is B b (N + 72) wS HB.out.d.s (by omega)).mono ?_
              rintro e wA ⟨nv, rfl, hnv, hdA⟩
              have HBB := hide (HB.out.step hdA.s hdA.bel hdA.gr)
              have HB2 := hide (HBB.out.name nv)
              have HNV := hide hnv
              obtain ⟨c0, _, cf, _⟩ := HBB.out.cells
              have f0 := cf 0
              clear cf hnv hdA HBB
              go_upto_region 17 with fail
              generalize wA.setCell ⟨Q, 0, none⟩ (.string nv) = wF at *
              clear c0 f0
              obtain ⟨nmF, hnmF⟩ : ∃ x, x = nv := ⟨_, rfl⟩
              obtain ⟨AF, hAF⟩ : ∃ x, x = A := ⟨_, rfl⟩
              obtain ⟨cF, hcF⟩ : ∃ x, x = c := ⟨_, rfl⟩
              obtain ⟨rsF, hrsF⟩ : ∃ x, x = rs := ⟨_, rfl⟩
              have HBF := hide HB2.out
              have HNF := hide (show (nv).size ≤ 100 from HNV.out)
              have HLF := hide (show (rs).length ≤ 40 from by omega)
              rw [← hrsF] at HLF
              rw [← hnmF] at HNF
              rw [← hnmF, ← hAF, ← hcF, ← hrsF] at HBF
              clear hnmF hAF hcF hrsF
              obtain ⟨c0, c1, cf, r0, r1, rf⟩ := HBF.out.cells
              have rf0 := rf 0
              have rf1 := rf 1
              have HFF := hide (fun a0 a1 => HBF.out.fin a0 a1)
              clear cf rf
              go_wp2_with fail
              refine bodyPost_ret (v := .agg #[.string nmF, .slice AF rsF.length cF]) (by simp [results, Tryz.results93, go_sem, r0, r1]) rfl ⟨nmF, AF, cF, rsF, rfl, HNF.out, HLF.out, (HFF.out _ _).1, (HFF.out _ _).2.more (by omega)⟩
            · have d5 : (v == 5) = false := by simpa using e5
              clear e0 e1 e2 e3 e4 e5
              go_upto_region 17 with fail
              obtain ⟨wF, rfl⟩ : ∃ wF, wF = wS := ⟨_, rfl⟩
              obtain ⟨nmF, hnmF⟩ : ∃ x, x = nm := ⟨_, rfl⟩
              obtain ⟨AF, hAF⟩ : ∃ x, x = A := ⟨_, rfl⟩
              obtain ⟨cF, hcF⟩ : ∃ x, x = c := ⟨_, rfl⟩
              obtain ⟨rsF, hrsF⟩ : ∃ x, x = rs := ⟨_, rfl⟩
              have HBF := hide HB.out
              have HNF := hide (show (nm).size ≤ 100 from HNM.out)
              have HLF := hide (show (rs).length ≤ 40 from by omega)
              rw [← hrsF] at HLF
              rw [← hnmF] at HNF
              rw [← hnmF, ← hAF, ← hcF, ← hrsF] at HBF
              clear hnmF hAF hcF hrsF
              obtain ⟨c0, c1, cf, r0, r1, rf⟩ := HBF.out.cells
              have rf0 := rf 0
              have rf1 := rf 1
              have HFF := hide (fun a0 a1 => HBF.out.fin a0 a1)
              clear cf rf
              go_wp2_with fail
              refine bodyPost_ret (v := .agg #[.string nmF, .slice AF rsF.length cF]) (by simp [results, Tryz.results93, go_sem, r0, r1]) rfl ⟨nmF, AF, cF, rsF, rfl, HNF.out, HLF.out, (HFF.out _ _).1, (HFF.out _ _).2.more (by omega)⟩

end Go.Proofs.YtnefgafmnpblpaaGreat
