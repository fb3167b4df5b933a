/- Contracts: profiles that are copied and turned, on both sides. -/
import Derived.Test.YtnefgafmnpblpaaGreatPnY
import Derived.Test.YtnefgafmnpblpaaGreatRowI
import Derived.Deep.AppendLies
namespace Go.Proofs.YtnefgafmnpblpaaGreat
open Go.RowKit Pn

theorem info_Rg : (Tryz.prog.info? 156).map (fun i => (i.zero, i.size, i.bytes)) = some (some (.agg #[.int .i64 0, .int .i64 0, .int .i64 0]), 3, 24) := by kernel_rfl
theorem encRing_one (x : RingR) : ∀ u ∈ encRing x, u.oneCell' = true := by intro u hu; simp [encRing] at hu; rcases hu with rfl | rfl | rfl <;> rfl
abbrev OwnR (w : World) (B : Nat) (v : Value) (rs : List RingR) : Prop := Own encRing 3 156 w B v rs
/-- A profile of the call's own as a result. -/
def TurnRes (nm : ByteArray) (rs : List RingR) (w : World) (e : Ending) (w' : World) : Prop :=
  ∃ (A : Option Addr) (c : Nat), e = .returned (.agg #[.string nm, .slice A rs.length c]) ∧ OwnR w' w.heap.size (.slice A rs.length c) rs ∧ Below w.heap.size w w'
theorem flat_setR : ∀ (rs : List RingR) (i : Nat), i < rs.length → ∀ v : Int, (rs.set i ⟨(rg rs i).outer, v, (rg rs i).hgt⟩).flatMap encRing = (rs.flatMap encRing).set (i * 3 + 1) (.int .i64 v)
  | [], i, h, v => by simp at h
  | r :: rs, 0, h, v => by simp [encRing]
  | r :: rs, i + 1, h, v => by
    have ih := flat_setR rs i (by simpa using h) v
    have e : rg (r :: rs) (i + 1) = rg rs i := by simp
    rw [e]
    simp only [List.set_cons_succ, List.flatMap_cons]
    rw [ih]
    simp [encRing, show (i + 1) * 3 + 1 = i * 3 + 1 + 1 + 1 + 1 by omega]
theorem own_setR {w : World} {B g n c i : Nat} {rs : List RingR} (h : OwnR w B (.slice (some ⟨g, 0, none⟩) n c) rs) (hn : n = rs.length) (hi : i < rs.length) (v : Int) :
    OwnR (w.setCell ⟨g, i * 3 + 1, none⟩ (.int .i64 v)) B (.slice (some ⟨g, 0, none⟩) n c) (rs.set i ⟨(rg rs i).outer, v, (rg rs i).hgt⟩) := by
  subst hn
  unfold OwnR Own
  rw [flat_setR rs i hi v, List.length_set]
  exact (World.ownsRow.stored h (i * 3 + 1) _).1
theorem own_neB {α : Type} {enc : α → List Value} {sz : Nat} {T T' : TypeId} {w : World} {B b : Nat} {v : Value} {xs : List α} {cs : Array Value} {fr : Nat × Nat} (h : Own enc sz T w B v xs) (hk : w.heap[b]? = some (.cells cs T' fr)) (hT : T' ≠ T) : v.ownBlock = none ∨ v.ownBlock ≠ some b := by
  rcases h.2 with ⟨e, _⟩ | ⟨g, cap, cur, e, _, hc, _⟩
  · left; rw [e]; rfl
  · right
    rw [e]
    intro q
    injection q with q
    have q : g = b := q
    subst q
    rw [hc] at hk
    injection hk with hk
    injection hk with _ h3 _
    exact hT h3.symm
/-- A profile in a block of the call's own, its rings in a row of the call's own. -/
structure PrOwn (w1 w : World) (q : Nat) (nm : ByteArray) (A : Option Addr) (c : Nat) (rs : List RingR) : Prop where
  st : w.heap[q]? = some (.cells #[.string nm, .slice A rs.length c] 30 (0, 0))
  row : OwnR w w1.heap.size (.slice A rs.length c) rs
  bel : Below w1.heap.size w1 w
  q1 : w1.heap.size ≤ q
section
variable {w1 w w' : World} {q : Nat} {nm : ByteArray} {A : Option Addr} {c : Nat} {rs : List RingR}
theorem PrOwn.lt (h : PrOwn w1 w q nm A c rs) : q < w.heap.size := heap_lt h.st
theorem PrOwn.below (h : PrOwn w1 w q nm A c rs) (hb : Below w.heap.size w w') : PrOwn w1 w' q nm A c rs := ⟨(hb.block q h.lt).trans h.st, h.row.below hb, h.bel.trans (hb.mono h.bel.size), h.q1⟩
theorem PrOwn.at_ (h : PrOwn w1 w q nm A c rs) : ProfAt w q nm A c rs :=
  ⟨h.lt, by simp [World.cell?, h.st], by simp [World.cell?, h.st], Own.at_ (enc := encRing) (fun _ => rfl) h.row⟩
theorem PrOwn.cells (h : PrOwn w1 w q nm A c rs) {i : Nat} (hi : i < rs.length) : ∃ g, A = some ⟨g, 0, none⟩ ∧ g < w.heap.size ∧ g ≠ q ∧ w.cell? ⟨q, 1, none⟩ = some (.slice A rs.length c) ∧ w.cell? ⟨g, i * 3 + 1, none⟩ = some (.int .i64 (rg rs i).inner) ∧ w.frozen? ⟨g, i * 3 + 1, none⟩ = false := by
  obtain ⟨b, o, e, hb, hc⟩ := h.at_.sl.getR (by omega)
  obtain ⟨g, e2, h1, h2⟩ := own_addr h.row (by omega)
  rw [e2] at e
  injection e with e; injection e with e3 e4
  subst e3; subst e4
  have hc1 := (hc i hi).2.1
  rw [Nat.zero_add] at hc1
  refine ⟨g, e2, h2, ?_, h.at_.c1, hc1, ?_⟩
  · have := own_neB h.row h.st (by decide)
    rw [e2] at this
    simp [Value.ownBlock] at this
    exact this
  · have hr := h.row
    rw [e2] at hr
    exact World.ownsRow.frozenAt hr _
theorem PrOwn.set {g i : Nat} (h : PrOwn w1 w q nm (some ⟨g, 0, none⟩) c rs) (hi : i < rs.length) (v : Int) : PrOwn w1 (w.setCell ⟨g, i * 3 + 1, none⟩ (.int .i64 v)) q nm (some ⟨g, 0, none⟩) c (rs.set i ⟨(rg rs i).outer, v, (rg rs i).hgt⟩) := by
  obtain ⟨g2, e, h1, h2, -, -, -⟩ := h.cells hi
  injection e with e; injection e with e; subst e
  have hB := (h.row.lt g (by simp [Value.ownBlock])).1
  refine ⟨?_, ?_, h.bel.setCell hB _, h.q1⟩
  · rw [heap_other (Ne.symm h2), List.length_set]; exact h.st
  · rw [List.length_set]; exact own_setR h.row rfl hi v
end
set_option maxRecDepth 100000 in
theorem cloneRing (A : Option Addr) (c : Nat) (rs : List RingR) (w : World) (h : SlAt encRing 3 w A rs) (hn : rs.length ≤ 100000) (h0 : 0 < rs.length) :
    Calls Tryz.prog 161 #[.slice A rs.length c] w fun e w' => ∃ (A' : Option Addr) (c' : Nat), e = .returned (.slice A' rs.length c') ∧ OwnR w' w.heap.size (.slice A' rs.length c') rs ∧ Below w.heap.size w w' := by
  obtain ⟨ba, oa, rfl, -, -⟩ := h.getR h0
  obtain ⟨i0, hi0, hz0, hzs, hzb⟩ := info_parts info_Rg
  have q22 : ∀ (w : World) (a : Option Addr) (n c n' c' : Nat), (binOp .eql 28 (.slice a n c) (.slice none n' c')).run Tryz.prog w = .ok (.bool a.isNone) w := fun w a n c n' c' => Lib.run_eql_slice_nil w _ _ a n c n' c' Tryz.underlying28
  have H := hide (h.below (w' := w.alloc (.cells #[] 156)) ((Below.refl _ _).alloc (Nat.le_refl _) _))
  have H0 := hide (own_made (enc := encRing) (sz := 3) (T := 156) w rfl (Nat.le_refl _))
  clear h
  go_enter Tryz.func161, Tryz.ntmps161
  go_wp2_with (at_builtin; refine wpList_appAll (sz := 3) (bytes := 24) Tryz.underlying28 hi0 hz0 hzs hzb rfl (by omega) (by omega) (fun _ => rfl) encRing_one (xs := []) rfl _ _ rfl w.heap.size rfl H0.out rfl H.out (by simp; omega) (by simp) ?_; intro A1 c1 w1 ho1 hb1 _hg1; have HO := hide ho1; have HB := hide (Below.trans ((Below.refl w.heap.size w).alloc (Nat.le_refl _) (.cells #[] 156)) hb1); clear ho1 hb1)
  go_ret
  exact ⟨A1, c1, by simp, by simpa using HO.out, HB.out⟩
set_option maxRecDepth 100000 in
theorem implcopyProfile (nm : ByteArray) (A : Option Addr) (c : Nat) (rs : List RingR) (w : World) (h : SlAt encRing 3 w A rs) (hn : rs.length ≤ 100000) (h0 : 0 < rs.length) :
    Calls Tryz.prog 112 #[.agg #[.string nm, .slice A rs.length c]] w (TurnRes nm rs w) := by
  obtain ⟨w0, hw0⟩ : ∃ w0, w0 = (w.alloc (.cells #[.string nm, .slice A rs.length c] 30)).alloc (.cells #[.string ⟨#[]⟩, .slice none 0 0] 30) := ⟨_, rfl⟩
  have hP : w0.heap[w.heap.size]? = some (.cells #[.string nm, .slice A rs.length c] 30 (0, 0)) := by rw [hw0]; exact (heap_alloc_old _ _ (by simp)).trans (heap_alloc_new w _)
  have hR : w0.heap[w.heap.size + 1]? = some (.cells #[.string ⟨#[]⟩, .slice none 0 0] 30 (0, 0)) := by rw [hw0]; simpa using heap_alloc_new (w.alloc (.cells #[.string nm, .slice A rs.length c] 30)) (.cells #[.string ⟨#[]⟩, .slice none 0 0] 30)
  have hb0 : Below w.heap.size w w0 := by rw [hw0]; exact (by repeat (first | with_reducible exact Below.refl _ _ | with_reducible assumption | (with_reducible refine Below.drew ?_) | (with_reducible refine below_drewN ?_ _) | ((with_reducible refine Below.alloc ?_ ?_ _); rotate_left; (focus (first | omega | (simp; omega) | simp))) | ((with_reducible refine Below.setCell ?_ ?_ _); rotate_left; (focus (first | omega | (simp; omega) | simp))) | (refine Below.trans ?_ (Below.mono (by assumption) (by first | omega | (simp; omega) | simp)))))
  have hz0 : w0.heap.size = w.heap.size + 2 := by rw [hw0]; simp
  have p0 : ∀ w', Below w0.heap.size w0 w' → w'.cell? ⟨w.heap.size, 0, none⟩ = some (.string nm) := fun w' hb => (hb.cell (p := ⟨w.heap.size, 0, none⟩) (by simp; omega)).trans (by simp [World.cell?, hP])
  have p1 : ∀ w', Below w0.heap.size w0 w' → w'.cell? ⟨w.heap.size, 1, none⟩ = some (.slice A rs.length c) := fun w' hb => (hb.cell (p := ⟨w.heap.size, 1, none⟩) (by simp; omega)).trans (by simp [World.cell?, hP])
  have r0 : ∀ w', Below w0.heap.size w0 w' → w'.cell? ⟨w.heap.size + 1, 0, none⟩ = some (.string ⟨#[]⟩) := fun w' hb => (hb.cell (p := ⟨w.heap.size + 1, 0, none⟩) (by simp; omega)).trans (by simp [World.cell?, hR])
  have r1 : ∀ w', Below w0.heap.size w0 w' → w'.cell? ⟨w.heap.size + 1, 1, none⟩ = some (.slice none 0 0) := fun w' hb => (hb.cell (p := ⟨w.heap.size + 1, 1, none⟩) (by simp; omega)).trans (by simp [World.cell?, hR])
  have y0 : ∀ w' j, Below w0.heap.size w0 w' → w'.frozen? ⟨w.heap.size + 1, j, none⟩ = false := fun w' j hb => (hb.frozen (p := ⟨w.heap.size + 1, j, none⟩) (by simp; omega)).trans (by simp [World.frozen?, hR])
  have HX := hide (h.below hb0)
  have HB0 := hide hb0
  have HZ0 := hide hz0
  clear h hb0 hP hR hz0
  go_enter Tryz.func112, Tryz.ntmps112
  go_wp2_with fail
  rw [← hw0]
  clear hw0
  have HP := hide (And.intro p0 p1)
  have HQ := hide (And.intro r0 (And.intro r1 y0))
  clear p0 p1 r0 r1 y0
  refine wp_region_noPanic ?_
  refine wp_region_held_drew (S := (fun w' => w'.cell? ⟨w.heap.size, 0, none⟩ = some (.string nm) ∧ w'.cell? ⟨w.heap.size, 1, none⟩ = some (.slice A rs.length c) ∧ Below w.heap.size w w')) (by kernel_rfl) (⟨HP.out.1 _ (Below.refl _ _).drew, HP.out.2 _ (Below.refl _ _).drew, HB0.out.drew⟩) (fun hHeld => ?_)
  refine wpAnyH_take (i := 0) (oi := ?o0_1) (v := ?v0_1) ?hi0_1 ?hs0_1 ?hf0_1 ?hr0_1 (fun _ _ _ h => h) ?hy0_1 (by assumption) ?hh0_1
  case hi0_1 => ((simp only [List.getElem?_toArray, List.getElem?_cons_zero]); rfl)
  case hs0_1 => kernel_rfl
  case hf0_1 => kernel_rfl
  case hr0_1 => kernel_rfl
  case hy0_1 => exact Or.inl ⟨by rfl, by (intro wq hSw; (try dsimp only at hSw); go_simp; (try with_reducible rfl))⟩
  try simp only [Act.put, List.setIfInBounds_toArray, List.set_cons_zero, List.set_cons_succ]
  refine wpAnyH_take (i := 1) (oi := ?o1_2) (v := ?v1_2) ?hi1_2 ?hs1_2 ?hf1_2 ?hr1_2 (fun _ _ _ h => h) ?hy1_2 (by assumption) ?hh1_2
  case hi1_2 => ((simp only [List.getElem?_toArray, List.getElem?_cons_succ, List.getElem?_cons_zero]); rfl)
  case hs1_2 => kernel_rfl
  case hf1_2 => kernel_rfl
  case hr1_2 => kernel_rfl
  case hy1_2 => exact Or.inl ⟨by rfl, by (intro wq hSw; (try dsimp only at hSw); go_simp; (try with_reducible rfl))⟩
  try simp only [Act.put, List.setIfInBounds_toArray, List.set_cons_zero, List.set_cons_succ]
  refine wpAnyH_take (i := 2) (oi := ?o2_3) (v := ?v2_3) ?hi2_3 ?hs2_3 ?hf2_3 ?hr2_3 (fun _ _ _ h => h) ?hy2_3 (by assumption) ?hh2_3
  case hi2_3 => ((simp only [List.getElem?_toArray, List.getElem?_cons_succ, List.getElem?_cons_zero]); rfl)
  case hs2_3 => kernel_rfl
  case hf2_3 => kernel_rfl
  case hr2_3 => kernel_rfl
  case hy2_3 => exact Or.inl ⟨by rfl, by (intro wq hSw; (try dsimp only at hSw); go_simp; (try with_reducible rfl))⟩
  try simp only [Act.put, List.setIfInBounds_toArray, List.set_cons_zero, List.set_cons_succ]
  refine wpAnyH_take (i := 3) (oi := ?o3_4) (v := ?v3_4) ?hi3_4 ?hs3_4 ?hf3_4 ?hr3_4 (fun _ _ _ h => h) ?hy3_4 (by assumption) ?hh3_4
  case hi3_4 => ((simp only [List.getElem?_toArray, List.getElem?_cons_succ, List.getElem?_cons_zero]); rfl)
  case hs3_4 => kernel_rfl
  case hf3_4 => kernel_rfl
  case hr3_4 => kernel_rfl
  case hy3_4 => exact Or.inl ⟨by rfl, by (intro wq hSw; (try dsimp only at hSw); go_simp; (try with_reducible rfl))⟩
  try simp only [Act.put, List.setIfInBounds_toArray, List.set_cons_zero, List.set_cons_succ]
  refine wpAnyH_ready (rs := [4]) (by kernel_rfl) (by simp) ?_
  refine AllReadyH.cons (o := ?o4_5) ?hi4_5 (fun K hK => ?hh4_5) AllReadyH.nil
  case hi4_5 => ((simp only [List.getElem?_toArray, List.getElem?_cons_succ, List.getElem?_cons_zero]); rfl)
  go_simp
  (go_at_call 161; refine (cloneRing A c rs _ (HX.out.below (Below.refl _ _).drew) hn h0).mono ?_; rintro e w1 ⟨A1, c1, rfl, ho1, hb1⟩; have HO := hide (ho1.mono (B' := w.heap.size + 1 + 1) (by have := HZ0.out; simp; omega)); have HB1 := hide (show Below w0.heap.size w0 w1 from (Below.refl _ _).drew.trans hb1); clear ho1 hb1; have r0 := HQ.out.1 w1 HB1.out; have r1 := HQ.out.2.1 w1 HB1.out; have y0 := HQ.out.2.2 w1 0 HB1.out; have y1 := HQ.out.2.2 w1 1 HB1.out)
  (try dsimp only)
  refine hK.out _ _ (⟨HP.out.1 _ HB1.out, HP.out.2 _ HB1.out, HB0.out.trans (HB1.out.mono HB0.out.size)⟩) (fun hHeld2 => ?_)
  clear hK K hHeld
  have hHeld := hHeld2
  clear hHeld2
  try simp only [Act.put, List.setIfInBounds_toArray, List.set_cons_zero, List.set_cons_succ]
  refine wpAnyH_take (i := 5) (oi := ?o5_6) (v := ?v5_6) ?hi5_6 ?hs5_6 ?hf5_6 ?hr5_6 (fun _ _ _ h => h) ?hy5_6 (by assumption) ?hh5_6
  case hi5_6 => ((simp only [List.getElem?_toArray, List.getElem?_cons_succ, List.getElem?_cons_zero]); rfl)
  case hs5_6 => kernel_rfl
  case hf5_6 => kernel_rfl
  case hr5_6 => kernel_rfl
  case hy5_6 => exact Or.inl ⟨by rfl, by (intro wq hSw; (try dsimp only at hSw); go_simp; (try with_reducible rfl))⟩
  try simp only [Act.put, List.setIfInBounds_toArray, List.set_cons_zero, List.set_cons_succ]
  refine wpAnyH_ready (rs := [6]) (by kernel_rfl) (by simp) ?_
  refine AllReadyH.cons (o := ?o6_7) ?hi6_7 (fun K hK => ?hh6_7) AllReadyH.nil
  case hi6_7 => ((simp only [List.getElem?_toArray, List.getElem?_cons_succ, List.getElem?_cons_zero]); rfl)
  go_simp
  refine hK.out _ _ (by refine ⟨?_, ?_, ?_⟩ <;> first | (go_simp; done) | exact (((HB0.out.trans (HB1.out.mono HB0.out.size)).setCell (by simp) _).setCell (by simp) _)) (fun hHeld2 => ?_)
  clear hK K hHeld
  have hHeld := hHeld2
  clear hHeld2
  try simp only [Act.put, List.setIfInBounds_toArray, List.set_cons_zero, List.set_cons_succ]
  refine wpAnyH_done (by kernel_rfl) ?_ _
  refine NoPanic.normal ?_
  go_wp2_with fail
  refine bodyPost_ret (v := .agg #[.string nm, .slice A1 rs.length c1]) (by simp [results, Tryz.results112, go_sem, r0, r1]) rfl ⟨A1, c1, rfl, ?_, hHeld.2.2⟩
  exact (own_far' HO.out (grown_set (grown_set (grown_refl w1 (some (w.heap.size + 1))) 0 (.string nm)) 1 (.slice A1 rs.length c1))).mono (by omega)
theorem slat_news {α : Type} {enc : α → List Value} {sz : Nat} (he : ∀ x, (enc x).length = sz) (h0 : 0 < sz) {w : World} {b off : Nat} {ys : List α} (hy : SlAt enc sz w (some ⟨b, off, none⟩) ys) (j : Nat) (u : Value) (hu : (ys.flatMap enc)[j]? = some u) : w.cell? ((⟨b, off, none⟩ : Addr).add j) = some u := by
  have hl : j < ys.length * sz := by
    have := (List.getElem?_eq_some_iff.1 hu).1
    rwa [flat_length he] at this
  have hq : j / sz < ys.length := Nat.div_lt_of_lt_mul (by rw [Nat.mul_comm]; exact hl)
  have hr : j % sz < sz := Nat.mod_lt _ h0
  have ej : j / sz * sz + j % sz = j := by rw [Nat.mul_comm]; exact Nat.div_add_mod j sz
  obtain ⟨b', off', e1, _, hc⟩ := hy (j / sz) hq
  injection e1 with e1
  injection e1 with e2 e3
  subst e2; subst e3
  have hg := flat_get he ys (j / sz) hq (j % sz) hr
  rw [ej] at hg
  have := hc (j % sz) u (hg.symm.trans hu)
  rw [Nat.add_assoc, ej] at this
  have ea : (⟨b, off, none⟩ : Addr).add j = ⟨b, off + j, none⟩ := by unfold Addr.add; split <;> simp_all
  rw [ea]
  exact this
set_option maxRecDepth 100000 in
/-- All elements of a row of numbers or rings appended to an empty row of the call's own, as a step of a region that draws its order. -/
theorem step_appRings {w : World} {ops : Array Oper} {o : Oper} {a : Act} {K : Act → World → Prop} {Q : Exit → Act → World → Prop} {E : Prop} (hgd : o.guard = none) (s x : Operand) (ho : o.op = .call { callee := .builtin .append, args := #[s, x], argTypes := #[28, 28] }) (B : Nat) {v : Value} (hs : a.eval s = v)
    (hown : OwnR w B v []) {b off c : Nat} {ys : List RingR} (hx : a.eval x = .slice (some ⟨b, off, none⟩) ys.length c) (hy : SlAt encRing 3 w (some ⟨b, off, none⟩) ys) (hn : ys.length ≤ 1048576) (h0 : 0 < ys.length) (hB : B ≤ w.heap.size)
    (h : ∀ (A : Option Addr) (c : Nat) (w' : World), OwnR w' B (.slice A ys.length c) ys → Below B w w' → K (a.put o.dst (.slice A ys.length c)) w') : if Region.wanted o (yielded ops a.tmps) = true then Oper.wp Tryz.prog o a w K Q else E := by
  obtain ⟨i0, hi, hz0, hz1, hz2⟩ := info_parts info_Rg
  refine step_append_lies _ hgd s x _ ho B 156 i0 _ 3 24 Tryz.underlying28 hi hz0 hz1 hz2 rfl (by omega) v 0 [] hs hown ⟨b, off, none⟩ ys.length c (ys.flatMap encRing) hx (flat_length (enc := encRing) (sz := 3) (fun _ => rfl) ys) (slat_news (enc := encRing) (sz := 3) (fun _ => rfl) (by omega) hy) ?_ h0 (by unfold maxLen; omega) (by omega) hB _ rfl ?_
  · intro u hu
    obtain ⟨y, _, hy2⟩ := List.mem_flatMap.1 hu
    exact encRing_one y u hy2
  · intro g cap w' h1 h2 _ _
    rw [Nat.zero_add] at h1 ⊢
    refine h _ cap w' ?_ (Below.grown (Below.refl _ _) h2 hB fun k hk => (Own.lt hown k hk).1)
    unfold OwnR Own
    simpa using h1
set_option maxRecDepth 100000 in
theorem specl05Own (bp : Nat) (nm : ByteArray) (A : Option Addr) (c : Nat) (rs : List RingR) (w : World) (h : ProfAt w bp nm A c rs) (hn : rs.length ≤ 100000) (h0 : 0 < rs.length) :
    Calls Tryz.prog 148 #[.pointer (some ⟨bp, 0, none⟩)] w (TurnRes nm rs w) := by
  obtain ⟨ba, oa, rfl, -, -⟩ := h.sl.getR h0
  obtain ⟨w0, hw0⟩ : ∃ w0, w0 = w.alloc (.cells #[.string ⟨#[]⟩, .slice none 0 0] 30) := ⟨_, rfl⟩
  have hR : w0.heap[w.heap.size]? = some (.cells #[.string ⟨#[]⟩, .slice none 0 0] 30 (0, 0)) := by rw [hw0]; exact heap_alloc_new w _
  have hb0 : Below w.heap.size w w0 := by rw [hw0]; exact (by repeat (first | with_reducible exact Below.refl _ _ | with_reducible assumption | (with_reducible refine Below.drew ?_) | (with_reducible refine below_drewN ?_ _) | ((with_reducible refine Below.alloc ?_ ?_ _); rotate_left; (focus (first | omega | (simp; omega) | simp))) | ((with_reducible refine Below.setCell ?_ ?_ _); rotate_left; (focus (first | omega | (simp; omega) | simp))) | (refine Below.trans ?_ (Below.mono (by assumption) (by first | omega | (simp; omega) | simp)))))
  have hz0 : w0.heap.size = w.heap.size + 1 := by rw [hw0]; simp
  have HP := hide (h.below hb0)
  have p0 : ∀ w', Below w.heap.size w w' → w'.cell? ⟨bp, 0, none⟩ = some (.string nm) := fun w' hb => (h.below hb).c0
  have p1 : ∀ w', Below w.heap.size w w' → w'.cell? ⟨bp, 1, none⟩ = some (.slice (some ⟨ba, oa, none⟩) rs.length c) := fun w' hb => (h.below hb).c1
  have r0 : ∀ w', Below w0.heap.size w0 w' → w'.cell? ⟨w.heap.size, 0, none⟩ = some (.string ⟨#[]⟩) := fun w' hb => (hb.cell (p := ⟨w.heap.size, 0, none⟩) (by simp; omega)).trans (by simp [World.cell?, hR])
  have r1 : ∀ w', Below w0.heap.size w0 w' → w'.cell? ⟨w.heap.size, 1, none⟩ = some (.slice none 0 0) := fun w' hb => (hb.cell (p := ⟨w.heap.size, 1, none⟩) (by simp; omega)).trans (by simp [World.cell?, hR])
  have y0 : ∀ w' j, Below w0.heap.size w0 w' → w'.frozen? ⟨w.heap.size, j, none⟩ = false := fun w' j hb => (hb.frozen (p := ⟨w.heap.size, j, none⟩) (by simp; omega)).trans (by simp [World.frozen?, hR])
  have HQ := hide (And.intro r0 (And.intro r1 y0))
  have HB0 := hide hb0
  have HZ0 := hide hz0
  have HX := hide (h.sl.below hb0)
  obtain ⟨i0, hi0, hz1, hzs, hzb⟩ := info_parts info_Rg
  have H0 := hide (own_made (enc := encRing) (sz := 3) (T := 156) w0 rfl (Nat.le_refl _))
  have HXA := hide (HX.out.below ((Below.refl w0.heap.size w0).alloc (Nat.le_refl _) (.cells #[] 156)))
  have HBA := hide ((Below.refl w0.heap.size w0).alloc (Nat.le_refl _) (.cells #[] 156))
  clear h hb0 hR hz0 r0 r1 y0
  go_enter Tryz.func148, Tryz.ntmps148
  go_wp2_with fail
  rw [← hw0]
  clear hw0
  refine wp_region_noPanic ?_
  refine wp_region_held_drew (S := (fun w' => Below w.heap.size w w')) (by kernel_rfl) (HB0.out.drew) (fun hHeld => ?_)
  refine wpAnyH_take (i := 0) (oi := ?o0_8) (v := ?v0_8) ?hi0_8 ?hs0_8 ?hf0_8 ?hr0_8 (fun _ _ _ h => h) ?hy0_8 (by assumption) ?hh0_8
  case hi0_8 => ((simp only [List.getElem?_toArray, List.getElem?_cons_zero]); rfl)
  case hs0_8 => kernel_rfl
  case hf0_8 => kernel_rfl
  case hr0_8 => kernel_rfl
  case hy0_8 => exact Or.inl ⟨by rfl, by (intro wq hSw; (try dsimp only at hSw); go_simp; (try with_reducible rfl))⟩
  try simp only [Act.put, List.setIfInBounds_toArray, List.set_cons_zero, List.set_cons_succ]
  refine wpAnyH_take (i := 1) (oi := ?o1_9) (v := ?v1_9) ?hi1_9 ?hs1_9 ?hf1_9 ?hr1_9 (fun _ _ _ h => h) ?hy1_9 (by assumption) ?hh1_9
  case hi1_9 => ((simp only [List.getElem?_toArray, List.getElem?_cons_succ, List.getElem?_cons_zero]); rfl)
  case hs1_9 => kernel_rfl
  case hf1_9 => kernel_rfl
  case hr1_9 => kernel_rfl
  case hy1_9 => exact Or.inl ⟨by rfl, by (intro wq hSw; (try dsimp only at hSw); go_simp; (try with_reducible rfl))⟩
  try simp only [Act.put, List.setIfInBounds_toArray, List.set_cons_zero, List.set_cons_succ]
  refine wpAnyH_take (i := 2) (oi := ?o2_10) (v := ?v2_10) ?hi2_10 ?hs2_10 ?hf2_10 ?hr2_10 (fun _ _ _ h => h) ?hy2_10 (by assumption) ?hh2_10
  case hi2_10 => ((simp only [List.getElem?_toArray, List.getElem?_cons_succ, List.getElem?_cons_zero]); rfl)
  case hs2_10 => kernel_rfl
  case hf2_10 => kernel_rfl
  case hr2_10 => kernel_rfl
  case hy2_10 => exact Or.inl ⟨by rfl, by (intro wq hSw; (try dsimp only at hSw); go_simp; (try with_reducible rfl))⟩
  try simp only [Act.put, List.setIfInBounds_toArray, List.set_cons_zero, List.set_cons_succ]
  refine wpAnyH_take (i := 3) (oi := ?o3_11) (v := ?v3_11) ?hi3_11 ?hs3_11 ?hf3_11 ?hr3_11 (fun _ _ _ h => h) ?hy3_11 (by assumption) ?hh3_11
  case hi3_11 => ((simp only [List.getElem?_toArray, List.getElem?_cons_succ, List.getElem?_cons_zero]); rfl)
  case hs3_11 => kernel_rfl
  case hf3_11 => kernel_rfl
  case hr3_11 => kernel_rfl
  case hy3_11 => exact Or.inl ⟨by rfl, by (intro wq hSw; (try dsimp only at hSw); go_simp; (try with_reducible rfl))⟩
  try simp only [Act.put, List.setIfInBounds_toArray, List.set_cons_zero, List.set_cons_succ]
  refine wpAnyH_take (i := 5) (oi := ?o5_12) (v := ?v5_12) ?hi5_12 ?hs5_12 ?hf5_12 ?hr5_12 (fun _ _ _ h => h) ?hy5_12 (by assumption) ?hh5_12
  case hi5_12 => ((simp only [List.getElem?_toArray, List.getElem?_cons_succ, List.getElem?_cons_zero]); rfl)
  case hs5_12 => kernel_rfl
  case hf5_12 => kernel_rfl
  case hr5_12 => kernel_rfl
  case hy5_12 => exact Or.inl ⟨by rfl, by (intro wq hSw; (try dsimp only at hSw); go_simp; (try with_reducible rfl))⟩
  try simp only [Act.put, List.setIfInBounds_toArray, List.set_cons_zero, List.set_cons_succ]
  refine wpAnyH_take (i := 6) (oi := ?o6_13) (v := ?v6_13) ?hi6_13 ?hs6_13 ?hf6_13 ?hr6_13 (fun _ _ _ h => h) ?hy6_13 (by assumption) ?hh6_13
  case hi6_13 => ((simp only [List.getElem?_toArray, List.getElem?_cons_succ, List.getElem?_cons_zero]); rfl)
  case hs6_13 => kernel_rfl
  case hf6_13 => kernel_rfl
  case hr6_13 => kernel_rfl
  case hy6_13 => exact Or.inl ⟨by rfl, by (intro wq hSw; (try dsimp only at hSw); go_simp; (try with_reducible rfl))⟩
  try simp only [Act.put, List.setIfInBounds_toArray, List.set_cons_zero, List.set_cons_succ]
  refine wpAnyH_take (i := 7) (oi := ?o7_14) (v := ?v7_14) ?hi7_14 ?hs7_14 ?hf7_14 ?hr7_14 (fun _ _ _ h => h) ?hy7_14 (by assumption) ?hh7_14
  case hi7_14 => ((simp only [List.getElem?_toArray, List.getElem?_cons_succ, List.getElem?_cons_zero]); rfl)
  case hs7_14 => kernel_rfl
  case hf7_14 => kernel_rfl
  case hr7_14 => kernel_rfl
  case hy7_14 => exact Or.inl ⟨by rfl, by (intro wq hSw; (try dsimp only at hSw); go_simp; (try with_reducible rfl))⟩
  try simp only [Act.put, List.setIfInBounds_toArray, List.set_cons_zero, List.set_cons_succ]
  refine wpAnyH_take (i := 8) (oi := ?o8_15) (v := ?v8_15) ?hi8_15 ?hs8_15 ?hf8_15 ?hr8_15 (fun _ _ _ h => h) ?hy8_15 (by assumption) ?hh8_15
  case hi8_15 => ((simp only [List.getElem?_toArray, List.getElem?_cons_succ, List.getElem?_cons_zero]); rfl)
  case hs8_15 => kernel_rfl
  case hf8_15 => kernel_rfl
  case hr8_15 => kernel_rfl
  case hy8_15 => exact Or.inl ⟨by rfl, by (intro wq hSw; (try dsimp only at hSw); go_simp; (try with_reducible rfl))⟩
  try simp only [Act.put, List.setIfInBounds_toArray, List.set_cons_zero, List.set_cons_succ]
  refine wpAnyH_ready (rs := [4]) (by kernel_rfl) (by simp) ?_
  refine AllReadyH.cons (o := ?o4_16) ?hi4_16 (fun K hK => ?hh4_16) AllReadyH.nil
  case hi4_16 => ((simp only [List.getElem?_toArray, List.getElem?_cons_succ, List.getElem?_cons_zero]); rfl)
  go_simp
  refine hK.out _ _ (HB0.out.trans (HBA.out.drew.mono HB0.out.size)) (fun hHeld2 => ?_)
  clear hK K hHeld
  have hHeld := hHeld2
  clear hHeld2
  try simp only [Act.put, List.setIfInBounds_toArray, List.set_cons_zero, List.set_cons_succ]
  refine wpAnyH_ready (rs := [9]) (by kernel_rfl) (by simp) ?_
  refine AllReadyH.cons (o := ?o9_17) ?hi9_17 (fun K hK => ?hh9_17) AllReadyH.nil
  case hi9_17 => ((simp only [List.getElem?_toArray, List.getElem?_cons_succ, List.getElem?_cons_zero]); rfl)
  refine step_appRings (by rfl) _ _ (by rfl) w0.heap.size (by rfl) H0.out.drew (by rfl) HXA.out (by omega) h0 (by simp) ?_; intro A1 c1 w1 ho1 hb1; have HO := hide (ho1.mono (B' := w.heap.size + 1) (by have := HZ0.out; omega)); have HB1 := hide (show Below w0.heap.size w0 w1 from HBA.out.drew.trans (hb1.mono (by simp))); clear ho1 hb1; have r0 := HQ.out.1 w1 HB1.out; have r1 := HQ.out.2.1 w1 HB1.out; have y0 := HQ.out.2.2 w1 0 HB1.out; have y1 := HQ.out.2.2 w1 1 HB1.out
  refine hK.out _ _ (HB0.out.trans (HB1.out.mono HB0.out.size)) (fun hHeld2 => ?_)
  clear hK K hHeld
  have hHeld := hHeld2
  clear hHeld2
  try simp only [Act.put, List.setIfInBounds_toArray, List.set_cons_zero, List.set_cons_succ]
  refine wpAnyH_take (i := 10) (oi := ?o10_18) (v := ?v10_18) ?hi10_18 ?hs10_18 ?hf10_18 ?hr10_18 (fun _ _ _ h => h) ?hy10_18 (by assumption) ?hh10_18
  case hi10_18 => ((simp only [List.getElem?_toArray, List.getElem?_cons_succ, List.getElem?_cons_zero]); rfl)
  case hs10_18 => kernel_rfl
  case hf10_18 => kernel_rfl
  case hr10_18 => kernel_rfl
  case hy10_18 => exact Or.inl ⟨by rfl, by (intro wq hSw; (try dsimp only at hSw); go_simp; (try with_reducible rfl))⟩
  try simp only [Act.put, List.setIfInBounds_toArray, List.set_cons_zero, List.set_cons_succ]
  refine wpAnyH_ready (rs := [11]) (by kernel_rfl) (by simp) ?_
  refine AllReadyH.cons (o := ?o11_19) ?hi11_19 (fun K hK => ?hh11_19) AllReadyH.nil
  case hi11_19 => ((simp only [List.getElem?_toArray, List.getElem?_cons_succ, List.getElem?_cons_zero]); rfl)
  go_simp
  refine hK.out _ _ (((HB0.out.trans (HB1.out.mono HB0.out.size)).setCell (by simp) _).setCell (by simp) _) (fun hHeld2 => ?_)
  clear hK K hHeld
  have hHeld := hHeld2
  clear hHeld2
  try simp only [Act.put, List.setIfInBounds_toArray, List.set_cons_zero, List.set_cons_succ]
  refine wpAnyH_done (by kernel_rfl) ?_ _
  refine NoPanic.normal ?_
  go_wp2_with fail
  refine bodyPost_ret (v := .agg #[.string nm, .slice A1 rs.length c1]) (by simp [results, Tryz.results148, go_sem, r0, r1]) rfl ⟨A1, c1, rfl, ?_, hHeld⟩
  exact (own_far' HO.out (grown_set (grown_set (grown_refl w1 (some w.heap.size)) 0 (.string nm)) 1 (.slice A1 rs.length c1))).mono (by omega)
end Go.Proofs.YtnefgafmnpblpaaGreat
