/- Contracts: the laws' copies, comparisons, counts and marks of models, profiles and goals. Contracts: the laws' comparisons, counts and marks of models; profiles and goals. Contracts: the laws' marks of models; profiles and goals. -/
import Derived.Test.YtnefgafmnpblpaaGreatPnO
import Derived.Test.YtnefgafmnpblpaaGreatPnX5
namespace Go.Proofs.YtnefgafmnpblpaaGreat
open Go.RowKit Pn

/-- A model of the call's own: rows in order. -/
structure MdOwn (w : World) (B N1 N2 N3 : Nat) (Az : Option Addr) (cz : Nat) (Aw : Option Addr) (cw : Nat) (Ab : Option Addr) (cb : Nat) (zs : List Int) (ws : List (List Int)) (bs : List Int) : Prop where
  z : OwnI w B (.slice Az zs.length cz) zs
  zN : ∀ k, (Value.slice Az zs.length cz).ownBlock = some k → k < N1
  g : ∃ vs, LL w N1 N2 (.slice Aw ws.length cw) vs ws
  b : OwnI w N2 (.slice Ab bs.length cb) bs
  bN : ∀ k, (Value.slice Ab bs.length cb).ownBlock = some k → k < N3
  o1 : B ≤ N1
  o2 : N1 ≤ N2
  o3 : N2 ≤ N3
  o4 : N3 ≤ w.heap.size
section
variable {w w' : World} {B N1 N2 N3 : Nat} {Az : Option Addr} {cz : Nat} {Aw : Option Addr} {cw : Nat} {Ab : Option Addr} {cb : Nat} {zs : List Int} {ws : List (List Int)} {bs : List Int}
theorem MdOwn.md (h : MdOwn w B N1 N2 N3 Az cz Aw cw Ab cb zs ws bs) : MdAt w Az Aw Ab zs ws bs := by
  obtain ⟨vs, hg⟩ := h.g
  exact ⟨h.z.at_ (fun _ => rfl), LL.at_ hg, h.b.at_ (fun _ => rfl)⟩
theorem MdOwn.below (h : MdOwn w B N1 N2 N3 Az cz Aw cw Ab cb zs ws bs) (hb : Below w.heap.size w w') : MdOwn w' B N1 N2 N3 Az cz Aw cw Ab cb zs ws bs := by
  obtain ⟨vs, hg⟩ := h.g
  exact ⟨h.z.below hb, h.zN, ⟨vs, hg.below hb⟩, h.b.below hb, h.bN, h.o1, h.o2, h.o3, Nat.le_trans h.o4 hb.size⟩
theorem MdOwn.mono {B' : Nat} (h : MdOwn w B N1 N2 N3 Az cz Aw cw Ab cb zs ws bs) (hB : B' ≤ B) : MdOwn w B' N1 N2 N3 Az cz Aw cw Ab cb zs ws bs :=
  ⟨h.z.mono hB, h.zN, h.g, h.b, h.bN, Nat.le_trans hB h.o1, h.o2, h.o3, h.o4⟩
end
/-- Writes within blocks from B on and below N, and to what is new. -/
structure Mid (B N : Nat) (w w' : World) : Prop where
  bel : Below B w w'
  rest : ∀ k, N ≤ k → k < w.heap.size → w'.heap[k]? = w.heap[k]?
theorem Mid.refl (B N : Nat) (w : World) : Mid B N w w := ⟨Below.refl _ _, fun _ _ _ => rfl⟩
theorem Mid.trans {B N : Nat} {w w1 w2 : World} (h : Mid B N w w1) (k : Mid B N w1 w2) : Mid B N w w2 :=
  ⟨h.bel.trans k.bel, fun j hj hl => (k.rest j hj (Nat.lt_of_lt_of_le hl h.bel.size)).trans (h.rest j hj hl)⟩
theorem Mid.below {B N : Nat} {w w' : World} (hb : Below w.heap.size w w') (hB : B ≤ w.heap.size) : Mid B N w w' := ⟨hb.mono hB, fun k _ hl => hb.block k hl⟩
theorem Mid.grown {B N : Nat} {w w' : World} {o : Option Nat} (hg : w.grownBy w' o) (hB : B ≤ w.heap.size) (ho : ∀ k, o = some k → B ≤ k ∧ k < N) : Mid B N w w' :=
  ⟨Below.grown (Below.refl _ _) hg hB fun k hk => (ho k hk).1, fun k hk hl => hg.block k hl fun e => by have := (ho k e.symm).2; omega⟩
theorem Mid.wide {B B' N N' : Nat} {w w' : World} (h : Mid B N w w') (hB : B' ≤ B) (hN : N ≤ N') : Mid B' N' w w' := ⟨h.bel.mono hB, fun k hk hl => h.rest k (by omega) hl⟩
theorem own_mid {α : Type} {enc : α → List Value} {sz : Nat} {T : TypeId} {w w' : World} {B N M : Nat} {v : Value} {xs : List α} (h : Own enc sz T w M v xs) (hk : ∀ k, v.ownBlock = some k → k < B ∨ N ≤ k) (hm : Mid B N w w') : Own enc sz T w' M v xs := by
  refine ⟨h.1, ?_⟩
  have hlt := h.lt
  rcases h.2 with hn | ⟨g, cap, cur, rfl, hB, hg, rest⟩
  · exact .inl hn
  · refine .inr ⟨g, cap, cur, rfl, hB, ?_, rest⟩
    rcases hk g rfl with e | e
    · exact (hm.bel.block g e).trans hg
    · exact (hm.rest g e (hlt g rfl).2).trans hg
theorem ll_setLow {w : World} {B N q j : Nat} {x v : Value} {vs : List Value} {ls : List (List Int)} (h : LL w B N v vs ls) (hq : q < B) : LL (w.setCell ⟨q, j, none⟩ x) B N v vs ls :=
  h.older (v' := .slice (some ⟨q, 0, none⟩) 0 0) (M := B) (grown_set (grown_refl w (some q)) j x) (fun k e => by simp [Value.ownBlock] at e; omega) (Nat.le_refl _)
/-- While a model is copied: its box, the result's cell, the local's cells. -/
structure Tm (w W : World) (cs : Array Value) (va vb vc : Value) : Prop where
  s0 : W.heap[w.heap.size]? = some (.cells cs 55 (0, 0))
  s1 : W.heap[w.heap.size + 1]? = some (.cells #[.slice none 0 0, .slice none 0 0, .slice none 0 0] 27 (0, 0))
  s2 : W.heap[w.heap.size + 2]? = some (.cells #[va, vb, vc] 27 (0, 0))
  bel : Below w.heap.size w W
theorem Tm.lt {w W : World} {cs : Array Value} {va vb vc : Value} (h : Tm w W cs va vb vc) : w.heap.size + 2 < W.heap.size := heap_lt h.s2
theorem Tm.below {w W W' : World} {cs : Array Value} {va vb vc : Value} (h : Tm w W cs va vb vc) (hb : Below W.heap.size W W') : Tm w W' cs va vb vc := by
  have := h.lt
  exact ⟨(hb.block _ (by omega)).trans h.s0, (hb.block _ (by omega)).trans h.s1, (hb.block _ (by omega)).trans h.s2, h.bel.trans (hb.mono h.bel.size)⟩
theorem Tm.set {w W : World} {cs : Array Value} {va vb vc va' vb' vc' v : Value} {j : Nat} (h : Tm w W cs va vb vc) (hs : #[va, vb, vc].setIfInBounds j v = #[va', vb', vc']) : Tm w (W.setCell ⟨w.heap.size + 2, j, none⟩ v) cs va' vb' vc' :=
  ⟨(heap_other (by omega)).trans h.s0, (heap_other (by omega)).trans h.s1, (heap_setD v h.s2).trans (by rw [hs]), h.bel.setCell (show w.heap.size ≤ w.heap.size + 2 by omega) _⟩
def ToMdRes (zs : List Int) (ws : List (List Int)) (bs : List Int) (w : World) (e : Ending) (w' : World) : Prop :=
  ∃ (Az : Option Addr) (cz : Nat) (Aw : Option Addr) (cw : Nat) (Ab : Option Addr) (cb : Nat) (N1 N2 : Nat), e = .returned (.agg #[.slice Az zs.length cz, .slice Aw ws.length cw, .slice Ab bs.length cb]) ∧ MdOwn w' w.heap.size N1 N2 w'.heap.size Az cz Aw cw Ab cb zs ws bs ∧ Below w.heap.size w w'
set_option maxRecDepth 100000 in
set_option maxHeartbeats 1000000 in
theorem lawstoModel (Az Aw Ab : Option Addr) (cz cw cb : Nat) (zs : List Int) (ws : List (List Int)) (bs : List Int) (w : World) (h : MdAt w Az Aw Ab zs ws bs) (HS : Hid (MdSz zs ws bs)) :
    Calls Tryz.prog 26 #[.agg #[.slice Az zs.length cz, .slice Aw ws.length cw, .slice Ab bs.length cb]] w (ToMdRes zs ws bs w) := by
  obtain ⟨w1, hw1⟩ : ∃ w1, w1 = ((w.alloc (.cells #[.slice Az zs.length cz, .slice Aw ws.length cw, .slice Ab bs.length cb] 55)).alloc (.cells #[.slice none 0 0, .slice none 0 0, .slice none 0 0] 27)).alloc (.cells #[.slice none 0 0, .slice none 0 0, .slice none 0 0] 27) := ⟨_, rfl⟩
  have hb01 : Below w.heap.size w w1 := by rw [hw1]; exact (by repeat (first | with_reducible exact Below.refl _ _ | with_reducible assumption | (with_reducible refine Below.drew ?_) | (with_reducible refine below_drewN ?_ _) | ((with_reducible refine Below.alloc ?_ ?_ _); rotate_left; (focus (first | omega | (simp; omega) | simp))) | ((with_reducible refine Below.setCell ?_ ?_ _); rotate_left; (focus (first | omega | (simp; omega) | simp))) | (refine Below.trans ?_ (Below.mono (by assumption) (by first | omega | (simp; omega) | simp)))))
  have hT1 : Tm w w1 #[.slice Az zs.length cz, .slice Aw ws.length cw, .slice Ab bs.length cb] (.slice none 0 0) (.slice none 0 0) (.slice none 0 0) := by
    refine ⟨?_, ?_, ?_, hb01⟩
    · rw [hw1]
      have a1 : Below (w.heap.size + 1) (w.alloc (.cells #[.slice Az zs.length cz, .slice Aw ws.length cw, .slice Ab bs.length cb] 55)) (((w.alloc (.cells #[.slice Az zs.length cz, .slice Aw ws.length cw, .slice Ab bs.length cb] 55)).alloc (.cells #[.slice none 0 0, .slice none 0 0, .slice none 0 0] 27)).alloc (.cells #[.slice none 0 0, .slice none 0 0, .slice none 0 0] 27)) := by
        have a := Below.refl (w.heap.size + 1) (w.alloc (.cells #[.slice Az zs.length cz, .slice Aw ws.length cw, .slice Ab bs.length cb] 55))
        exact (a.alloc (by simp) _).alloc (by simp) _
      exact (a1.block _ (by omega)).trans (heap_alloc_new w _)
    · rw [hw1]
      have a := heap_alloc_new (w.alloc (.cells #[.slice Az zs.length cz, .slice Aw ws.length cw, .slice Ab bs.length cb] 55)) (.cells #[.slice none 0 0, .slice none 0 0, .slice none 0 0] 27)
      have a1 : Below (w.heap.size + 2) ((w.alloc (.cells #[.slice Az zs.length cz, .slice Aw ws.length cw, .slice Ab bs.length cb] 55)).alloc (.cells #[.slice none 0 0, .slice none 0 0, .slice none 0 0] 27)) (((w.alloc (.cells #[.slice Az zs.length cz, .slice Aw ws.length cw, .slice Ab bs.length cb] 55)).alloc (.cells #[.slice none 0 0, .slice none 0 0, .slice none 0 0] 27)).alloc (.cells #[.slice none 0 0, .slice none 0 0, .slice none 0 0] 27)) := (Below.refl _ _).alloc (by simp) _
      exact (a1.block _ (by omega)).trans (by simpa using a)
    · rw [hw1]
      have a := heap_alloc_new ((w.alloc (.cells #[.slice Az zs.length cz, .slice Aw ws.length cw, .slice Ab bs.length cb] 55)).alloc (.cells #[.slice none 0 0, .slice none 0 0, .slice none 0 0] 27)) (.cells #[.slice none 0 0, .slice none 0 0, .slice none 0 0] 27)
      simpa using a
  have HT1 := hide hT1
  have HM1 := hide (h.below hb01)
  have HM0 := hide h
  clear hb01 hT1 h
  go_enter Tryz.func26, Tryz.ntmps26
  go_wp2_with fail
  rw [← hw1]
  clear hw1
  refine (lawstoInt64S Az cz zs w1 HM1.out.z HS.out.z).mono ?_
  rintro e w2 ⟨b2, rfl, ho2, hb2⟩
  have HT2 := hide (HT1.out.below hb2)
  have HO2 := hide ho2
  have HO2b := hide (fun k e => (ho2.lt k e).2)
  have HM2 := hide (HM1.out.below hb2)
  have HL1 := hide HT1.out.lt
  have HZ2 := hide hb2.size
  clear ho2 hb2 HT1 HM1
  have s0 := HT2.out.s0
  have s2 := HT2.out.s2
  have x0 : w2.cell? ⟨w.heap.size + 1 + 1, 0, none⟩ = some (.slice none 0 0) := by simp [World.cell?, s2]
  have y0 : w2.frozen? ⟨w.heap.size + 1 + 1, 0, none⟩ = false := by simp [World.frozen?, s2]
  clear s0 s2
  go_upto_region 3 with fail
  have HT3 := hide (HT2.out.set (j := 0) (v := .slice (some ⟨b2, 0, none⟩) zs.length zs.length) rfl)
  have HO3 := hide (own_farN HO2.out (show w.heap.size + 2 < w1.heap.size from HL1.out) (grown_set (grown_refl w2 (some (w.heap.size + 2))) 0 (.slice (some ⟨b2, 0, none⟩) zs.length zs.length)))
  obtain ⟨w3, hw3⟩ : ∃ w3, w3 = w2.setCell ⟨w.heap.size + 1 + 1, 0, none⟩ (.slice (some ⟨b2, 0, none⟩) zs.length zs.length) := ⟨_, rfl⟩
  have hw3' : w2.setCell ⟨w.heap.size + 2, 0, none⟩ (.slice (some ⟨b2, 0, none⟩) zs.length zs.length) = w3 := hw3.symm
  rw [← hw3]
  rw [hw3'] at HT3 HO3
  have HZ3 := hide (show w3.heap.size = w2.heap.size by rw [hw3]; simp)
  have hb3 : Below w.heap.size w w3 := HT3.out.bel
  have s0 := HT3.out.s0
  have x1 : w3.cell? ⟨w.heap.size, 1, none⟩ = some (.slice Aw ws.length cw) := by simp [World.cell?, s0]
  clear s0 x0 y0 hw3 hw3' hb3 HT2 HO2 HM2
  have HM3 := hide (HM0.out.below HT3.out.bel)
  go_wp2_with fail
  refine (lawstoInt64SS Aw cw ws w3 HM3.out.g HS.out.w HS.out.r).mono ?_
  rintro e w4 ⟨vs, rfl, hll, hb4⟩
  have HT4 := hide (HT3.out.below hb4)
  have HO4 := hide (HO3.out.below hb4)
  have HLL4 := hide hll
  have HZ4 := hide hb4.size
  have HLT4 := hide HT4.out.lt
  clear hll hb4 HT3 HO3 HM3 x1
  have s2 := HT4.out.s2
  have x1 : w4.cell? ⟨w.heap.size + 1 + 1, 1, none⟩ = some (.slice none 0 0) := by simp [World.cell?, s2]
  have y1 : w4.frozen? ⟨w.heap.size + 1 + 1, 1, none⟩ = false := by simp [World.frozen?, s2]
  clear s2
  obtain ⟨q3, hq3⟩ : ∃ q3, q3 = w3.heap.size := ⟨_, rfl⟩
  rw [← hq3] at HLL4 ⊢
  have HQ3 := hide hq3
  clear hq3
  go_upto_region 4 with fail
  have HT5 := hide (HT4.out.set (j := 1) (v := .slice (some ⟨q3, 0, none⟩) ws.length ws.length) rfl)
  have HO5 := hide (own_farN HO4.out (show w.heap.size + 2 < w1.heap.size from HL1.out) (grown_set (grown_refl w4 (some (w.heap.size + 2))) 1 (.slice (some ⟨q3, 0, none⟩) ws.length ws.length)))
  have HLL5 := hide (ll_setLow (j := 1) (x := .slice (some ⟨q3, 0, none⟩) ws.length ws.length) HLL4.out (show w.heap.size + 2 < q3 by have := HQ3.out; have := HZ3.out; have := HZ2.out; have := HL1.out; omega))
  obtain ⟨w5, hw5⟩ : ∃ w5, w5 = w4.setCell ⟨w.heap.size + 1 + 1, 1, none⟩ (.slice (some ⟨q3, 0, none⟩) ws.length ws.length) := ⟨_, rfl⟩
  have hw5' : w4.setCell ⟨w.heap.size + 2, 1, none⟩ (.slice (some ⟨q3, 0, none⟩) ws.length ws.length) = w5 := hw5.symm
  rw [← hw5]
  rw [hw5'] at HT5 HO5 HLL5
  have HZ5 := hide (show w5.heap.size = w4.heap.size by rw [hw5]; simp)
  have s0 := HT5.out.s0
  have x2 : w5.cell? ⟨w.heap.size, 2, none⟩ = some (.slice Ab bs.length cb) := by simp [World.cell?, s0]
  clear s0 x1 y1 hw5 hw5' HT4 HO4 HLL4
  have HM5 := hide (HM0.out.below HT5.out.bel)
  go_wp2_with fail
  refine (lawstoInt64S Ab cb bs w5 HM5.out.b HS.out.b).mono ?_
  rintro e w6 ⟨b6, rfl, ho6, hb6⟩
  have HT6 := hide (HT5.out.below hb6)
  have HO6 := hide (HO5.out.below hb6)
  have HLL6 := hide (HLL5.out.below hb6)
  have HB6 := hide ho6
  have HZ6 := hide hb6.size
  clear ho6 hb6 HT5 HO5 HLL5 HM5 x2
  have s2 := HT6.out.s2
  have x2 : w6.cell? ⟨w.heap.size + 1 + 1, 2, none⟩ = some (.slice none 0 0) := by simp [World.cell?, s2]
  have y2 : w6.frozen? ⟨w.heap.size + 1 + 1, 2, none⟩ = false := by simp [World.frozen?, s2]
  clear s2
  go_upto_region 5 with fail
  have HT7 := hide (HT6.out.set (j := 2) (v := .slice (some ⟨b6, 0, none⟩) bs.length bs.length) rfl)
  have HO7 := hide (own_farN HO6.out (show w.heap.size + 2 < w1.heap.size from HL1.out) (grown_set (grown_refl w6 (some (w.heap.size + 2))) 2 (.slice (some ⟨b6, 0, none⟩) bs.length bs.length)))
  have HLL7 := hide (ll_setLow (j := 2) (x := .slice (some ⟨b6, 0, none⟩) bs.length bs.length) HLL6.out (show w.heap.size + 2 < q3 by have := HQ3.out; have := HZ3.out; have := HZ2.out; have := HL1.out; omega))
  have HB7 := hide (own_farN HB6.out (show w.heap.size + 2 < w5.heap.size by have := HZ5.out; have := HLT4.out; omega) (grown_set (grown_refl w6 (some (w.heap.size + 2))) 2 (.slice (some ⟨b6, 0, none⟩) bs.length bs.length)))
  obtain ⟨w7, hw7⟩ : ∃ w7, w7 = w6.setCell ⟨w.heap.size + 1 + 1, 2, none⟩ (.slice (some ⟨b6, 0, none⟩) bs.length bs.length) := ⟨_, rfl⟩
  have hw7' : w6.setCell ⟨w.heap.size + 2, 2, none⟩ (.slice (some ⟨b6, 0, none⟩) bs.length bs.length) = w7 := hw7.symm
  rw [← hw7]
  rw [hw7'] at HT7 HO7 HLL7 HB7
  have HZ7 := hide (show w7.heap.size = w6.heap.size by rw [hw7]; simp)
  have s1 := HT7.out.s1
  have s2 := HT7.out.s2
  have z0 : w7.cell? ⟨w.heap.size + 1 + 1, 0, none⟩ = some (.slice (some ⟨b2, 0, none⟩) zs.length zs.length) := by simp [World.cell?, s2]
  have z1 : w7.cell? ⟨w.heap.size + 1 + 1, 1, none⟩ = some (.slice (some ⟨q3, 0, none⟩) ws.length ws.length) := by simp [World.cell?, s2]
  have z2 : w7.cell? ⟨w.heap.size + 1 + 1, 2, none⟩ = some (.slice (some ⟨b6, 0, none⟩) bs.length bs.length) := by simp [World.cell?, s2]
  have v0 : w7.cell? ⟨w.heap.size + 1, 0, none⟩ = some (.slice none 0 0) := by simp [World.cell?, s1]
  have v1 : w7.cell? ⟨w.heap.size + 1, 1, none⟩ = some (.slice none 0 0) := by simp [World.cell?, s1]
  have v2 : w7.cell? ⟨w.heap.size + 1, 2, none⟩ = some (.slice none 0 0) := by simp [World.cell?, s1]
  have u : ∀ j, w7.frozen? ⟨w.heap.size + 1, j, none⟩ = false := fun j => by simp [World.frozen?, s1]
  have u0 := u 0
  have u1 := u 1
  have u2 := u 2
  clear s1 s2 x2 y2 u hw7 hw7' HT6 HO6 HLL6 HB6
  have HF := hide (show ∀ a0 a1 a2 : Value, MdOwn (((w7.setCell ⟨w.heap.size + 1, 0, none⟩ a0).setCell ⟨w.heap.size + 1, 1, none⟩ a1).setCell ⟨w.heap.size + 1, 2, none⟩ a2) w.heap.size q3 w5.heap.size w7.heap.size (some ⟨b2, 0, none⟩) zs.length (some ⟨q3, 0, none⟩) ws.length (some ⟨b6, 0, none⟩) bs.length zs ws bs ∧ Below w.heap.size w (((w7.setCell ⟨w.heap.size + 1, 0, none⟩ a0).setCell ⟨w.heap.size + 1, 1, none⟩ a1).setCell ⟨w.heap.size + 1, 2, none⟩ a2) from fun a0 a1 a2 => by
    have hq3 := HQ3.out
    have hz3 := HZ3.out
    have hz2 := HZ2.out
    have hl1 := HL1.out
    have hz5 := HZ5.out
    have hz4 := HZ4.out
    have hz6 := HZ6.out
    have hz7 := HZ7.out
    have r : ∀ (W : World) (j : Nat) (a : Value), (W.setCell ⟨w.heap.size + 1, j, none⟩ a).heap.size = W.heap.size := fun W j a => by simp
    have ko : ∀ (W : World) (j : Nat) (a : Value), OwnI W w1.heap.size (.slice (some ⟨b2, 0, none⟩) zs.length zs.length) zs → OwnI (W.setCell ⟨w.heap.size + 1, j, none⟩ a) w1.heap.size (.slice (some ⟨b2, 0, none⟩) zs.length zs.length) zs := fun W j a h => own_farN h (show w.heap.size + 1 < w1.heap.size by omega) (grown_set (grown_refl W (some (w.heap.size + 1))) j a)
    have kb : ∀ (W : World) (j : Nat) (a : Value), OwnI W w5.heap.size (.slice (some ⟨b6, 0, none⟩) bs.length bs.length) bs → OwnI (W.setCell ⟨w.heap.size + 1, j, none⟩ a) w5.heap.size (.slice (some ⟨b6, 0, none⟩) bs.length bs.length) bs := fun W j a h => own_farN h (show w.heap.size + 1 < w5.heap.size by omega) (grown_set (grown_refl W (some (w.heap.size + 1))) j a)
    have hlt2 := (HO2b.out)
    refine ⟨⟨(ko _ 2 a2 (ko _ 1 a1 (ko _ 0 a0 HO7.out))).mono (by omega), fun k e => ?_, ⟨vs, ll_setLow (ll_setLow (ll_setLow (HLL7.out.up (by omega)) (by omega)) (by omega)) (by omega)⟩, kb _ 2 a2 (kb _ 1 a1 (kb _ 0 a0 HB7.out)), fun k e => ?_, by omega, by omega, by omega, by simp⟩, ((HT7.out.bel.setCell (show w.heap.size ≤ w.heap.size + 1 by omega) _).setCell (show w.heap.size ≤ w.heap.size + 1 by omega) _).setCell (show w.heap.size ≤ w.heap.size + 1 by omega) _⟩
    · have := hlt2 k e; omega
    · exact (HB7.out.lt k e).2)
  clear HO7 HLL7 HB7 HT7
  go_wp2_with fail
  refine bodyPost_ret (v := .agg #[.slice (some ⟨b2, 0, none⟩) zs.length zs.length, .slice (some ⟨q3, 0, none⟩) ws.length ws.length, .slice (some ⟨b6, 0, none⟩) bs.length bs.length]) (by simp [results, Tryz.results26, go_sem, v0, v1, v2]) rfl ?_
  refine ⟨_, _, _, _, _, _, q3, w5.heap.size, rfl, ?_, (HF.out _ _ _).2⟩
  have h := (HF.out (.slice (some ⟨b2, 0, none⟩) zs.length zs.length) (.slice (some ⟨q3, 0, none⟩) ws.length ws.length) (.slice (some ⟨b6, 0, none⟩) bs.length bs.length)).1
  simpa using h
end Go.Proofs.YtnefgafmnpblpaaGreat
namespace Go.Proofs.YtnefgafmnpblpaaGreat
open Go.RowKit Pn

theorem lawstoSound (x0 : Int) (x1 : Int) (x2 : Int) (x3 : Int) (x4 : Int) (w : World) : Calls Tryz.prog 74 #[.agg #[.int .i64 x0, .int .i64 x1, .int .i64 x2, .int .i64 x3, .int .i64 x4]] w fun e w' => e = .returned (.agg #[.int .i64 x0, .int .i64 x1, .int .i64 x2, .int .i64 x3, .int .i64 x4]) ∧ Below w.heap.size w w' := by
  go_enter Tryz.func74, Tryz.ntmps74
  go_wp2
  refine bodyPost_ret (v := .agg #[.int .i64 x0, .int .i64 x1, .int .i64 x2, .int .i64 x3, .int .i64 x4]) (by simp [results, Tryz.results74, go_sem]) rfl ⟨rfl, (by repeat (first | with_reducible exact Below.refl _ _ | with_reducible assumption | (with_reducible refine Below.drew ?_) | (with_reducible refine below_drewN ?_ _) | ((with_reducible refine Below.alloc ?_ ?_ _); rotate_left; (focus (first | omega | (simp; omega) | simp))) | ((with_reducible refine Below.setCell ?_ ?_ _); rotate_left; (focus (first | omega | (simp; omega) | simp))) | (refine Below.trans ?_ (Below.mono (by assumption) (by first | omega | (simp; omega) | simp)))))⟩
set_option maxRecDepth 100000 in
theorem lawseqModel_same (Az Aw Ab Az' Aw' Ab' : Option Addr) (cz cw cb cz' cw' cb' : Nat) (zs : List Int) (ws : List (List Int)) (bs : List Int) (w : World) (h : MdAt w Az Aw Ab zs ws bs) (h' : MdAt w Az' Aw' Ab' zs ws bs) (HS : Hid (MdSz zs ws bs)) :
    Calls Tryz.prog 29 #[.agg #[.slice Az zs.length cz, .slice Aw ws.length cw, .slice Ab bs.length cb], .agg #[.slice Az' zs.length cz', .slice Aw' ws.length cw', .slice Ab' bs.length cb']] w fun e w' => e = .returned (.bool true) ∧ Below w.heap.size w w' := by
  have HX := hide h
  have HY := hide h'
  obtain ⟨w2, hw2⟩ : ∃ w2, w2 = (w.alloc (.cells #[.slice Az zs.length cz, .slice Aw ws.length cw, .slice Ab bs.length cb] 27)).alloc (.cells #[.slice Az' zs.length cz', .slice Aw' ws.length cw', .slice Ab' bs.length cb'] 27) := ⟨_, rfl⟩
  have hb2 : Below w.heap.size w w2 := by rw [hw2]; exact (by repeat (first | with_reducible exact Below.refl _ _ | with_reducible assumption | (with_reducible refine Below.drew ?_) | (with_reducible refine below_drewN ?_ _) | ((with_reducible refine Below.alloc ?_ ?_ _); rotate_left; (focus (first | omega | (simp; omega) | simp))) | ((with_reducible refine Below.setCell ?_ ?_ _); rotate_left; (focus (first | omega | (simp; omega) | simp))) | (refine Below.trans ?_ (Below.mono (by assumption) (by first | omega | (simp; omega) | simp)))))
  have s0 : w2.heap[w.heap.size]? = some (.cells #[.slice Az zs.length cz, .slice Aw ws.length cw, .slice Ab bs.length cb] 27 (0, 0)) := by
    rw [hw2]
    have a1 : Below (w.heap.size + 1) (w.alloc (.cells #[.slice Az zs.length cz, .slice Aw ws.length cw, .slice Ab bs.length cb] 27)) ((w.alloc (.cells #[.slice Az zs.length cz, .slice Aw ws.length cw, .slice Ab bs.length cb] 27)).alloc (.cells #[.slice Az' zs.length cz', .slice Aw' ws.length cw', .slice Ab' bs.length cb'] 27)) := (Below.refl _ _).alloc (by simp) _
    exact (a1.block _ (by omega)).trans (heap_alloc_new w _)
  have s1 : w2.heap[w.heap.size + 1]? = some (.cells #[.slice Az' zs.length cz', .slice Aw' ws.length cw', .slice Ab' bs.length cb'] 27 (0, 0)) := by
    rw [hw2]
    simpa using heap_alloc_new (w.alloc (.cells #[.slice Az zs.length cz, .slice Aw ws.length cw, .slice Ab bs.length cb] 27)) (.cells #[.slice Az' zs.length cz', .slice Aw' ws.length cw', .slice Ab' bs.length cb'] 27)
  have HB2 := hide hb2
  have hl1 := heap_lt s1
  have HP := hide (show ∀ W, Below w2.heap.size w2 W → W.cell? ⟨w.heap.size, 1, none⟩ = some (.slice Aw ws.length cw) ∧ W.cell? ⟨w.heap.size, 2, none⟩ = some (.slice Ab bs.length cb) ∧ W.cell? ⟨w.heap.size + 1, 1, none⟩ = some (.slice Aw' ws.length cw') ∧ W.cell? ⟨w.heap.size + 1, 2, none⟩ = some (.slice Ab' bs.length cb') from fun W hb => by
    have a := (hb.block w.heap.size (by omega)).trans s0
    have b := (hb.block (w.heap.size + 1) (by omega)).trans s1
    exact ⟨by simp [World.cell?, a], by simp [World.cell?, a], by simp [World.cell?, b], by simp [World.cell?, b]⟩)
  clear h h' hb2 s0 s1 hl1
  go_enter Tryz.func29, Tryz.ntmps29
  go_wp2_with fail
  rw [← hw2]
  clear hw2
  refine (lawseqInt64S_same Az Az' cz cz' zs w2 (HX.out.below HB2.out).z (HY.out.below HB2.out).z HS.out.z).mono ?_
  rintro e w3 ⟨rfl, hb3⟩
  have HB3 := hide hb3
  have HW3 := hide (HB2.out.trans (hb3.mono HB2.out.size))
  clear hb3
  obtain ⟨c0, c1, c2, c3⟩ := HP.out w3 HB3.out
  go_wp2_with fail
  refine (lawseqInt64SS_same Aw Aw' cw cw' ws w3 (HX.out.below HW3.out).g (HY.out.below HW3.out).g HS.out.w HS.out.r).mono ?_
  rintro e w4 ⟨rfl, hb4⟩
  have HB4 := hide (HB3.out.trans (hb4.mono HB3.out.size))
  have HW4 := hide (HW3.out.trans (hb4.mono HW3.out.size))
  clear hb4 c0 c1 c2 c3
  obtain ⟨c0, c1, c2, c3⟩ := HP.out w4 HB4.out
  go_wp2_with fail
  refine (lawseqInt64S_same Ab Ab' cb cb' bs w4 (HX.out.below HW4.out).b (HY.out.below HW4.out).b HS.out.b).mono ?_
  rintro e w5 ⟨rfl, hb5⟩
  have HW5 := hide (HW4.out.trans (hb5.mono HW4.out.size))
  clear hb5
  go_wp2_with fail
  go_ret
  exact ⟨rfl, HW5.out⟩
theorem mem_totL {ls : List (List Int)} {l : List Int} (h : l ∈ ls) : l.length ≤ totL ls := by
  induction ls with
  | nil => simp at h
  | cons a ls ih =>
    unfold totL
    rcases List.mem_cons.1 h with e | e
    · subst e; omega
    · have := ih e; omega
theorem szI_any (A : Option Addr) (n c : Nat) (left : Int) (w : World) (hn : n ≤ maxLen) (h0 : 0 ≤ left) (h1 : left ≤ 1048576) :
    Calls Tryz.prog 66 #[.slice A n c, .int .i64 left] w fun e w' => e = .returned (.int .i64 (if 0 ≤ left - n then left - n else -1)) ∧ w = w' := by
  unfold maxLen at hn
  have kw : IntKind.i64.wrap (left - (n : Int)) = left - n := IntWalk.i64_in _ (by omega)
  by_cases h : 0 ≤ left - (n : Int)
  · rw [if_pos h]
    go_enter Tryz.func66, Tryz.ntmps66
    go_wp2_with fail
    go_ret
    exact ⟨rfl, rfl⟩
  · rw [if_neg h]
    go_enter Tryz.func66, Tryz.ntmps66
    go_wp2_with fail
    go_ret
    exact ⟨rfl, rfl⟩
theorem szR_any (A : Option Addr) (n c : Nat) (left : Int) (w : World) (hn : n ≤ maxLen) (h0 : 0 ≤ left) (h1 : left ≤ 1048576) :
    Calls Tryz.prog 68 #[.slice A n c, .int .i64 left] w fun e w' => e = .returned (.int .i64 (if 0 ≤ left - n then left - n else -1)) ∧ w = w' := by
  unfold maxLen at hn
  have kw : IntKind.i64.wrap (left - (n : Int)) = left - n := IntWalk.i64_in _ (by omega)
  by_cases h : 0 ≤ left - (n : Int)
  · rw [if_pos h]
    go_enter Tryz.func68, Tryz.ntmps68
    go_wp2_with fail
    go_ret
    exact ⟨rfl, rfl⟩
  · rw [if_neg h]
    go_enter Tryz.func68, Tryz.ntmps68
    go_wp2_with fail
    go_ret
    exact ⟨rfl, rfl⟩
set_option maxRecDepth 100000 in
theorem szSS_any (A : Option Addr) (c : Nat) (ls : List (List Int)) (left : Int) (w : World) (h : SSAt w A ls) (hn : ls.length ≤ maxLen) (hl : ∀ l ∈ ls, l.length ≤ maxLen) (h0 : 0 ≤ left) (h1 : left ≤ 1048576) :
    Calls Tryz.prog 67 #[.slice A ls.length c, .int .i64 left] w fun e w' => (∃ r : Int, e = .returned (.int .i64 r) ∧ -1 ≤ r ∧ r ≤ left ∧ (0 ≤ r → r + ls.length + totL ls = left)) ∧ Below w.heap.size w w' := by
  have HX := hide h
  have HL := hide hl
  have HN := hide hn
  unfold maxLen at hn
  have kw : IntKind.i64.wrap (left - (ls.length : Int)) = left - ls.length := IntWalk.i64_in _ (by omega)
  clear h hl
  by_cases h2 : left - (ls.length : Int) < 0
  · go_enter Tryz.func67, Tryz.ntmps67
    go_wp2_with fail
    go_ret
    exact ⟨⟨-1, rfl, by omega, by omega, fun q => by omega⟩, Below.refl _ _⟩
  · have h3 : ls.length ≤ 1048576 := by omega
    go_enter Tryz.func67, Tryz.ntmps67
    go_wp2_with fail
    clear kw
    go_loopw [5, 1] (fun v q wr => ∃ (i : Nat) (r : Int), v = .int .i64 i ∧ q = .int .i64 r ∧ i ≤ ls.length ∧ 0 ≤ r ∧ r ≤ left ∧ Hid (r + ls.length + (totL (ls.take i) : Nat) = left) ∧ Hid (Below w.heap.size w wr)) (fun v _ _ => ls.length - (intOf v).toNat)
    case atStart => exact ⟨0, _, rfl, rfl, by omega, by omega, by omega, hide (by simp [totL]), hide (Below.refl _ _)⟩
    case round =>
      obtain ⟨i, r, rfl, rfl, hi, r0, r1, HR, HB⟩ := hrel
      by_cases hlt : i < ls.length
      · obtain ⟨b, o, A', c', rfl, hb, hc, _⟩ := (HX.out.below HB.out) i hlt
        have hll := HL.out ls[i] (List.getElem_mem hlt)
        have HT := hide (totL_take ls hlt)
        have hki : (i : Int) < ls.length := by omega
        have hk0 : (0 : Int) ≤ i := by omega
        obtain ⟨n, hln⟩ : ∃ n, n = ls[i].length := ⟨_, rfl⟩
        rw [← hln] at hc hll HT
        clear hln
        by_cases h4 : 0 ≤ r - (n : Int)
        · have HC := hide (show Calls Tryz.prog 66 #[.slice A' n c', .int .i64 r] wr fun e w' => e = .returned (.int .i64 (r - n)) ∧ wr = w' from by have := szI_any A' n c' r wr hll r0 (by omega); rwa [if_pos h4] at this)
          have h5 : ¬ (r - (n : Int) < 0) := by omega
          go_wp2_with fail
          refine HC.out.mono ?_
          rintro e w2 ⟨rfl, rfl⟩
          go_wp2_with fail
          go_roundw
          case rel => exact ⟨i + 1, r - n, by go_num, rfl, by omega, h4, by omega, hide (by rw [HT.out]; have := HR.out; omega), HB⟩
          case measure => simp [intOf]; omega
        · have HC := hide (show Calls Tryz.prog 66 #[.slice A' n c', .int .i64 r] wr fun e w' => e = .returned (.int .i64 (-1)) ∧ wr = w' from by have := szI_any A' n c' r wr hll r0 (by omega); rwa [if_neg h4] at this)
          go_wp2_with fail
          refine HC.out.mono ?_
          rintro e w2 ⟨rfl, rfl⟩
          go_wp2_with fail
          go_ret
          exact ⟨⟨-1, rfl, by omega, by omega, fun q => by omega⟩, HB.out⟩
      · obtain rfl : i = ls.length := by omega
        rw [List.take_length] at HR
        go_wp2_with fail
        go_ret
        exact ⟨⟨r, rfl, by omega, by omega, fun _ => HR.out⟩, HB.out⟩
set_option maxRecDepth 100000 in
theorem szModel_any (Az Aw Ab : Option Addr) (cz cw cb : Nat) (zs : List Int) (ws : List (List Int)) (bs : List Int) (left : Int) (w : World) (h : MdAt w Az Aw Ab zs ws bs) (hz : zs.length ≤ maxLen) (hw : ws.length ≤ maxLen) (hb : bs.length ≤ maxLen) (hl : ∀ l ∈ ws, l.length ≤ maxLen) (h0 : 0 ≤ left) (h1 : left ≤ 1048576) :
    Calls Tryz.prog 23 #[.agg #[.slice Az zs.length cz, .slice Aw ws.length cw, .slice Ab bs.length cb], .int .i64 left] w fun e w' => ∃ r : Int, e = .returned (.int .i64 r) ∧ -1 ≤ r ∧ r ≤ left ∧ (0 ≤ r → MdSz zs ws bs ∧ totL ws ≤ 1048576) ∧ Below w.heap.size w w' := by
  have HM := hide h
  have HL := hide hl
  have HWN := hide hw
  have HBN := hide hb
  obtain ⟨w1, hw1⟩ : ∃ w1, w1 = w.alloc (.cells #[.slice Az zs.length cz, .slice Aw ws.length cw, .slice Ab bs.length cb] 55) := ⟨_, rfl⟩
  have hb1 : Below w.heap.size w w1 := by rw [hw1]; exact (by repeat (first | with_reducible exact Below.refl _ _ | with_reducible assumption | (with_reducible refine Below.drew ?_) | (with_reducible refine below_drewN ?_ _) | ((with_reducible refine Below.alloc ?_ ?_ _); rotate_left; (focus (first | omega | (simp; omega) | simp))) | ((with_reducible refine Below.setCell ?_ ?_ _); rotate_left; (focus (first | omega | (simp; omega) | simp))) | (refine Below.trans ?_ (Below.mono (by assumption) (by first | omega | (simp; omega) | simp)))))
  have s0 : w1.heap[w.heap.size]? = some (.cells #[.slice Az zs.length cz, .slice Aw ws.length cw, .slice Ab bs.length cb] 55 (0, 0)) := by rw [hw1]; exact heap_alloc_new w _
  have HB1 := hide hb1
  have c1 : w1.cell? ⟨w.heap.size, 1, none⟩ = some (.slice Aw ws.length cw) := by simp [World.cell?, s0]
  have c2 : w1.cell? ⟨w.heap.size, 2, none⟩ = some (.slice Ab bs.length cb) := by simp [World.cell?, s0]
  have hlt := heap_lt s0
  have HC2 := hide (fun W (hb : Below w1.heap.size w1 W) => (hb.cell (p := ⟨w.heap.size, 2, none⟩) hlt).trans c2)
  have HZ := hide (szI_any Az zs.length cz left w1 hz h0 h1)
  clear h hl hw hb hb1 s0 hlt
  go_enter Tryz.func23, Tryz.ntmps23
  go_wp2_with fail
  rw [← hw1]
  clear hw1
  by_cases h2 : 0 ≤ left - (zs.length : Int)
  · rw [if_pos h2] at HZ
    refine HZ.out.mono ?_
    rintro e w2 ⟨rfl, rfl⟩
    have h3 : ¬ (left - (zs.length : Int) < 0) := by omega
    obtain ⟨l1, hl1⟩ : ∃ l1, l1 = left - (zs.length : Int) := ⟨_, rfl⟩
    rw [← hl1] at h2 h3 ⊢
    have HS1 := hide (szSS_any Aw cw ws l1 w1 (HM.out.below HB1.out).g HWN.out HL.out h2 (by omega))
    have HE1 := hide hl1
    clear hl1
    go_wp2_with fail
    refine HS1.out.mono ?_
    rintro e w3 ⟨⟨r, rfl, ra, rb, rc⟩, hb3⟩
    have HRC := hide rc
    have HB3 := hide (HB1.out.trans (hb3.mono HB1.out.size))
    have c2' := HC2.out w3 hb3
    clear rc hb3 c2
    by_cases h4 : 0 ≤ r
    · have h5 : ¬ r < 0 := by omega
      have HZB := hide (szI_any Ab bs.length cb r w3 HBN.out h4 (by have := HE1.out; omega))
      go_wp2_with fail
      by_cases h6 : 0 ≤ r - (bs.length : Int)
      · rw [if_pos h6] at HZB
        refine HZB.out.mono ?_
        rintro e w4 ⟨rfl, rfl⟩
        have h7 : ¬ (r - (bs.length : Int) < 0) := by omega
        have HF := hide (show MdSz zs ws bs ∧ totL ws ≤ 1048576 from by
          have a := HRC.out h4
          have b := HE1.out
          exact ⟨⟨by omega, by omega, fun l hl => by have := mem_totL hl; omega, by omega⟩, by omega⟩)
        go_wp2_with fail
        go_ret
        exact ⟨_, rfl, by omega, by have := HE1.out; omega, fun _ => HF.out, HB3.out⟩
      · rw [if_neg h6] at HZB
        refine HZB.out.mono ?_
        rintro e w4 ⟨rfl, rfl⟩
        go_wp2_with fail
        go_ret
        exact ⟨-1, rfl, by omega, by omega, fun q => by omega, HB3.out⟩
    · have h5 : r < 0 := by omega
      go_wp2_with fail
      go_ret
      exact ⟨-1, rfl, by omega, by omega, fun q => by omega, HB3.out⟩
  · rw [if_neg h2] at HZ
    refine HZ.out.mono ?_
    rintro e w2 ⟨rfl, rfl⟩
    go_wp2_with fail
    go_ret
    exact ⟨-1, rfl, by omega, by omega, fun q => by omega, HB1.out⟩
end Go.Proofs.YtnefgafmnpblpaaGreat
namespace Go.Proofs.YtnefgafmnpblpaaGreat
open Go.RowKit Pn

set_option maxRecDepth 100000 in
theorem markSS_mid (A : Option Addr) (c B N : Nat) (vs : List Value) (ls : List (List Int)) (k : Int) (w : World) (h : LL w B N (.slice A ls.length c) vs ls) (hn : ls.length ≤ 1048576) (ht : totL ls ≤ 100000000) (hl : ∀ l ∈ ls, l.length ≤ 1048576) (hB : B ≤ w.heap.size) (k0 : 1 ≤ k) (k1 : k ≤ 100000000000) :
    Calls Tryz.prog 81 #[.slice A ls.length c, .int .i64 k] w fun e w' => e = .returned (.int .i64 (k + totL ls)) ∧ LL w' B N (.slice A ls.length c) vs (marksLL k ls) ∧ Mid B N w w' := by
  have HX := hide h
  have HL := hide hl
  clear h hl
  go_enter Tryz.func81, Tryz.ntmps81
  go_wp2_with fail
  go_loopw [5, 1] (fun v q wr => ∃ i : Nat, v = .int .i64 i ∧ q = .int .i64 (k + (totL (ls.take i) : Nat)) ∧ i ≤ ls.length ∧ Hid (LL wr B N (.slice A ls.length c) vs (marksLL k (ls.take i) ++ ls.drop i)) ∧ Mid B N w wr) (fun v _ _ => ls.length - (intOf v).toNat)
  case atStart => exact ⟨0, rfl, by simp [totL], by omega, by simpa [marksLL] using HX, Mid.refl _ _ _⟩
  case round =>
    obtain ⟨i, rfl, rfl, hi, hR, hb⟩ := hrel
    by_cases hlt : i < ls.length
    · have hml := marksLL_length (ls.take i) k
      rw [List.length_take, Nat.min_eq_left hi] at hml
      have hlen : (marksLL k (ls.take i) ++ ls.drop i).length = ls.length := by simp [marksLL_length]; omega
      have hget : (marksLL k (ls.take i) ++ ls.drop i)[i]? = some ls[i] := by
        rw [List.getElem?_append_right (by omega), hml, Nat.sub_self, List.getElem?_drop]
        simp [List.getElem?_eq_getElem hlt]
      have hat := LL.at_ (c := c) (A := A) (by rw [hlen]; exact hR.out)
      obtain ⟨b, off, A1, c1, rfl, hbl, hc, hs⟩ := hat i (by rw [hlen]; exact hlt)
      have hvi : i < vs.length := by rw [hR.out.len, hlen]; exact hlt
      have hin := hR.out.inner i vs[i] ls[i] (List.getElem?_eq_getElem hvi) hget
      have hcu : wr.cell? ⟨b, off + i, none⟩ = some vs[i] := by
        have ho := hR.out.outer
        rw [show ls.length = vs.length by rw [hR.out.len, hlen]] at ho
        obtain ⟨b', off', e1, _, hc'⟩ := Own.at_ (enc := encV) (sz := 1) (fun _ => rfl) ho i hvi
        injection e1 with e1
        injection e1 with e2 e3
        subst e2; subst e3
        simpa using hc' 0 _ rfl
      obtain ⟨A2, c2, hs2⟩ := hin.1.slice
      rw [hs2] at hcu
      have hou := hin.1
      rw [hs2] at hou
      have hll := HL.out ls[i] (List.getElem_mem hlt)
      have htt := totL_take ls hlt
      have htl := totL_take_le ls (i + 1)
      have HTT := hide htt
      have HOU := hide hou
      have hst := hide (fun (W : World) (hL : LL W B N (.slice (some ⟨b, off, none⟩) ls.length c) vs ((marksLL k (ls.take i) ++ ls.drop i).set i (marks (k + totL (ls.take i)) ls[i].length))) => show LL W B N (.slice (some ⟨b, off, none⟩) ls.length c) vs (marksLL k (ls.take (i + 1)) ++ ls.drop (i + 1)) by rw [← setLL hlt]; exact hL)
      have HSET := hide (fun (W : World) (l' : List Int) (ho : OwnI W B vs[i] l') (hg : wr.grownBy W vs[i].ownBlock) => hR.out.set (List.getElem?_eq_getElem hvi) hget ho hg)
      have hb2 := hide (hin.1.lt)
      have HB3 := hide hin.2
      rw [hs2] at HSET hb2 HB3
      have htb : (totL (ls.take i) : Int) ≤ 100000000 := by have := totL_take_le ls i; omega
      have hsz : B ≤ wr.heap.size := Nat.le_trans hB hb.bel.size
      clear hc hs hin hou hget hat hml hlen htt hs2
      generalize hli : ls[i] = l at *
      clear hli
      generalize htk : totL (ls.take i) = tk at *
      go_wp2_with fail
      refine (lawsmarkInt64S A2 c2 B l _ _ HOU.out hll (by omega) (by omega)).mono ?_
      rintro e w1 ⟨rfl, ho1, hg1⟩
      have HQ := hide (hst.out _ (HSET.out _ _ ho1 hg1))
      have HB1 := hide (hb.trans (Mid.grown hg1 hsz fun b h => ⟨(hb2.out b h).1, HB3.out b h⟩))
      clear ho1 hg1
      go_wp2_with fail
      go_roundw
      case rel => exact ⟨i + 1, by go_num, by rw [HTT.out]; go_num, by omega, HQ, HB1.out⟩
      case measure => simp [intOf]; omega
    · obtain rfl : i = ls.length := by omega
      have hR' := hR.out
      rw [List.drop_length, List.append_nil, List.take_length] at hR'
      have HN := hide hR'
      clear hR hR'
      go_wp2_with fail
      go_ret
      exact ⟨ret_int (by rw [List.take_length]), HN.out, hb⟩
set_option maxRecDepth 100000 in
theorem markModel_is (Az Aw Ab : Option Addr) (cz cw cb : Nat) (zs : List Int) (ws : List (List Int)) (bs : List Int) (B N1 N2 N3 : Nat) (k : Int) (w : World) (h : MdOwn w B N1 N2 N3 Az cz Aw cw Ab cb zs ws bs) (HS : Hid (MdSz zs ws bs)) (ht : totL ws ≤ 1048576) (k0 : 1 ≤ k) (k1 : k ≤ 10000000000) :
    Calls Tryz.prog 33 #[.agg #[.slice Az zs.length cz, .slice Aw ws.length cw, .slice Ab bs.length cb], .int .i64 k] w fun e w' => (∃ k' : Int, e = .returned (.int .i64 k') ∧ 1 ≤ k' ∧ k' ≤ k + 4000000) ∧ Mid B N3 w w' := by
  obtain ⟨w1, hw1⟩ : ∃ w1, w1 = w.alloc (.cells #[.slice Az zs.length cz, .slice Aw ws.length cw, .slice Ab bs.length cb] 27) := ⟨_, rfl⟩
  have hb1 : Below w.heap.size w w1 := by rw [hw1]; exact (by repeat (first | with_reducible exact Below.refl _ _ | with_reducible assumption | (with_reducible refine Below.drew ?_) | (with_reducible refine below_drewN ?_ _) | ((with_reducible refine Below.alloc ?_ ?_ _); rotate_left; (focus (first | omega | (simp; omega) | simp))) | ((with_reducible refine Below.setCell ?_ ?_ _); rotate_left; (focus (first | omega | (simp; omega) | simp))) | (refine Below.trans ?_ (Below.mono (by assumption) (by first | omega | (simp; omega) | simp)))))
  have s0 : w1.heap[w.heap.size]? = some (.cells #[.slice Az zs.length cz, .slice Aw ws.length cw, .slice Ab bs.length cb] 27 (0, 0)) := by rw [hw1]; exact heap_alloc_new w _
  have hH := h.below hb1
  have ho1 := h.o1
  have ho2 := h.o2
  have ho3 := h.o3
  have ho4 := h.o4
  have hlt := heap_lt s0
  have hzl := HS.out.z
  have hbl := HS.out.b
  have HM1 := hide (Mid.below (B := B) (N := N2) hb1 (by omega))
  have HH := hide hH
  have HC := hide (show ∀ W, Mid B N2 w1 W → W.cell? ⟨w.heap.size, 1, none⟩ = some (.slice Aw ws.length cw) ∧ W.cell? ⟨w.heap.size, 2, none⟩ = some (.slice Ab bs.length cb) from fun W hm => by
    have a := (hm.rest w.heap.size (by omega) hlt).trans s0
    exact ⟨by simp [World.cell?, a], by simp [World.cell?, a]⟩)
  have hzw := hb1.size
  clear h hb1 s0 hH
  go_enter Tryz.func33, Tryz.ntmps33
  go_wp2_with fail
  rw [← hw1]
  clear hw1
  refine (lawsmarkInt64S Az cz B zs k w1 HH.out.z hzl (by omega) (by omega)).mono ?_
  rintro e w2 ⟨rfl, _, hg2⟩
  have HM2 := hide (Mid.grown (B := B) (N := N2) hg2 (by omega) (fun j e => ⟨(HH.out.z.lt j e).1, by have := HH.out.zN j e; omega⟩))
  obtain ⟨vs, hg⟩ := HH.out.g
  have HG2 := hide (hg.older hg2 (M := N1) HH.out.zN (Nat.le_refl _))
  have HB2 := hide (own_mid HH.out.b (fun j e => .inr (HH.out.b.lt j e).1) HM2.out)
  obtain ⟨c1, c2⟩ := HC.out w2 HM2.out
  have hzw2 := hg2.size
  clear hg2 hg c2
  go_wp2_with fail
  refine (markSS_mid Aw cw N1 N2 vs ws (k + zs.length) w2 HG2.out HS.out.w (by omega) HS.out.r (by omega) (by omega) (by omega)).mono ?_
  rintro e w3 ⟨rfl, _, hm3⟩
  have HM3 := hide (HM2.out.trans (hm3.wide ho1 (Nat.le_refl _)))
  have HB3 := hide (own_mid HB2.out (fun j e => .inr (HB2.out.lt j e).1) (hm3.wide ho1 (Nat.le_refl _)))
  obtain ⟨c1', c2⟩ := HC.out w3 HM3.out
  have hzw3 := hm3.bel.size
  clear hm3 c1 c1'
  go_wp2_with fail
  refine (lawsmarkInt64S Ab cb N2 bs (k + zs.length + totL ws) w3 HB3.out hbl (by omega) (by omega)).mono ?_
  rintro e w4 ⟨rfl, _, hg4⟩
  have HM4 := hide (Mid.grown (B := B) (N := N3) hg4 (by omega) (fun j e => ⟨by have := (HB3.out.lt j e).1; omega, HH.out.bN j e⟩))
  have HF := hide (((HM1.out.wide (Nat.le_refl _) ho3).trans (HM3.out.wide (Nat.le_refl _) ho3)).trans HM4.out)
  clear hg4
  go_wp2_with fail
  go_ret
  exact ⟨⟨_, rfl, by omega, by omega⟩, HF.out⟩
theorem lawstoProfile_o (nm : ByteArray) (A : Option Addr) (c : Nat) (rs : List RingR) (w : World) (h : SlAt encRing 3 w A rs) (hn : rs.length ≤ 1048576) :
    Calls Tryz.prog 27 #[.agg #[.string nm, .slice A rs.length c]] w fun e w' =>
      ∃ b, e = .returned (.agg #[.string nm, .slice (some ⟨b, 0, none⟩) rs.length rs.length]) ∧ OwnR w' w.heap.size (.slice (some ⟨b, 0, none⟩) rs.length rs.length) rs ∧ Below w.heap.size w w' := by
  have HX := hide h
  clear h
  go_enter Tryz.func27, Tryz.ntmps27
  go_wp2_with fail
  refine (lawstoRingS_own A c rs _ (HX.out.below (by repeat (first | with_reducible exact Below.refl _ _ | with_reducible assumption | (with_reducible refine Below.drew ?_) | (with_reducible refine below_drewN ?_ _) | ((with_reducible refine Below.alloc ?_ ?_ _); rotate_left; (focus (first | omega | (simp; omega) | simp))) | ((with_reducible refine Below.setCell ?_ ?_ _); rotate_left; (focus (first | omega | (simp; omega) | simp))) | (refine Below.trans ?_ (Below.mono (by assumption) (by first | omega | (simp; omega) | simp)))))) hn).mono ?_
  rintro e w1 ⟨b, rfl, _, hle, hlt, hb1, hO⟩
  have HO := hide (show OwnR w1 (w.heap.size + 3) (.slice (some ⟨b, 0, none⟩) rs.length rs.length) rs from hO.mono (by simp))
  clear hO
  simp at hle
  obtain ⟨fcb1, ffb1, fzb1⟩ := bfacts hb1 (by first | exact Nat.le_refl _ | omega | (simp; omega) | simp); have fsb1 := hb1.size; try simp at fcb1 ffb1 fzb1 fsb1 hb1
  have hb0 : Below w.heap.size w w1 := (by repeat (first | with_reducible exact Below.refl _ _ | with_reducible assumption | (with_reducible refine Below.drew ?_) | (with_reducible refine below_drewN ?_ _) | ((with_reducible refine Below.alloc ?_ ?_ _); rotate_left; (focus (first | omega | (simp; omega) | simp))) | ((with_reducible refine Below.setCell ?_ ?_ _); rotate_left; (focus (first | omega | (simp; omega) | simp))) | (refine Below.trans ?_ (Below.mono (by assumption) (by first | omega | (simp; omega) | simp)))))
  have HB := hide hb0
  clear hb0
  go_wp2_with fail
  refine bodyPost_ret (v := .agg #[.string nm, .slice (some ⟨b, 0, none⟩) rs.length rs.length]) (by simp [results, Tryz.results27, go_sem, fcb1]) rfl ⟨b, rfl, ?_, ?_⟩
  · refine Own.mono (B := w.heap.size + 3) ?_ (by omega)
    exact own_farN (own_farN (own_farN HO.out (show w.heap.size + 2 < w.heap.size + 3 by omega) (grown_set (grown_refl _ (some (w.heap.size + 2))) _ _)) (show w.heap.size + 1 < w.heap.size + 3 by omega) (grown_set (grown_refl _ (some (w.heap.size + 1))) _ _)) (show w.heap.size + 1 < w.heap.size + 3 by omega) (grown_set (grown_refl _ (some (w.heap.size + 1))) _ _)
  · iterate 3 ((with_reducible refine Below.setCell ?_ ?_ _); rotate_left; (focus (first | omega | (simp; omega) | simp)))
    exact HB.out
set_option maxRecDepth 100000 in
theorem lawseqProfile_same (nm : ByteArray) (A A' : Option Addr) (c c' : Nat) (rs : List RingR) (w : World) (h : SlAt encRing 3 w A rs) (h' : SlAt encRing 3 w A' rs) (hn : rs.length ≤ 1048576) :
    Calls Tryz.prog 30 #[.agg #[.string nm, .slice A rs.length c], .agg #[.string nm, .slice A' rs.length c']] w fun e w' => e = .returned (.bool true) ∧ Below w.heap.size w w' := by
  have HX := hide h
  have HY := hide h'
  clear h h'
  go_enter Tryz.func30, Tryz.ntmps30
  go_wp2_with fail
  refine (lawseqRingS_same A A' c c' rs _ (HX.out.below (by repeat (first | with_reducible exact Below.refl _ _ | with_reducible assumption | (with_reducible refine Below.drew ?_) | (with_reducible refine below_drewN ?_ _) | ((with_reducible refine Below.alloc ?_ ?_ _); rotate_left; (focus (first | omega | (simp; omega) | simp))) | ((with_reducible refine Below.setCell ?_ ?_ _); rotate_left; (focus (first | omega | (simp; omega) | simp))) | (refine Below.trans ?_ (Below.mono (by assumption) (by first | omega | (simp; omega) | simp)))))) (HY.out.below (by repeat (first | with_reducible exact Below.refl _ _ | with_reducible assumption | (with_reducible refine Below.drew ?_) | (with_reducible refine below_drewN ?_ _) | ((with_reducible refine Below.alloc ?_ ?_ _); rotate_left; (focus (first | omega | (simp; omega) | simp))) | ((with_reducible refine Below.setCell ?_ ?_ _); rotate_left; (focus (first | omega | (simp; omega) | simp))) | (refine Below.trans ?_ (Below.mono (by assumption) (by first | omega | (simp; omega) | simp)))))) hn).mono ?_
  rintro e w1 ⟨rfl, hb1⟩
  have hbW : Below w.heap.size w ((w.alloc (.cells #[.string nm, .slice A rs.length c] 30)).alloc (.cells #[.string nm, .slice A' rs.length c'] 30)) := (by repeat (first | with_reducible exact Below.refl _ _ | with_reducible assumption | (with_reducible refine Below.drew ?_) | (with_reducible refine below_drewN ?_ _) | ((with_reducible refine Below.alloc ?_ ?_ _); rotate_left; (focus (first | omega | (simp; omega) | simp))) | ((with_reducible refine Below.setCell ?_ ?_ _); rotate_left; (focus (first | omega | (simp; omega) | simp))) | (refine Below.trans ?_ (Below.mono (by assumption) (by first | omega | (simp; omega) | simp)))))
  have HB := hide (hbW.trans (hb1.mono hbW.size))
  clear hb1 hbW
  go_wp2_with fail
  go_ret
  exact ⟨rfl, HB.out⟩
set_option maxRecDepth 100000 in
theorem szProfile_any (nm : ByteArray) (A : Option Addr) (c : Nat) (rs : List RingR) (left : Int) (w : World) (hs : nm.size ≤ maxLen) (hn : rs.length ≤ maxLen) (h0 : 0 ≤ left) (h1 : left ≤ 1048576) :
    Calls Tryz.prog 24 #[.agg #[.string nm, .slice A rs.length c], .int .i64 left] w fun e w' => ∃ r : Int, e = .returned (.int .i64 r) ∧ -1 ≤ r ∧ r ≤ left ∧ (0 ≤ r → rs.length ≤ 1048576 ∧ nm.size ≤ 1048576) ∧ Below w.heap.size w w' := by
  have HN := hide hn
  unfold maxLen at hs
  have hb1 : Below w.heap.size w (w.alloc (.cells #[.string nm, .slice A rs.length c] 58)) := (by repeat (first | with_reducible exact Below.refl _ _ | with_reducible assumption | (with_reducible refine Below.drew ?_) | (with_reducible refine below_drewN ?_ _) | ((with_reducible refine Below.alloc ?_ ?_ _); rotate_left; (focus (first | omega | (simp; omega) | simp))) | ((with_reducible refine Below.setCell ?_ ?_ _); rotate_left; (focus (first | omega | (simp; omega) | simp))) | (refine Below.trans ?_ (Below.mono (by assumption) (by first | omega | (simp; omega) | simp)))))
  have HB := hide hb1
  have kw : IntKind.i64.wrap (left - (nm.size : Int)) = left - nm.size := IntWalk.i64_in _ (by omega)
  clear hn hb1
  by_cases h2 : left - (nm.size : Int) < 0
  · go_enter Tryz.func24, Tryz.ntmps24
    go_wp2_with fail
    go_ret
    exact ⟨-1, rfl, by omega, by omega, fun q => by omega, HB.out⟩
  · have hn2 : nm.size ≤ 1048576 := by omega
    have HZ := hide (fun W => szR_any A rs.length c (left - (nm.size : Int)) W HN.out (by omega) (by omega))
    by_cases h4 : 0 ≤ left - (nm.size : Int) - (rs.length : Int)
    · rw [if_pos h4] at HZ
      have h5 : ¬ (left - (nm.size : Int) - (rs.length : Int) < 0) := by omega
      go_enter Tryz.func24, Tryz.ntmps24
      go_wp2_with fail
      refine (HZ.out _).mono ?_
      rintro e w2 ⟨rfl, rfl⟩
      go_wp2_with fail
      go_ret
      exact ⟨_, rfl, by omega, by omega, fun _ => ⟨by omega, hn2⟩, HB.out⟩
    · rw [if_neg h4] at HZ
      go_enter Tryz.func24, Tryz.ntmps24
      go_wp2_with fail
      refine (HZ.out _).mono ?_
      rintro e w2 ⟨rfl, rfl⟩
      go_wp2_with fail
      go_ret
      exact ⟨-1, rfl, by omega, by omega, fun q => by omega, HB.out⟩
set_option maxRecDepth 100000 in
theorem markProfile_is (nm : ByteArray) (A : Option Addr) (c B N : Nat) (rs : List RingR) (k : Int) (w : World) (h : OwnR w B (.slice A rs.length c) rs) (hN : ∀ j, (Value.slice A rs.length c).ownBlock = some j → j < N) (hn : rs.length ≤ 1048576) (hB : B ≤ w.heap.size) (k0 : 1 ≤ k) (k1 : k ≤ 100000000000) :
    Calls Tryz.prog 34 #[.agg #[.string nm, .slice A rs.length c], .int .i64 k] w fun e w' => (∃ k' : Int, e = .returned (.int .i64 k') ∧ 1 ≤ k' ∧ k' ≤ k + 4000000) ∧ Mid B N w w' := by
  have hb1 : Below w.heap.size w (w.alloc (.cells #[.string nm, .slice A rs.length c] 30)) := (by repeat (first | with_reducible exact Below.refl _ _ | with_reducible assumption | (with_reducible refine Below.drew ?_) | (with_reducible refine below_drewN ?_ _) | ((with_reducible refine Below.alloc ?_ ?_ _); rotate_left; (focus (first | omega | (simp; omega) | simp))) | ((with_reducible refine Below.setCell ?_ ?_ _); rotate_left; (focus (first | omega | (simp; omega) | simp))) | (refine Below.trans ?_ (Below.mono (by assumption) (by first | omega | (simp; omega) | simp)))))
  have HX := hide (h.below hb1)
  have HM := hide (Mid.below (N := N) hb1 hB)
  have HNN := hide hN
  have hz := hb1.size
  clear h hb1 hN
  go_enter Tryz.func34, Tryz.ntmps34
  go_wp2_with fail
  refine (lawsmarkRingS A c B rs k _ HX.out hn k0 k1).mono ?_
  rintro e w1 ⟨rfl, _, hg1⟩
  have HM1 := hide (HM.out.trans (Mid.grown (N := N) hg1 (Nat.le_trans hB hz) (fun j e => ⟨(HX.out.lt j e).1, HNN.out j e⟩)))
  clear hg1
  go_wp2_with fail
  go_ret
  exact ⟨⟨_, rfl, by omega, by omega⟩, HM1.out⟩
set_option maxRecDepth 100000 in
theorem lawstoGoal (t0 t1 t2 t3 t4 tol most : Int) (w : World) : Calls Tryz.prog 28 #[.agg #[.int .i64 t0, .int .i64 t1, .int .i64 t2, .int .i64 t3, .int .i64 t4, .int .i64 tol, .int .i64 most]] w fun e w' => e = .returned (.agg #[.int .i64 t0, .int .i64 t1, .int .i64 t2, .int .i64 t3, .int .i64 t4, .int .i64 tol, .int .i64 most]) ∧ Below w.heap.size w w' := by
  go_enter Tryz.func28, Tryz.ntmps28
  go_wp2_with fail
  refine (lawstoSound t0 t1 t2 t3 t4 _).mono ?_
  rintro e w1 ⟨rfl, hb1⟩
  obtain ⟨fcb1, ffb1, fzb1⟩ := bfacts hb1 (by first | exact Nat.le_refl _ | omega | (simp; omega) | simp); have fsb1 := hb1.size; try simp at fcb1 ffb1 fzb1 fsb1 hb1
  have hb0 : Below w.heap.size w w1 := (by repeat (first | with_reducible exact Below.refl _ _ | with_reducible assumption | (with_reducible refine Below.drew ?_) | (with_reducible refine below_drewN ?_ _) | ((with_reducible refine Below.alloc ?_ ?_ _); rotate_left; (focus (first | omega | (simp; omega) | simp))) | ((with_reducible refine Below.setCell ?_ ?_ _); rotate_left; (focus (first | omega | (simp; omega) | simp))) | (refine Below.trans ?_ (Below.mono (by assumption) (by first | omega | (simp; omega) | simp)))))
  have HB := hide hb0
  clear hb0
  go_wp2_with fail
  refine bodyPost_ret (v := .agg #[.int .i64 t0, .int .i64 t1, .int .i64 t2, .int .i64 t3, .int .i64 t4, .int .i64 tol, .int .i64 most]) (by simp [results, Tryz.results28, go_sem, fcb1]) rfl ⟨rfl, ?_⟩
  repeat (first | with_reducible exact HB.out | ((with_reducible refine Below.setCell ?_ ?_ _); rotate_left; (focus (first | omega | (simp; omega) | simp))))
end Go.Proofs.YtnefgafmnpblpaaGreat
