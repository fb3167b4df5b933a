/- The law of AddLoad, walked out of the contracts of both sides. -/
import Derived.Test.YtklmbgefdopifaaAdX
import Derived.Test.YtklmbgefdopifaaMarks
import Derived.Test.YtklmbgefdopifaaRows2
import Derived.Deep.RegionHeld3
namespace Go.Proofs.Ytklmbgefdopifaa
open Go.RowKit

theorem lawstoBeam_o (nm : ByteArray) (span wd dp wood : Int) (A : Option Addr) (c : Nat) (ls : List LoadR) (w : World) (h : SlAt encLoad 2 w A ls) (hn : ls.length ≤ 1048576) :
    Calls Try.prog 10 #[.agg #[.string nm, .int .i64 span, .int .i64 wd, .int .i64 dp, .int .i64 wood, .slice A ls.length c]] w fun e w' =>
      ∃ b, e = .returned (.agg #[.string nm, .int .i64 span, .int .i64 wd, .int .i64 dp, .int .i64 wood, .slice (some ⟨b, 0, none⟩) ls.length ls.length]) ∧ OwnL w' w.heap.size (.slice (some ⟨b, 0, none⟩) ls.length ls.length) ls ∧ Below w.heap.size w w' := by
  have HX := hide h
  clear h
  go_enter Try.func10, Try.ntmps10
  go_wp2_with fail
  refine (lawstoLoadS_own A c ls _ (HX.out.below (by repeat (first | with_reducible exact Below.refl _ _ | with_reducible assumption | (with_reducible refine Below.drew ?_) | (with_reducible refine below_drewN ?_ _) | ((with_reducible refine Below.alloc ?_ ?_ _); rotate_left; (focus (first | omega | (simp; omega) | simp))) | ((with_reducible refine Below.setCell ?_ ?_ _); rotate_left; (focus (first | omega | (simp; omega) | simp))) | (refine Below.trans ?_ (Below.mono (by assumption) (by first | omega | (simp; omega) | simp)))))) hn).mono ?_
  rintro e w1 ⟨b, rfl, _, hle, hlt, hb1, hO⟩
  have HO := hide (show OwnL w1 (w.heap.size + 3) (.slice (some ⟨b, 0, none⟩) ls.length ls.length) ls from hO.mono (by simp))
  clear hO
  simp at hle
  obtain ⟨fcb1, ffb1, fzb1⟩ := bfacts hb1 (by first | exact Nat.le_refl _ | omega | (simp; omega) | simp); have fsb1 := hb1.size; try simp at fcb1 ffb1 fzb1 fsb1 hb1
  have hb0 : Below w.heap.size w w1 := (by repeat (first | with_reducible exact Below.refl _ _ | with_reducible assumption | (with_reducible refine Below.drew ?_) | (with_reducible refine below_drewN ?_ _) | ((with_reducible refine Below.alloc ?_ ?_ _); rotate_left; (focus (first | omega | (simp; omega) | simp))) | ((with_reducible refine Below.setCell ?_ ?_ _); rotate_left; (focus (first | omega | (simp; omega) | simp))) | (refine Below.trans ?_ (Below.mono (by assumption) (by first | omega | (simp; omega) | simp)))))
  have HB := hide hb0
  clear hb0
  go_wp2_with fail
  refine bodyPost_ret (v := .agg #[.string nm, .int .i64 span, .int .i64 wd, .int .i64 dp, .int .i64 wood, .slice (some ⟨b, 0, none⟩) ls.length ls.length]) (by simp [results, Try.results10, go_sem, fcb1]) rfl ⟨b, rfl, ?_, ?_⟩
  · refine Own.mono (B := w.heap.size + 3) ?_ (by omega)
    repeat (first | with_reducible exact HO.out | with_reducible refine own_setOut ?_ (by omega))
  · iterate 7 ((with_reducible refine Below.setCell ?_ ?_ _); rotate_left; (focus (first | omega | (simp; omega) | simp)))
    exact HB.out
theorem lawsmarkBeam (nm : ByteArray) (x1 x2 x3 x4 : Int) (A : Option Addr) (c B : Nat) (ls : List LoadR) (k : Int) (w : World) (h : Own encLoad 2 34 w B (.slice A ls.length c) ls) (hn : ls.length ≤ 1048576) (k0 : 1 ≤ k) (k1 : k ≤ 100000000000) :
    Calls Try.prog 14 #[.agg #[.string nm, .int .i64 x1, .int .i64 x2, .int .i64 x3, .int .i64 x4, .slice A ls.length c], .int .i64 k] w fun e w' => e = .returned (.int .i64 (k + 2 * ls.length)) ∧ Own encLoad 2 34 w' B (.slice A ls.length c) (marksLoad k ls.length) ∧ w.grownBy w' (Value.slice A ls.length c).ownBlock := by
  have HX := hide (h.below ((Below.refl _ _).alloc (Nat.le_refl _) (.cells #[.string nm, .int .i64 x1, .int .i64 x2, .int .i64 x3, .int .i64 x4, .slice A ls.length c] 30)))
  clear h
  go_enter Try.func14, Try.ntmps14
  go_wp2_with fail
  refine (lawsmarkLoadS A c B ls k _ HX.out hn k0 k1).mono ?_
  rintro e w1 ⟨rfl, hO1, hg1⟩
  have HO1 := hide hO1
  have HG1 := hide (grown_trans (grown_of_below ((Below.refl w.heap.size w).alloc (Nat.le_refl _) _) _) hg1)
  clear hO1 hg1
  go_wp2_with fail
  go_ret
  exact ⟨rfl, HO1.out, HG1.out⟩
theorem lawsheldBeam (nm : ByteArray) (x1 x2 x3 x4 : Int) (A : Option Addr) (c B n : Nat) (k : Int) (w : World) (h : Own encLoad 2 34 w B (.slice A n c) (marksLoad k n)) (hn : n ≤ 1048576) (k0 : 1 ≤ k) (k1 : k ≤ 100000000000) :
    Calls Try.prog 15 #[.agg #[.string nm, .int .i64 x1, .int .i64 x2, .int .i64 x3, .int .i64 x4, .slice A n c], .int .i64 k] w fun e w' => e = .returned (.int .i64 (k + 2 * n)) ∧ Below w.heap.size w w' := by
  have HX := hide (h.below ((Below.refl _ _).alloc (Nat.le_refl _) (.cells #[.string nm, .int .i64 x1, .int .i64 x2, .int .i64 x3, .int .i64 x4, .slice A n c] 30)))
  clear h
  go_enter Try.func15, Try.ntmps15
  go_wp2_with fail
  refine (held_own_Load HX.out hn k0 k1).mono ?_
  rintro e w1 ⟨rfl, hb1⟩
  obtain ⟨fcb1, ffb1, fzb1⟩ := bfacts hb1 (by first | exact Nat.le_refl _ | omega | (simp; omega) | simp); have fsb1 := hb1.size; try simp at fcb1 ffb1 fzb1 fsb1 hb1
  go_wp2_with fail
  go_ret
  exact ⟨rfl, (by repeat (first | with_reducible exact Below.refl _ _ | with_reducible assumption | (with_reducible refine Below.drew ?_) | (with_reducible refine below_drewN ?_ _) | ((with_reducible refine Below.alloc ?_ ?_ _); rotate_left; (focus (first | omega | (simp; omega) | simp))) | ((with_reducible refine Below.setCell ?_ ?_ _); rotate_left; (focus (first | omega | (simp; omega) | simp))) | (refine Below.trans ?_ (Below.mono (by assumption) (by first | omega | (simp; omega) | simp)))))⟩
theorem own_neType {w : World} {B k : Nat} {v : Value} {ls : List LoadR} {cs : Array Value} {T : TypeId} {fr : Nat × Nat} (h : OwnL w B v ls) (hk : w.heap[k]? = some (.cells cs T fr)) (hT : T ≠ 34) : some k ≠ v.ownBlock := by
  intro q
  rcases h.2 with ⟨e, _⟩ | ⟨g, cap, cur, e, _, hc, _⟩
  · rw [e] at q
    cases q
  · rw [e] at q
    injection q with q
    subst q
    rw [hc] at hk
    injection hk with hk
    injection hk with h1 h2 h3
    exact hT h2.symm
theorem bm_set6 {w : World} {b : Nat} {u0 u1 u2 u3 u4 u5 : Value} {T : TypeId} (v0 v1 v2 v3 v4 v5 : Value) (h : w.heap[b]? = some (.cells #[u0, u1, u2, u3, u4, u5] T (0, 0))) : ((((((w.setCell ⟨b, 0, none⟩ v0).setCell ⟨b, 1, none⟩ v1).setCell ⟨b, 2, none⟩ v2).setCell ⟨b, 3, none⟩ v3).setCell ⟨b, 4, none⟩ v4).setCell ⟨b, 5, none⟩ v5).heap[b]? = some (.cells #[v0, v1, v2, v3, v4, v5] T (0, 0)) := by
  have one : ∀ {w : World} {j : Nat} {vs : Array Value} (v : Value), w.heap[b]? = some (.cells vs T (0, 0)) → (w.setCell ⟨b, j, none⟩ v).heap[b]? = some (.cells (vs.setIfInBounds j v) T (0, 0)) := fun v h => by simp [World.setCell, Array.getElem?_modify, h]
  simpa using one v5 (one v4 (one v3 (one v2 (one v1 (one v0 h (j := 0)) (j := 1)) (j := 2)) (j := 3)) (j := 4)) (j := 5)
theorem bm_facts {w : World} {b : Nat} {u0 u1 u2 u3 u4 u5 : Value} {T : TypeId} (h : w.heap[b]? = some (.cells #[u0, u1, u2, u3, u4, u5] T (0, 0))) : (w.cell? ⟨b, 0, none⟩ = some u0 ∧ w.cell? ⟨b, 1, none⟩ = some u1 ∧ w.cell? ⟨b, 2, none⟩ = some u2 ∧ w.cell? ⟨b, 3, none⟩ = some u3 ∧ w.cell? ⟨b, 4, none⟩ = some u4 ∧ w.cell? ⟨b, 5, none⟩ = some u5) ∧ w.frozen? ⟨b, 0, none⟩ = false ∧ w.frozen? ⟨b, 1, none⟩ = false ∧ w.frozen? ⟨b, 2, none⟩ = false ∧ w.frozen? ⟨b, 3, none⟩ = false ∧ w.frozen? ⟨b, 4, none⟩ = false ∧ w.frozen? ⟨b, 5, none⟩ = false := by
  simp [World.cell?, World.frozen?, h]
theorem own_set6 {w : World} {B b : Nat} {v : Value} {ls : List LoadR} {u0 u1 u2 u3 u4 u5 : Value} {T : TypeId} (v0 v1 v2 v3 v4 v5 : Value) (h : OwnL w B v ls) (hk : w.heap[b]? = some (.cells #[u0, u1, u2, u3, u4, u5] T (0, 0))) (hT : T ≠ 34) : OwnL ((((((w.setCell ⟨b, 0, none⟩ v0).setCell ⟨b, 1, none⟩ v1).setCell ⟨b, 2, none⟩ v2).setCell ⟨b, 3, none⟩ v3).setCell ⟨b, 4, none⟩ v4).setCell ⟨b, 5, none⟩ v5) B v ls := by
  have one : ∀ {w : World} {j : Nat} {vs : Array Value} (x : Value), w.heap[b]? = some (.cells vs T (0, 0)) → (w.setCell ⟨b, j, none⟩ x).heap[b]? = some (.cells (vs.setIfInBounds j x) T (0, 0)) := fun x h => by simp [World.setCell, Array.getElem?_modify, h]
  have q0 := one v0 hk (j := 0)
  have q1 := one v1 q0 (j := 1)
  have q2 := one v2 q1 (j := 2)
  have q3 := one v3 q2 (j := 3)
  have q4 := one v4 q3 (j := 4)
  exact own_setType (own_setType (own_setType (own_setType (own_setType (own_setType h hk hT) q0 hT) q1 hT) q2 hT) q3 hT) q4 hT
theorem below_set6 {w w0 : World} {B b : Nat} (v0 v1 v2 v3 v4 v5 : Value) (h : Below B w0 w) (hb : B ≤ b) : Below B w0 ((((((w.setCell ⟨b, 0, none⟩ v0).setCell ⟨b, 1, none⟩ v1).setCell ⟨b, 2, none⟩ v2).setCell ⟨b, 3, none⟩ v3).setCell ⟨b, 4, none⟩ v4).setCell ⟨b, 5, none⟩ v5) :=
  (((((h.setCell hb _).setCell hb _).setCell hb _).setCell hb _).setCell hb _).setCell hb _
/-- A beam in a block, with a row of loads of its own. -/
structure BmAt (W : World) (B M r : Nat) (cs : Array Value) (v : Value) (ls : List LoadR) : Prop where
  cell : W.heap[r]? = some (.cells cs 30 (0, 0))
  own : OwnL W B v ls
  top : ∀ g, v.ownBlock = some g → g < M
theorem BmAt.below {W W' : World} {B M r : Nat} {cs : Array Value} {v : Value} {ls : List LoadR} (h : BmAt W B M r cs v ls) (hb : Below W.heap.size W W') : BmAt W' B M r cs v ls :=
  ⟨(hb.block r ((Array.getElem?_eq_some_iff.1 h.cell).1)).trans h.cell, h.own.below hb, h.top⟩
theorem BmAt.older {W W' : World} {B M r B' M' r' : Nat} {cs cs' : Array Value} {v v' : Value} {ls ls' : List LoadR} (h : BmAt W B M r cs v ls) (x : BmAt W B' M' r' cs' v' ls') (hg : W.grownBy W' v'.ownBlock) (hM : M ≤ B') : BmAt W' B M r cs v ls :=
  ⟨(hg.block r ((Array.getElem?_eq_some_iff.1 h.cell).1) (own_neType x.own h.cell (by decide))).trans h.cell, kept_older h.own h.top hg (fun k e => (x.own.lt k e).1) hM, h.top⟩
theorem BmAt.newer {W W' : World} {B M r B' M' r' : Nat} {cs cs' : Array Value} {v v' : Value} {ls ls' : List LoadR} (h : BmAt W B M r cs v ls) (x : BmAt W B' M' r' cs' v' ls') (hg : W.grownBy W' v'.ownBlock) (hM : M' ≤ B) : BmAt W' B M r cs v ls :=
  ⟨(hg.block r ((Array.getElem?_eq_some_iff.1 h.cell).1) (own_neType x.own h.cell (by decide))).trans h.cell, kept_newer h.own hg x.top hM, h.top⟩
theorem BmAt.marked {W W' : World} {B M r : Nat} {cs : Array Value} {v : Value} {ls ls' : List LoadR} (x : BmAt W B M r cs v ls) (hO : OwnL W' B v ls') (hg : W.grownBy W' v.ownBlock) : BmAt W' B M r cs v ls' :=
  ⟨(hg.block r ((Array.getElem?_eq_some_iff.1 x.cell).1) (own_neType x.own x.cell (by decide))).trans x.cell, hO, x.top⟩
theorem BmAt.grown {W0 W W' : World} {N B M r : Nat} {cs : Array Value} {v : Value} {ls : List LoadR} (x : BmAt W B M r cs v ls) (hg : W.grownBy W' v.ownBlock) (hB : Below N W0 W) (hN : N ≤ W.heap.size) (hNB : N ≤ B) : Below N W0 W' :=
  Below.grown hB hg hN fun k e => Nat.le_trans hNB (x.own.lt k e).1
theorem BmAt.at_ {W W' : World} {B M r n c : Nat} {cs : Array Value} {A : Option Addr} {ls : List LoadR} (x : BmAt W B M r cs (.slice A n c) ls) (hn : n = ls.length) (hb : Below W.heap.size W W') : SlAt encLoad 2 W' A ls := by
  subst hn
  exact (x.own.below hb).at_ (fun _ => rfl)
set_option maxRecDepth 100000 in
set_option maxHeartbeats 8000000 in
theorem lawAddLoad (nm : ByteArray) (span wd dp wood : Int) (A : Option Addr) (c : Nat) (ls : List LoadR) (a t : Int) (w : World) (h : SlAt encLoad 2 w A ls) (hn : ls.length ≤ 9223372036854775807) (hs : nm.size ≤ maxLen) :
    Calls Try.prog 3 #[.agg #[.string nm, .int .i64 span, .int .i64 wd, .int .i64 dp, .int .i64 wood, .slice A ls.length c], .agg #[.int .i64 a, .int .i64 t]] w fun e w' => e = .returned (.bool true) ∧ Below w.heap.size w w' := by
  have HX := hide h
  clear h
  have HBX := hide (fun (W : World) (h : Below (w.heap.size + 2) ((w.alloc (.cells #[.string nm, .int .i64 span, .int .i64 wd, .int .i64 dp, .int .i64 wood, .slice A ls.length c] 24)).alloc (.cells #[.int .i64 a, .int .i64 t] 26)) W) => (show W.heap[w.heap.size]? = some (.cells #[.string nm, .int .i64 span, .int .i64 wd, .int .i64 dp, .int .i64 wood, .slice A ls.length c] 24 (0, 0)) ∧ W.heap[w.heap.size + 1]? = some (.cells #[.int .i64 a, .int .i64 t] 26 (0, 0)) ∧ w.heap.size + 2 ≤ W.heap.size from by
    have z1 : (w.alloc (.cells #[.string nm, .int .i64 span, .int .i64 wd, .int .i64 dp, .int .i64 wood, .slice A ls.length c] 24)).heap.size = w.heap.size + 1 := by simp
    have z2 : ((w.alloc (.cells #[.string nm, .int .i64 span, .int .i64 wd, .int .i64 dp, .int .i64 wood, .slice A ls.length c] 24)).alloc (.cells #[.int .i64 a, .int .i64 t] 26)).heap.size = w.heap.size + 2 := by simp
    refine ⟨(h.block _ (by omega)).trans ((heap_alloc_old _ _ (by omega)).trans (heap_alloc_new w _)), (h.block _ (by omega)).trans ?_, by have := h.size; omega⟩
    have q := heap_alloc_new (w.alloc (.cells #[.string nm, .int .i64 span, .int .i64 wd, .int .i64 dp, .int .i64 wood, .slice A ls.length c] 24)) (.cells #[.int .i64 a, .int .i64 t] 26)
    rw [z1] at q
    exact q))
  have HBW := hide (fun (W : World) (h : Below (w.heap.size + 2) ((w.alloc (.cells #[.string nm, .int .i64 span, .int .i64 wd, .int .i64 dp, .int .i64 wood, .slice A ls.length c] 24)).alloc (.cells #[.int .i64 a, .int .i64 t] 26)) W) => (show Below w.heap.size w W from (show Below w.heap.size w ((w.alloc (.cells #[.string nm, .int .i64 span, .int .i64 wd, .int .i64 dp, .int .i64 wood, .slice A ls.length c] 24)).alloc (.cells #[.int .i64 a, .int .i64 t] 26)) from (by repeat (first | with_reducible exact Below.refl _ _ | with_reducible assumption | (with_reducible refine Below.drew ?_) | (with_reducible refine below_drewN ?_ _) | ((with_reducible refine Below.alloc ?_ ?_ _); rotate_left; (focus (first | omega | (simp; omega) | simp))) | ((with_reducible refine Below.setCell ?_ ?_ _); rotate_left; (focus (first | omega | (simp; omega) | simp))) | (refine Below.trans ?_ (Below.mono (by assumption) (by first | omega | (simp; omega) | simp)))))).trans (h.mono (by omega))))
  have HXW := hide (fun (W : World) (h : Below (w.heap.size + 2) ((w.alloc (.cells #[.string nm, .int .i64 span, .int .i64 wd, .int .i64 dp, .int .i64 wood, .slice A ls.length c] 24)).alloc (.cells #[.int .i64 a, .int .i64 t] 26)) W) => (show SlAt encLoad 2 W A ls from HX.out.below (HBW.out W h)))
  have B0 := hide (show Below (w.heap.size + 2) ((w.alloc (.cells #[.string nm, .int .i64 span, .int .i64 wd, .int .i64 dp, .int .i64 wood, .slice A ls.length c] 24)).alloc (.cells #[.int .i64 a, .int .i64 t] 26)) ((w.alloc (.cells #[.string nm, .int .i64 span, .int .i64 wd, .int .i64 dp, .int .i64 wood, .slice A ls.length c] 24)).alloc (.cells #[.int .i64 a, .int .i64 t] 26)) from Below.refl _ _)
  have hz0 : ((w.alloc (.cells #[.string nm, .int .i64 span, .int .i64 wd, .int .i64 dp, .int .i64 wood, .slice A ls.length c] 24)).alloc (.cells #[.int .i64 a, .int .i64 t] 26)).heap.size = w.heap.size + 2 := by simp
  go_enter Try.func3, Try.ntmps3
  go_wp2_with fail
  refine (lawsszBeam_any nm span wd dp wood A ls.length c 1048576 _ hs hn (by omega) (by omega)).mono ?_
  rintro e w1 ⟨r, rfl, ra, rb, hr, hb1⟩
  generalize hW0 : ((w.alloc (.cells #[.string nm, .int .i64 span, .int .i64 wd, .int .i64 dp, .int .i64 wood, .slice A ls.length c] 24)).alloc (.cells #[.int .i64 a, .int .i64 t] 26)) = W0 at *
  clear hW0
  have B1 := hide (show Below (w.heap.size + 2) W0 w1 from hb1.mono (by omega))
  clear hb1
  by_cases hq : 0 ≤ r
  · have hn1 : ls.length ≤ 1048576 := by have := hr hq; omega
    clear hr rb ra
    go_upto_region 5 with fail
    have HKP := hide (fun (W' : World) (h : Below w1.heap.size w1 W') => (show W'.cell? ⟨w.heap.size, 0, none⟩ = some (.string nm) ∧ W'.cell? ⟨w.heap.size, 1, none⟩ = some (.int .i64 span) ∧ W'.cell? ⟨w.heap.size, 2, none⟩ = some (.int .i64 wd) ∧ W'.cell? ⟨w.heap.size, 3, none⟩ = some (.int .i64 dp) ∧ W'.cell? ⟨w.heap.size, 4, none⟩ = some (.int .i64 wood) ∧ W'.cell? ⟨w.heap.size, 5, none⟩ = some (.slice A ls.length c) ∧ W'.cell? ⟨w.heap.size + 1, 0, none⟩ = some (.int .i64 a) ∧ W'.cell? ⟨w.heap.size + 1, 1, none⟩ = some (.int .i64 t) ∧ Below (w.heap.size + 2) W0 W' ∧ Below w1.heap.size w1 W' from by
      have hB := B1.out.trans (h.mono ((HBX.out _ B1.out).2.2))
      obtain ⟨hQ, hL, _⟩ := HBX.out _ hB
      exact ⟨by simp [World.cell?, hQ], by simp [World.cell?, hQ], by simp [World.cell?, hQ], by simp [World.cell?, hQ], by simp [World.cell?, hQ], by simp [World.cell?, hQ], by simp [World.cell?, hL], by simp [World.cell?, hL], hB, h⟩))
    have hzW : w.heap.size + 2 ≤ w1.heap.size := (HBX.out _ B1.out).2.2
    go_cut [6, 7] (fun v u wx => ∃ (r6 : Nat) (n0 : ByteArray) (v1 v2 v3 v4 : Int) (A6 : Option Addr) (c6 : Nat) (xs : List LoadR) (code : Int), v = .pointer (some ⟨r6, 0, none⟩) ∧ u = .int .i64 code ∧ addR nm span wd dp wood ls a t = ((n0, v1, v2, v3, v4), xs, code) ∧ xs.length ≤ 1048576 ∧ w1.heap.size ≤ r6 ∧ Hid (wx.heap[r6]? = some (.cells #[.string n0, .int .i64 v1, .int .i64 v2, .int .i64 v3, .int .i64 v4, .slice A6 xs.length c6] 30 (0, 0))) ∧ Hid (OwnL wx w1.heap.size (.slice A6 xs.length c6) xs) ∧ Hid (Below w1.heap.size w1 wx))
    case first =>
      obtain ⟨hQ, hL, hzq⟩ := HBX.out _ B1.out
      have p0 : w1.cell? ⟨w.heap.size, 0, none⟩ = some (.string nm) := by simp [World.cell?, hQ]
      have p1 : w1.cell? ⟨w.heap.size, 1, none⟩ = some (.int .i64 span) := by simp [World.cell?, hQ]
      have p2 : w1.cell? ⟨w.heap.size, 2, none⟩ = some (.int .i64 wd) := by simp [World.cell?, hQ]
      have p3 : w1.cell? ⟨w.heap.size, 3, none⟩ = some (.int .i64 dp) := by simp [World.cell?, hQ]
      have p4 : w1.cell? ⟨w.heap.size, 4, none⟩ = some (.int .i64 wood) := by simp [World.cell?, hQ]
      have p5 : w1.cell? ⟨w.heap.size, 5, none⟩ = some (.slice A ls.length c) := by simp [World.cell?, hQ]
      have l0 : w1.cell? ⟨w.heap.size + 1, 0, none⟩ = some (.int .i64 a) := by simp [World.cell?, hL]
      have l1 : w1.cell? ⟨w.heap.size + 1, 1, none⟩ = some (.int .i64 t) := by simp [World.cell?, hL]
      have zq : w.heap.size < w1.heap.size := by omega
      have zl : w.heap.size + 1 < w1.heap.size := by omega
      clear hQ hL
      go_region_held3 (fun W' => W'.cell? ⟨w.heap.size, 0, none⟩ = some (.string nm) ∧ W'.cell? ⟨w.heap.size, 1, none⟩ = some (.int .i64 span) ∧ W'.cell? ⟨w.heap.size, 2, none⟩ = some (.int .i64 wd) ∧ W'.cell? ⟨w.heap.size, 3, none⟩ = some (.int .i64 dp) ∧ W'.cell? ⟨w.heap.size, 4, none⟩ = some (.int .i64 wood) ∧ W'.cell? ⟨w.heap.size, 5, none⟩ = some (.slice A ls.length c) ∧ W'.cell? ⟨w.heap.size + 1, 0, none⟩ = some (.int .i64 a) ∧ W'.cell? ⟨w.heap.size + 1, 1, none⟩ = some (.int .i64 t) ∧ Below (w.heap.size + 2) W0 W' ∧ Below w1.heap.size w1 W')
        (exact HKP.out _ (by repeat (first | with_reducible exact Below.refl _ _ | with_reducible assumption | (with_reducible refine Below.drew ?_) | (with_reducible refine below_drewN ?_ _) | ((with_reducible refine Below.alloc ?_ ?_ _); rotate_left; (focus (first | omega | (simp; omega) | simp))) | ((with_reducible refine Below.setCell ?_ ?_ _); rotate_left; (focus (first | omega | (simp; omega) | simp))) | (refine Below.trans ?_ (Below.mono (by assumption) (by first | omega | (simp; omega) | simp))))))
        (first | (go_at_call 10; refine (lawstoBeam_o nm span wd dp wood A c ls _ ?_ hn1).mono ?_; (focus (go_split_ands; exact HXW.out _ (by assumption))); rintro e wK ⟨bY, rfl, hOY, hbK⟩; have hbW : Below w1.heap.size w1 wK := Below.trans (show Below w1.heap.size w1 _ from (by repeat (first | with_reducible exact Below.refl _ _ | with_reducible assumption | (with_reducible refine Below.drew ?_) | (with_reducible refine below_drewN ?_ _) | ((with_reducible refine Below.alloc ?_ ?_ _); rotate_left; (focus (first | omega | (simp; omega) | simp))) | ((with_reducible refine Below.setCell ?_ ?_ _); rotate_left; (focus (first | omega | (simp; omega) | simp))) | (refine Below.trans ?_ (Below.mono (by assumption) (by first | omega | (simp; omega) | simp)))))) (hbK.mono (by first | exact Nat.le_refl _ | (simp; done) | omega | (simp; omega))); have hzW2 := hbW.size; have hOY2 : OwnL wK w1.heap.size _ ls := hOY.mono (by first | exact Nat.le_refl _ | (simp; done) | omega | (simp; omega)); clear hOY; have fzK := hbK.size; (try (have QK := (hbK.block w1.heap.size (by simp)).trans (heap_alloc_new w1 (.cells #[.string ⟨#[]⟩, .int .i64 0, .int .i64 0, .int .i64 0, .int .i64 0, .slice none 0 0] 30)))); obtain ⟨fcbK, ffbK, fzbK⟩ := bfacts hbK (by first | exact Nat.le_refl _ | omega | (simp; omega) | simp); have fsbK := hbK.size; try simp at fcbK ffbK fzbK fsbK hbK) | (go_at_call 11; refine (lawstoLoad a t _).mono ?_; rintro e wL ⟨rfl, hbL⟩; have hOZ : OwnL wL w1.heap.size _ ls := hOY2.below (Below.trans (show Below wK.heap.size wK _ from (by repeat (first | with_reducible exact Below.refl _ _ | with_reducible assumption | (with_reducible refine Below.drew ?_) | (with_reducible refine below_drewN ?_ _) | ((with_reducible refine Below.alloc ?_ ?_ _); rotate_left; (focus (first | omega | (simp; omega) | simp))) | ((with_reducible refine Below.setCell ?_ ?_ _); rotate_left; (focus (first | omega | (simp; omega) | simp))) | (refine Below.trans ?_ (Below.mono (by assumption) (by first | omega | (simp; omega) | simp)))))) (hbL.mono (by first | exact Nat.le_refl _ | (simp; done) | omega | (simp; omega)))); have hbX : Below w1.heap.size w1 wL := Below.trans (show Below w1.heap.size w1 _ from (by repeat (first | with_reducible exact Below.refl _ _ | with_reducible assumption | (with_reducible refine Below.drew ?_) | (with_reducible refine below_drewN ?_ _) | ((with_reducible refine Below.alloc ?_ ?_ _); rotate_left; (focus (first | omega | (simp; omega) | simp))) | ((with_reducible refine Below.setCell ?_ ?_ _); rotate_left; (focus (first | omega | (simp; omega) | simp))) | (refine Below.trans ?_ (Below.mono (by assumption) (by first | omega | (simp; omega) | simp)))))) (hbL.mono (by first | exact Nat.le_refl _ | (simp; done) | omega | (simp; omega))); have hzX := hbX.size; have fzL := hbL.size; (try simp at fzL); (try (first | (have QL := (hbL.block w1.heap.size (by first | omega | (simp; omega))).trans QK) | (have QL := (hbL.block wK.heap.size (by simp)).trans (heap_alloc_new wK (.cells #[.string ⟨#[]⟩, .int .i64 0, .int .i64 0, .int .i64 0, .int .i64 0, .slice none 0 0] 30))))); obtain ⟨fcbL, ffbL, fzbL⟩ := bfacts hbL (by first | exact Nat.le_refl _ | omega | (simp; omega) | simp); have fsbL := hbL.size; try simp at fcbL ffbL fzbL fsbL hbL) | (go_at_call 9; refine (specAddLoad nm span wd dp wood bY 0 _ ls a t _ ((hOZ.below (show Below wL.heap.size wL _ from (by repeat (first | with_reducible exact Below.refl _ _ | with_reducible assumption | (with_reducible refine Below.drew ?_) | (with_reducible refine below_drewN ?_ _) | ((with_reducible refine Below.alloc ?_ ?_ _); rotate_left; (focus (first | omega | (simp; omega) | simp))) | ((with_reducible refine Below.setCell ?_ ?_ _); rotate_left; (focus (first | omega | (simp; omega) | simp))) | (refine Below.trans ?_ (Below.mono (by assumption) (by first | omega | (simp; omega) | simp))))))).at_ (fun _ => rfl)) hn1 hs).mono ?_; rintro e wF ⟨n0, v1, v2, v3, v4, A6, c6, xs6, code6, rfl, hPF, _hnm, hxlF, hO, hbF⟩; have hbU : Below w1.heap.size w1 wF := Below.trans (show Below w1.heap.size w1 _ from (by repeat (first | with_reducible exact Below.refl _ _ | with_reducible assumption | (with_reducible refine Below.drew ?_) | (with_reducible refine below_drewN ?_ _) | ((with_reducible refine Below.alloc ?_ ?_ _); rotate_left; (focus (first | omega | (simp; omega) | simp))) | ((with_reducible refine Below.setCell ?_ ?_ _); rotate_left; (focus (first | omega | (simp; omega) | simp))) | (refine Below.trans ?_ (Below.mono (by assumption) (by first | omega | (simp; omega) | simp)))))) (hbF.mono (by first | exact Nat.le_refl _ | (simp; done) | omega | (simp; omega))); have hzU := hbU.size; have hO2 : OwnL wF w1.heap.size _ xs6 := hO.mono (by first | exact Nat.le_refl _ | (simp; done) | omega | (simp; omega)); have fzF := hbF.size; (try simp at fzF); (first | (have QF := (hbF.block _ (by first | omega | (simp; omega))).trans QL; have QZ := bm_facts QF; obtain ⟨⟨z0, z1, z2, z3, z4, z5⟩, y0, y1, y2, y3, y4, y5⟩ := QZ) | (have QF := (hbF.block wL.heap.size (by simp)).trans (heap_alloc_new wL (.cells #[.string ⟨#[]⟩, .int .i64 0, .int .i64 0, .int .i64 0, .int .i64 0, .slice none 0 0] 30)); have QZ := bm_facts QF; obtain ⟨⟨z0, z1, z2, z3, z4, z5⟩, y0, y1, y2, y3, y4, y5⟩ := QZ) | skip); obtain ⟨fcbF, ffbF, fzbF⟩ := bfacts hbF (by first | exact Nat.le_refl _ | omega | (simp; omega) | simp); have fsbF := hbF.size; try simp at fcbF ffbF fzbF fsbF hbF))
      all_goals
        go_wp2_with fail
        go_meet
        (first | (with_reducible refine ⟨wF.heap.size, n0, v1, v2, v3, v4, A6, c6, xs6, code6, rfl, rfl, hPF, hxlF, by omega, ?_⟩; exact ⟨hide (heap_alloc_new _ _), hide (hO2.below (by repeat (first | with_reducible exact Below.refl _ _ | with_reducible assumption | (with_reducible refine Below.drew ?_) | (with_reducible refine below_drewN ?_ _) | ((with_reducible refine Below.alloc ?_ ?_ _); rotate_left; (focus (first | omega | (simp; omega) | simp))) | ((with_reducible refine Below.setCell ?_ ?_ _); rotate_left; (focus (first | omega | (simp; omega) | simp))) | (refine Below.trans ?_ (Below.mono (by assumption) (by first | omega | (simp; omega) | simp)))))), hide (by repeat (first | with_reducible exact Below.refl _ _ | with_reducible assumption | (with_reducible refine Below.drew ?_) | (with_reducible refine below_drewN ?_ _) | ((with_reducible refine Below.alloc ?_ ?_ _); rotate_left; (focus (first | omega | (simp; omega) | simp))) | ((with_reducible refine Below.setCell ?_ ?_ _); rotate_left; (focus (first | omega | (simp; omega) | simp))) | (refine Below.trans ?_ (Below.mono (by assumption) (by first | omega | (simp; omega) | simp)))))⟩) | (with_reducible refine ⟨w1.heap.size, n0, v1, v2, v3, v4, A6, c6, xs6, code6, rfl, rfl, hPF, hxlF, by omega, ?_⟩; exact ⟨hide (bm_set6 _ _ _ _ _ _ QF), hide (own_set6 _ _ _ _ _ _ hO2 QF (by decide)), hide (below_set6 _ _ _ _ _ _ hbU (by first | exact Nat.le_refl _ | omega))⟩) | (with_reducible refine ⟨wK.heap.size, n0, v1, v2, v3, v4, A6, c6, xs6, code6, rfl, rfl, hPF, hxlF, by omega, ?_⟩; exact ⟨hide (bm_set6 _ _ _ _ _ _ QF), hide (own_set6 _ _ _ _ _ _ hO2 QF (by decide)), hide (below_set6 _ _ _ _ _ _ hbU (by first | exact Nat.le_refl _ | omega))⟩) | (with_reducible refine ⟨wL.heap.size, n0, v1, v2, v3, v4, A6, c6, xs6, code6, rfl, rfl, hPF, hxlF, by omega, ?_⟩; exact ⟨hide (bm_set6 _ _ _ _ _ _ QF), hide (own_set6 _ _ _ _ _ _ hO2 QF (by decide)), hide (below_set6 _ _ _ _ _ _ hbU (by first | exact Nat.le_refl _ | omega))⟩))
    case rest =>
      obtain ⟨r6, n0, v1, v2, v3, v4, A6, c6, xs, code, rfl, rfl, hP, hxl, hr6, HC, HO, HB⟩ := hcut
      obtain ⟨w5, rfl⟩ : ∃ w5, w5 = wc := ⟨_, rfl⟩
      have P5 : Hid (BmAt w5 w1.heap.size w5.heap.size r6 #[.string n0, .int .i64 v1, .int .i64 v2, .int .i64 v3, .int .i64 v4, .slice A6 xs.length c6] (.slice A6 xs.length c6) xs) := hide ⟨HC.out, HO.out, fun g e => (HO.out.lt g e).2⟩
      have B5 := hide (B1.out.trans (HB.out.mono hzW))
      have HP := hide hP
      clear HC HO HB HKP hP B1 hzW
      have hzz : w.heap.size + 2 ≤ w5.heap.size := (HBX.out _ B5.out).2.2
      have hr6' : r6 < w5.heap.size := (Array.getElem?_eq_some_iff.1 P5.out.cell).1
      obtain ⟨hQ, hL, hzq⟩ := HBX.out _ B5.out
      have p0 : w5.cell? ⟨w.heap.size, 0, none⟩ = some (.string nm) := by simp [World.cell?, hQ]
      have p1 : w5.cell? ⟨w.heap.size, 1, none⟩ = some (.int .i64 span) := by simp [World.cell?, hQ]
      have p2 : w5.cell? ⟨w.heap.size, 2, none⟩ = some (.int .i64 wd) := by simp [World.cell?, hQ]
      have p3 : w5.cell? ⟨w.heap.size, 3, none⟩ = some (.int .i64 dp) := by simp [World.cell?, hQ]
      have p4 : w5.cell? ⟨w.heap.size, 4, none⟩ = some (.int .i64 wood) := by simp [World.cell?, hQ]
      have p5 : w5.cell? ⟨w.heap.size, 5, none⟩ = some (.slice A ls.length c) := by simp [World.cell?, hQ]
      have l0 : w5.cell? ⟨w.heap.size + 1, 0, none⟩ = some (.int .i64 a) := by simp [World.cell?, hL]
      have l1 : w5.cell? ⟨w.heap.size + 1, 1, none⟩ = some (.int .i64 t) := by simp [World.cell?, hL]
      have zq : w.heap.size < w5.heap.size := by omega
      have zl : w.heap.size + 1 < w5.heap.size := by omega
      clear hQ hL
      go_wp2_with fail
      refine (lawstoBeam_o nm span wd dp wood A c ls _ (HXW.out _ B5.out) hn1).mono ?_
      rintro e w6 ⟨b8, rfl, hO8, hb6⟩
      have hz6 := hb6.size
      have X6 := hide hO8
      have P6 := hide (P5.out.below hb6)
      have B6 := hide (B5.out.trans (hb6.mono hzz))
      clear hO8 hb6 P5 B5
      clear p0 p1 p2 p3 p4 p5 l0 l1 zq zl hzq
      go_upto_region 7 with fail
      have hb7 : Below w6.heap.size w6 (w6.alloc (.cells #[.string nm, .int .i64 span, .int .i64 wd, .int .i64 dp, .int .i64 wood, .slice (some ⟨b8, 0, none⟩) ls.length ls.length] 30)) := (by repeat (first | with_reducible exact Below.refl _ _ | with_reducible assumption | (with_reducible refine Below.drew ?_) | (with_reducible refine below_drewN ?_ _) | ((with_reducible refine Below.alloc ?_ ?_ _); rotate_left; (focus (first | omega | (simp; omega) | simp))) | ((with_reducible refine Below.setCell ?_ ?_ _); rotate_left; (focus (first | omega | (simp; omega) | simp))) | (refine Below.trans ?_ (Below.mono (by assumption) (by first | omega | (simp; omega) | simp)))))
      have X7 : Hid (BmAt (w6.alloc (.cells #[.string nm, .int .i64 span, .int .i64 wd, .int .i64 dp, .int .i64 wood, .slice (some ⟨b8, 0, none⟩) ls.length ls.length] 30)) w5.heap.size (w6.alloc (.cells #[.string nm, .int .i64 span, .int .i64 wd, .int .i64 dp, .int .i64 wood, .slice (some ⟨b8, 0, none⟩) ls.length ls.length] 30)).heap.size w6.heap.size #[.string nm, .int .i64 span, .int .i64 wd, .int .i64 dp, .int .i64 wood, .slice (some ⟨b8, 0, none⟩) ls.length ls.length] (.slice (some ⟨b8, 0, none⟩) ls.length ls.length) ls) := hide ⟨heap_alloc_new _ _, X6.out.below hb7, fun g e => ((X6.out.below hb7).lt g e).2⟩
      have P7 := hide (P6.out.below hb7)
      have B7 := hide (B6.out.trans (hb7.mono (HBX.out _ B6.out).2.2))
      have hr8 : w6.heap.size < (w6.alloc (.cells #[.string nm, .int .i64 span, .int .i64 wd, .int .i64 dp, .int .i64 wood, .slice (some ⟨b8, 0, none⟩) ls.length ls.length] 30)).heap.size := by simp
      clear X6 P6 B6 hb7
      generalize hw7 : (w6.alloc (.cells #[.string nm, .int .i64 span, .int .i64 wd, .int .i64 dp, .int .i64 wood, .slice (some ⟨b8, 0, none⟩) ls.length ls.length] 30)) = w7 at *
      clear hw7
      generalize hk8 : w6.heap.size = r8 at *
      clear hk8
      go_upto_region 7 with fail
      have HKP := hide (fun (W' : World) (h : Below w7.heap.size w7 W') => (show W'.cell? ⟨r8, 0, none⟩ = some (.string nm) ∧ W'.cell? ⟨r8, 1, none⟩ = some (.int .i64 span) ∧ W'.cell? ⟨r8, 2, none⟩ = some (.int .i64 wd) ∧ W'.cell? ⟨r8, 3, none⟩ = some (.int .i64 dp) ∧ W'.cell? ⟨r8, 4, none⟩ = some (.int .i64 wood) ∧ W'.cell? ⟨r8, 5, none⟩ = some (.slice (some ⟨b8, 0, none⟩) ls.length ls.length) ∧ W'.cell? ⟨w.heap.size + 1, 0, none⟩ = some (.int .i64 a) ∧ W'.cell? ⟨w.heap.size + 1, 1, none⟩ = some (.int .i64 t) ∧ Below (w.heap.size + 2) W0 W' ∧ Below w7.heap.size w7 W' from by
        have hB := B7.out.trans (h.mono ((HBX.out _ B7.out).2.2))
        obtain ⟨hQ, hL, _⟩ := HBX.out _ hB
        have hX := (X7.out.below h).cell
        exact ⟨by simp [World.cell?, hX], by simp [World.cell?, hX], by simp [World.cell?, hX], by simp [World.cell?, hX], by simp [World.cell?, hX], by simp [World.cell?, hX], by simp [World.cell?, hL], by simp [World.cell?, hL], hB, h⟩))
      have hzW : w.heap.size + 2 ≤ w7.heap.size := (HBX.out _ B7.out).2.2
      go_cut [9, 10] (fun v u wx => ∃ (r6 : Nat) (n0 : ByteArray) (v1 v2 v3 v4 : Int) (A6 : Option Addr) (c6 : Nat) (xs : List LoadR) (code : Int), v = .pointer (some ⟨r6, 0, none⟩) ∧ u = .int .i64 code ∧ addR nm span wd dp wood ls a t = ((n0, v1, v2, v3, v4), xs, code) ∧ xs.length ≤ 1048576 ∧ w7.heap.size ≤ r6 ∧ Hid (wx.heap[r6]? = some (.cells #[.string n0, .int .i64 v1, .int .i64 v2, .int .i64 v3, .int .i64 v4, .slice A6 xs.length c6] 30 (0, 0))) ∧ Hid (OwnL wx w7.heap.size (.slice A6 xs.length c6) xs) ∧ Hid (Below w7.heap.size w7 wx))
      case first =>
        obtain ⟨_, hL, hzq⟩ := HBX.out _ B7.out
        have l0 : w7.cell? ⟨w.heap.size + 1, 0, none⟩ = some (.int .i64 a) := by simp [World.cell?, hL]
        have l1 : w7.cell? ⟨w.heap.size + 1, 1, none⟩ = some (.int .i64 t) := by simp [World.cell?, hL]
        have zl : w.heap.size + 1 < w7.heap.size := by omega
        clear hL
        have qx := X7.out.cell
        have hxl : r8 < w7.heap.size := (Array.getElem?_eq_some_iff.1 qx).1
        obtain ⟨⟨x0, x1, x2, x3, x4, x5⟩, _⟩ := bm_facts qx
        clear qx
        go_region_held3 (fun W' => W'.cell? ⟨r8, 0, none⟩ = some (.string nm) ∧ W'.cell? ⟨r8, 1, none⟩ = some (.int .i64 span) ∧ W'.cell? ⟨r8, 2, none⟩ = some (.int .i64 wd) ∧ W'.cell? ⟨r8, 3, none⟩ = some (.int .i64 dp) ∧ W'.cell? ⟨r8, 4, none⟩ = some (.int .i64 wood) ∧ W'.cell? ⟨r8, 5, none⟩ = some (.slice (some ⟨b8, 0, none⟩) ls.length ls.length) ∧ W'.cell? ⟨w.heap.size + 1, 0, none⟩ = some (.int .i64 a) ∧ W'.cell? ⟨w.heap.size + 1, 1, none⟩ = some (.int .i64 t) ∧ Below (w.heap.size + 2) W0 W' ∧ Below w7.heap.size w7 W')
          (exact HKP.out _ (by repeat (first | with_reducible exact Below.refl _ _ | with_reducible assumption | (with_reducible refine Below.drew ?_) | (with_reducible refine below_drewN ?_ _) | ((with_reducible refine Below.alloc ?_ ?_ _); rotate_left; (focus (first | omega | (simp; omega) | simp))) | ((with_reducible refine Below.setCell ?_ ?_ _); rotate_left; (focus (first | omega | (simp; omega) | simp))) | (refine Below.trans ?_ (Below.mono (by assumption) (by first | omega | (simp; omega) | simp))))))
          (first | (go_at_call 11; refine (lawstoLoad a t _).mono ?_; rintro e wL ⟨rfl, hbL⟩; have hbX : Below w7.heap.size w7 wL := Below.trans (show Below w7.heap.size w7 _ from (by repeat (first | with_reducible exact Below.refl _ _ | with_reducible assumption | (with_reducible refine Below.drew ?_) | (with_reducible refine below_drewN ?_ _) | ((with_reducible refine Below.alloc ?_ ?_ _); rotate_left; (focus (first | omega | (simp; omega) | simp))) | ((with_reducible refine Below.setCell ?_ ?_ _); rotate_left; (focus (first | omega | (simp; omega) | simp))) | (refine Below.trans ?_ (Below.mono (by assumption) (by first | omega | (simp; omega) | simp)))))) (hbL.mono (by first | exact Nat.le_refl _ | (simp; done) | omega | (simp; omega))); have hzX := hbX.size; have fzL := hbL.size; (try simp at fzL); (try (have QL := (hbL.block w7.heap.size (by simp)).trans (heap_alloc_new w7 (.cells #[.string ⟨#[]⟩, .int .i64 0, .int .i64 0, .int .i64 0, .int .i64 0, .slice none 0 0] 30)))); obtain ⟨fcbL, ffbL, fzbL⟩ := bfacts hbL (by first | exact Nat.le_refl _ | omega | (simp; omega) | simp); have fsbL := hbL.size; try simp at fcbL ffbL fzbL fsbL hbL) | (go_at_call 12; refine (implAddLoad nm span wd dp wood b8 0 _ ls a t _ (X7.out.at_ rfl (show Below w7.heap.size w7 _ from (by repeat (first | with_reducible exact Below.refl _ _ | with_reducible assumption | (with_reducible refine Below.drew ?_) | (with_reducible refine below_drewN ?_ _) | ((with_reducible refine Below.alloc ?_ ?_ _); rotate_left; (focus (first | omega | (simp; omega) | simp))) | ((with_reducible refine Below.setCell ?_ ?_ _); rotate_left; (focus (first | omega | (simp; omega) | simp))) | (refine Below.trans ?_ (Below.mono (by assumption) (by first | omega | (simp; omega) | simp))))))) hn1 hs).mono ?_; rintro e wF ⟨n0, v1, v2, v3, v4, A6, c6, xs6, code6, rfl, hPF, _hnm, hxlF, hO, hbF⟩; have hbU : Below w7.heap.size w7 wF := Below.trans (show Below w7.heap.size w7 _ from (by repeat (first | with_reducible exact Below.refl _ _ | with_reducible assumption | (with_reducible refine Below.drew ?_) | (with_reducible refine below_drewN ?_ _) | ((with_reducible refine Below.alloc ?_ ?_ _); rotate_left; (focus (first | omega | (simp; omega) | simp))) | ((with_reducible refine Below.setCell ?_ ?_ _); rotate_left; (focus (first | omega | (simp; omega) | simp))) | (refine Below.trans ?_ (Below.mono (by assumption) (by first | omega | (simp; omega) | simp)))))) (hbF.mono (by first | exact Nat.le_refl _ | (simp; done) | omega | (simp; omega))); have hzU := hbU.size; have hO2 : OwnL wF w7.heap.size _ xs6 := hO.mono (by first | exact Nat.le_refl _ | (simp; done) | omega | (simp; omega)); have fzF := hbF.size; (try simp at fzF); (first | (have QF := (hbF.block _ (by first | omega | (simp; omega))).trans QL; have QZ := bm_facts QF; obtain ⟨⟨z0, z1, z2, z3, z4, z5⟩, y0, y1, y2, y3, y4, y5⟩ := QZ) | (have QF := (hbF.block wL.heap.size (by simp)).trans (heap_alloc_new wL (.cells #[.string ⟨#[]⟩, .int .i64 0, .int .i64 0, .int .i64 0, .int .i64 0, .slice none 0 0] 30)); have QZ := bm_facts QF; obtain ⟨⟨z0, z1, z2, z3, z4, z5⟩, y0, y1, y2, y3, y4, y5⟩ := QZ) | skip); obtain ⟨fcbF, ffbF, fzbF⟩ := bfacts hbF (by first | exact Nat.le_refl _ | omega | (simp; omega) | simp); have fsbF := hbF.size; try simp at fcbF ffbF fzbF fsbF hbF))
        all_goals
          go_wp2_with fail
          go_meet
          (first | (with_reducible refine ⟨wF.heap.size, n0, v1, v2, v3, v4, A6, c6, xs6, code6, rfl, rfl, hPF, hxlF, by omega, ?_⟩; exact ⟨hide (heap_alloc_new _ _), hide (hO2.below (by repeat (first | with_reducible exact Below.refl _ _ | with_reducible assumption | (with_reducible refine Below.drew ?_) | (with_reducible refine below_drewN ?_ _) | ((with_reducible refine Below.alloc ?_ ?_ _); rotate_left; (focus (first | omega | (simp; omega) | simp))) | ((with_reducible refine Below.setCell ?_ ?_ _); rotate_left; (focus (first | omega | (simp; omega) | simp))) | (refine Below.trans ?_ (Below.mono (by assumption) (by first | omega | (simp; omega) | simp)))))), hide (by repeat (first | with_reducible exact Below.refl _ _ | with_reducible assumption | (with_reducible refine Below.drew ?_) | (with_reducible refine below_drewN ?_ _) | ((with_reducible refine Below.alloc ?_ ?_ _); rotate_left; (focus (first | omega | (simp; omega) | simp))) | ((with_reducible refine Below.setCell ?_ ?_ _); rotate_left; (focus (first | omega | (simp; omega) | simp))) | (refine Below.trans ?_ (Below.mono (by assumption) (by first | omega | (simp; omega) | simp)))))⟩) | (with_reducible refine ⟨w7.heap.size, n0, v1, v2, v3, v4, A6, c6, xs6, code6, rfl, rfl, hPF, hxlF, by omega, ?_⟩; exact ⟨hide (bm_set6 _ _ _ _ _ _ QF), hide (own_set6 _ _ _ _ _ _ hO2 QF (by decide)), hide (below_set6 _ _ _ _ _ _ hbU (by first | exact Nat.le_refl _ | omega))⟩) | (with_reducible refine ⟨wL.heap.size, n0, v1, v2, v3, v4, A6, c6, xs6, code6, rfl, rfl, hPF, hxlF, by omega, ?_⟩; exact ⟨hide (bm_set6 _ _ _ _ _ _ QF), hide (own_set6 _ _ _ _ _ _ hO2 QF (by decide)), hide (below_set6 _ _ _ _ _ _ hbU (by first | exact Nat.le_refl _ | omega))⟩))
      case rest =>
        have hzz7 : w5.heap.size ≤ w7.heap.size := by omega
        obtain ⟨r9, m0, y1, y2, y3, y4, A9, c9, ys, code9, rfl, rfl, hP9, hyl, hr9, HC, HO, HB⟩ := hcut
        obtain ⟨w9, rfl⟩ : ∃ w9, w9 = wc := ⟨_, rfl⟩
        have hq := HP.out.symm.trans hP9
        simp only [Prod.mk.injEq] at hq
        obtain ⟨⟨rfl, rfl, rfl, rfl, rfl⟩, rfl, rfl⟩ := hq
        have G9 : Hid (BmAt w9 w7.heap.size w9.heap.size r9 #[.string n0, .int .i64 v1, .int .i64 v2, .int .i64 v3, .int .i64 v4, .slice A9 xs.length c9] (.slice A9 xs.length c9) xs) := hide ⟨HC.out, HO.out, fun g e => (HO.out.lt g e).2⟩
        have P9 := hide (P7.out.below HB.out)
        have X9 := hide (X7.out.below HB.out)
        have B9 := hide (B7.out.trans (HB.out.mono hzW))
        clear HC HO HB HKP hP9 hyl hr9 hzW B7 P7 X7
        have qp := P9.out.cell
        have hpl : r6 < w9.heap.size := (Array.getElem?_eq_some_iff.1 qp).1
        obtain ⟨⟨p0, p1, p2, p3, p4, p5⟩, _⟩ := bm_facts qp
        clear qp
        have qg := G9.out.cell
        have hgl : r9 < w9.heap.size := (Array.getElem?_eq_some_iff.1 qg).1
        obtain ⟨⟨g0, g1, g2, g3, g4, g5⟩, _⟩ := bm_facts qg
        clear qg
        go_wp2_with fail
        refine (lawseqBeam_same n0 v1 v2 v3 v4 _ _ _ _ xs _ (G9.out.at_ rfl (show Below w9.heap.size w9 _ from (by repeat (first | with_reducible exact Below.refl _ _ | with_reducible assumption | (with_reducible refine Below.drew ?_) | (with_reducible refine below_drewN ?_ _) | ((with_reducible refine Below.alloc ?_ ?_ _); rotate_left; (focus (first | omega | (simp; omega) | simp))) | ((with_reducible refine Below.setCell ?_ ?_ _); rotate_left; (focus (first | omega | (simp; omega) | simp))) | (refine Below.trans ?_ (Below.mono (by assumption) (by first | omega | (simp; omega) | simp))))))) (P9.out.at_ rfl (show Below w9.heap.size w9 _ from (by repeat (first | with_reducible exact Below.refl _ _ | with_reducible assumption | (with_reducible refine Below.drew ?_) | (with_reducible refine below_drewN ?_ _) | ((with_reducible refine Below.alloc ?_ ?_ _); rotate_left; (focus (first | omega | (simp; omega) | simp))) | ((with_reducible refine Below.setCell ?_ ?_ _); rotate_left; (focus (first | omega | (simp; omega) | simp))) | (refine Below.trans ?_ (Below.mono (by assumption) (by first | omega | (simp; omega) | simp))))))) hxl).mono ?_
        rintro e w10 ⟨rfl, hb⟩
        have P10 := hide (P9.out.below hb)
        have X10 := hide (X9.out.below hb)
        have G10 := hide (G9.out.below hb)
        have B10 := hide (B9.out.trans (hb.mono (HBX.out _ B9.out).2.2))
        clear hb B9 P9 X9 G9
        clear hpl p0 p1 p2 p3 p4 p5
        clear hgl g0 g1 g2 g3 g4 g5
        go_upto_region 10 with fail
        have HKP := hide (fun (W' : World) (h : Below w10.heap.size w10 W') => (show W'.cell? ⟨w.heap.size, 0, none⟩ = some (.string nm) ∧ W'.cell? ⟨w.heap.size, 1, none⟩ = some (.int .i64 span) ∧ W'.cell? ⟨w.heap.size, 2, none⟩ = some (.int .i64 wd) ∧ W'.cell? ⟨w.heap.size, 3, none⟩ = some (.int .i64 dp) ∧ W'.cell? ⟨w.heap.size, 4, none⟩ = some (.int .i64 wood) ∧ W'.cell? ⟨w.heap.size, 5, none⟩ = some (.slice A ls.length c) ∧ W'.cell? ⟨r8, 0, none⟩ = some (.string nm) ∧ W'.cell? ⟨r8, 1, none⟩ = some (.int .i64 span) ∧ W'.cell? ⟨r8, 2, none⟩ = some (.int .i64 wd) ∧ W'.cell? ⟨r8, 3, none⟩ = some (.int .i64 dp) ∧ W'.cell? ⟨r8, 4, none⟩ = some (.int .i64 wood) ∧ W'.cell? ⟨r8, 5, none⟩ = some (.slice (some ⟨b8, 0, none⟩) ls.length ls.length) ∧ Below (w.heap.size + 2) W0 W' ∧ Below w10.heap.size w10 W' from by
          have hB := B10.out.trans (h.mono ((HBX.out _ B10.out).2.2))
          obtain ⟨hQ, hL, _⟩ := HBX.out _ hB
          have hX := (X10.out.below h).cell
          exact ⟨by simp [World.cell?, hQ], by simp [World.cell?, hQ], by simp [World.cell?, hQ], by simp [World.cell?, hQ], by simp [World.cell?, hQ], by simp [World.cell?, hQ], by simp [World.cell?, hX], by simp [World.cell?, hX], by simp [World.cell?, hX], by simp [World.cell?, hX], by simp [World.cell?, hX], by simp [World.cell?, hX], hB, h⟩))
        go_cut [51] (fun v wx => v = .bool false ∧ Hid (Below w10.heap.size w10 wx))
        case first =>
          obtain ⟨hQ, hL, hzq⟩ := HBX.out _ B10.out
          have p0 : w10.cell? ⟨w.heap.size, 0, none⟩ = some (.string nm) := by simp [World.cell?, hQ]
          have p1 : w10.cell? ⟨w.heap.size, 1, none⟩ = some (.int .i64 span) := by simp [World.cell?, hQ]
          have p2 : w10.cell? ⟨w.heap.size, 2, none⟩ = some (.int .i64 wd) := by simp [World.cell?, hQ]
          have p3 : w10.cell? ⟨w.heap.size, 3, none⟩ = some (.int .i64 dp) := by simp [World.cell?, hQ]
          have p4 : w10.cell? ⟨w.heap.size, 4, none⟩ = some (.int .i64 wood) := by simp [World.cell?, hQ]
          have p5 : w10.cell? ⟨w.heap.size, 5, none⟩ = some (.slice A ls.length c) := by simp [World.cell?, hQ]
          have l0 : w10.cell? ⟨w.heap.size + 1, 0, none⟩ = some (.int .i64 a) := by simp [World.cell?, hL]
          have l1 : w10.cell? ⟨w.heap.size + 1, 1, none⟩ = some (.int .i64 t) := by simp [World.cell?, hL]
          have zq : w.heap.size < w10.heap.size := by omega
          have zl : w.heap.size + 1 < w10.heap.size := by omega
          clear hQ hL
          have qx := X10.out.cell
          have hxl : r8 < w10.heap.size := (Array.getElem?_eq_some_iff.1 qx).1
          obtain ⟨⟨x0, x1, x2, x3, x4, x5⟩, _⟩ := bm_facts qx
          clear qx
          go_region_held3 (fun W' => W'.cell? ⟨w.heap.size, 0, none⟩ = some (.string nm) ∧ W'.cell? ⟨w.heap.size, 1, none⟩ = some (.int .i64 span) ∧ W'.cell? ⟨w.heap.size, 2, none⟩ = some (.int .i64 wd) ∧ W'.cell? ⟨w.heap.size, 3, none⟩ = some (.int .i64 dp) ∧ W'.cell? ⟨w.heap.size, 4, none⟩ = some (.int .i64 wood) ∧ W'.cell? ⟨w.heap.size, 5, none⟩ = some (.slice A ls.length c) ∧ W'.cell? ⟨r8, 0, none⟩ = some (.string nm) ∧ W'.cell? ⟨r8, 1, none⟩ = some (.int .i64 span) ∧ W'.cell? ⟨r8, 2, none⟩ = some (.int .i64 wd) ∧ W'.cell? ⟨r8, 3, none⟩ = some (.int .i64 dp) ∧ W'.cell? ⟨r8, 4, none⟩ = some (.int .i64 wood) ∧ W'.cell? ⟨r8, 5, none⟩ = some (.slice (some ⟨b8, 0, none⟩) ls.length ls.length) ∧ Below (w.heap.size + 2) W0 W' ∧ Below w10.heap.size w10 W')
            (exact HKP.out _ (by repeat (first | with_reducible exact Below.refl _ _ | with_reducible assumption | (with_reducible refine Below.drew ?_) | (with_reducible refine below_drewN ?_ _) | ((with_reducible refine Below.alloc ?_ ?_ _); rotate_left; (focus (first | omega | (simp; omega) | simp))) | ((with_reducible refine Below.setCell ?_ ?_ _); rotate_left; (focus (first | omega | (simp; omega) | simp))) | (refine Below.trans ?_ (Below.mono (by assumption) (by first | omega | (simp; omega) | simp))))))
            (first | (go_at_call 10; refine (lawstoBeam_o nm span wd dp wood A c ls _ ?_ hn1).mono ?_; (focus (go_split_ands; exact HXW.out _ (by assumption))); rintro e wK ⟨bY, rfl, hOY, hbK⟩; have hbW : Below w10.heap.size w10 wK := Below.trans (show Below w10.heap.size w10 _ from (by repeat (first | with_reducible exact Below.refl _ _ | with_reducible assumption | (with_reducible refine Below.drew ?_) | (with_reducible refine below_drewN ?_ _) | ((with_reducible refine Below.alloc ?_ ?_ _); rotate_left; (focus (first | omega | (simp; omega) | simp))) | ((with_reducible refine Below.setCell ?_ ?_ _); rotate_left; (focus (first | omega | (simp; omega) | simp))) | (refine Below.trans ?_ (Below.mono (by assumption) (by first | omega | (simp; omega) | simp)))))) (hbK.mono (by first | exact Nat.le_refl _ | (simp; done) | omega | (simp; omega))); have hzW2 := hbW.size; have hOY2 : OwnL wK w10.heap.size _ ls := hOY.mono (by first | exact Nat.le_refl _ | (simp; done) | omega | (simp; omega)); clear hOY; have fzK := hbK.size;  obtain ⟨fcbK, ffbK, fzbK⟩ := bfacts hbK (by first | exact Nat.le_refl _ | omega | (simp; omega) | simp); have fsbK := hbK.size; try simp at fcbK ffbK fzbK fsbK hbK) | (go_at_call 13; refine (lawseqBeam_same nm span wd dp wood _ _ _ _ ls _ (X10.out.at_ rfl (show Below w10.heap.size w10 _ from (by repeat (first | with_reducible exact Below.refl _ _ | with_reducible assumption | (with_reducible refine Below.drew ?_) | (with_reducible refine below_drewN ?_ _) | ((with_reducible refine Below.alloc ?_ ?_ _); rotate_left; (focus (first | omega | (simp; omega) | simp))) | ((with_reducible refine Below.setCell ?_ ?_ _); rotate_left; (focus (first | omega | (simp; omega) | simp))) | (refine Below.trans ?_ (Below.mono (by assumption) (by first | omega | (simp; omega) | simp))))))) ((hOY2.below (show Below wK.heap.size wK _ from (by repeat (first | with_reducible exact Below.refl _ _ | with_reducible assumption | (with_reducible refine Below.drew ?_) | (with_reducible refine below_drewN ?_ _) | ((with_reducible refine Below.alloc ?_ ?_ _); rotate_left; (focus (first | omega | (simp; omega) | simp))) | ((with_reducible refine Below.setCell ?_ ?_ _); rotate_left; (focus (first | omega | (simp; omega) | simp))) | (refine Below.trans ?_ (Below.mono (by assumption) (by first | omega | (simp; omega) | simp))))))).at_ (fun _ => rfl)) hn1).mono ?_; rintro e wE ⟨rfl, hbE⟩; have hbV : Below w10.heap.size w10 wE := Below.trans (show Below w10.heap.size w10 _ from (by repeat (first | with_reducible exact Below.refl _ _ | with_reducible assumption | (with_reducible refine Below.drew ?_) | (with_reducible refine below_drewN ?_ _) | ((with_reducible refine Below.alloc ?_ ?_ _); rotate_left; (focus (first | omega | (simp; omega) | simp))) | ((with_reducible refine Below.setCell ?_ ?_ _); rotate_left; (focus (first | omega | (simp; omega) | simp))) | (refine Below.trans ?_ (Below.mono (by assumption) (by first | omega | (simp; omega) | simp)))))) (hbE.mono (by first | exact Nat.le_refl _ | (simp; done) | omega | (simp; omega))); obtain ⟨fcbE, ffbE, fzbE⟩ := bfacts hbE (by first | exact Nat.le_refl _ | omega | (simp; omega) | simp); have fsbE := hbE.size; try simp at fcbE ffbE fzbE fsbE hbE))
          all_goals
            go_wp2_with fail
            go_meet
            exact ⟨rfl, hide (by repeat (first | with_reducible exact Below.refl _ _ | with_reducible assumption | (with_reducible refine Below.drew ?_) | (with_reducible refine below_drewN ?_ _) | ((with_reducible refine Below.alloc ?_ ?_ _); rotate_left; (focus (first | omega | (simp; omega) | simp))) | ((with_reducible refine Below.setCell ?_ ?_ _); rotate_left; (focus (first | omega | (simp; omega) | simp))) | (refine Below.trans ?_ (Below.mono (by assumption) (by first | omega | (simp; omega) | simp)))))⟩
        case rest =>
          obtain ⟨rfl, HB⟩ := hcut
          obtain ⟨w11, rfl⟩ : ∃ w11, w11 = wc := ⟨_, rfl⟩
          have P11 := hide (P10.out.below HB.out)
          have X11 := hide (X10.out.below HB.out)
          have G11 := hide (G10.out.below HB.out)
          have B11 := hide (B10.out.trans (HB.out.mono (HBX.out _ B10.out).2.2))
          clear HB HKP P10 X10 G10 B10
          have qx := X11.out.cell
          have hxl : r8 < w11.heap.size := (Array.getElem?_eq_some_iff.1 qx).1
          obtain ⟨⟨x0, x1, x2, x3, x4, x5⟩, _⟩ := bm_facts qx
          clear qx
          go_wp2_with fail
          refine (lawsmarkBeam nm span wd dp wood _ _ w5.heap.size ls 1 _ (X11.out.own.below (show Below w11.heap.size w11 _ from (by repeat (first | with_reducible exact Below.refl _ _ | with_reducible assumption | (with_reducible refine Below.drew ?_) | (with_reducible refine below_drewN ?_ _) | ((with_reducible refine Below.alloc ?_ ?_ _); rotate_left; (focus (first | omega | (simp; omega) | simp))) | ((with_reducible refine Below.setCell ?_ ?_ _); rotate_left; (focus (first | omega | (simp; omega) | simp))) | (refine Below.trans ?_ (Below.mono (by assumption) (by first | omega | (simp; omega) | simp))))))) hn1 (by omega) (by omega)).mono ?_
          rintro e w12 ⟨rfl, hO, hg⟩
          have P12 := hide (P11.out.older X11.out hg (Nat.le_refl _))
          have G12 := hide (G11.out.newer X11.out hg (Nat.le_refl _))
          have B12 := hide (X11.out.grown hg B11.out (HBX.out _ B11.out).2.2 hzz)
          clear X11 P11 G11 B11 hO hg
          clear hxl x0 x1 x2 x3 x4 x5
          have qp := P12.out.cell
          have hpl : r6 < w12.heap.size := (Array.getElem?_eq_some_iff.1 qp).1
          obtain ⟨⟨p0, p1, p2, p3, p4, p5⟩, _⟩ := bm_facts qp
          clear qp
          have qg := G12.out.cell
          have hgl : r9 < w12.heap.size := (Array.getElem?_eq_some_iff.1 qg).1
          obtain ⟨⟨g0, g1, g2, g3, g4, g5⟩, _⟩ := bm_facts qg
          clear qg
          go_wp2_with fail
          refine (lawseqBeam_same n0 v1 v2 v3 v4 _ _ _ _ xs _ (G12.out.at_ rfl (show Below w12.heap.size w12 _ from (by repeat (first | with_reducible exact Below.refl _ _ | with_reducible assumption | (with_reducible refine Below.drew ?_) | (with_reducible refine below_drewN ?_ _) | ((with_reducible refine Below.alloc ?_ ?_ _); rotate_left; (focus (first | omega | (simp; omega) | simp))) | ((with_reducible refine Below.setCell ?_ ?_ _); rotate_left; (focus (first | omega | (simp; omega) | simp))) | (refine Below.trans ?_ (Below.mono (by assumption) (by first | omega | (simp; omega) | simp))))))) (P12.out.at_ rfl (show Below w12.heap.size w12 _ from (by repeat (first | with_reducible exact Below.refl _ _ | with_reducible assumption | (with_reducible refine Below.drew ?_) | (with_reducible refine below_drewN ?_ _) | ((with_reducible refine Below.alloc ?_ ?_ _); rotate_left; (focus (first | omega | (simp; omega) | simp))) | ((with_reducible refine Below.setCell ?_ ?_ _); rotate_left; (focus (first | omega | (simp; omega) | simp))) | (refine Below.trans ?_ (Below.mono (by assumption) (by first | omega | (simp; omega) | simp))))))) hxl).mono ?_
          rintro e w13 ⟨rfl, hb⟩
          have P13 := hide (P12.out.below hb)
          have G13 := hide (G12.out.below hb)
          have B13 := hide (B12.out.trans (hb.mono (HBX.out _ B12.out).2.2))
          clear hb B12 P12 G12
          clear hpl p0 p1 p2 p3 p4 p5
          clear hgl g0 g1 g2 g3 g4 g5
          have qg := G13.out.cell
          have hgl : r9 < w13.heap.size := (Array.getElem?_eq_some_iff.1 qg).1
          obtain ⟨⟨g0, g1, g2, g3, g4, g5⟩, _⟩ := bm_facts qg
          clear qg
          go_wp2_with fail
          refine (lawsmarkBeam n0 v1 v2 v3 v4 _ _ w7.heap.size xs 1 _ (G13.out.own.below (show Below w13.heap.size w13 _ from (by repeat (first | with_reducible exact Below.refl _ _ | with_reducible assumption | (with_reducible refine Below.drew ?_) | (with_reducible refine below_drewN ?_ _) | ((with_reducible refine Below.alloc ?_ ?_ _); rotate_left; (focus (first | omega | (simp; omega) | simp))) | ((with_reducible refine Below.setCell ?_ ?_ _); rotate_left; (focus (first | omega | (simp; omega) | simp))) | (refine Below.trans ?_ (Below.mono (by assumption) (by first | omega | (simp; omega) | simp))))))) hxl (by omega) (by omega)).mono ?_
          rintro e w14 ⟨rfl, hO, hg⟩
          have P14 := hide (P13.out.older G13.out hg hzz7)
          have G14 := hide (G13.out.marked hO hg)
          have B14 := hide (G13.out.grown hg B13.out (HBX.out _ B13.out).2.2 (Nat.le_trans hzz hzz7))
          clear G13 P13 B13 hO hg
          clear hgl g0 g1 g2 g3 g4 g5
          have qg := G14.out.cell
          have hgl : r9 < w14.heap.size := (Array.getElem?_eq_some_iff.1 qg).1
          obtain ⟨⟨g0, g1, g2, g3, g4, g5⟩, _⟩ := bm_facts qg
          clear qg
          go_wp2_with fail
          refine (lawsheldBeam n0 v1 v2 v3 v4 _ _ w7.heap.size xs.length 1 _ (G14.out.own.below (show Below w14.heap.size w14 _ from (by repeat (first | with_reducible exact Below.refl _ _ | with_reducible assumption | (with_reducible refine Below.drew ?_) | (with_reducible refine below_drewN ?_ _) | ((with_reducible refine Below.alloc ?_ ?_ _); rotate_left; (focus (first | omega | (simp; omega) | simp))) | ((with_reducible refine Below.setCell ?_ ?_ _); rotate_left; (focus (first | omega | (simp; omega) | simp))) | (refine Below.trans ?_ (Below.mono (by assumption) (by first | omega | (simp; omega) | simp))))))) hxl (by omega) (by omega)).mono ?_
          rintro e w15 ⟨rfl, hb⟩
          have P15 := hide (P14.out.below hb)
          have G15 := hide (G14.out.below hb)
          have B15 := hide (B14.out.trans (hb.mono (HBX.out _ B14.out).2.2))
          clear hb B14 P14 G14
          clear hgl g0 g1 g2 g3 g4 g5
          go_upto_region 24 with fail
          have HKP := hide (fun (W' : World) (h : Below w15.heap.size w15 W') => (show W'.cell? ⟨w.heap.size, 0, none⟩ = some (.string nm) ∧ W'.cell? ⟨w.heap.size, 1, none⟩ = some (.int .i64 span) ∧ W'.cell? ⟨w.heap.size, 2, none⟩ = some (.int .i64 wd) ∧ W'.cell? ⟨w.heap.size, 3, none⟩ = some (.int .i64 dp) ∧ W'.cell? ⟨w.heap.size, 4, none⟩ = some (.int .i64 wood) ∧ W'.cell? ⟨w.heap.size, 5, none⟩ = some (.slice A ls.length c) ∧ W'.cell? ⟨w.heap.size + 1, 0, none⟩ = some (.int .i64 a) ∧ W'.cell? ⟨w.heap.size + 1, 1, none⟩ = some (.int .i64 t) ∧ Below (w.heap.size + 2) W0 W' ∧ Below w15.heap.size w15 W' from by
            have hB := B15.out.trans (h.mono ((HBX.out _ B15.out).2.2))
            obtain ⟨hQ, hL, _⟩ := HBX.out _ hB
            exact ⟨by simp [World.cell?, hQ], by simp [World.cell?, hQ], by simp [World.cell?, hQ], by simp [World.cell?, hQ], by simp [World.cell?, hQ], by simp [World.cell?, hQ], by simp [World.cell?, hL], by simp [World.cell?, hL], hB, h⟩))
          have hzW : w.heap.size + 2 ≤ w15.heap.size := (HBX.out _ B15.out).2.2
          go_cut [14, 15] (fun v u wx => ∃ (r6 : Nat) (n0 : ByteArray) (v1 v2 v3 v4 : Int) (A6 : Option Addr) (c6 : Nat) (xs : List LoadR) (code : Int), v = .pointer (some ⟨r6, 0, none⟩) ∧ u = .int .i64 code ∧ addR nm span wd dp wood ls a t = ((n0, v1, v2, v3, v4), xs, code) ∧ xs.length ≤ 1048576 ∧ w15.heap.size ≤ r6 ∧ Hid (wx.heap[r6]? = some (.cells #[.string n0, .int .i64 v1, .int .i64 v2, .int .i64 v3, .int .i64 v4, .slice A6 xs.length c6] 30 (0, 0))) ∧ Hid (OwnL wx w15.heap.size (.slice A6 xs.length c6) xs) ∧ Hid (Below w15.heap.size w15 wx))
          case first =>
            obtain ⟨hQ, hL, hzq⟩ := HBX.out _ B15.out
            have p0 : w15.cell? ⟨w.heap.size, 0, none⟩ = some (.string nm) := by simp [World.cell?, hQ]
            have p1 : w15.cell? ⟨w.heap.size, 1, none⟩ = some (.int .i64 span) := by simp [World.cell?, hQ]
            have p2 : w15.cell? ⟨w.heap.size, 2, none⟩ = some (.int .i64 wd) := by simp [World.cell?, hQ]
            have p3 : w15.cell? ⟨w.heap.size, 3, none⟩ = some (.int .i64 dp) := by simp [World.cell?, hQ]
            have p4 : w15.cell? ⟨w.heap.size, 4, none⟩ = some (.int .i64 wood) := by simp [World.cell?, hQ]
            have p5 : w15.cell? ⟨w.heap.size, 5, none⟩ = some (.slice A ls.length c) := by simp [World.cell?, hQ]
            have l0 : w15.cell? ⟨w.heap.size + 1, 0, none⟩ = some (.int .i64 a) := by simp [World.cell?, hL]
            have l1 : w15.cell? ⟨w.heap.size + 1, 1, none⟩ = some (.int .i64 t) := by simp [World.cell?, hL]
            have zq : w.heap.size < w15.heap.size := by omega
            have zl : w.heap.size + 1 < w15.heap.size := by omega
            clear hQ hL
            go_region_held3 (fun W' => W'.cell? ⟨w.heap.size, 0, none⟩ = some (.string nm) ∧ W'.cell? ⟨w.heap.size, 1, none⟩ = some (.int .i64 span) ∧ W'.cell? ⟨w.heap.size, 2, none⟩ = some (.int .i64 wd) ∧ W'.cell? ⟨w.heap.size, 3, none⟩ = some (.int .i64 dp) ∧ W'.cell? ⟨w.heap.size, 4, none⟩ = some (.int .i64 wood) ∧ W'.cell? ⟨w.heap.size, 5, none⟩ = some (.slice A ls.length c) ∧ W'.cell? ⟨w.heap.size + 1, 0, none⟩ = some (.int .i64 a) ∧ W'.cell? ⟨w.heap.size + 1, 1, none⟩ = some (.int .i64 t) ∧ Below (w.heap.size + 2) W0 W' ∧ Below w15.heap.size w15 W')
              (exact HKP.out _ (by repeat (first | with_reducible exact Below.refl _ _ | with_reducible assumption | (with_reducible refine Below.drew ?_) | (with_reducible refine below_drewN ?_ _) | ((with_reducible refine Below.alloc ?_ ?_ _); rotate_left; (focus (first | omega | (simp; omega) | simp))) | ((with_reducible refine Below.setCell ?_ ?_ _); rotate_left; (focus (first | omega | (simp; omega) | simp))) | (refine Below.trans ?_ (Below.mono (by assumption) (by first | omega | (simp; omega) | simp))))))
              (first | (go_at_call 10; refine (lawstoBeam_o nm span wd dp wood A c ls _ ?_ hn1).mono ?_; (focus (go_split_ands; exact HXW.out _ (by assumption))); rintro e wK ⟨bY, rfl, hOY, hbK⟩; have hbW : Below w15.heap.size w15 wK := Below.trans (show Below w15.heap.size w15 _ from (by repeat (first | with_reducible exact Below.refl _ _ | with_reducible assumption | (with_reducible refine Below.drew ?_) | (with_reducible refine below_drewN ?_ _) | ((with_reducible refine Below.alloc ?_ ?_ _); rotate_left; (focus (first | omega | (simp; omega) | simp))) | ((with_reducible refine Below.setCell ?_ ?_ _); rotate_left; (focus (first | omega | (simp; omega) | simp))) | (refine Below.trans ?_ (Below.mono (by assumption) (by first | omega | (simp; omega) | simp)))))) (hbK.mono (by first | exact Nat.le_refl _ | (simp; done) | omega | (simp; omega))); have hzW2 := hbW.size; have hOY2 : OwnL wK w15.heap.size _ ls := hOY.mono (by first | exact Nat.le_refl _ | (simp; done) | omega | (simp; omega)); clear hOY; have fzK := hbK.size; (try (have QK := (hbK.block w15.heap.size (by simp)).trans (heap_alloc_new w15 (.cells #[.string ⟨#[]⟩, .int .i64 0, .int .i64 0, .int .i64 0, .int .i64 0, .slice none 0 0] 30)))); obtain ⟨fcbK, ffbK, fzbK⟩ := bfacts hbK (by first | exact Nat.le_refl _ | omega | (simp; omega) | simp); have fsbK := hbK.size; try simp at fcbK ffbK fzbK fsbK hbK) | (go_at_call 11; refine (lawstoLoad a t _).mono ?_; rintro e wL ⟨rfl, hbL⟩; have hOZ : OwnL wL w15.heap.size _ ls := hOY2.below (Below.trans (show Below wK.heap.size wK _ from (by repeat (first | with_reducible exact Below.refl _ _ | with_reducible assumption | (with_reducible refine Below.drew ?_) | (with_reducible refine below_drewN ?_ _) | ((with_reducible refine Below.alloc ?_ ?_ _); rotate_left; (focus (first | omega | (simp; omega) | simp))) | ((with_reducible refine Below.setCell ?_ ?_ _); rotate_left; (focus (first | omega | (simp; omega) | simp))) | (refine Below.trans ?_ (Below.mono (by assumption) (by first | omega | (simp; omega) | simp)))))) (hbL.mono (by first | exact Nat.le_refl _ | (simp; done) | omega | (simp; omega)))); have hbX : Below w15.heap.size w15 wL := Below.trans (show Below w15.heap.size w15 _ from (by repeat (first | with_reducible exact Below.refl _ _ | with_reducible assumption | (with_reducible refine Below.drew ?_) | (with_reducible refine below_drewN ?_ _) | ((with_reducible refine Below.alloc ?_ ?_ _); rotate_left; (focus (first | omega | (simp; omega) | simp))) | ((with_reducible refine Below.setCell ?_ ?_ _); rotate_left; (focus (first | omega | (simp; omega) | simp))) | (refine Below.trans ?_ (Below.mono (by assumption) (by first | omega | (simp; omega) | simp)))))) (hbL.mono (by first | exact Nat.le_refl _ | (simp; done) | omega | (simp; omega))); have hzX := hbX.size; have fzL := hbL.size; (try simp at fzL); (try (first | (have QL := (hbL.block w15.heap.size (by first | omega | (simp; omega))).trans QK) | (have QL := (hbL.block wK.heap.size (by simp)).trans (heap_alloc_new wK (.cells #[.string ⟨#[]⟩, .int .i64 0, .int .i64 0, .int .i64 0, .int .i64 0, .slice none 0 0] 30))))); obtain ⟨fcbL, ffbL, fzbL⟩ := bfacts hbL (by first | exact Nat.le_refl _ | omega | (simp; omega) | simp); have fsbL := hbL.size; try simp at fcbL ffbL fzbL fsbL hbL) | (go_at_call 12; refine (implAddLoad nm span wd dp wood bY 0 _ ls a t _ ((hOZ.below (show Below wL.heap.size wL _ from (by repeat (first | with_reducible exact Below.refl _ _ | with_reducible assumption | (with_reducible refine Below.drew ?_) | (with_reducible refine below_drewN ?_ _) | ((with_reducible refine Below.alloc ?_ ?_ _); rotate_left; (focus (first | omega | (simp; omega) | simp))) | ((with_reducible refine Below.setCell ?_ ?_ _); rotate_left; (focus (first | omega | (simp; omega) | simp))) | (refine Below.trans ?_ (Below.mono (by assumption) (by first | omega | (simp; omega) | simp))))))).at_ (fun _ => rfl)) hn1 hs).mono ?_; rintro e wF ⟨n0, v1, v2, v3, v4, A6, c6, xs6, code6, rfl, hPF, _hnm, hxlF, hO, hbF⟩; have hbU : Below w15.heap.size w15 wF := Below.trans (show Below w15.heap.size w15 _ from (by repeat (first | with_reducible exact Below.refl _ _ | with_reducible assumption | (with_reducible refine Below.drew ?_) | (with_reducible refine below_drewN ?_ _) | ((with_reducible refine Below.alloc ?_ ?_ _); rotate_left; (focus (first | omega | (simp; omega) | simp))) | ((with_reducible refine Below.setCell ?_ ?_ _); rotate_left; (focus (first | omega | (simp; omega) | simp))) | (refine Below.trans ?_ (Below.mono (by assumption) (by first | omega | (simp; omega) | simp)))))) (hbF.mono (by first | exact Nat.le_refl _ | (simp; done) | omega | (simp; omega))); have hzU := hbU.size; have hO2 : OwnL wF w15.heap.size _ xs6 := hO.mono (by first | exact Nat.le_refl _ | (simp; done) | omega | (simp; omega)); have fzF := hbF.size; (try simp at fzF); (first | (have QF := (hbF.block _ (by first | omega | (simp; omega))).trans QL; have QZ := bm_facts QF; obtain ⟨⟨z0, z1, z2, z3, z4, z5⟩, y0, y1, y2, y3, y4, y5⟩ := QZ) | (have QF := (hbF.block wL.heap.size (by simp)).trans (heap_alloc_new wL (.cells #[.string ⟨#[]⟩, .int .i64 0, .int .i64 0, .int .i64 0, .int .i64 0, .slice none 0 0] 30)); have QZ := bm_facts QF; obtain ⟨⟨z0, z1, z2, z3, z4, z5⟩, y0, y1, y2, y3, y4, y5⟩ := QZ) | skip); obtain ⟨fcbF, ffbF, fzbF⟩ := bfacts hbF (by first | exact Nat.le_refl _ | omega | (simp; omega) | simp); have fsbF := hbF.size; try simp at fcbF ffbF fzbF fsbF hbF))
            all_goals
              go_wp2_with fail
              go_meet
              (first | (with_reducible refine ⟨wF.heap.size, n0, v1, v2, v3, v4, A6, c6, xs6, code6, rfl, rfl, hPF, hxlF, by omega, ?_⟩; exact ⟨hide (heap_alloc_new _ _), hide (hO2.below (by repeat (first | with_reducible exact Below.refl _ _ | with_reducible assumption | (with_reducible refine Below.drew ?_) | (with_reducible refine below_drewN ?_ _) | ((with_reducible refine Below.alloc ?_ ?_ _); rotate_left; (focus (first | omega | (simp; omega) | simp))) | ((with_reducible refine Below.setCell ?_ ?_ _); rotate_left; (focus (first | omega | (simp; omega) | simp))) | (refine Below.trans ?_ (Below.mono (by assumption) (by first | omega | (simp; omega) | simp)))))), hide (by repeat (first | with_reducible exact Below.refl _ _ | with_reducible assumption | (with_reducible refine Below.drew ?_) | (with_reducible refine below_drewN ?_ _) | ((with_reducible refine Below.alloc ?_ ?_ _); rotate_left; (focus (first | omega | (simp; omega) | simp))) | ((with_reducible refine Below.setCell ?_ ?_ _); rotate_left; (focus (first | omega | (simp; omega) | simp))) | (refine Below.trans ?_ (Below.mono (by assumption) (by first | omega | (simp; omega) | simp)))))⟩) | (with_reducible refine ⟨w15.heap.size, n0, v1, v2, v3, v4, A6, c6, xs6, code6, rfl, rfl, hPF, hxlF, by omega, ?_⟩; exact ⟨hide (bm_set6 _ _ _ _ _ _ QF), hide (own_set6 _ _ _ _ _ _ hO2 QF (by decide)), hide (below_set6 _ _ _ _ _ _ hbU (by first | exact Nat.le_refl _ | omega))⟩) | (with_reducible refine ⟨wK.heap.size, n0, v1, v2, v3, v4, A6, c6, xs6, code6, rfl, rfl, hPF, hxlF, by omega, ?_⟩; exact ⟨hide (bm_set6 _ _ _ _ _ _ QF), hide (own_set6 _ _ _ _ _ _ hO2 QF (by decide)), hide (below_set6 _ _ _ _ _ _ hbU (by first | exact Nat.le_refl _ | omega))⟩) | (with_reducible refine ⟨wL.heap.size, n0, v1, v2, v3, v4, A6, c6, xs6, code6, rfl, rfl, hPF, hxlF, by omega, ?_⟩; exact ⟨hide (bm_set6 _ _ _ _ _ _ QF), hide (own_set6 _ _ _ _ _ _ hO2 QF (by decide)), hide (below_set6 _ _ _ _ _ _ hbU (by first | exact Nat.le_refl _ | omega))⟩))
          case rest =>
            obtain ⟨r14, m0, y1, y2, y3, y4, A14, c14, ys, code9, rfl, rfl, hP9, hyl, hr9, HC, HO, HB⟩ := hcut
            obtain ⟨w16, rfl⟩ : ∃ w16, w16 = wc := ⟨_, rfl⟩
            have hq := HP.out.symm.trans hP9
            simp only [Prod.mk.injEq] at hq
            obtain ⟨⟨rfl, rfl, rfl, rfl, rfl⟩, rfl, rfl⟩ := hq
            have H16 : Hid (BmAt w16 w15.heap.size w16.heap.size r14 #[.string n0, .int .i64 v1, .int .i64 v2, .int .i64 v3, .int .i64 v4, .slice A14 xs.length c14] (.slice A14 xs.length c14) xs) := hide ⟨HC.out, HO.out, fun g e => (HO.out.lt g e).2⟩
            have P16 := hide (P15.out.below HB.out)
            have G16 := hide (G15.out.below HB.out)
            have B16 := hide (B15.out.trans (HB.out.mono hzW))
            clear HC HO HB HKP hP9 hyl hr9 hzW B15 P15 G15
            have qp := P16.out.cell
            have hpl : r6 < w16.heap.size := (Array.getElem?_eq_some_iff.1 qp).1
            obtain ⟨⟨p0, p1, p2, p3, p4, p5⟩, _⟩ := bm_facts qp
            clear qp
            have qh := H16.out.cell
            have hhl : r14 < w16.heap.size := (Array.getElem?_eq_some_iff.1 qh).1
            obtain ⟨⟨h0, h1, h2, h3, h4, h5⟩, _⟩ := bm_facts qh
            clear qh
            go_wp2_with fail
            refine (lawseqBeam_same n0 v1 v2 v3 v4 _ _ _ _ xs _ (H16.out.at_ rfl (show Below w16.heap.size w16 _ from (by repeat (first | with_reducible exact Below.refl _ _ | with_reducible assumption | (with_reducible refine Below.drew ?_) | (with_reducible refine below_drewN ?_ _) | ((with_reducible refine Below.alloc ?_ ?_ _); rotate_left; (focus (first | omega | (simp; omega) | simp))) | ((with_reducible refine Below.setCell ?_ ?_ _); rotate_left; (focus (first | omega | (simp; omega) | simp))) | (refine Below.trans ?_ (Below.mono (by assumption) (by first | omega | (simp; omega) | simp))))))) (P16.out.at_ rfl (show Below w16.heap.size w16 _ from (by repeat (first | with_reducible exact Below.refl _ _ | with_reducible assumption | (with_reducible refine Below.drew ?_) | (with_reducible refine below_drewN ?_ _) | ((with_reducible refine Below.alloc ?_ ?_ _); rotate_left; (focus (first | omega | (simp; omega) | simp))) | ((with_reducible refine Below.setCell ?_ ?_ _); rotate_left; (focus (first | omega | (simp; omega) | simp))) | (refine Below.trans ?_ (Below.mono (by assumption) (by first | omega | (simp; omega) | simp))))))) hxl).mono ?_
            rintro e w17 ⟨rfl, hb⟩
            have P17 := hide (P16.out.below hb)
            have G17 := hide (G16.out.below hb)
            have B17 := hide (B16.out.trans (hb.mono (HBX.out _ B16.out).2.2))
            clear hb B16 P16 G16
            clear hpl p0 p1 p2 p3 p4 p5
            clear hhl h0 h1 h2 h3 h4 h5
            have qg := G17.out.cell
            have hgl : r9 < w17.heap.size := (Array.getElem?_eq_some_iff.1 qg).1
            obtain ⟨⟨g0, g1, g2, g3, g4, g5⟩, _⟩ := bm_facts qg
            clear qg
            go_wp2_with fail
            refine (lawsheldBeam n0 v1 v2 v3 v4 _ _ w7.heap.size xs.length 1 _ (G17.out.own.below (show Below w17.heap.size w17 _ from (by repeat (first | with_reducible exact Below.refl _ _ | with_reducible assumption | (with_reducible refine Below.drew ?_) | (with_reducible refine below_drewN ?_ _) | ((with_reducible refine Below.alloc ?_ ?_ _); rotate_left; (focus (first | omega | (simp; omega) | simp))) | ((with_reducible refine Below.setCell ?_ ?_ _); rotate_left; (focus (first | omega | (simp; omega) | simp))) | (refine Below.trans ?_ (Below.mono (by assumption) (by first | omega | (simp; omega) | simp))))))) hxl (by omega) (by omega)).mono ?_
            rintro e w18 ⟨rfl, hb⟩
            have P18 := hide (P17.out.below hb)
            have G18 := hide (G17.out.below hb)
            have B18 := hide (B17.out.trans (hb.mono (HBX.out _ B17.out).2.2))
            clear hb B17 P17 G17
            clear hgl g0 g1 g2 g3 g4 g5
            go_wp2_with fail
            go_ret
            exact ⟨rfl, HBW.out _ B18.out⟩
  · go_wp2_with fail
    go_ret
    exact ⟨rfl, HBW.out _ B1.out⟩
end Go.Proofs.Ytklmbgefdopifaa
