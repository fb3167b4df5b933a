/- The walk of the law of what reads a beam. Condition: the library's variables are laid (printed by genlrb.py). -/
import Derived.Test.YtobcjhbfkanakaaDoorRdBeam6
import Derived.Test.YtobcjhbfkanakaaDoorBeam2
import Derived.Deep.DeepCutAuto
namespace Go.Proofs.YtobcjhbfkanakaaDoor
open Go.RowKit Go.Lib

abbrev OwnL (w : World) (B : Nat) (v : Value) (xs : List LoadR) : Prop := Own encLoad 2 68 w B v xs
theorem own_neType {w : World} {B k : Nat} {v : Value} {ls : List LoadR} {cs : Array Value} {T : TypeId} {fr : Nat × Nat} (h : OwnL w B v ls) (hk : w.heap[k]? = some (.cells cs T fr)) (hT : T ≠ 68) : some k ≠ v.ownBlock := by
  intro q
  rcases h.2 with ⟨e, _⟩ | ⟨g, cap, cur, e, _, hc, _⟩
  · rw [e] at q
    cases q
  · rw [e] at q
    injection q with q
    subst q
    rw [hc] at hk
    injection hk with hk
    injection hk with h1 h2 h3
    exact hT h2.symm
theorem bm_facts {w : World} {b : Nat} {u0 u1 u2 u3 u4 u5 : Value} {T : TypeId} (h : w.heap[b]? = some (.cells #[u0, u1, u2, u3, u4, u5] T (0, 0))) : (w.cell? ⟨b, 0, none⟩ = some u0 ∧ w.cell? ⟨b, 1, none⟩ = some u1 ∧ w.cell? ⟨b, 2, none⟩ = some u2 ∧ w.cell? ⟨b, 3, none⟩ = some u3 ∧ w.cell? ⟨b, 4, none⟩ = some u4 ∧ w.cell? ⟨b, 5, none⟩ = some u5) ∧ w.frozen? ⟨b, 0, none⟩ = false ∧ w.frozen? ⟨b, 1, none⟩ = false ∧ w.frozen? ⟨b, 2, none⟩ = false ∧ w.frozen? ⟨b, 3, none⟩ = false ∧ w.frozen? ⟨b, 4, none⟩ = false ∧ w.frozen? ⟨b, 5, none⟩ = false := by
  simp [World.cell?, World.frozen?, h]
/-- A beam in a block, with a row of loads of its own. -/
structure BmAt (W : World) (B M r : Nat) (cs : Array Value) (v : Value) (ls : List LoadR) : Prop where
  cell : W.heap[r]? = some (.cells cs 45 (0, 0))
  own : OwnL W B v ls
  top : ∀ g, v.ownBlock = some g → g < M
theorem BmAt.below {W W' : World} {B M r : Nat} {cs : Array Value} {v : Value} {ls : List LoadR} (h : BmAt W B M r cs v ls) (hb : Below W.heap.size W W') : BmAt W' B M r cs v ls :=
  ⟨(hb.block r ((Array.getElem?_eq_some_iff.1 h.cell).1)).trans h.cell, h.own.below hb, h.top⟩
theorem BmAt.older {W W' : World} {B M r B' M' r' : Nat} {cs cs' : Array Value} {v v' : Value} {ls ls' : List LoadR} (h : BmAt W B M r cs v ls) (x : BmAt W B' M' r' cs' v' ls') (hg : W.grownBy W' v'.ownBlock) (hM : M ≤ B') : BmAt W' B M r cs v ls :=
  ⟨(hg.block r ((Array.getElem?_eq_some_iff.1 h.cell).1) (own_neType x.own h.cell (by decide))).trans h.cell, kept_older h.own h.top hg (fun k e => (x.own.lt k e).1) hM, h.top⟩
theorem BmAt.newer {W W' : World} {B M r B' M' r' : Nat} {cs cs' : Array Value} {v v' : Value} {ls ls' : List LoadR} (h : BmAt W B M r cs v ls) (x : BmAt W B' M' r' cs' v' ls') (hg : W.grownBy W' v'.ownBlock) (hM : M' ≤ B) : BmAt W' B M r cs v ls :=
  ⟨(hg.block r ((Array.getElem?_eq_some_iff.1 h.cell).1) (own_neType x.own h.cell (by decide))).trans h.cell, kept_newer h.own hg x.top hM, h.top⟩
theorem BmAt.marked {W W' : World} {B M r : Nat} {cs : Array Value} {v : Value} {ls ls' : List LoadR} (x : BmAt W B M r cs v ls) (hO : OwnL W' B v ls') (hg : W.grownBy W' v.ownBlock) : BmAt W' B M r cs v ls' :=
  ⟨(hg.block r ((Array.getElem?_eq_some_iff.1 x.cell).1) (own_neType x.own x.cell (by decide))).trans x.cell, hO, x.top⟩
theorem BmAt.grown {W0 W W' : World} {N B M r : Nat} {cs : Array Value} {v : Value} {ls : List LoadR} (x : BmAt W B M r cs v ls) (hg : W.grownBy W' v.ownBlock) (hB : Below N W0 W) (hN : N ≤ W.heap.size) (hNB : N ≤ B) : Below N W0 W' :=
  Below.grown hB hg hN fun k e => Nat.le_trans hNB (x.own.lt k e).1
theorem BmAt.at_ {W W' : World} {B M r n c : Nat} {cs : Array Value} {A : Option Addr} {ls : List LoadR} (x : BmAt W B M r cs (.slice A n c) ls) (hn : n = ls.length) (hb : Below W.heap.size W W') : SlAt encLoad 2 W' A ls := by
  subst hn
  exact (x.own.below hb).at_ (fun _ => rfl)
set_option maxRecDepth 100000 in
set_option maxHeartbeats 4000000 in
theorem lawReadBeam (s : ByteArray) (w : World) (hE : Env w) : Calls Tryd.prog 4 #[.string s] w fun e w' => e = .returned (.bool true) ∧ Below w.heap.size w w' := by
  have HE := hide hE
  clear hE
  by_cases h : 1048576 < s.size
  · have d : decide ((1048576 : Int) < (s.size : Int)) = true := by simp; omega
    go_enter Tryd.func4, Tryd.ntmps4
    go_wp2_with fail
    go_ret
    exact ⟨rfl, (by repeat (first | with_reducible exact Below.refl _ _ | with_reducible assumption | (with_reducible refine Below.drew ?_) | (with_reducible refine below_drewN ?_ _) | ((with_reducible refine Below.alloc ?_ ?_ _); rotate_left; (focus (first | omega | (simp; omega) | simp))) | ((with_reducible refine Below.setCell ?_ ?_ _); rotate_left; (focus (first | omega | (simp; omega) | simp))) | (refine Below.trans ?_ (Below.mono (by assumption) (by first | omega | (simp; omega) | simp)))))⟩
  have d : decide ((1048576 : Int) < (s.size : Int)) = false := by simp; omega
  have hl8 := bmV_len s.data.toList
  generalize hR : bmV s.data.toList = R at hl8
  generalize hO : bmOk s.data.toList = ok
  have HR := hide hR
  have HO := hide hO
  clear hR hO
  obtain ⟨nm, x1, x2, x3, x4, ls⟩ := R
  have hls : ls.length ≤ 1048576 := by simp only at hl8; omega
  clear hl8
  go_enter Tryd.func4, Tryd.ntmps4
  go_wp2_with fail
  refine (specReadBeam s _ (by omega)).mono ?_
  rintro e w1 ⟨A1, c1, he, hO1, hb1⟩
  rw [HR.out, HO.out] at he
  rw [HR.out] at hO1
  simp only at he hO1
  subst he
  have hz1 := hb1.size
  have P1 : Hid (BmAt (w1.alloc (.cells #[.string nm, .int .i64 x1, .int .i64 x2, .int .i64 x3, .int .i64 x4, .slice A1 ls.length c1] 45)) w.heap.size w1.heap.size w1.heap.size #[.string nm, .int .i64 x1, .int .i64 x2, .int .i64 x3, .int .i64 x4, .slice A1 ls.length c1] (.slice A1 ls.length c1) ls) := hide ⟨heap_alloc_new w1 _, hO1.below (by repeat (first | with_reducible exact Below.refl _ _ | with_reducible assumption | (with_reducible refine Below.drew ?_) | (with_reducible refine below_drewN ?_ _) | ((with_reducible refine Below.alloc ?_ ?_ _); rotate_left; (focus (first | omega | (simp; omega) | simp))) | ((with_reducible refine Below.setCell ?_ ?_ _); rotate_left; (focus (first | omega | (simp; omega) | simp))) | (refine Below.trans ?_ (Below.mono (by assumption) (by first | omega | (simp; omega) | simp))))), fun g e => (hO1.lt g e).2⟩
  have B1 := hide (hb1.alloc hz1 (.cells #[.string nm, .int .i64 x1, .int .i64 x2, .int .i64 x3, .int .i64 x4, .slice A1 ls.length c1] 45))
  clear hb1 hO1
  go_wp2_with fail
  generalize w1.alloc (.cells #[.string nm, .int .i64 x1, .int .i64 x2, .int .i64 x3, .int .i64 x4, .slice A1 ls.length c1] 45) = v1 at P1 B1 ⊢
  have zv1 := B1.out.size
  generalize w1.heap.size = r1 at *
  refine (implReadBeam s _ (HE.out.below B1.out) (by omega)).mono ?_
  rintro e w2 ⟨A2, c2, he, hO2, hb2⟩
  rw [HR.out, HO.out] at he
  rw [HR.out] at hO2
  simp only at he hO2
  subst he
  have hz2 := hb2.size
  have P2 := hide ((P1.out.below hb2).below (W' := w2.alloc (.cells #[.string nm, .int .i64 x1, .int .i64 x2, .int .i64 x3, .int .i64 x4, .slice A2 ls.length c2] 45)) (by repeat (first | with_reducible exact Below.refl _ _ | with_reducible assumption | (with_reducible refine Below.drew ?_) | (with_reducible refine below_drewN ?_ _) | ((with_reducible refine Below.alloc ?_ ?_ _); rotate_left; (focus (first | omega | (simp; omega) | simp))) | ((with_reducible refine Below.setCell ?_ ?_ _); rotate_left; (focus (first | omega | (simp; omega) | simp))) | (refine Below.trans ?_ (Below.mono (by assumption) (by first | omega | (simp; omega) | simp))))))
  have G2 : Hid (BmAt (w2.alloc (.cells #[.string nm, .int .i64 x1, .int .i64 x2, .int .i64 x3, .int .i64 x4, .slice A2 ls.length c2] 45)) v1.heap.size w2.heap.size w2.heap.size #[.string nm, .int .i64 x1, .int .i64 x2, .int .i64 x3, .int .i64 x4, .slice A2 ls.length c2] (.slice A2 ls.length c2) ls) := hide ⟨heap_alloc_new w2 _, hO2.below (by repeat (first | with_reducible exact Below.refl _ _ | with_reducible assumption | (with_reducible refine Below.drew ?_) | (with_reducible refine below_drewN ?_ _) | ((with_reducible refine Below.alloc ?_ ?_ _); rotate_left; (focus (first | omega | (simp; omega) | simp))) | ((with_reducible refine Below.setCell ?_ ?_ _); rotate_left; (focus (first | omega | (simp; omega) | simp))) | (refine Below.trans ?_ (Below.mono (by assumption) (by first | omega | (simp; omega) | simp))))), fun g e => (hO2.lt g e).2⟩
  have B2 := hide ((B1.out.trans (hb2.mono zv1)).alloc (by omega) (.cells #[.string nm, .int .i64 x1, .int .i64 x2, .int .i64 x3, .int .i64 x4, .slice A2 ls.length c2] 45))
  have hr1 : r1 < v1.heap.size := (Array.getElem?_eq_some_iff.1 P1.out.cell).1
  clear hb2 hO2 P1 B1
  have zu : w2.heap.size + 1 = (w2.alloc (.cells #[.string nm, .int .i64 x1, .int .i64 x2, .int .i64 x3, .int .i64 x4, .slice A2 ls.length c2] 45)).heap.size := by simp
  go_upto_region 5 with fail
  generalize w2.alloc (.cells #[.string nm, .int .i64 x1, .int .i64 x2, .int .i64 x3, .int .i64 x4, .slice A2 ls.length c2] 45) = v2 at P2 G2 B2 zu ⊢
  have zv2 := B2.out.size
  generalize w2.heap.size = r2 at *
  have qp := P2.out.cell
  have pl : r1 < v2.heap.size := (Array.getElem?_eq_some_iff.1 qp).1
  obtain ⟨⟨p0, p1, p2, p3, p4, p5⟩, _⟩ := bm_facts qp
  clear qp
  have qg := G2.out.cell
  have gl : r2 < v2.heap.size := (Array.getElem?_eq_some_iff.1 qg).1
  obtain ⟨⟨g0, g1, g2, g3, g4, g5⟩, _⟩ := bm_facts qg
  clear qg
  go_wp2_with fail
  refine (lawseqBeam_same nm x1 x2 x3 x4 _ _ _ _ ls _ (G2.out.at_ rfl (show Below v2.heap.size v2 _ from (by repeat (first | with_reducible exact Below.refl _ _ | with_reducible assumption | (with_reducible refine Below.drew ?_) | (with_reducible refine below_drewN ?_ _) | ((with_reducible refine Below.alloc ?_ ?_ _); rotate_left; (focus (first | omega | (simp; omega) | simp))) | ((with_reducible refine Below.setCell ?_ ?_ _); rotate_left; (focus (first | omega | (simp; omega) | simp))) | (refine Below.trans ?_ (Below.mono (by assumption) (by first | omega | (simp; omega) | simp))))))) (P2.out.at_ rfl (show Below v2.heap.size v2 _ from (by repeat (first | with_reducible exact Below.refl _ _ | with_reducible assumption | (with_reducible refine Below.drew ?_) | (with_reducible refine below_drewN ?_ _) | ((with_reducible refine Below.alloc ?_ ?_ _); rotate_left; (focus (first | omega | (simp; omega) | simp))) | ((with_reducible refine Below.setCell ?_ ?_ _); rotate_left; (focus (first | omega | (simp; omega) | simp))) | (refine Below.trans ?_ (Below.mono (by assumption) (by first | omega | (simp; omega) | simp))))))) hls).mono ?_
  rintro e w3 ⟨rfl, hb⟩
  have P3 := hide (P2.out.below hb)
  have G3 := hide (G2.out.below hb)
  have B3 := hide (B2.out.trans (hb.mono zv2))
  have zv3 := B3.out.size
  clear hb B2 P2 G2
  clear pl p0 p1 p2 p3 p4 p5 gl g0 g1 g2 g3 g4 g5
  have qg := G3.out.cell
  have gl : r2 < w3.heap.size := (Array.getElem?_eq_some_iff.1 qg).1
  obtain ⟨⟨g0, g1, g2, g3, g4, g5⟩, _⟩ := bm_facts qg
  clear qg
  go_wp2_with fail
  refine (lawsmarkBeam nm x1 x2 x3 x4 _ _ v1.heap.size ls 1 _ (G3.out.own.below (show Below w3.heap.size w3 _ from (by repeat (first | with_reducible exact Below.refl _ _ | with_reducible assumption | (with_reducible refine Below.drew ?_) | (with_reducible refine below_drewN ?_ _) | ((with_reducible refine Below.alloc ?_ ?_ _); rotate_left; (focus (first | omega | (simp; omega) | simp))) | ((with_reducible refine Below.setCell ?_ ?_ _); rotate_left; (focus (first | omega | (simp; omega) | simp))) | (refine Below.trans ?_ (Below.mono (by assumption) (by first | omega | (simp; omega) | simp))))))) hls (by omega) (by omega)).mono ?_
  rintro e w4 ⟨rfl, hO, hg⟩
  have P4 := hide (P3.out.older G3.out hg (by omega))
  have G4 := hide (G3.out.marked hO hg)
  have B4 := hide (G3.out.grown hg B3.out zv3 zv1)
  have zv4 := B4.out.size
  clear hO hg P3 G3 B3
  clear gl g0 g1 g2 g3 g4 g5
  have qg := G4.out.cell
  have gl : r2 < w4.heap.size := (Array.getElem?_eq_some_iff.1 qg).1
  obtain ⟨⟨g0, g1, g2, g3, g4, g5⟩, _⟩ := bm_facts qg
  clear qg
  go_wp2_with fail
  refine (lawsheldBeam nm x1 x2 x3 x4 _ _ v1.heap.size ls.length 1 _ (G4.out.own.below (show Below w4.heap.size w4 _ from (by repeat (first | with_reducible exact Below.refl _ _ | with_reducible assumption | (with_reducible refine Below.drew ?_) | (with_reducible refine below_drewN ?_ _) | ((with_reducible refine Below.alloc ?_ ?_ _); rotate_left; (focus (first | omega | (simp; omega) | simp))) | ((with_reducible refine Below.setCell ?_ ?_ _); rotate_left; (focus (first | omega | (simp; omega) | simp))) | (refine Below.trans ?_ (Below.mono (by assumption) (by first | omega | (simp; omega) | simp))))))) hls (by omega) (by omega)).mono ?_
  rintro e w5 ⟨rfl, hb⟩
  have P5 := hide (P4.out.below hb)
  have G5 := hide (G4.out.below hb)
  have B5 := hide (B4.out.trans (hb.mono zv4))
  have zv5 := B5.out.size
  clear hb B4 P4 G4
  clear gl g0 g1 g2 g3 g4 g5
  go_wp2_with fail
  refine (implReadBeam s _ (HE.out.below B5.out) (by omega)).mono ?_
  rintro e w6 ⟨A6, c6, he, hO6, hb⟩
  rw [HR.out, HO.out] at he
  rw [HR.out] at hO6
  simp only at he hO6
  subst he
  have hz6 := hb.size
  have P6 := hide ((P5.out.below hb).below (W' := w6.alloc (.cells #[.string nm, .int .i64 x1, .int .i64 x2, .int .i64 x3, .int .i64 x4, .slice A6 ls.length c6] 45)) (by repeat (first | with_reducible exact Below.refl _ _ | with_reducible assumption | (with_reducible refine Below.drew ?_) | (with_reducible refine below_drewN ?_ _) | ((with_reducible refine Below.alloc ?_ ?_ _); rotate_left; (focus (first | omega | (simp; omega) | simp))) | ((with_reducible refine Below.setCell ?_ ?_ _); rotate_left; (focus (first | omega | (simp; omega) | simp))) | (refine Below.trans ?_ (Below.mono (by assumption) (by first | omega | (simp; omega) | simp))))))
  have G6 := hide ((G5.out.below hb).below (W' := w6.alloc (.cells #[.string nm, .int .i64 x1, .int .i64 x2, .int .i64 x3, .int .i64 x4, .slice A6 ls.length c6] 45)) (by repeat (first | with_reducible exact Below.refl _ _ | with_reducible assumption | (with_reducible refine Below.drew ?_) | (with_reducible refine below_drewN ?_ _) | ((with_reducible refine Below.alloc ?_ ?_ _); rotate_left; (focus (first | omega | (simp; omega) | simp))) | ((with_reducible refine Below.setCell ?_ ?_ _); rotate_left; (focus (first | omega | (simp; omega) | simp))) | (refine Below.trans ?_ (Below.mono (by assumption) (by first | omega | (simp; omega) | simp))))))
  have H6 : Hid (BmAt (w6.alloc (.cells #[.string nm, .int .i64 x1, .int .i64 x2, .int .i64 x3, .int .i64 x4, .slice A6 ls.length c6] 45)) w5.heap.size w6.heap.size w6.heap.size #[.string nm, .int .i64 x1, .int .i64 x2, .int .i64 x3, .int .i64 x4, .slice A6 ls.length c6] (.slice A6 ls.length c6) ls) := hide ⟨heap_alloc_new w6 _, hO6.below (by repeat (first | with_reducible exact Below.refl _ _ | with_reducible assumption | (with_reducible refine Below.drew ?_) | (with_reducible refine below_drewN ?_ _) | ((with_reducible refine Below.alloc ?_ ?_ _); rotate_left; (focus (first | omega | (simp; omega) | simp))) | ((with_reducible refine Below.setCell ?_ ?_ _); rotate_left; (focus (first | omega | (simp; omega) | simp))) | (refine Below.trans ?_ (Below.mono (by assumption) (by first | omega | (simp; omega) | simp))))), fun g e => (hO6.lt g e).2⟩
  have B6 := hide ((B5.out.trans (hb.mono zv5)).alloc (by omega) (.cells #[.string nm, .int .i64 x1, .int .i64 x2, .int .i64 x3, .int .i64 x4, .slice A6 ls.length c6] 45))
  clear hb hO6 P5 G5 B5
  go_upto_region 16 with fail
  generalize w6.alloc (.cells #[.string nm, .int .i64 x1, .int .i64 x2, .int .i64 x3, .int .i64 x4, .slice A6 ls.length c6] 45) = v6 at P6 G6 H6 B6 ⊢
  have zv6 := B6.out.size
  generalize w6.heap.size = r6 at *
  have qp := P6.out.cell
  have pl : r1 < v6.heap.size := (Array.getElem?_eq_some_iff.1 qp).1
  obtain ⟨⟨p0, p1, p2, p3, p4, p5⟩, _⟩ := bm_facts qp
  clear qp
  have qh := H6.out.cell
  have hl : r6 < v6.heap.size := (Array.getElem?_eq_some_iff.1 qh).1
  obtain ⟨⟨h0, h1, h2, h3, h4, h5⟩, _⟩ := bm_facts qh
  clear qh
  go_wp2_with fail
  refine (lawseqBeam_same nm x1 x2 x3 x4 _ _ _ _ ls _ (H6.out.at_ rfl (show Below v6.heap.size v6 _ from (by repeat (first | with_reducible exact Below.refl _ _ | with_reducible assumption | (with_reducible refine Below.drew ?_) | (with_reducible refine below_drewN ?_ _) | ((with_reducible refine Below.alloc ?_ ?_ _); rotate_left; (focus (first | omega | (simp; omega) | simp))) | ((with_reducible refine Below.setCell ?_ ?_ _); rotate_left; (focus (first | omega | (simp; omega) | simp))) | (refine Below.trans ?_ (Below.mono (by assumption) (by first | omega | (simp; omega) | simp))))))) (P6.out.at_ rfl (show Below v6.heap.size v6 _ from (by repeat (first | with_reducible exact Below.refl _ _ | with_reducible assumption | (with_reducible refine Below.drew ?_) | (with_reducible refine below_drewN ?_ _) | ((with_reducible refine Below.alloc ?_ ?_ _); rotate_left; (focus (first | omega | (simp; omega) | simp))) | ((with_reducible refine Below.setCell ?_ ?_ _); rotate_left; (focus (first | omega | (simp; omega) | simp))) | (refine Below.trans ?_ (Below.mono (by assumption) (by first | omega | (simp; omega) | simp))))))) hls).mono ?_
  rintro e w7 ⟨rfl, hb⟩
  have G7 := hide (G6.out.below hb)
  have B7 := hide (B6.out.trans (hb.mono zv6))
  have zv7 := B7.out.size
  clear hb B6 G6
  clear pl p0 p1 p2 p3 p4 p5 hl h0 h1 h2 h3 h4 h5
  clear P6 H6
  have qg := G7.out.cell
  have gl : r2 < w7.heap.size := (Array.getElem?_eq_some_iff.1 qg).1
  obtain ⟨⟨g0, g1, g2, g3, g4, g5⟩, _⟩ := bm_facts qg
  clear qg
  go_wp2_with fail
  refine (lawsheldBeam nm x1 x2 x3 x4 _ _ v1.heap.size ls.length 1 _ (G7.out.own.below (show Below w7.heap.size w7 _ from (by repeat (first | with_reducible exact Below.refl _ _ | with_reducible assumption | (with_reducible refine Below.drew ?_) | (with_reducible refine below_drewN ?_ _) | ((with_reducible refine Below.alloc ?_ ?_ _); rotate_left; (focus (first | omega | (simp; omega) | simp))) | ((with_reducible refine Below.setCell ?_ ?_ _); rotate_left; (focus (first | omega | (simp; omega) | simp))) | (refine Below.trans ?_ (Below.mono (by assumption) (by first | omega | (simp; omega) | simp))))))) hls (by omega) (by omega)).mono ?_
  rintro e w8 ⟨rfl, hb⟩
  have G8 := hide (G7.out.below hb)
  have B8 := hide (B7.out.trans (hb.mono zv7))
  have zv8 := B8.out.size
  clear hb B7 G7
  clear gl g0 g1 g2 g3 g4 g5
  go_wp2_with fail
  go_ret
  exact ⟨rfl, B8.out⟩
end Go.Proofs.YtobcjhbfkanakaaDoor
