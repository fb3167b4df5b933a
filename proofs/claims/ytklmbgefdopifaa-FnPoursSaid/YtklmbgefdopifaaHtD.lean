/- What the law of schedules draws: a row of pours. -/
import Derived.Test.YtklmbgefdopifaaPr2
import Derived.Test.YtklmbgefdopifaaSrc2
import Derived.Deep.DeepCutAuto
import Derived.Deep.RegionLaw
namespace Go.Proofs.Ytklmbgefdopifaa
open Go.RowKit

theorem infoA_Pour : (Try.prog.info? 93).map (fun i => (i.zero, i.size, i.bytes)) = some (some (.agg #[.string ByteArray.empty, .int .i64 0, .int .i64 0, .int .i64 0]), 4, 40) := by kernel_rfl
theorem one_Pour (x : PourR) : ∀ u ∈ encPour x, u.oneCell' = true := by intro u hu; simp [encPour] at hu; rcases hu with rfl | rfl | rfl | rfl <;> rfl
set_option maxRecDepth 100000 in
theorem wpList_appPour {w : World} {ops : Array Oper} {rest : List Oper} {o : Oper} {a : Act} {Q : Exit → Act → World → Prop} (hgd : o.guard = none) (s x : Operand) (ho : o.op = .call { callee := .builtin .append, args := #[s, x], argTypes := #[45, 45] }) (B : Nat) {v : Value} {xs : List PourR} (hs : a.eval s = v)
    (hown : Own encPour 4 93 w B v xs) {y0 : ByteArray} {y1 : Int} {y2 : Int} {y3 : Int} {b : Nat} (hx : a.eval x = .slice (some ⟨b, 0, none⟩) 1 1) (hn : xs.length ≤ 1048576) (hB : B ≤ w.heap.size)
    (h : ∀ (A : Option Addr) (c : Nat) (w' : World), Own encPour 4 93 w' B (.slice A (xs.length + 1) c) (xs ++ [⟨y0, y1, y2, y3⟩]) → Below B w w' → w.grownBy w' v.ownBlock → wpList Try.prog ops Q rest (a.put o.dst (.slice A (xs.length + 1) c)) w') (hbk : b = w.heap.size := by first | rfl | simp) : wpList Try.prog ops Q (o :: rest) a (w.alloc (.cells #[.string y0, .int .i64 y1, .int .i64 y2, .int .i64 y3] 93)) := by
  subst hbk
  obtain ⟨i0, hi, hz0, hz1, hz2⟩ := info_parts infoA_Pour
  have hb0 : Below w.heap.size w (w.alloc (.cells #[.string y0, .int .i64 y1, .int .i64 y2, .int .i64 y3] 93)) := (Below.refl _ _).alloc (Nat.le_refl _) _
  refine wpList_app Try.underlying45 hi hz0 hz1 hz2 rfl (by omega) (by omega) (fun _ => rfl) hgd s x ho B hs (hown.below hb0) ⟨y0, y1, y2, y3⟩ (one_Pour _) hx (fun j u hj => ?_) hn (by simp; omega) fun A c w' h1 h2 h3 => h A c w' h1 ((hb0.mono hB).trans h2) (grown_trans (grown_of_below hb0 _) h3)
  match j, hj with
  | 0, hj => injection hj with hj; subst hj; simp [Addr.add]
  | 1, hj => injection hj with hj; subst hj; simp [Addr.add]
  | 2, hj => injection hj with hj; subst hj; simp [Addr.add]
  | 3, hj => injection hj with hj; subst hj; simp [Addr.add]
/-- The names of pours that the reference draws. -/
def nmP : List ByteArray := [⟨#[97]⟩, ⟨#[98]⟩, ⟨#[99]⟩, ⟨#[100]⟩]
/-- Pours as the reference draws them. -/
def DrawnP (xs : List PourR) : Prop := ∀ (k : Nat) (h : k < xs.length), (k < nmP.length ∧ xs[k].nm = nmP.getD k ⟨#[]⟩) ∧ (1 ≤ xs[k].mass ∧ xs[k].mass ≤ 9000) ∧ 0 ≤ xs[k].rdy ∧ xs[k].rdy ≤ xs[k].due ∧ xs[k].due ≤ 10000
theorem DrawnP.snoc {xs : List PourR} {x : PourR} (h : DrawnP xs) (hk : xs.length < 4) (hn : x.nm = nmP.getD xs.length ⟨#[]⟩) (h1 : 1 ≤ x.mass) (h2 : x.mass ≤ 9000) (h3 : 0 ≤ x.rdy) (h4 : x.rdy ≤ x.due) (h5 : x.due ≤ 10000) : DrawnP (xs ++ [x]) := by
  intro k hl
  by_cases hk' : k < xs.length
  · rw [List.getElem_append_left hk']; exact h k hk'
  · have e : k = xs.length := by simp at hl; omega
    subst e
    rw [List.getElem_append_right (Nat.le_refl _)]
    simp only [Nat.sub_self, List.getElem_cons_zero]
    exact ⟨⟨hk, hn⟩, ⟨h1, h2⟩, h3, h4, h5⟩
theorem nmP_facts : ∀ k : Fin 4, nameB (nmP.getD k ⟨#[]⟩).data.toList = true ∧ (nmP.getD k ⟨#[]⟩).size ≤ 100 ∧ (0 < k.val → sle (nmP.getD k ⟨#[]⟩) (nmP.getD (k.val - 1) ⟨#[]⟩) = false) := by
  intro ⟨k, hk⟩
  unfold nameB sle
  simp only [ByteArray.toList_eq]
  revert k
  decide
theorem DrawnP.rows {xs : List PourR} (h : DrawnP xs) (hl : xs.length ≤ 4) : rowsB vPourR PourR.nm 12 xs = true ∧ ∀ x ∈ xs, x.nm.size ≤ 100 := by
  refine ⟨?_, fun x hx => ?_⟩
  · rw [rowsB_fin]
    · simp; omega
    · rintro k hk ⟨_, a | ⟨h0, a⟩⟩
      · obtain ⟨⟨b1, b2⟩, ⟨b3, b4⟩, b5, b6, b7⟩ := h k hk
        have := (nmP_facts ⟨k, by omega⟩).1
        have e : vPourR xs[k] = true := by
          show vPour xs[k].nm xs[k].mass xs[k].rdy xs[k].due = true
          unfold vPour
          rw [b2]
          simp only [this, Bool.true_and]
          unfold inB; simp; omega
        rw [e] at a; cases a
      · have b2 := (h k hk).1.2
        have c2 := (h (k - 1) (by omega)).1.2
        have := (nmP_facts ⟨k, by omega⟩).2.2 h0
        rw [b2, c2, this] at a; cases a
  · obtain ⟨k, hk, rfl⟩ := List.getElem_of_mem hx
    rw [(h k hk).1.2]
    exact (nmP_facts ⟨k, by omega⟩).2.1
theorem heap_setD {w : World} {b j : Nat} {vs : Array Value} {T : TypeId} (v : Value) (h : w.heap[b]? = some (.cells vs T (0, 0))) : (w.setCell ⟨b, j, none⟩ v).heap[b]? = some (.cells (vs.setIfInBounds j v) T (0, 0)) := by
  simp [World.setCell, Array.getElem?_modify, h]
theorem heap_set4 {w : World} {b : Nat} {u0 u1 u2 u3 : Value} {T : TypeId} (v0 v1 v2 v3 : Value) (h : w.heap[b]? = some (.cells #[u0, u1, u2, u3] T (0, 0))) : ((((w.setCell ⟨b, 0, none⟩ v0).setCell ⟨b, 1, none⟩ v1).setCell ⟨b, 2, none⟩ v2).setCell ⟨b, 3, none⟩ v3).heap[b]? = some (.cells #[v0, v1, v2, v3] T (0, 0)) := by
  simpa using heap_setD v3 (heap_setD v2 (heap_setD v1 (heap_setD v0 h (j := 0)) (j := 1)) (j := 2)) (j := 3)
theorem Src.setD {w : World} {B b N R : Nat} (h : Src w B b N) (hR : B ≤ R) (hne : R ≠ b) (j : Nat) (v : Value) : Src (w.setCell ⟨R, j, none⟩ v) B b N :=
  h.kept (grown_set (grown_refl _ _) j v) ((Below.refl _ _).setCell hR v) (by simpa using Ne.symm hne)
theorem grown_own {a b c : World} {row r2 : Option Nat} (h : a.grownBy b row) (k : b.grownBy c r2) (hr : ∀ g, r2 = some g → a.heap.size ≤ g) : a.grownBy c row :=
  ⟨k.os.trans h.os, k.tape.trans h.tape, k.output.trans h.output, Nat.le_trans h.size k.size, fun i hi hn => (k.block i (Nat.lt_of_lt_of_le hi h.size) (fun e => by have := hr i e.symm; omega)).trans (h.block i hi hn)⟩
theorem grown_cell {W w' : World} {b k j : Nat} (hg : W.grownBy w' (some b)) (hk : k < W.heap.size) (hne : k ≠ b) : w'.cell? ⟨k, j, none⟩ = W.cell? ⟨k, j, none⟩ := World.cell?_of_block (a := ⟨k, j, none⟩) (hg.block k hk (by simpa using hne))
theorem grown_frozen {W w' : World} {b k j : Nat} (hg : W.grownBy w' (some b)) (hk : k < W.heap.size) (hne : k ≠ b) : w'.frozen? ⟨k, j, none⟩ = W.frozen? ⟨k, j, none⟩ := World.frozen?_of_block (a := ⟨k, j, none⟩) (hg.block k hk (by simpa using hne))
set_option maxRecDepth 100000 in
set_option maxHeartbeats 4000000 in
theorem specl17Draw (B b N : Nat) (w : World) (h : Src w B b N) (hN : N ≤ 500) :
    Calls Try.prog 65 #[.pointer (some ⟨b, 0, none⟩)] w fun e w' => ∃ (A : Option Addr) (c : Nat) (xs : List PourR), e = .returned (.slice A xs.length c) ∧ xs.length ≤ 4 ∧ DrawnP xs ∧ SlAt encPour 4 w' A xs ∧ (∀ g o, A = some ⟨g, o, none⟩ → w.heap.size ≤ g) ∧ Src w' B b (N + 100) ∧ Below B w w' ∧ w.grownBy w' (some b) := by
  have HS := hide h
  have hl := h.lt
  have h0 := h.1
  clear h
  have hnm := slat_new (enc := encS) (sz := 1) (fun _ => rfl) w nmP #[.string ⟨#[97]⟩, .string ⟨#[98]⟩, .string ⟨#[99]⟩, .string ⟨#[100]⟩] 9 rfl
  have HNM := hide hnm
  clear hnm
  go_enter Try.func65, Try.ntmps65
  go_wp2_with fail
  refine (srcPick B b N _ _ (HS.out.below (by repeat (first | with_reducible exact Below.refl _ _ | with_reducible assumption | (with_reducible refine Below.drew ?_) | (with_reducible refine below_drewN ?_ _) | ((with_reducible refine Below.alloc ?_ ?_ _); rotate_left; (focus (first | omega | (simp; omega) | simp))) | ((with_reducible refine Below.setCell ?_ ?_ _); rotate_left; (focus (first | omega | (simp; omega) | simp))) | (refine Below.trans ?_ (Below.mono (by assumption) (by first | omega | (simp; omega) | simp)))))) (by omega) (by omega)).mono ?_
  rintro e w1 ⟨r, rfl, p1, q1, hS, hb, hg⟩
  have q1' := q1 (by omega)
  obtain ⟨k1, rfl⟩ := Int.eq_ofNat_of_zero_le p1
  have hz1 := hg.size
  simp at hz1
  have HN1 := hide ((SlAt.grown HNM.out hg (fun b2 off e q => by injection e with e; injection e with e _; injection q with q; omega)).below (w' := w1.alloc (.cells #[] 93)) ((Below.refl _ _).alloc (Nat.le_refl _) _))
  have HO := hide (own_made (enc := encPour) (sz := 4) (T := 93) (B := w.heap.size + 1) w1 rfl (by omega))
  have HSr := hide (hS.below (w' := w1.alloc (.cells #[] 93)) ((Below.refl _ _).alloc (Nat.le_refl _) _))
  have HB := hide ((show Below B w w1 from Below.trans (show Below B w _ from (by repeat (first | with_reducible exact Below.refl _ _ | with_reducible assumption | (with_reducible refine Below.drew ?_) | (with_reducible refine below_drewN ?_ _) | ((with_reducible refine Below.alloc ?_ ?_ _); rotate_left; (focus (first | omega | (simp; omega) | simp))) | ((with_reducible refine Below.setCell ?_ ?_ _); rotate_left; (focus (first | omega | (simp; omega) | simp))) | (refine Below.trans ?_ (Below.mono (by assumption) (by first | omega | (simp; omega) | simp)))))) hb).alloc (by omega) (.cells #[] 93))
  have GK := hide (grown_alloc (grown_trans (grown_alloc (grown_refl w _) _) hg) (.cells #[] 93))
  clear q1 hS hb hg HS HNM
  go_wp2_with fail
  go_loopw [6, 5] (fun v o wr => ∃ (k : Nat) (A : Option Addr) (c : Nat) (xs : List PourR), v = .int .i64 k ∧ o = .slice A xs.length c ∧ k ≤ k1 ∧ xs.length = k ∧ Hid (DrawnP xs) ∧ Hid (Src wr B b (N + 2 + 6 * k)) ∧ Hid (Own encPour 4 93 wr (w.heap.size + 1) (.slice A xs.length c) xs) ∧ Hid (SlAt encS 1 wr (some ⟨w.heap.size, 0, none⟩) nmP) ∧ Hid (Below B w wr) ∧ Hid (w.grownBy wr (some b))) (fun v _ _ => k1 - (intOf v).toNat)
  case atStart => exact ⟨0, _, _, [], rfl, rfl, by omega, rfl, hide (fun k hk => by simp at hk), HSr, HO, HN1, HB, GK⟩
  case round =>
    clear HO HSr HB GK HN1
    obtain ⟨k, A, c, xs, rfl, rfl, hk, hkl, HD, HS, HO, HN, HB, GK⟩ := hrel
    have HKL := hide hkl
    clear hkl
    have hzr := GK.out.size
    by_cases hlt : k < k1
    · have hk7 : k < 4 := by omega
      have hzs : b < wr.heap.size := HS.out.lt
      obtain ⟨g, off, eg, hgl, hc⟩ := HN.out k (by simp [nmP]; omega)
      injection eg with eg; injection eg with eg1 eg2
      subst eg1; subst eg2
      have hc0 := hc 0 _ rfl
      simp only [Nat.zero_add, Nat.add_zero, Nat.mul_one] at hc0
      have hnk : nmP[k]'(by simp [nmP]; omega) = nmP.getD k ⟨#[]⟩ := by rw [List.getD_eq_getElem?_getD, List.getElem?_eq_getElem (by simp [nmP]; omega)]; rfl
      rw [hnk] at hc0
      clear hnk hc
      have hkn : (k : Int) < 4 := by omega
      obtain ⟨nk, hnk⟩ : ∃ nk, nk = nmP.getD k ⟨#[]⟩ := ⟨_, rfl⟩
      rw [← hnk] at hc0
      have HNK := hide hnk
      clear hnk
      go_upto_region 7 with fail
      go_cut [7] (fun s7 wx => ∃ (q : Nat) (m y : Int), s7 = .pointer (some ⟨q, 0, none⟩) ∧ wr.heap.size ≤ q ∧ 1 ≤ m ∧ m ≤ 9000 ∧ 0 ≤ y ∧ y ≤ 590 ∧ Hid (wx.heap[q]? = some (.cells #[.string nk, .int .i64 m, .int .i64 y, .int .i64 0] 93 (0, 0))) ∧ Hid (Src wx B b (N + 6 + 6 * k)) ∧ Hid (Below B wr wx) ∧ Hid (wr.grownBy wx (some b)))
      case first =>
        have hwb : wr.heap.size ≠ b := by omega
        have hwb0 : w.heap.size ≠ b := by omega
        have hgl2 : w.heap.size < wr.heap.size + 1 := by omega
        go_region_law (first | (go_simp; go_at_call 66; with_reducible refine (srcPick B b (N + 4 + 6 * k) 60 _ ((hS3.more (N' := N + 4 + 6 * k) (by omega)).below (by first | exact Below.refl _ _ | exact (Below.refl _ _).drew | exact (by repeat (first | with_reducible exact Below.refl _ _ | with_reducible assumption | (with_reducible refine Below.drew ?_) | (with_reducible refine below_drewN ?_ _) | ((with_reducible refine Below.alloc ?_ ?_ _); rotate_left; (focus (first | omega | (simp; omega) | simp))) | ((with_reducible refine Below.setCell ?_ ?_ _); rotate_left; (focus (first | omega | (simp; omega) | simp))) | (refine Below.trans ?_ (Below.mono (by assumption) (by first | omega | (simp; omega) | simp))))))) (by omega) (by omega)).mono ?_; rintro e w4 ⟨r2, rfl, p4, q4, hS4, hb4, hg4⟩; have q4' := q4 (by omega); have T4 := (fun (k : Nat) (h : k < _) => Nat.lt_of_lt_of_le h hg4.size); have s4 := hg4.size; (try simp at s4); have n4 : w4.heap.size ≠ b := (by omega); have hc4 : w4.cell? ⟨w.heap.size, k, none⟩ = some (.string nk) := (grown_cell hg4 (by first | exact g3 | (simp; omega)) (by omega)).trans (by first | exact hc3 | (simp; done) | (go_simp; done)); have F4 := (fun (k j : Nat) (h : k < _) (hne : k ≠ b) => grown_cell (j := j) hg4 h hne); have Z4 := (fun (k j : Nat) (h : k < _) (hne : k ≠ b) => grown_frozen (j := j) hg4 h hne)) | (go_simp; go_at_call 66; with_reducible refine (srcPick B b (N + 2 + 6 * k) 90 _ (HS.out.below (by first | exact Below.refl _ _ | exact (Below.refl _ _).drew | exact (by repeat (first | with_reducible exact Below.refl _ _ | with_reducible assumption | (with_reducible refine Below.drew ?_) | (with_reducible refine below_drewN ?_ _) | ((with_reducible refine Below.alloc ?_ ?_ _); rotate_left; (focus (first | omega | (simp; omega) | simp))) | ((with_reducible refine Below.setCell ?_ ?_ _); rotate_left; (focus (first | omega | (simp; omega) | simp))) | (refine Below.trans ?_ (Below.mono (by assumption) (by first | omega | (simp; omega) | simp))))))) (by omega) (by omega)).mono ?_; rintro e w3 ⟨r, rfl, p3, q3, hS3, hb3, hg3⟩; have q3' := q3 (by omega); have T3 := (fun (k : Nat) (h : k < _) => Nat.lt_of_lt_of_le h hg3.size); have s3 := hg3.size; (try simp at s3); have n3 : w3.heap.size ≠ b := (by omega); have g3 : w.heap.size < w3.heap.size := (by omega); have g3' : w.heap.size < w3.heap.size + 1 := (by omega); have hc3 : w3.cell? ⟨w.heap.size, k, none⟩ = some (.string nk) := (grown_cell hg3 (by first | exact hgl | (simp; omega)) (by omega)).trans (by first | exact hc0 | (simp; done) | (go_simp; done)); have F3 := (fun (k j : Nat) (h : k < _) (hne : k ≠ b) => grown_cell (j := j) hg3 h hne); have Z3 := (fun (k j : Nat) (h : k < _) (hne : k ≠ b) => grown_frozen (j := j) hg3 h hne)))
        all_goals
          have k0 : IntKind.i64.wrap (1 + r) = 1 + r := IntWalk.i64_in _ (by omega)
          have k2 : IntKind.i64.wrap (100 * (1 + r)) = 100 * (1 + r) := IntWalk.i64_in _ (by omega)
          have k3 : IntKind.i64.wrap (10 * r2) = 10 * r2 := IntWalk.i64_in _ (by omega)
          simp only [k0, k2, k3]
          have hBw : B ≤ wr.heap.size := by omega
          have HB3 : Below B wr w3 := Below.trans (show Below B wr _ from (by repeat (first | with_reducible exact Below.refl _ _ | with_reducible assumption | (with_reducible refine Below.drew ?_) | (with_reducible refine below_drewN ?_ _) | ((with_reducible refine Below.alloc ?_ ?_ _); rotate_left; (focus (first | omega | (simp; omega) | simp))) | ((with_reducible refine Below.setCell ?_ ?_ _); rotate_left; (focus (first | omega | (simp; omega) | simp))) | (refine Below.trans ?_ (Below.mono (by assumption) (by first | omega | (simp; omega) | simp)))))) hb3
          have HBC : Below B wr w4 := Below.trans (show Below B wr _ from (by repeat (first | with_reducible exact Below.refl _ _ | with_reducible assumption | (with_reducible refine Below.drew ?_) | (with_reducible refine below_drewN ?_ _) | ((with_reducible refine Below.alloc ?_ ?_ _); rotate_left; (focus (first | omega | (simp; omega) | simp))) | ((with_reducible refine Below.setCell ?_ ?_ _); rotate_left; (focus (first | omega | (simp; omega) | simp))) | (refine Below.trans ?_ (Below.mono (by assumption) (by first | omega | (simp; omega) | simp)))))) hb4
          have G3 : wr.grownBy w3 (some b) := grown_trans (grown_of_below (show Below wr.heap.size wr _ from (by repeat (first | with_reducible exact Below.refl _ _ | with_reducible assumption | (with_reducible refine Below.drew ?_) | (with_reducible refine below_drewN ?_ _) | ((with_reducible refine Below.alloc ?_ ?_ _); rotate_left; (focus (first | omega | (simp; omega) | simp))) | ((with_reducible refine Below.setCell ?_ ?_ _); rotate_left; (focus (first | omega | (simp; omega) | simp))) | (refine Below.trans ?_ (Below.mono (by assumption) (by first | omega | (simp; omega) | simp)))))) (some b)) hg3
          have GKC : wr.grownBy w4 (some b) := by first | exact grown_trans G3 hg4 | exact grown_trans (grown_alloc G3 _) hg4
          have hzz := GKC.size
          go_wp2_with fail
          go_meet
          first
            | (with_reducible refine ⟨w4.heap.size, 100 * (1 + r), 10 * r2, rfl, hzz, by omega, by omega, by omega, by omega, ?_⟩
               exact ⟨hide (heap_alloc_new _ _), hide ((hS4.below ((Below.refl _ _).alloc (Nat.le_refl _) _)).more (by omega)), hide (HBC.alloc (by omega) _), hide (grown_alloc GKC _)⟩)
            | (with_reducible refine ⟨w3.heap.size, 100 * (1 + r), 10 * r2, rfl, by omega, by omega, by omega, by omega, by omega, ?_⟩
               refine ⟨hide (heap_set4 _ _ _ _ ((hg4.block w3.heap.size (by simp) (by simpa using n3)).trans (heap_alloc_new w3 _))), ?_, ?_, ?_⟩
               · exact hide (((((hS4.setD (show B ≤ w3.heap.size by omega) n3 0 _).setD (show B ≤ w3.heap.size by omega) n3 1 _).setD (show B ≤ w3.heap.size by omega) n3 2 _).setD (show B ≤ w3.heap.size by omega) n3 3 _).more (by omega))
               · exact hide ((((HBC.setCell (show B ≤ w3.heap.size by omega) _).setCell (show B ≤ w3.heap.size by omega) _).setCell (show B ≤ w3.heap.size by omega) _).setCell (show B ≤ w3.heap.size by omega) _)
               · exact hide (grown_new (grown_new (grown_new (grown_new GKC (show wr.heap.size ≤ w3.heap.size by omega) 0 _) (show wr.heap.size ≤ w3.heap.size by omega) 1 _) (show wr.heap.size ≤ w3.heap.size by omega) 2 _) (show wr.heap.size ≤ w3.heap.size by omega) 3 _))
            | (with_reducible refine ⟨wr.heap.size, 100 * (1 + r), 10 * r2, rfl, Nat.le_refl _, by omega, by omega, by omega, by omega, ?_⟩
               refine ⟨hide (heap_set4 _ _ _ _ ((hg4.block wr.heap.size (T3 _ (by simp)) (by simpa using hwb)).trans ((hg3.block wr.heap.size (by simp) (by simpa using hwb)).trans (heap_alloc_new wr _)))), ?_, ?_, ?_⟩
               · exact hide (((((hS4.setD (show B ≤ wr.heap.size by omega) hwb 0 _).setD (show B ≤ wr.heap.size by omega) hwb 1 _).setD (show B ≤ wr.heap.size by omega) hwb 2 _).setD (show B ≤ wr.heap.size by omega) hwb 3 _).more (by omega))
               · exact hide ((((HBC.setCell (show B ≤ wr.heap.size by omega) _).setCell (show B ≤ wr.heap.size by omega) _).setCell (show B ≤ wr.heap.size by omega) _).setCell (show B ≤ wr.heap.size by omega) _)
               · exact hide (grown_new (grown_new (grown_new (grown_new GKC (Nat.le_refl _) 0 _) (Nat.le_refl _) 1 _) (Nat.le_refl _) 2 _) (Nat.le_refl _) 3 _))
      case rest =>
        obtain ⟨w4, rfl⟩ : ∃ w4, w4 = wc := ⟨_, rfl⟩
        obtain ⟨q, m, y, rfl, hq, m1, m2, y1, y2, HQ, HS4, HB4, G4⟩ := hcut
        have hz4 := G4.out.size
        have hqz := heap_lt HQ.out
        have HOL := hide HO.out.lt
        have HN4 := hide (SlAt.grown HN.out G4.out (fun b2 off e q2 => by injection e with e; injection e with e _; injection q2 with q2; omega))
        have HO4 := hide (Own.kept HO.out G4.out (by
          cases hv : (Value.slice A xs.length c).ownBlock with
          | none => exact .inl rfl
          | some g => exact .inr fun e => by injection e with e; have := (HOL.out g hv).1; omega))
        have HB5 := hide (HB.out.trans HB4.out)
        have GK4 := hide (grown_trans GK.out G4.out)
        clear HN HO HS HB GK HB4 G4 hc0
        have hQ4 := HQ.out
        have hqb : q ≠ b := by omega
        have hBq : B ≤ q := by omega
        have c2 : w4.cell? ⟨q, 2, none⟩ = some (.int .i64 y) := by simp [World.cell?, hQ4]
        have c3 : w4.cell? ⟨q, 3, none⟩ = some (.int .i64 0) := by simp [World.cell?, hQ4]
        have f3 : w4.frozen? ⟨q, 3, none⟩ = false := by simp [World.frozen?, hQ4]
        clear hQ4
        go_upto_region 8 with fail
        go_cut [] (fun wx => ∃ d : Int, y ≤ d ∧ d ≤ 10000 ∧ Hid (wx.heap[q]? = some (.cells #[.string nk, .int .i64 m, .int .i64 y, .int .i64 d] 93 (0, 0))) ∧ Hid (Src wx B b (N + 8 + 6 * k)) ∧ Hid (Own encPour 4 93 wx (w.heap.size + 1) (.slice A xs.length c) xs) ∧ Hid (SlAt encS 1 wx (some ⟨w.heap.size, 0, none⟩) nmP) ∧ Hid (Below B w wx) ∧ Hid (w.grownBy wx (some b)))
        case first =>
          go_region_law (first | (go_simp; go_at_call 66; with_reducible refine (srcPick B b (N + 6 + 6 * k) 90 _ (HS4.out.below (by first | exact Below.refl _ _ | exact (Below.refl _ _).drew | exact (by repeat (first | with_reducible exact Below.refl _ _ | with_reducible assumption | (with_reducible refine Below.drew ?_) | (with_reducible refine below_drewN ?_ _) | ((with_reducible refine Below.alloc ?_ ?_ _); rotate_left; (focus (first | omega | (simp; omega) | simp))) | ((with_reducible refine Below.setCell ?_ ?_ _); rotate_left; (focus (first | omega | (simp; omega) | simp))) | (refine Below.trans ?_ (Below.mono (by assumption) (by first | omega | (simp; omega) | simp))))))) (by omega) (by omega)).mono ?_; rintro e w5 ⟨r, rfl, p3, q3, hS5, hb5, hg5⟩; have q3' := q3 (by omega); have hc5 : w5.cell? ⟨q, 2, none⟩ = some (.int .i64 y) := (grown_cell hg5 (by first | exact hqz | (simp; omega)) hqb).trans (by first | exact c2 | (simp; done) | (go_simp; done)); have hd5 : w5.cell? ⟨q, 3, none⟩ = some (.int .i64 0) := (grown_cell hg5 (by first | exact hqz | (simp; omega)) hqb).trans (by first | exact c3 | (simp; done) | (go_simp; done)); have he5 : w5.frozen? ⟨q, 3, none⟩ = false := (grown_frozen hg5 (by first | exact hqz | (simp; omega)) hqb).trans (by first | exact f3 | (simp; done) | (go_simp; done))))
          all_goals
            have k3 : IntKind.i64.wrap (10 * r) = 10 * r := IntWalk.i64_in _ (by omega)
            have k4 : IntKind.i64.wrap (y + 10 * r) = y + 10 * r := IntWalk.i64_in _ (by omega)
            simp only [k3, k4]
            have g5 : w4.grownBy w5 (some b) := grown_trans (grown_of_below (show Below w4.heap.size w4 _ from (by repeat (first | with_reducible exact Below.refl _ _ | with_reducible assumption | (with_reducible refine Below.drew ?_) | (with_reducible refine below_drewN ?_ _) | ((with_reducible refine Below.alloc ?_ ?_ _); rotate_left; (focus (first | omega | (simp; omega) | simp))) | ((with_reducible refine Below.setCell ?_ ?_ _); rotate_left; (focus (first | omega | (simp; omega) | simp))) | (refine Below.trans ?_ (Below.mono (by assumption) (by first | omega | (simp; omega) | simp)))))) (some b)) hg5
            have hb5' : Below B w4 w5 := Below.trans (show Below B w4 _ from (by repeat (first | with_reducible exact Below.refl _ _ | with_reducible assumption | (with_reducible refine Below.drew ?_) | (with_reducible refine below_drewN ?_ _) | ((with_reducible refine Below.alloc ?_ ?_ _); rotate_left; (focus (first | omega | (simp; omega) | simp))) | ((with_reducible refine Below.setCell ?_ ?_ _); rotate_left; (focus (first | omega | (simp; omega) | simp))) | (refine Below.trans ?_ (Below.mono (by assumption) (by first | omega | (simp; omega) | simp)))))) hb5
            have GQ := grown_set (grown_refl w5 (some q)) 3 (.int .i64 (y + 10 * r))
            have hQ5 := (g5.block q hqz (by simpa using hqb)).trans HQ.out
            go_wp2_with fail
            go_meet
            refine ⟨y + 10 * r, by omega, by omega, hide (by simpa using heap_setD (j := 3) (.int .i64 (y + 10 * r)) hQ5), hide ((hS5.setD hBq hqb 3 _).more (by omega)), hide ?_, hide ?_, hide ((HB5.out.trans hb5').setCell hBq _), hide (grown_new (grown_trans GK4.out g5) (show w.heap.size ≤ q by omega) 3 _)⟩
            · refine (HO4.out.kept g5 ?_).kept GQ ?_
              · cases hv : (Value.slice A xs.length c).ownBlock with
                | none => exact .inl rfl
                | some g => exact .inr fun e => by injection e with e; have := (HOL.out g hv).1; omega
              · cases hv : (Value.slice A xs.length c).ownBlock with
                | none => exact .inl rfl
                | some g => exact .inr fun e => by injection e with e; have := (HOL.out g hv).2; omega
            · exact (HN4.out.grown g5 (fun b2 off e q2 => by injection e with e; injection e with e _; injection q2 with q2; omega)).grown GQ (fun b2 off e q2 => by injection e with e; injection e with e _; injection q2 with q2; omega)
        case rest =>
          obtain ⟨w6, rfl⟩ : ∃ w6, w6 = wc := ⟨_, rfl⟩
          obtain ⟨d, d1, d2, HQ6, HS6, HO6, HN6, HB6, GK6⟩ := hcut
          have hQ6 := HQ6.out
          have hql6 := heap_lt hQ6
          have hz6 := GK6.out.size
          have c0 : w6.cell? ⟨q, 0, none⟩ = some (.string nk) := by simp [World.cell?, hQ6]
          have c1 : w6.cell? ⟨q, 1, none⟩ = some (.int .i64 m) := by simp [World.cell?, hQ6]
          have c2' : w6.cell? ⟨q, 2, none⟩ = some (.int .i64 y) := by simp [World.cell?, hQ6]
          have c3' : w6.cell? ⟨q, 3, none⟩ = some (.int .i64 d) := by simp [World.cell?, hQ6]
          have hxl : xs.length ≤ 4 := by have := HKL.out; omega
          have hzb : b < w6.heap.size := HS6.out.lt
          clear hQ6 HS4 HN4 HO4 HB5 GK4 HQ c2 c3 f3
          go_wp2_with (at_builtin; refine wpList_appPour rfl _ _ rfl (w.heap.size + 1) rfl HO6.out rfl (by omega) ?_ ?_; (focus omega); intro A7 c7 w7 ho7 hb7 hg7)
          have hxe : xs.length = k := HKL.out
          have own7 : ∀ g, (Value.slice A xs.length c).ownBlock = some g → w.heap.size + 1 ≤ g := fun g e => (HOL.out g e).1
          have HS7 := hide ((HS6.out.kept hg7 (hb7.mono (by omega)) (fun e => by have := own7 b e.symm; omega)).more (N' := N + 2 + 6 * (k + 1)) (by omega))
          have HN7 := hide (HN6.out.grown hg7 (fun b2 off e q2 => by injection e with e; injection e with e _; have := own7 b2 q2.symm; omega))
          have HB7 := hide (HB6.out.trans (hb7.mono (by omega)))
          have GK7 := hide (grown_own GK6.out hg7 (fun g e => by have := own7 g e; omega))
          have HO7 := hide ho7
          have HD7 := hide (HD.out.snoc (x := ⟨nk, m, y, d⟩) (by omega) (by rw [hxe]; exact HNK.out) m1 m2 y1 d1 d2)
          clear ho7 hb7 hg7 own7 HS6 HN6 HB6 GK6 HO6 HD c0 c1 c2' c3' hxe
          go_roundw
          case rel => exact ⟨k + 1, A7, c7, xs ++ [⟨nk, m, y, d⟩], by go_num, by simp, by omega, by have := HKL.out; simp; omega, HD7, HS7, by simpa using HO7, HN7, HB7, GK7⟩
          case measure => simp [intOf]; omega
    · obtain rfl : k = k1 := by omega
      go_wp2_with fail
      go_ret
      exact ⟨A, c, xs, rfl, by have := HKL.out; omega, HD.out, HO.out.at_ (fun _ => rfl), fun g o e => by subst e; have := (HO.out.lt g rfl).1; omega, HS.out.more (by omega), HB.out, GK.out⟩
end Go.Proofs.Ytklmbgefdopifaa
