/- What the law of charges draws: a row of ingots. -/
import Derived.Test.YtjklhacffdhgaaaChD
import Derived.Test.YtjklhacffdhgaaaIng2
import Derived.Deep.DeepCutAuto
import Derived.Deep.RegionLaw
namespace Go.Proofs.Ytjklhacffdhgaaa
open Go.RowKit

theorem infoA_Ingot : (Try.prog.info? 126).map (fun i => (i.zero, i.size, i.bytes)) = some (some (.agg #[.string ByteArray.empty, .int .i64 0, .int .i64 0, .int .i64 0, .int .i64 0]), 5, 48) := by kernel_rfl
theorem one_Ingot (x : IngotR) : ∀ u ∈ encIngot x, u.oneCell' = true := by intro u hu; simp [encIngot] at hu; rcases hu with rfl | rfl | rfl | rfl | rfl <;> rfl
set_option maxRecDepth 100000 in
theorem wpList_appIngot {w : World} {ops : Array Oper} {rest : List Oper} {o : Oper} {a : Act} {Q : Exit → Act → World → Prop} (hgd : o.guard = none) (s x : Operand) (ho : o.op = .call { callee := .builtin .append, args := #[s, x], argTypes := #[28, 28] }) (B : Nat) {v : Value} {xs : List IngotR} (hs : a.eval s = v)
    (hown : Own encIngot 5 126 w B v xs) {y0 : ByteArray} {y1 : Int} {y2 : Int} {y3 : Int} {y4 : Int} {b : Nat} (hx : a.eval x = .slice (some ⟨b, 0, none⟩) 1 1) (hn : xs.length ≤ 1048576) (hB : B ≤ w.heap.size)
    (h : ∀ (A : Option Addr) (c : Nat) (w' : World), Own encIngot 5 126 w' B (.slice A (xs.length + 1) c) (xs ++ [⟨y0, y1, y2, y3, y4⟩]) → Below B w w' → w.grownBy w' v.ownBlock → wpList Try.prog ops Q rest (a.put o.dst (.slice A (xs.length + 1) c)) w') (hbk : b = w.heap.size := by first | rfl | simp) : wpList Try.prog ops Q (o :: rest) a (w.alloc (.cells #[.string y0, .int .i64 y1, .int .i64 y2, .int .i64 y3, .int .i64 y4] 126)) := by
  subst hbk
  obtain ⟨i0, hi, hz0, hz1, hz2⟩ := info_parts infoA_Ingot
  have hb0 : Below w.heap.size w (w.alloc (.cells #[.string y0, .int .i64 y1, .int .i64 y2, .int .i64 y3, .int .i64 y4] 126)) := (Below.refl _ _).alloc (Nat.le_refl _) _
  refine wpList_app Try.underlying28 hi hz0 hz1 hz2 rfl (by omega) (by omega) (fun _ => rfl) hgd s x ho B hs (hown.below hb0) ⟨y0, y1, y2, y3, y4⟩ (one_Ingot _) hx (fun j u hj => ?_) hn (by simp; omega) fun A c w' h1 h2 h3 => h A c w' h1 ((hb0.mono hB).trans h2) (grown_trans (grown_of_below hb0 _) h3)
  match j, hj with
  | 0, hj => injection hj with hj; subst hj; simp [Addr.add]
  | 1, hj => injection hj with hj; subst hj; simp [Addr.add]
  | 2, hj => injection hj with hj; subst hj; simp [Addr.add]
  | 3, hj => injection hj with hj; subst hj; simp [Addr.add]
  | 4, hj => injection hj with hj; subst hj; simp [Addr.add]
/-- The names of ingots that the reference draws. -/
def nmL : List ByteArray := [⟨#[97]⟩, ⟨#[98]⟩, ⟨#[99]⟩, ⟨#[100]⟩, ⟨#[101]⟩, ⟨#[102]⟩, ⟨#[103]⟩]
/-- Ingots as the reference draws them. -/
def DrawnI (xs : List IngotR) : Prop := ∀ (k : Nat) (h : k < xs.length), (k < nmL.length ∧ xs[k].nm = nmL.getD k ⟨#[]⟩) ∧ (1 ≤ xs[k].mass ∧ xs[k].mass ≤ 90000) ∧ vAlloy xs[k].cu xs[k].ti xs[k].ot = true
theorem DrawnI.snoc {xs : List IngotR} {x : IngotR} (h : DrawnI xs) (hk : xs.length < 7) (hn : x.nm = nmL.getD xs.length ⟨#[]⟩) (h1 : 1 ≤ x.mass) (h2 : x.mass ≤ 90000) (h3 : vAlloy x.cu x.ti x.ot = true) : DrawnI (xs ++ [x]) := by
  intro k hl
  by_cases hk' : k < xs.length
  · rw [List.getElem_append_left hk']; exact h k hk'
  · have e : k = xs.length := by simp at hl; omega
    subst e
    rw [List.getElem_append_right (Nat.le_refl _)]
    simp only [Nat.sub_self, List.getElem_cons_zero]
    exact ⟨⟨hk, hn⟩, ⟨h1, h2⟩, h3⟩
theorem nmL_facts : ∀ k : Fin 7, nameB (nmL.getD k ⟨#[]⟩).data.toList = true ∧ (nmL.getD k ⟨#[]⟩).size ≤ 100 ∧ (0 < k.val → sle (nmL.getD k ⟨#[]⟩) (nmL.getD (k.val - 1) ⟨#[]⟩) = false) := by
  intro ⟨k, hk⟩
  unfold nameB sle
  simp only [ByteArray.toList_eq]
  revert k
  decide
theorem DrawnI.rows {xs : List IngotR} (h : DrawnI xs) (hl : xs.length ≤ 7) : rowsB vIngotR IngotR.nm 16 xs = true ∧ ∀ x ∈ xs, x.nm.size ≤ 100 := by
  refine ⟨?_, fun x hx => ?_⟩
  · rw [rowsB_fin]
    · simp; omega
    · rintro k hk ⟨_, a | ⟨h0, a⟩⟩
      · obtain ⟨⟨b1, b2⟩, ⟨b3, b4⟩, b5⟩ := h k hk
        have := (nmL_facts ⟨k, by omega⟩).1
        have e : vIngotR xs[k] = true := by
          show vIngot xs[k].nm xs[k].mass xs[k].cu xs[k].ti xs[k].ot = true
          unfold vIngot
          rw [b2, b5]
          simp only [this, Bool.true_and, Bool.and_true]
          unfold inB; simp; omega
        rw [e] at a; cases a
      · have b2 := (h k hk).1.2
        have c2 := (h (k - 1) (by omega)).1.2
        have := (nmL_facts ⟨k, by omega⟩).2.2 h0
        rw [b2, c2, this] at a; cases a
  · obtain ⟨k, hk, rfl⟩ := List.getElem_of_mem hx
    rw [(h k hk).1.2]
    exact (nmL_facts ⟨k, by omega⟩).2.1
theorem heap_setD {w : World} {b j : Nat} {vs : Array Value} {T : TypeId} (v : Value) (h : w.heap[b]? = some (.cells vs T (0, 0))) : (w.setCell ⟨b, j, none⟩ v).heap[b]? = some (.cells (vs.setIfInBounds j v) T (0, 0)) := by
  simp [World.setCell, Array.getElem?_modify, h]
theorem heap_set5 {w : World} {b : Nat} {u0 u1 u2 u3 u4 : Value} {T : TypeId} (v0 v1 v2 v3 v4 : Value) (h : w.heap[b]? = some (.cells #[u0, u1, u2, u3, u4] T (0, 0))) : (((((w.setCell ⟨b, 0, none⟩ v0).setCell ⟨b, 1, none⟩ v1).setCell ⟨b, 2, none⟩ v2).setCell ⟨b, 3, none⟩ v3).setCell ⟨b, 4, none⟩ v4).heap[b]? = some (.cells #[v0, v1, v2, v3, v4] T (0, 0)) := by
  simpa using heap_setD v4 (heap_setD v3 (heap_setD v2 (heap_setD v1 (heap_setD v0 h (j := 0)) (j := 1)) (j := 2)) (j := 3)) (j := 4)
theorem Src.setD {w : World} {B b N R : Nat} (h : Src w B b N) (hR : B ≤ R) (hne : R ≠ b) (j : Nat) (v : Value) : Src (w.setCell ⟨R, j, none⟩ v) B b N :=
  h.kept (grown_set (grown_refl _ _) j v) ((Below.refl _ _).setCell hR v) (by simpa using Ne.symm hne)
theorem grown_own {a b c : World} {row r2 : Option Nat} (h : a.grownBy b row) (k : b.grownBy c r2) (hr : ∀ g, r2 = some g → a.heap.size ≤ g) : a.grownBy c row :=
  ⟨k.os.trans h.os, k.tape.trans h.tape, k.output.trans h.output, Nat.le_trans h.size k.size, fun i hi hn => (k.block i (Nat.lt_of_lt_of_le hi h.size) (fun e => by have := hr i e.symm; omega)).trans (h.block i hi hn)⟩
set_option maxRecDepth 100000 in
set_option maxHeartbeats 1000000 in
theorem specl13Draw (B b N : Nat) (w : World) (h : Src w B b N) (hN : N ≤ 500) :
    Calls Try.prog 83 #[.pointer (some ⟨b, 0, none⟩)] w fun e w' => ∃ (A : Option Addr) (c : Nat) (xs : List IngotR), e = .returned (.slice A xs.length c) ∧ xs.length ≤ 7 ∧ DrawnI xs ∧ SlAt encIngot 5 w' A xs ∧ (∀ g o, A = some ⟨g, o, none⟩ → w.heap.size ≤ g) ∧ Src w' B b (N + 100) ∧ Below B w w' ∧ w.grownBy w' (some b) := by
  have HS := hide h
  have hl := h.lt
  have h0 := h.1
  clear h
  have hnm := slat_new (enc := encS) (sz := 1) (fun _ => rfl) w nmL #[.string ⟨#[97]⟩, .string ⟨#[98]⟩, .string ⟨#[99]⟩, .string ⟨#[100]⟩, .string ⟨#[101]⟩, .string ⟨#[102]⟩, .string ⟨#[103]⟩] 9 rfl
  have HNM := hide hnm
  clear hnm
  go_enter Try.func83, Try.ntmps83
  go_wp2_with fail
  refine (srcPick B b N _ _ (HS.out.below (by repeat (first | with_reducible exact Below.refl _ _ | with_reducible assumption | (with_reducible refine Below.drew ?_) | (with_reducible refine below_drewN ?_ _) | ((with_reducible refine Below.alloc ?_ ?_ _); rotate_left; (focus (first | omega | (simp; omega) | simp))) | ((with_reducible refine Below.setCell ?_ ?_ _); rotate_left; (focus (first | omega | (simp; omega) | simp))) | (refine Below.trans ?_ (Below.mono (by assumption) (by first | omega | (simp; omega) | simp)))))) (by omega) (by omega)).mono ?_
  rintro e w1 ⟨r, rfl, p1, q1, hS, hb, hg⟩
  have q1' := q1 (by omega)
  obtain ⟨k1, rfl⟩ := Int.eq_ofNat_of_zero_le p1
  have hz1 := hg.size
  simp at hz1
  have HN1 := hide ((SlAt.grown HNM.out hg (fun b2 off e q => by injection e with e; injection e with e _; injection q with q; omega)).below (w' := w1.alloc (.cells #[] 126)) ((Below.refl _ _).alloc (Nat.le_refl _) _))
  have HO := hide (own_made (enc := encIngot) (sz := 5) (T := 126) (B := w.heap.size + 1) w1 rfl (by omega))
  have HSr := hide (hS.below (w' := w1.alloc (.cells #[] 126)) ((Below.refl _ _).alloc (Nat.le_refl _) _))
  have HB := hide ((show Below B w w1 from Below.trans (show Below B w _ from (by repeat (first | with_reducible exact Below.refl _ _ | with_reducible assumption | (with_reducible refine Below.drew ?_) | (with_reducible refine below_drewN ?_ _) | ((with_reducible refine Below.alloc ?_ ?_ _); rotate_left; (focus (first | omega | (simp; omega) | simp))) | ((with_reducible refine Below.setCell ?_ ?_ _); rotate_left; (focus (first | omega | (simp; omega) | simp))) | (refine Below.trans ?_ (Below.mono (by assumption) (by first | omega | (simp; omega) | simp)))))) hb).alloc (by omega) (.cells #[] 126))
  have GK := hide (grown_alloc (grown_trans (grown_alloc (grown_refl w _) _) hg) (.cells #[] 126))
  clear q1 hS hb hg HS HNM
  go_wp2_with fail
  go_loopw [6, 5] (fun v o wr => ∃ (k : Nat) (A : Option Addr) (c : Nat) (xs : List IngotR), v = .int .i64 k ∧ o = .slice A xs.length c ∧ k ≤ k1 ∧ xs.length = k ∧ Hid (DrawnI xs) ∧ Hid (Src wr B b (N + 2 + 6 * k)) ∧ Hid (Own encIngot 5 126 wr (w.heap.size + 1) (.slice A xs.length c) xs) ∧ Hid (SlAt encS 1 wr (some ⟨w.heap.size, 0, none⟩) nmL) ∧ Hid (Below B w wr) ∧ Hid (w.grownBy wr (some b))) (fun v _ _ => k1 - (intOf v).toNat)
  case atStart => exact ⟨0, _, _, [], rfl, rfl, by omega, rfl, hide (fun k hk => by simp at hk), HSr, HO, HN1, HB, GK⟩
  case round =>
    clear HO HSr HB GK HN1
    obtain ⟨k, A, c, xs, rfl, rfl, hk, hkl, HD, HS, HO, HN, HB, GK⟩ := hrel
    have HKL := hide hkl
    clear hkl
    have hzr := GK.out.size
    by_cases hlt : k < k1
    · have hk7 : k < 7 := by omega
      have hzs : b < wr.heap.size := HS.out.lt
      obtain ⟨g, off, eg, hgl, hc⟩ := HN.out k (by simp [nmL]; omega)
      injection eg with eg; injection eg with eg1 eg2
      subst eg1; subst eg2
      have hc0 := hc 0 _ rfl
      simp only [Nat.zero_add, Nat.add_zero, Nat.mul_one] at hc0
      have hnk : nmL[k]'(by simp [nmL]; omega) = nmL.getD k ⟨#[]⟩ := by rw [List.getD_eq_getElem?_getD, List.getElem?_eq_getElem (by simp [nmL]; omega)]; rfl
      rw [hnk] at hc0
      clear hnk hc
      have hkn : (k : Int) < 7 := by omega
      obtain ⟨nk, hnk⟩ : ∃ nk, nk = nmL.getD k ⟨#[]⟩ := ⟨_, rfl⟩
      rw [← hnk] at hc0
      have HNK := hide hnk
      clear hnk
      go_upto_region 7 with fail
      go_cut [7] (fun s7 wx => ∃ (q : Nat) (m : Int), s7 = .pointer (some ⟨q, 0, none⟩) ∧ wr.heap.size ≤ q ∧ 1 ≤ m ∧ m ≤ 90000 ∧ Hid (wx.heap[q]? = some (.cells #[.string nk, .int .i64 m, .int .i64 0, .int .i64 0, .int .i64 0] 126 (0, 0))) ∧ Hid (Src wx B b (N + 4 + 6 * k)) ∧ Hid (Below B wr wx) ∧ Hid (wr.grownBy wx (some b)))
      case first =>
        go_region_law (first | (go_simp; go_at_call 84; refine (srcPick B b (N + 2 + 6 * k) _ _ (HS.out.below (by first | exact Below.refl _ _ | exact (Below.refl _ _).drew | exact (by repeat (first | with_reducible exact Below.refl _ _ | with_reducible assumption | (with_reducible refine Below.drew ?_) | (with_reducible refine below_drewN ?_ _) | ((with_reducible refine Below.alloc ?_ ?_ _); rotate_left; (focus (first | omega | (simp; omega) | simp))) | ((with_reducible refine Below.setCell ?_ ?_ _); rotate_left; (focus (first | omega | (simp; omega) | simp))) | (refine Below.trans ?_ (Below.mono (by assumption) (by first | omega | (simp; omega) | simp))))))) (by omega) (by omega)).mono ?_; rintro e w3 ⟨r, rfl, p3, q3, hS3, hb3, hg3⟩; have q3' := q3 (by omega); have hw3 : w.heap.size < w3.heap.size := by {have := hg3.size; simp at this; omega}; have hc3 : w3.cell? ⟨w.heap.size, k, none⟩ = some (.string nk) := (World.cell?_of_block (a := ⟨w.heap.size, k, none⟩) (hg3.block w.heap.size (by first | exact hgl | (simp; omega)) (by simp; omega))).trans (by first | exact hc0 | (simp; done) | (go_simp; done)); try (have hq3 := hg3.block wr.heap.size (by simp; done) (by simp; omega); have fcQ := fun j => World.cell?_of_block (a := ⟨wr.heap.size, j, none⟩) hq3; have ffQ := fun j => World.frozen?_of_block (a := ⟨wr.heap.size, j, none⟩) hq3; have hz3 : wr.heap.size < w3.heap.size := by have := hg3.size; simp at this; omega)))
        all_goals
          have k0 : IntKind.i64.wrap (1 + r) = 1 + r := IntWalk.i64_in _ (by omega)
          have k2 : IntKind.i64.wrap (1000 * (1 + r)) = 1000 * (1 + r) := IntWalk.i64_in _ (by omega)
          simp only [k0, k2]
          have hBw : B ≤ wr.heap.size := by omega
          have hwb : wr.heap.size ≠ b := by omega
          have hzz : wr.heap.size ≤ w3.heap.size := by have := hg3.size; simp at this; omega
          have HBC := hide (show Below B wr w3 from Below.trans (show Below B wr _ from (by repeat (first | with_reducible exact Below.refl _ _ | with_reducible assumption | (with_reducible refine Below.drew ?_) | (with_reducible refine below_drewN ?_ _) | ((with_reducible refine Below.alloc ?_ ?_ _); rotate_left; (focus (first | omega | (simp; omega) | simp))) | ((with_reducible refine Below.setCell ?_ ?_ _); rotate_left; (focus (first | omega | (simp; omega) | simp))) | (refine Below.trans ?_ (Below.mono (by assumption) (by first | omega | (simp; omega) | simp)))))) hb3)
          have GKC := hide (show wr.grownBy w3 (some b) from grown_trans (grown_of_below (show Below wr.heap.size wr _ from (by repeat (first | with_reducible exact Below.refl _ _ | with_reducible assumption | (with_reducible refine Below.drew ?_) | (with_reducible refine below_drewN ?_ _) | ((with_reducible refine Below.alloc ?_ ?_ _); rotate_left; (focus (first | omega | (simp; omega) | simp))) | ((with_reducible refine Below.setCell ?_ ?_ _); rotate_left; (focus (first | omega | (simp; omega) | simp))) | (refine Below.trans ?_ (Below.mono (by assumption) (by first | omega | (simp; omega) | simp)))))) (some b)) hg3)
          go_wp2_with fail
          go_meet
          first
            | (with_reducible refine ⟨w3.heap.size, 1000 * (1 + r), rfl, hzz, by omega, by omega, ?_⟩
               exact ⟨hide (heap_alloc_new _ _), hide ((hS3.below ((Below.refl _ _).alloc (Nat.le_refl _) _)).more (by omega)), hide (HBC.out.alloc (by omega) _), hide (grown_alloc GKC.out _)⟩)
            | (with_reducible refine ⟨wr.heap.size, 1000 * (1 + r), rfl, Nat.le_refl _, by omega, by omega, ?_⟩
               refine ⟨hide (heap_set5 _ _ _ _ _ (hq3.trans (heap_alloc_new wr _))), ?_, ?_, ?_⟩
               · exact hide ((((((hS3.setD hBw hwb 0 _).setD hBw hwb 1 _).setD hBw hwb 2 _).setD hBw hwb 3 _).setD hBw hwb 4 _).more (by omega))
               · exact hide (((((HBC.out.setCell hBw _).setCell hBw _).setCell hBw _).setCell hBw _).setCell hBw _)
               · exact hide (grown_new (grown_new (grown_new (grown_new (grown_new GKC.out (Nat.le_refl _) 0 _) (Nat.le_refl _) 1 _) (Nat.le_refl _) 2 _) (Nat.le_refl _) 3 _) (Nat.le_refl _) 4 _))
      case rest =>
        obtain ⟨w4, rfl⟩ : ∃ w4, w4 = wc := ⟨_, rfl⟩
        obtain ⟨q, m, rfl, hq, m1, m2, HQ, HS4, HB4, G4⟩ := hcut
        have hz4 := G4.out.size
        have hqz := heap_lt HQ.out
        have HOL := hide HO.out.lt
        have HN4 := hide (SlAt.grown HN.out G4.out (fun b2 off e q2 => by injection e with e; injection e with e _; injection q2 with q2; omega))
        have HO4 := hide (Own.kept HO.out G4.out (by
          cases hv : (Value.slice A xs.length c).ownBlock with
          | none => exact .inl rfl
          | some g => exact .inr fun e => by injection e with e; have := (HOL.out g hv).1; omega))
        have HB5 := hide (HB.out.trans HB4.out)
        have GK4 := hide (grown_trans GK.out G4.out)
        clear HN HO HS HB GK HB4 G4 hc0
        go_wp2_with fail
        refine (specl13DrawAlloy B b _ _ HS4.out (by omega)).mono ?_
        rintro e w5 ⟨x2, x3, x4, rfl, hv, hS5, hb5, hg5⟩
        have hQ5 := (hg5.block q hqz (by simp; omega)).trans HQ.out
        have hz5 := hg5.size
        have c0 : w5.cell? ⟨q, 0, none⟩ = some (.string nk) := by simp [World.cell?, hQ5]
        have c1 : w5.cell? ⟨q, 1, none⟩ = some (.int .i64 m) := by simp [World.cell?, hQ5]
        have c2 : w5.cell? ⟨q, 2, none⟩ = some (.int .i64 0) := by simp [World.cell?, hQ5]
        have c3 : w5.cell? ⟨q, 3, none⟩ = some (.int .i64 0) := by simp [World.cell?, hQ5]
        have c4 : w5.cell? ⟨q, 4, none⟩ = some (.int .i64 0) := by simp [World.cell?, hQ5]
        have f2 : w5.frozen? ⟨q, 2, none⟩ = false := by simp [World.frozen?, hQ5]
        have f3 : w5.frozen? ⟨q, 3, none⟩ = false := by simp [World.frozen?, hQ5]
        have f4 : w5.frozen? ⟨q, 4, none⟩ = false := by simp [World.frozen?, hQ5]
        have GQ := hide (grown_set (grown_set (grown_set (grown_refl w5 (some q)) 2 (.int .i64 x2)) 3 (.int .i64 x3)) 4 (.int .i64 x4))
        have HN6 := hide ((HN4.out.grown hg5 (fun b2 off e q2 => by injection e with e; injection e with e _; injection q2 with q2; omega)).grown GQ.out (fun b2 off e q2 => by injection e with e; injection e with e _; injection q2 with q2; omega))
        have HO6 := hide ((HO4.out.kept hg5 (by
          cases hv : (Value.slice A xs.length c).ownBlock with
          | none => exact .inl rfl
          | some g => exact .inr fun e => by injection e with e; have := (HOL.out g hv).1; omega)).kept GQ.out (by
          cases hv : (Value.slice A xs.length c).ownBlock with
          | none => exact .inl rfl
          | some g => exact .inr fun e => by injection e with e; have := (HOL.out g hv).2; omega))
        have hBq : B ≤ q := by omega
        have hqb : q ≠ b := by omega
        have HS6 := hide (((hS5.setD hBq hqb 2 (.int .i64 x2)).setD hBq hqb 3 (.int .i64 x3)).setD hBq hqb 4 (.int .i64 x4))
        have HB6 := hide ((((HB5.out.trans hb5).setCell (p := ⟨q, 2, none⟩) hBq (.int .i64 x2)).setCell (p := ⟨q, 3, none⟩) hBq (.int .i64 x3)).setCell (p := ⟨q, 4, none⟩) hBq (.int .i64 x4))
        have GK6 := hide (grown_new (grown_new (grown_new (grown_trans GK4.out hg5) (show w.heap.size ≤ q by omega) 2 (.int .i64 x2)) (show w.heap.size ≤ q by omega) 3 (.int .i64 x3)) (show w.heap.size ≤ q by omega) 4 (.int .i64 x4))
        have HV := hide hv
        have hxl : xs.length ≤ 7 := by have := HKL.out; omega
        clear hS5 hb5 hg5 hQ5 hv HS4 HN4 HO4 HB5 GK4 HQ GQ
        have hzq : b < (((w5.setCell ⟨q, 2, none⟩ (.int .i64 x2)).setCell ⟨q, 3, none⟩ (.int .i64 x3)).setCell ⟨q, 4, none⟩ (.int .i64 x4)).heap.size := HS6.out.lt
        go_wp2_with (at_builtin; go_loud (refine wpList_appIngot rfl _ _ rfl (w.heap.size + 1) rfl HO6.out rfl (by omega) ?_ ?_; (focus (simp; omega)); intro A7 c7 w7 ho7 hb7 hg7))
        have hxe : xs.length = k := HKL.out
        have own7 : ∀ g, (Value.slice A xs.length c).ownBlock = some g → w.heap.size + 1 ≤ g := fun g e => (HOL.out g e).1
        have OWN7 := hide own7
        have HS7 := hide ((HS6.out.kept hg7 (hb7.mono (by omega)) (fun e => by have := own7 b e.symm; omega)).more (N' := N + 2 + 6 * (k + 1)) (by omega))
        have HN7 := hide (HN6.out.grown hg7 (fun b2 off e q2 => by injection e with e; injection e with e _; have := own7 b2 q2.symm; omega))
        have HB7 := hide (HB6.out.trans (hb7.mono (by omega)))
        have GK7 := hide (grown_own GK6.out hg7 (fun g e => by have := own7 g e; omega))
        have HO7 := hide ho7
        have HD7 := hide (HD.out.snoc (x := ⟨nk, m, x2, x3, x4⟩) (by omega) (by rw [hxe]; exact HNK.out) m1 m2 HV.out)
        clear ho7 hb7 hg7 own7 HS6 HN6 HB6 GK6 HO6 HD c0 c1 c2 c3 c4 f2 f3 f4 hxe
        go_roundw
        case rel => exact ⟨k + 1, A7, c7, xs ++ [⟨nk, m, x2, x3, x4⟩], by go_num, by simp, by omega, by have := HKL.out; simp; omega, HD7, HS7, by simpa using HO7, HN7, HB7, GK7⟩
        case measure => simp [intOf]; omega
    · obtain rfl : k = k1 := by omega
      go_wp2_with fail
      go_ret
      exact ⟨A, c, xs, rfl, by have := HKL.out; omega, HD.out, HO.out.at_ (fun _ => rfl), fun g o e => by subst e; have := (HO.out.lt g rfl).1; omega, HS.out.more (by omega), HB.out, GK.out⟩
end Go.Proofs.Ytjklhacffdhgaaa
