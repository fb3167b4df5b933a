/- Slices of slices of numbers: told as lists; the laws' copies, counts, comparisons, marks of them. -/
import Derived.Test.YtnefgafmnpblpaaGreatPnV
import Derived.Test.YtnefgafmnpblpaaGreatMarks
import Derived.Test.YtnefgafmnpblpaaGreatSrc2
namespace Go.Proofs.YtnefgafmnpblpaaGreat
open Go.RowKit

/-- A slice of slices of numbers reads as lists. -/
def SSAt (w : World) (A : Option Addr) (ls : List (List Int)) : Prop :=
  ∀ (i : Nat) (h : i < ls.length), ∃ b off A' c', A = some ⟨b, off, none⟩ ∧ b < w.heap.size ∧ w.cell? ⟨b, off + i, none⟩ = some (.slice A' ls[i].length c') ∧ SlAt encI 1 w A' ls[i]
theorem SSAt.below {w w' : World} {A : Option Addr} {ls : List (List Int)} (h : SSAt w A ls) (hb : Below w.heap.size w w') : SSAt w' A ls := by
  intro i hi
  obtain ⟨b, off, A', c', e, hlt, hc, hs⟩ := h i hi
  exact ⟨b, off, A', c', e, Nat.lt_of_lt_of_le hlt hb.size, (hb.cell (p := ⟨b, off + i, none⟩) hlt).trans hc, hs.below hb⟩
abbrev encV (v : Value) : List Value := [v]
theorem encV_id (vs : List Value) : vs.flatMap encV = vs := by
  induction vs with
  | nil => rfl
  | cons v vs ih => simp [List.flatMap_cons, ih]
/-- A slice of slices of numbers of the call's own: the outer row holds the values vs; all blocks lie from B on, below N, and are apart. -/
structure LL (w : World) (B N : Nat) (v : Value) (vs : List Value) (ls : List (List Int)) : Prop where
  len : vs.length = ls.length
  outer : Own encV 1 24 w B v vs
  outLt : ∀ b, v.ownBlock = some b → b < N
  inner : ∀ (i : Nat) (u : Value) (l : List Int), vs[i]? = some u → ls[i]? = some l → OwnI w B u l ∧ ∀ b, u.ownBlock = some b → b < N
  apart : ∀ (i j : Nat) (u u' : Value), i < j → vs[i]? = some u → vs[j]? = some u' → ∀ b, u.ownBlock = some b → u'.ownBlock ≠ some b
theorem own_types {α β : Type} {e1 : α → List Value} {e2 : β → List Value} {s1 s2 : Nat} {T1 T2 : TypeId} {w : World} {B1 B2 : Nat} {v1 v2 : Value} {x1 : List α} {x2 : List β} (h1 : Own e1 s1 T1 w B1 v1 x1) (h2 : Own e2 s2 T2 w B2 v2 x2) (hT : T1 ≠ T2) : v1.ownBlock = none ∨ v1.ownBlock ≠ v2.ownBlock := by
  rcases h1.2 with ⟨rfl, _⟩ | ⟨g1, c1, cur1, rfl, _, hg1, _⟩
  · exact .inl rfl
  · right
    rcases h2.2 with ⟨rfl, _⟩ | ⟨g2, c2, cur2, rfl, _, hg2, _⟩
    · simp [Value.ownBlock]
    · intro e
      simp only [Value.ownBlock, Option.some.injEq] at e
      subst e
      rw [hg1] at hg2
      injection hg2 with hg2
      injection hg2 with _ q _
      exact hT q
theorem LL.below {w w' : World} {B N : Nat} {v : Value} {vs : List Value} {ls : List (List Int)} (h : LL w B N v vs ls) (hb : Below w.heap.size w w') : LL w' B N v vs ls :=
  ⟨h.len, h.outer.below hb, h.outLt, fun i u l a b => ⟨(h.inner i u l a b).1.below hb, (h.inner i u l a b).2⟩, h.apart⟩
theorem LL.up {w : World} {B N N' : Nat} {v : Value} {vs : List Value} {ls : List (List Int)} (h : LL w B N v vs ls) (hN : N ≤ N') : LL w B N' v vs ls :=
  ⟨h.len, h.outer, fun b a => Nat.lt_of_lt_of_le (h.outLt b a) hN, fun i u l a b => ⟨(h.inner i u l a b).1, fun c d => Nat.lt_of_lt_of_le ((h.inner i u l a b).2 c d) hN⟩, h.apart⟩
theorem LL.down {w : World} {B B' N : Nat} {v : Value} {vs : List Value} {ls : List (List Int)} (h : LL w B N v vs ls) (hB : B' ≤ B) : LL w B' N v vs ls :=
  ⟨h.len, h.outer.mono hB, h.outLt, fun i u l a b => ⟨(h.inner i u l a b).1.mono hB, (h.inner i u l a b).2⟩, h.apart⟩
theorem kept_out {α : Type} {enc : α → List Value} {sz : Nat} {T : TypeId} {w w' : World} {B M : Nat} {v : Value} {xs : List α} (h : Own enc sz T w B v xs) (hN : ∀ k, v.ownBlock = some k → k < M) (hb : Below M w w') : Own enc sz T w' B v xs := by
  refine ⟨h.1, ?_⟩
  rcases h.2 with hn | ⟨g, cap, cur, rfl, hB, hg, rest⟩
  · exact .inl hn
  · exact .inr ⟨g, cap, cur, rfl, hB, (hb.block g (hN g rfl)).trans hg, rest⟩
/-- Writes from block M on leave it alone. -/
theorem LL.out {w w' : World} {B N M : Nat} {v : Value} {vs : List Value} {ls : List (List Int)} (h : LL w B N v vs ls) (hM : N ≤ M) (hb : Below M w w') : LL w' B N v vs ls :=
  ⟨h.len, kept_out h.outer (fun k a => Nat.lt_of_lt_of_le (h.outLt k a) hM) hb, h.outLt, fun i u l a b => ⟨kept_out (h.inner i u l a b).1 (fun k c => Nat.lt_of_lt_of_le ((h.inner i u l a b).2 k c) hM) hb, (h.inner i u l a b).2⟩, h.apart⟩
/-- Writes to one row ahead of B leave it alone. -/
theorem LL.older {w w' : World} {B N M : Nat} {v v' : Value} {vs : List Value} {ls : List (List Int)} (h : LL w B N v vs ls) (hg : w.grownBy w' v'.ownBlock) (hY : ∀ k, v'.ownBlock = some k → k < M) (hM : M ≤ B) : LL w' B N v vs ls :=
  ⟨h.len, kept_newer h.outer hg hY hM, h.outLt, fun i u l a b => ⟨kept_newer (h.inner i u l a b).1 hg hY hM, (h.inner i u l a b).2⟩, h.apart⟩
theorem LL.set {w w' : World} {B N : Nat} {v : Value} {vs : List Value} {ls : List (List Int)} (h : LL w B N v vs ls) {i : Nat} {u : Value} {l l' : List Int} (hu : vs[i]? = some u) (hl : ls[i]? = some l) (ho : OwnI w' B u l') (hg : w.grownBy w' u.ownBlock) : LL w' B N v vs (ls.set i l') := by
  have hi := h.inner i u l hu hl
  refine ⟨by rw [h.len]; simp, h.outer.kept hg (own_types h.outer hi.1 (by decide)), h.outLt, fun j u' k a b => ?_, h.apart⟩
  by_cases e : j = i
  · subst e
    rw [hu] at a
    injection a with a
    subst a
    have hil : j < ls.length := (List.getElem?_eq_some_iff.1 hl).1
    rw [List.getElem?_set_self hil] at b
    injection b with b
    subst b
    exact ⟨ho, hi.2⟩
  · rw [List.getElem?_set_ne (fun q => e q.symm)] at b
    have hj := h.inner j u' k a b
    refine ⟨hj.1.kept hg ?_, hj.2⟩
    cases hb : u'.ownBlock with
    | none => exact .inl rfl
    | some c =>
      right
      intro q
      rcases Nat.lt_or_gt_of_ne e with e | e
      · exact h.apart j i u' u e a hu c hb q.symm
      · exact h.apart i j u u' e hu a c q.symm hb
theorem LL.at_ {w : World} {B N c : Nat} {A : Option Addr} {vs : List Value} {ls : List (List Int)} (h : LL w B N (.slice A ls.length c) vs ls) : SSAt w A ls := by
  intro i hi
  have hv : i < vs.length := by rw [h.len]; exact hi
  have ho := h.outer
  rw [← h.len] at ho
  obtain ⟨b, off, e, hlt, hc⟩ := Own.at_ (enc := encV) (sz := 1) (fun _ => rfl) ho i hv
  obtain ⟨A', c', hs⟩ := (h.inner i _ _ (List.getElem?_eq_getElem hv) (List.getElem?_eq_getElem hi)).1.slice
  refine ⟨b, off, A', c', e, hlt, ?_, ?_⟩
  · have := hc 0 _ rfl
    rw [hs] at this
    simpa using this
  · have := (h.inner i _ _ (List.getElem?_eq_getElem hv) (List.getElem?_eq_getElem hi)).1
    rw [hs] at this
    exact Own.at_ (enc := encI) (sz := 1) (fun _ => rfl) this
theorem info_sl : (Tryz.prog.info? 24).map (fun i => (i.zero, i.size, i.bytes)) = some (some (.slice none 0 0), 1, 24) := by kernel_rfl
set_option maxRecDepth 100000 in
theorem lawseqInt64SS_same (A A' : Option Addr) (c c' : Nat) (ls : List (List Int)) (w : World) (h : SSAt w A ls) (h' : SSAt w A' ls) (hn : ls.length ≤ 1048576) (hl : ∀ l ∈ ls, l.length ≤ 1048576) :
    Calls Tryz.prog 76 #[.slice A ls.length c, .slice A' ls.length c'] w fun e w' => e = .returned (.bool true) ∧ Below w.heap.size w w' := by
  have HX := hide h
  have HY := hide h'
  have HL := hide hl
  clear h h' hl
  go_enter Tryz.func76, Tryz.ntmps76
  go_wp2_with fail
  go_loopw [5] (fun v wr => ∃ k : Nat, v = .int .i64 k ∧ k ≤ ls.length ∧ Below w.heap.size w wr) (fun v _ => ls.length - (intOf v).toNat)
  case atStart => exact ⟨0, rfl, by omega, (by repeat (first | with_reducible exact Below.refl _ _ | with_reducible assumption | (with_reducible refine Below.drew ?_) | (with_reducible refine below_drewN ?_ _) | ((with_reducible refine Below.alloc ?_ ?_ _); rotate_left; (focus (first | omega | (simp; omega) | simp))) | ((with_reducible refine Below.setCell ?_ ?_ _); rotate_left; (focus (first | omega | (simp; omega) | simp))) | (refine Below.trans ?_ (Below.mono (by assumption) (by first | omega | (simp; omega) | simp)))))⟩
  case round =>
    obtain ⟨k, rfl, hk, hb⟩ := hrel
    by_cases hlt : k < ls.length
    · obtain ⟨b, off, A1, c1, rfl, hbl, hc, hs⟩ := HX.out.below hb k hlt
      obtain ⟨b2, off2, A2, c2, rfl, hbl2, hd, hs2⟩ := HY.out.below hb k hlt
      have hz := hb.size
      have HB := hide hb
      have HS := hide hs
      have HS2 := hide hs2
      have hll := HL.out ls[k] (List.getElem_mem hlt)
      clear hb hs hs2
      generalize ls[k] = l at *
      go_wp2_with fail
      refine wp_region_kept (by kernel_rfl) (by kernel_rfl) ?_
      intro gc gf gz
      repeat (go_big_quiet_step ((go_at_call 75; exact Calls.kept (lawseqInt64S_same _ _ _ _ l _ (HS.out.below (Kept.h _)) (HS2.out.below (Kept.h _)) hll))))
      refine wpQuiet_nil ?_
      intro w1 hw'
      obtain ⟨⟨_, hb1⟩, rfl⟩ := hw'
      clear gc gf gz
      try dsimp only
      have fs1 := hb1.size
      try simp at fs1 hb1
      go_wp2_with fail
      go_roundw
      case rel => exact ⟨k + 1, by go_num, by omega, HB.out.trans (hb1.mono hz)⟩
      case measure => simp [intOf]; omega
    · go_wp2_with fail
      go_ret
      exact ⟨rfl, hb⟩
/-- All numbers marked in order. -/
def marksLL : Int → List (List Int) → List (List Int)
  | _, [] => []
  | k, l :: ls => marks k l.length :: marksLL (k + l.length) ls
def totL : List (List Int) → Nat
  | [] => 0
  | l :: ls => l.length + totL ls
theorem totL_append (a b : List (List Int)) : totL (a ++ b) = totL a + totL b := by
  induction a with
  | nil => simp [totL]
  | cons x a ih => simp only [List.cons_append, totL, ih]; omega
theorem marksLL_length (ls : List (List Int)) : ∀ k, (marksLL k ls).length = ls.length := by
  induction ls with
  | nil => intro k; rfl
  | cons l ls ih => intro k; simp [marksLL, ih]
theorem marksLL_append (a b : List (List Int)) : ∀ k, marksLL k (a ++ b) = marksLL k a ++ marksLL (k + totL a) b := by
  induction a with
  | nil => intro k; simp [marksLL, totL]
  | cons l a ih =>
    intro k
    simp only [List.cons_append, marksLL, ih, totL]
    rw [show k + (l.length : Int) + (totL a : Int) = k + ((l.length + totL a : Nat) : Int) by omega]
theorem totL_take_le (ls : List (List Int)) (i : Nat) : totL (ls.take i) ≤ totL ls := by
  have := totL_append (ls.take i) (ls.drop i)
  rw [List.take_append_drop] at this
  omega
theorem totL_take (ls : List (List Int)) {i : Nat} (h : i < ls.length) : totL (ls.take (i + 1)) = totL (ls.take i) + ls[i].length := by
  rw [List.take_succ_eq_append_getElem h, totL_append]; simp [totL]
theorem marksLL_take (ls : List (List Int)) {i : Nat} (h : i < ls.length) (k : Int) : marksLL k (ls.take (i + 1)) = marksLL k (ls.take i) ++ [marks (k + totL (ls.take i)) ls[i].length] := by
  rw [List.take_succ_eq_append_getElem h, marksLL_append]; simp [marksLL]
theorem setLL {ls : List (List Int)} {i : Nat} (h : i < ls.length) (k : Int) : (marksLL k (ls.take i) ++ ls.drop i).set i (marks (k + totL (ls.take i)) ls[i].length) = marksLL k (ls.take (i + 1)) ++ ls.drop (i + 1) := by
  rw [marksLL_take ls h, List.drop_eq_getElem_cons h]
  have hl := marksLL_length (ls.take i) k
  rw [List.length_take, Nat.min_eq_left (Nat.le_of_lt h)] at hl
  rw [List.set_append_right _ _ (by omega), hl, Nat.sub_self, List.set_cons_zero, List.append_assoc]
  rfl
set_option maxRecDepth 100000 in
theorem lawsmarkInt64SS (A : Option Addr) (c B N : Nat) (vs : List Value) (ls : List (List Int)) (k : Int) (w : World) (h : LL w B N (.slice A ls.length c) vs ls) (hn : ls.length ≤ 1048576) (ht : totL ls ≤ 100000000) (hl : ∀ l ∈ ls, l.length ≤ 1048576) (hB : B ≤ w.heap.size) (k0 : 1 ≤ k) (k1 : k ≤ 100000000000) :
    Calls Tryz.prog 81 #[.slice A ls.length c, .int .i64 k] w fun e w' => e = .returned (.int .i64 (k + totL ls)) ∧ LL w' B N (.slice A ls.length c) vs (marksLL k ls) ∧ Below B w w' := by
  have HX := hide h
  have HL := hide hl
  clear h hl
  go_enter Tryz.func81, Tryz.ntmps81
  go_wp2_with fail
  go_loopw [5, 1] (fun v q wr => ∃ i : Nat, v = .int .i64 i ∧ q = .int .i64 (k + (totL (ls.take i) : Nat)) ∧ i ≤ ls.length ∧ Hid (LL wr B N (.slice A ls.length c) vs (marksLL k (ls.take i) ++ ls.drop i)) ∧ Below B w wr) (fun v _ _ => ls.length - (intOf v).toNat)
  case atStart => exact ⟨0, rfl, by simp [totL], by omega, by simpa [marksLL] using HX, (by repeat (first | with_reducible exact Below.refl _ _ | with_reducible assumption | (with_reducible refine Below.drew ?_) | (with_reducible refine below_drewN ?_ _) | ((with_reducible refine Below.alloc ?_ ?_ _); rotate_left; (focus (first | omega | (simp; omega) | simp))) | ((with_reducible refine Below.setCell ?_ ?_ _); rotate_left; (focus (first | omega | (simp; omega) | simp))) | (refine Below.trans ?_ (Below.mono (by assumption) (by first | omega | (simp; omega) | simp)))))⟩
  case round =>
    obtain ⟨i, rfl, rfl, hi, hR, hb⟩ := hrel
    by_cases hlt : i < ls.length
    · have hml := marksLL_length (ls.take i) k
      rw [List.length_take, Nat.min_eq_left hi] at hml
      have hlen : (marksLL k (ls.take i) ++ ls.drop i).length = ls.length := by simp [marksLL_length]; omega
      have hget : (marksLL k (ls.take i) ++ ls.drop i)[i]? = some ls[i] := by
        rw [List.getElem?_append_right (by omega), hml, Nat.sub_self, List.getElem?_drop]
        simp [List.getElem?_eq_getElem hlt]
      have hat := LL.at_ (c := c) (A := A) (by rw [hlen]; exact hR.out)
      obtain ⟨b, off, A1, c1, rfl, hbl, hc, hs⟩ := hat i (by rw [hlen]; exact hlt)
      have hvi : i < vs.length := by rw [hR.out.len, hlen]; exact hlt
      have hin := hR.out.inner i vs[i] ls[i] (List.getElem?_eq_getElem hvi) hget
      have hcu : wr.cell? ⟨b, off + i, none⟩ = some vs[i] := by
        have ho := hR.out.outer
        rw [show ls.length = vs.length by rw [hR.out.len, hlen]] at ho
        obtain ⟨b', off', e1, _, hc'⟩ := Own.at_ (enc := encV) (sz := 1) (fun _ => rfl) ho i hvi
        injection e1 with e1
        injection e1 with e2 e3
        subst e2; subst e3
        simpa using hc' 0 _ rfl
      obtain ⟨A2, c2, hs2⟩ := hin.1.slice
      rw [hs2] at hcu
      have hou := hin.1
      rw [hs2] at hou
      have hll := HL.out ls[i] (List.getElem_mem hlt)
      have htt := totL_take ls hlt
      have htl := totL_take_le ls (i + 1)
      have HTT := hide htt
      have HOU := hide hou
      have hst := hide (fun (W : World) (hL : LL W B N (.slice (some ⟨b, off, none⟩) ls.length c) vs ((marksLL k (ls.take i) ++ ls.drop i).set i (marks (k + totL (ls.take i)) ls[i].length))) => show LL W B N (.slice (some ⟨b, off, none⟩) ls.length c) vs (marksLL k (ls.take (i + 1)) ++ ls.drop (i + 1)) by rw [← setLL hlt]; exact hL)
      have HSET := hide (fun (W : World) (l' : List Int) (ho : OwnI W B vs[i] l') (hg : wr.grownBy W vs[i].ownBlock) => hR.out.set (List.getElem?_eq_getElem hvi) hget ho hg)
      have hb2 := hide (hin.1.lt)
      rw [hs2] at HSET hb2
      have htb : (totL (ls.take i) : Int) ≤ 100000000 := by have := totL_take_le ls i; omega
      have hsz : B ≤ wr.heap.size := Nat.le_trans hB hb.size
      clear hc hs hin hou hget hat hml hlen htt hs2
      generalize hli : ls[i] = l at *
      clear hli
      generalize htk : totL (ls.take i) = tk at *
      go_wp2_with fail
      refine (lawsmarkInt64S A2 c2 B l _ _ HOU.out hll (by omega) (by omega)).mono ?_
      rintro e w1 ⟨rfl, ho1, hg1⟩
      have HQ := hide (hst.out _ (HSET.out _ _ ho1 hg1))
      have HB1 := hide (Below.grown hb hg1 hsz fun b h => (hb2.out b h).1)
      clear ho1 hg1
      go_wp2_with fail
      go_roundw
      case rel => exact ⟨i + 1, by go_num, by rw [HTT.out]; go_num, by omega, HQ, HB1.out⟩
      case measure => simp [intOf]; omega
    · obtain rfl : i = ls.length := by omega
      have hR' := hR.out
      rw [List.drop_length, List.append_nil, List.take_length] at hR'
      have HN := hide hR'
      clear hR hR'
      go_wp2_with fail
      go_ret
      exact ⟨ret_int (by rw [List.take_length]), HN.out, hb⟩
theorem marksLL_get (ls : List (List Int)) : ∀ (k : Int) (i : Nat) (h : i < ls.length), (marksLL k ls)[i]'(by rw [marksLL_length]; exact h) = marks (k + totL (ls.take i)) ls[i].length := by
  induction ls with
  | nil => intro k i h; simp at h
  | cons l ls ih =>
    intro k i h
    cases i with
    | zero => simp [marksLL, totL]
    | succ i =>
      simp only [marksLL, List.getElem_cons_succ, List.take_succ_cons, totL]
      rw [ih (k + l.length) i (by simpa using h), show k + (l.length : Int) + (totL (ls.take i) : Int) = k + ((l.length + totL (ls.take i) : Nat) : Int) by omega]
theorem heap_set' {w : World} {b j : Nat} {vs : Array Value} {T : TypeId} (v : Value) (h : w.heap[b]? = some (.cells vs T (0, 0))) : (w.setCell ⟨b, j, none⟩ v).heap[b]? = some (.cells (vs.setIfInBounds j v) T (0, 0)) := by
  simp [World.setCell, Array.getElem?_modify, h]
theorem own_far' {α : Type} {enc : α → List Value} {sz : Nat} {T : TypeId} {w w' : World} {b : Nat} {v : Value} {xs : List α} (h : Own enc sz T w (b + 1) v xs) (hg : w.grownBy w' (some b)) : Own enc sz T w' (b + 1) v xs := by
  refine h.kept hg ?_
  cases e : v.ownBlock with
  | none => exact .inl rfl
  | some g => exact .inr fun q => by injection q with q; have := (h.lt g e).1; omega
theorem heap_other {w : World} {b g j : Nat} {x : Value} (h : g ≠ b) : (w.setCell ⟨b, j, none⟩ x).heap[g]? = w.heap[g]? := by
  simp [World.setCell, Array.getElem?_modify, Ne.symm h]
/-- A row of rows that is being copied into block B. -/
structure ToSS (w0 : World) (ls : List (List Int)) (w : World) (k : Nat) (vs : List Value) : Prop where
  fill : Fill 24 w w0.heap.size ls.length vs
  len : vs.length = k
  inner : ∀ (i : Nat) (u : Value) (l : List Int), vs[i]? = some u → ls[i]? = some l → OwnI w (w0.heap.size + 1) u l
  apart : ∀ (i j : Nat) (u u' : Value), i < j → vs[i]? = some u → vs[j]? = some u' → ∀ b, u.ownBlock = some b → u'.ownBlock ≠ some b
  all : ∀ (i : Nat) (u : Value), vs[i]? = some u → ∀ b, u.ownBlock = some b → b < w.heap.size
  bel : Below w0.heap.size w0 w
theorem ToSS.next {w0 w w' : World} {ls : List (List Int)} {k : Nat} {vs : List Value} {A : Option Addr} {n c : Nat} (h : ToSS w0 ls w k vs) (hk : k < ls.length) (hb : Below w.heap.size w w') (ho : OwnI w' w.heap.size (.slice A n c) ls[k]) :
    ToSS w0 ls (w'.setCell ⟨w0.heap.size, k, none⟩ (.slice A n c)) (k + 1) (vs ++ [.slice A n c]) := by
  have hlt := h.fill.lt
  have hg := grown_set (grown_refl w' (some w0.heap.size)) k (.slice A n c)
  have hz := hb.size
  have hnew : OwnI (w'.setCell ⟨w0.heap.size, k, none⟩ (.slice A n c)) (w0.heap.size + 1) (.slice A n c) ls[k] := own_far' (ho.mono (by omega)) hg
  have hsz : (w'.setCell ⟨w0.heap.size, k, none⟩ (.slice A n c)).heap.size = w'.heap.size := by simp [World.setCell]
  refine ⟨(h.fill.below hb hlt).push h.len hk _, by simp [h.len], fun i u l hu hl => ?_, fun i j u u' hij hu hu' b hub => ?_, fun i u hu b hub => ?_, (h.bel.trans (hb.mono h.bel.size)).setCell (Nat.le_refl _) _⟩
  · by_cases hi : i < vs.length
    · rw [List.getElem?_append_left hi] at hu
      exact own_far' ((h.inner i u l hu hl).below hb) hg
    · have hil : i = vs.length := by have := (List.getElem?_eq_some_iff.1 hu).1; simp at this; omega
      subst hil
      rw [List.getElem?_append_right (Nat.le_refl _)] at hu
      simp at hu
      subst hu
      rw [h.len, List.getElem?_eq_getElem hk] at hl
      injection hl with hl
      subst hl
      exact hnew
  · have hi : i < vs.length := by have := (List.getElem?_eq_some_iff.1 hu').1; simp at this; omega
    rw [List.getElem?_append_left hi] at hu
    by_cases hj : j < vs.length
    · rw [List.getElem?_append_left hj] at hu'
      exact h.apart i j u u' hij hu hu' b hub
    · have hjl : j = vs.length := by have := (List.getElem?_eq_some_iff.1 hu').1; simp at this; omega
      subst hjl
      rw [List.getElem?_append_right (Nat.le_refl _)] at hu'
      simp at hu'
      subst hu'
      intro q
      have a := h.all i u hu b hub
      have b2 := (ho.lt b q).1
      omega
  · by_cases hi : i < vs.length
    · rw [List.getElem?_append_left hi] at hu
      have := h.all i u hu b hub
      omega
    · have hil : i = vs.length := by have := (List.getElem?_eq_some_iff.1 hu).1; simp at this; omega
      subst hil
      rw [List.getElem?_append_right (Nat.le_refl _)] at hu
      simp at hu
      subst hu
      have := (ho.lt b hub).2
      omega
theorem ToSS.fin {w0 w : World} {ls : List (List Int)} {vs : List Value} (h : ToSS w0 ls w ls.length vs) (hn : ls.length ≤ 1048576) : LL w w0.heap.size w.heap.size (.slice (some ⟨w0.heap.size, 0, none⟩) ls.length ls.length) vs ls := by
  have hl := h.len
  refine ⟨hl, ?_, fun b hb => ?_, fun i u l hu hl2 => ⟨(h.inner i u l hu hl2).mono (by omega), fun b hb => ((h.inner i u l hu hl2).lt b hb).2⟩, h.apart⟩
  · have := Fill.own (enc := encV) (sz := 1) (n := vs.length) (xs := vs) rfl (by unfold maxLen; omega) (fun _ => rfl) (by rw [encV_id, Nat.mul_one, hl]; exact h.fill)
    rw [hl] at this
    exact this
  · simp [Value.ownBlock] at hb
    subst hb
    exact h.fill.lt
theorem SSAt.get {w : World} {A : Option Addr} {ls : List (List Int)} (h : SSAt w A ls) {k : Nat} (hk : k < ls.length) : ∃ b o A' c', A = some ⟨b, o, none⟩ ∧ b < w.heap.size ∧ w.cell? ⟨b, o + k, none⟩ = some (.slice A' (ls.getD k []).length c') ∧ SlAt encI 1 w A' (ls.getD k []) := by
  have := h k hk
  rw [show ls[k] = ls.getD k [] by rw [List.getD_eq_getElem?_getD, List.getElem?_eq_getElem hk]; rfl] at this
  exact this
set_option maxRecDepth 100000 in
theorem lawstoInt64SS (A : Option Addr) (c : Nat) (ls : List (List Int)) (w : World) (h : SSAt w A ls) (hn : ls.length ≤ 1048576) (hl : ∀ l ∈ ls, l.length ≤ 1048576) :
    Calls Tryz.prog 72 #[.slice A ls.length c] w fun e w' => ∃ vs, e = .returned (.slice (some ⟨w.heap.size, 0, none⟩) ls.length ls.length) ∧ LL w' w.heap.size w'.heap.size (.slice (some ⟨w.heap.size, 0, none⟩) ls.length ls.length) vs ls ∧ Below w.heap.size w w' := by
  obtain ⟨i0, hi, hz0, hz1, hz2⟩ := info_parts info_sl
  have hmk := fun W => run_make_rowN (P := Tryz.prog) 25 24 i0 _ Tryz.underlying25 hi hz0 .i64 .i64 ls.length ls.length (Nat.le_refl _) (by rw [hz2]; omega) (by omega) W
  rw [hz1] at hmk
  generalize hcs : madeCells (Value.slice none 0 0).cells (ls.length * 1) = cs at hmk
  have hcs' : cs.size = ls.length := by rw [← hcs, size_madeCells, Nat.mul_one]
  have hF := Fill.start w cs 24
  rw [hcs'] at hF
  have HF := hide (show ToSS w ls (w.alloc (.cells cs 24)) 0 [] from ⟨hF, rfl, fun i u l h => by simp at h, fun i j u u' _ h => by simp at h, fun i u h => by simp at h, (by repeat (first | with_reducible exact Below.refl _ _ | with_reducible assumption | (with_reducible refine Below.drew ?_) | (with_reducible refine below_drewN ?_ _) | ((with_reducible refine Below.alloc ?_ ?_ _); rotate_left; (focus (first | omega | (simp; omega) | simp))) | ((with_reducible refine Below.setCell ?_ ?_ _); rotate_left; (focus (first | omega | (simp; omega) | simp))) | (refine Below.trans ?_ (Below.mono (by assumption) (by first | omega | (simp; omega) | simp)))))⟩)
  have HX := hide h
  have HL := hide hl
  clear hi hz0 hz1 hz2 hcs hcs' hF h hl
  go_enter Tryz.func72, Tryz.ntmps72
  go_wp2_with fail
  clear hmk
  go_loopw [4] (fun v wr => ∃ (k : Nat) (vs : List Value), v = .int .i64 k ∧ k ≤ ls.length ∧ Hid (ToSS w ls wr k vs)) (fun v _ => ls.length - (intOf v).toNat)
  case atStart => exact ⟨0, [], rfl, by omega, HF⟩
  case round =>
    obtain ⟨k, vs, rfl, hk, HR⟩ := hrel
    by_cases hlt : k < ls.length
    · obtain ⟨b, o, A1, c1, rfl, hb, hc, hs⟩ := (HX.out.below HR.out.bel) k hlt
      have HS := hide hs
      have hll := HL.out ls[k] (List.getElem_mem hlt)
      have HN := hide (fun (w' : World) (A : Option Addr) (n c : Nat) (hb : Below wr.heap.size wr w') (ho : OwnI w' wr.heap.size (.slice A n c) ls[k]) => HR.out.next hlt hb ho)
      obtain ⟨u0, hu0⟩ := HR.out.fill.cell (j := k) (by omega)
      have hf0 := HR.out.fill.frozen k
      have hwl := HR.out.fill.lt
      clear hs
      generalize ls[k] = l at *
      go_wp2_with fail
      refine (lawstoInt64S A1 c1 l _ HS.out hll).mono ?_
      rintro e w2 ⟨b2, rfl, ho2, hb2⟩
      have HT := hide (HN.out w2 _ _ _ hb2 ho2)
      have hu2 := (hb2.cell (p := ⟨w.heap.size, k, none⟩) hwl).trans hu0
      have hf2 := (hb2.frozen (p := ⟨w.heap.size, k, none⟩) hwl).trans hf0
      clear ho2 hb2 HN hc hu0 hf0
      go_wp2_with fail
      go_roundw
      case rel => exact ⟨k + 1, _, by go_num, by omega, HT⟩
      case measure => simp [intOf]; omega
    · obtain rfl : k = ls.length := by omega
      go_wp2_with fail
      go_ret
      exact ⟨vs, rfl, HR.out.fin hn, HR.out.bel⟩
set_option maxRecDepth 100000 in
theorem lawsszInt64S (A : Option Addr) (n c : Nat) (left : Int) (w : World) (hn : n ≤ 281474976710656) (h0 : 0 ≤ left) (h1 : left ≤ 1048576) :
    Calls Tryz.prog 66 #[.slice A n c, .int .i64 left] w fun e w' => e = .returned (.int .i64 (if 0 ≤ left - n then left - n else -1)) ∧ w = w' := by
  have kw : IntKind.i64.wrap (left - (n : Int)) = left - n := IntWalk.i64_in _ (by omega)
  by_cases h : 0 ≤ left - (n : Int)
  · rw [if_pos h]
    go_enter Tryz.func66, Tryz.ntmps66
    go_wp2_with fail
    go_ret
    exact ⟨rfl, rfl⟩
  · rw [if_neg h]
    go_enter Tryz.func66, Tryz.ntmps66
    go_wp2_with fail
    go_ret
    exact ⟨rfl, rfl⟩

theorem LL.nil (w : World) (B : Nat) : LL w B w.heap.size (.slice none 0 0) [] [] := ⟨rfl, Own.nil, fun b h => by simp [Value.ownBlock] at h, fun i u l h => by simp at h, fun i j u u' _ h => by simp at h⟩
end Go.Proofs.YtnefgafmnpblpaaGreat
