/- Slices of slices of numbers: told as lists; the laws' comparison, marks. The bells that are too near, on both sides. -/
import Derived.Test.YtjklhacffdhgaaaOut
namespace Go.Proofs.Ytjklhacffdhgaaa
open Go.RowKit

/-- A slice of slices of numbers reads as lists. -/
def SSAt (w : World) (A : Option Addr) (ls : List (List Int)) : Prop :=
  ∀ (i : Nat) (h : i < ls.length), ∃ b off A' c', A = some ⟨b, off, none⟩ ∧ b < w.heap.size ∧ w.cell? ⟨b, off + i, none⟩ = some (.slice A' ls[i].length c') ∧ SlAt encI 1 w A' ls[i]
theorem SSAt.below {w w' : World} {A : Option Addr} {ls : List (List Int)} (h : SSAt w A ls) (hb : Below w.heap.size w w') : SSAt w' A ls := by
  intro i hi
  obtain ⟨b, off, A', c', e, hlt, hc, hs⟩ := h i hi
  exact ⟨b, off, A', c', e, Nat.lt_of_lt_of_le hlt hb.size, (hb.cell (p := ⟨b, off + i, none⟩) hlt).trans hc, hs.below hb⟩
abbrev encV (v : Value) : List Value := [v]
theorem encV_id (vs : List Value) : vs.flatMap encV = vs := by
  induction vs with
  | nil => rfl
  | cons v vs ih => simp [List.flatMap_cons, ih]
/-- A slice of slices of numbers of the call's own: the outer row holds the values vs; all blocks lie from B on, below N, and are apart. -/
structure LL (w : World) (B N : Nat) (v : Value) (vs : List Value) (ls : List (List Int)) : Prop where
  len : vs.length = ls.length
  outer : Own encV 1 34 w B v vs
  outLt : ∀ b, v.ownBlock = some b → b < N
  inner : ∀ (i : Nat) (u : Value) (l : List Int), vs[i]? = some u → ls[i]? = some l → OwnI w B u l ∧ ∀ b, u.ownBlock = some b → b < N
  apart : ∀ (i j : Nat) (u u' : Value), i < j → vs[i]? = some u → vs[j]? = some u' → ∀ b, u.ownBlock = some b → u'.ownBlock ≠ some b
theorem own_types {α β : Type} {e1 : α → List Value} {e2 : β → List Value} {s1 s2 : Nat} {T1 T2 : TypeId} {w : World} {B1 B2 : Nat} {v1 v2 : Value} {x1 : List α} {x2 : List β} (h1 : Own e1 s1 T1 w B1 v1 x1) (h2 : Own e2 s2 T2 w B2 v2 x2) (hT : T1 ≠ T2) : v1.ownBlock = none ∨ v1.ownBlock ≠ v2.ownBlock := by
  rcases h1.2 with ⟨rfl, _⟩ | ⟨g1, c1, cur1, rfl, _, hg1, _⟩
  · exact .inl rfl
  · right
    rcases h2.2 with ⟨rfl, _⟩ | ⟨g2, c2, cur2, rfl, _, hg2, _⟩
    · simp [Value.ownBlock]
    · intro e
      simp only [Value.ownBlock, Option.some.injEq] at e
      subst e
      rw [hg1] at hg2
      injection hg2 with hg2
      injection hg2 with _ q _
      exact hT q
theorem LL.below {w w' : World} {B N : Nat} {v : Value} {vs : List Value} {ls : List (List Int)} (h : LL w B N v vs ls) (hb : Below w.heap.size w w') : LL w' B N v vs ls :=
  ⟨h.len, h.outer.below hb, h.outLt, fun i u l a b => ⟨(h.inner i u l a b).1.below hb, (h.inner i u l a b).2⟩, h.apart⟩
theorem LL.up {w : World} {B N N' : Nat} {v : Value} {vs : List Value} {ls : List (List Int)} (h : LL w B N v vs ls) (hN : N ≤ N') : LL w B N' v vs ls :=
  ⟨h.len, h.outer, fun b a => Nat.lt_of_lt_of_le (h.outLt b a) hN, fun i u l a b => ⟨(h.inner i u l a b).1, fun c d => Nat.lt_of_lt_of_le ((h.inner i u l a b).2 c d) hN⟩, h.apart⟩
theorem LL.down {w : World} {B B' N : Nat} {v : Value} {vs : List Value} {ls : List (List Int)} (h : LL w B N v vs ls) (hB : B' ≤ B) : LL w B' N v vs ls :=
  ⟨h.len, h.outer.mono hB, h.outLt, fun i u l a b => ⟨(h.inner i u l a b).1.mono hB, (h.inner i u l a b).2⟩, h.apart⟩
theorem kept_out {α : Type} {enc : α → List Value} {sz : Nat} {T : TypeId} {w w' : World} {B M : Nat} {v : Value} {xs : List α} (h : Own enc sz T w B v xs) (hN : ∀ k, v.ownBlock = some k → k < M) (hb : Below M w w') : Own enc sz T w' B v xs := by
  refine ⟨h.1, ?_⟩
  rcases h.2 with hn | ⟨g, cap, cur, rfl, hB, hg, rest⟩
  · exact .inl hn
  · exact .inr ⟨g, cap, cur, rfl, hB, (hb.block g (hN g rfl)).trans hg, rest⟩
/-- Writes from block M on leave it alone. -/
theorem LL.out {w w' : World} {B N M : Nat} {v : Value} {vs : List Value} {ls : List (List Int)} (h : LL w B N v vs ls) (hM : N ≤ M) (hb : Below M w w') : LL w' B N v vs ls :=
  ⟨h.len, kept_out h.outer (fun k a => Nat.lt_of_lt_of_le (h.outLt k a) hM) hb, h.outLt, fun i u l a b => ⟨kept_out (h.inner i u l a b).1 (fun k c => Nat.lt_of_lt_of_le ((h.inner i u l a b).2 k c) hM) hb, (h.inner i u l a b).2⟩, h.apart⟩
/-- Writes to one row ahead of B leave it alone. -/
theorem LL.older {w w' : World} {B N M : Nat} {v v' : Value} {vs : List Value} {ls : List (List Int)} (h : LL w B N v vs ls) (hg : w.grownBy w' v'.ownBlock) (hY : ∀ k, v'.ownBlock = some k → k < M) (hM : M ≤ B) : LL w' B N v vs ls :=
  ⟨h.len, kept_newer h.outer hg hY hM, h.outLt, fun i u l a b => ⟨kept_newer (h.inner i u l a b).1 hg hY hM, (h.inner i u l a b).2⟩, h.apart⟩
theorem LL.set {w w' : World} {B N : Nat} {v : Value} {vs : List Value} {ls : List (List Int)} (h : LL w B N v vs ls) {i : Nat} {u : Value} {l l' : List Int} (hu : vs[i]? = some u) (hl : ls[i]? = some l) (ho : OwnI w' B u l') (hg : w.grownBy w' u.ownBlock) : LL w' B N v vs (ls.set i l') := by
  have hi := h.inner i u l hu hl
  refine ⟨by rw [h.len]; simp, h.outer.kept hg (own_types h.outer hi.1 (by decide)), h.outLt, fun j u' k a b => ?_, h.apart⟩
  by_cases e : j = i
  · subst e
    rw [hu] at a
    injection a with a
    subst a
    have hil : j < ls.length := (List.getElem?_eq_some_iff.1 hl).1
    rw [List.getElem?_set_self hil] at b
    injection b with b
    subst b
    exact ⟨ho, hi.2⟩
  · rw [List.getElem?_set_ne (fun q => e q.symm)] at b
    have hj := h.inner j u' k a b
    refine ⟨hj.1.kept hg ?_, hj.2⟩
    cases hb : u'.ownBlock with
    | none => exact .inl rfl
    | some c =>
      right
      intro q
      rcases Nat.lt_or_gt_of_ne e with e | e
      · exact h.apart j i u' u e a hu c hb q.symm
      · exact h.apart i j u u' e hu a c q.symm hb
theorem LL.at_ {w : World} {B N c : Nat} {A : Option Addr} {vs : List Value} {ls : List (List Int)} (h : LL w B N (.slice A ls.length c) vs ls) : SSAt w A ls := by
  intro i hi
  have hv : i < vs.length := by rw [h.len]; exact hi
  have ho := h.outer
  rw [← h.len] at ho
  obtain ⟨b, off, e, hlt, hc⟩ := Own.at_ (enc := encV) (sz := 1) (fun _ => rfl) ho i hv
  obtain ⟨A', c', hs⟩ := (h.inner i _ _ (List.getElem?_eq_getElem hv) (List.getElem?_eq_getElem hi)).1.slice
  refine ⟨b, off, A', c', e, hlt, ?_, ?_⟩
  · have := hc 0 _ rfl
    rw [hs] at this
    simpa using this
  · have := (h.inner i _ _ (List.getElem?_eq_getElem hv) (List.getElem?_eq_getElem hi)).1
    rw [hs] at this
    exact Own.at_ (enc := encI) (sz := 1) (fun _ => rfl) this
theorem info_sl : (Try.prog.info? 34).map (fun i => (i.zero, i.size, i.bytes)) = some (some (.slice none 0 0), 1, 24) := by kernel_rfl
set_option maxRecDepth 100000 in
/-- One more pair. -/
theorem wpList_appLL {w : World} {ops : Array Oper} {rest : List Oper} {o : Oper} {a : Act} {Q : Exit → Act → World → Prop} (hgd : o.guard = none) (s x : Operand) (ho : o.op = .call { callee := .builtin .append, args := #[s, x], argTypes := #[191, 191] }) (B : Nat) {v : Value} {vs : List Value} {ls : List (List Int)} (hs : a.eval s = v)
    (hown : LL w B w.heap.size v vs ls) {y z : Int} (hx : a.eval x = .slice (some ⟨w.heap.size + 1, 0, none⟩) 1 1) (hn : ls.length ≤ 1048576) (hB : B ≤ w.heap.size)
    (h : ∀ (A : Option Addr) (c : Nat) (w' : World), LL w' B w'.heap.size (.slice A (ls.length + 1) c) (vs ++ [.slice (some ⟨w.heap.size, 0, none⟩) 2 2]) (ls ++ [[y, z]]) → Below B w w' → wpList Try.prog ops Q rest (a.put o.dst (.slice A (ls.length + 1) c)) w') :
    wpList Try.prog ops Q (o :: rest) a ((w.alloc (.cells #[.int .i64 y, .int .i64 z] 2)).alloc (.cells #[.slice (some ⟨w.heap.size, 0, none⟩) 2 2] 34)) := by
  obtain ⟨i0, hi, hz0, hz1, hz2⟩ := info_parts info_sl
  have hb1 : Below w.heap.size w (w.alloc (.cells #[.int .i64 y, .int .i64 z] 2)) := (Below.refl _ _).alloc (Nat.le_refl _) _
  have hb2 : Below (w.heap.size + 1) (w.alloc (.cells #[.int .i64 y, .int .i64 z] 2)) ((w.alloc (.cells #[.int .i64 y, .int .i64 z] 2)).alloc (.cells #[.slice (some ⟨w.heap.size, 0, none⟩) 2 2] 34)) := (Below.refl _ _).alloc (by simp) _
  have hb0 : Below w.heap.size w ((w.alloc (.cells #[.int .i64 y, .int .i64 z] 2)).alloc (.cells #[.slice (some ⟨w.heap.size, 0, none⟩) 2 2] 34)) := hb1.trans (hb2.mono (by omega))
  have hL := hown.below hb0
  have hnew : OwnI ((w.alloc (.cells #[.int .i64 y, .int .i64 z] 2)).alloc (.cells #[.slice (some ⟨w.heap.size, 0, none⟩) 2 2] 34)) B (.slice (some ⟨w.heap.size, 0, none⟩) 2 2) [y, z] := by
    refine Own.below ?_ (hb2.mono (by simp))
    exact ⟨rfl, .inr ⟨w.heap.size, 2, _, rfl, hB, heap_alloc_new w _, Nat.le_refl _, by simp [maxLen], rfl, rfl⟩⟩
  refine wpList_app Try.underlying191 hi hz0 hz1 hz2 rfl (by omega) (by omega) (fun _ => rfl) hgd s x ho B hs hL.outer (.slice (some ⟨w.heap.size, 0, none⟩) 2 2) (fun u hu => by simp at hu; subst hu; rfl) hx (fun j u hj => ?_) (by rw [hown.len]; exact hn) (by simp; omega) fun A c w' h1 h2 h3 => ?_
  · match j, hj with
    | 0, hj => injection hj with hj; subst hj; simp [Addr.add]
  · rw [hown.len] at h1 ⊢
    refine h A c w' ⟨by simp [hown.len], h1, fun b hb => ?_, fun i u l hu hl => ?_, fun i j u u' hij hu hu' b hb => ?_⟩ ((hb0.mono hB).trans h2)
    · exact (h1.lt b hb).2
    · by_cases hi : i < vs.length
      · rw [List.getElem?_append_left hi] at hu
        rw [List.getElem?_append_left (by rw [← hown.len]; exact hi)] at hl
        have q := hL.inner i u l hu hl
        have q2 := q.1.kept h3 (own_types q.1 hL.outer (by decide))
        exact ⟨q2, fun b hb => (q2.lt b hb).2⟩
      · have hil : i = vs.length := by
          have := (List.getElem?_eq_some_iff.1 hu).1
          simp at this; omega
        subst hil
        rw [List.getElem?_append_right (Nat.le_refl _)] at hu
        rw [hown.len, List.getElem?_append_right (Nat.le_refl _)] at hl
        simp at hu hl
        subst hu; subst hl
        have q2 := hnew.kept h3 (own_types hnew hL.outer (by decide))
        exact ⟨q2, fun b hb => (q2.lt b hb).2⟩
    · have hi : i < vs.length := by
        have := (List.getElem?_eq_some_iff.1 hu').1
        simp at this; omega
      rw [List.getElem?_append_left hi] at hu
      by_cases hj : j < vs.length
      · rw [List.getElem?_append_left hj] at hu'
        exact hown.apart i j u u' hij hu hu' b hb
      · have hjl : j = vs.length := by
          have := (List.getElem?_eq_some_iff.1 hu').1
          simp at this; omega
        subst hjl
        rw [List.getElem?_append_right (Nat.le_refl _)] at hu'
        simp at hu'
        subst hu'
        intro q
        simp [Value.ownBlock] at q
        have hi2 : i < ls.length := by rw [← hown.len]; exact hi
        have := (hown.inner i u (ls[i]'hi2) hu (List.getElem?_eq_getElem hi2)).2 b hb
        omega
/-- All numbers marked in order. -/
def marksLL : Int → List (List Int) → List (List Int)
  | _, [] => []
  | k, l :: ls => marks k l.length :: marksLL (k + l.length) ls
def totL : List (List Int) → Nat
  | [] => 0
  | l :: ls => l.length + totL ls
theorem totL_append (a b : List (List Int)) : totL (a ++ b) = totL a + totL b := by
  induction a with
  | nil => simp [totL]
  | cons x a ih => simp only [List.cons_append, totL, ih]; omega
theorem marksLL_length (ls : List (List Int)) : ∀ k, (marksLL k ls).length = ls.length := by
  induction ls with
  | nil => intro k; rfl
  | cons l ls ih => intro k; simp [marksLL, ih]
theorem marksLL_append (a b : List (List Int)) : ∀ k, marksLL k (a ++ b) = marksLL k a ++ marksLL (k + totL a) b := by
  induction a with
  | nil => intro k; simp [marksLL, totL]
  | cons l a ih =>
    intro k
    simp only [List.cons_append, marksLL, ih, totL]
    rw [show k + (l.length : Int) + (totL a : Int) = k + ((l.length + totL a : Nat) : Int) by omega]
theorem totL_take_le (ls : List (List Int)) (i : Nat) : totL (ls.take i) ≤ totL ls := by
  have := totL_append (ls.take i) (ls.drop i)
  rw [List.take_append_drop] at this
  omega
theorem totL_take (ls : List (List Int)) {i : Nat} (h : i < ls.length) : totL (ls.take (i + 1)) = totL (ls.take i) + ls[i].length := by
  rw [List.take_succ_eq_append_getElem h, totL_append]; simp [totL]
theorem marksLL_take (ls : List (List Int)) {i : Nat} (h : i < ls.length) (k : Int) : marksLL k (ls.take (i + 1)) = marksLL k (ls.take i) ++ [marks (k + totL (ls.take i)) ls[i].length] := by
  rw [List.take_succ_eq_append_getElem h, marksLL_append]; simp [marksLL]
theorem setLL {ls : List (List Int)} {i : Nat} (h : i < ls.length) (k : Int) : (marksLL k (ls.take i) ++ ls.drop i).set i (marks (k + totL (ls.take i)) ls[i].length) = marksLL k (ls.take (i + 1)) ++ ls.drop (i + 1) := by
  rw [marksLL_take ls h, List.drop_eq_getElem_cons h]
  have hl := marksLL_length (ls.take i) k
  rw [List.length_take, Nat.min_eq_left (Nat.le_of_lt h)] at hl
  rw [List.set_append_right _ _ (by omega), hl, Nat.sub_self, List.set_cons_zero, List.append_assoc]
  rfl
theorem marksLL_get (ls : List (List Int)) : ∀ (k : Int) (i : Nat) (h : i < ls.length), (marksLL k ls)[i]'(by rw [marksLL_length]; exact h) = marks (k + totL (ls.take i)) ls[i].length := by
  induction ls with
  | nil => intro k i h; simp at h
  | cons l ls ih =>
    intro k i h
    cases i with
    | zero => simp [marksLL, totL]
    | succ i =>
      simp only [marksLL, List.getElem_cons_succ, List.take_succ_cons, totL]
      rw [ih (k + l.length) i (by simpa using h), show k + (l.length : Int) + (totL (ls.take i) : Int) = k + ((l.length + totL (ls.take i) : Nat) : Int) by omega]

/-- The pairs of bells that are too near, in order: for the first bell i those behind it, below n. -/
def tooNear (xs : List PlaceR) (g : Int) (i j : Nat) : Bool := match xs[i]?, xs[j]? with
  | some p, some q => decide (clP p q < g)
  | _, _ => false
def rowF (xs : List PlaceR) (g : Int) (i n : Nat) : List (List Int) := ((List.range n).filter fun j => decide (i < j) && tooNear xs g i j).map fun j : Nat => [(i : Int), (j : Int)]
def allF (xs : List PlaceR) (g : Int) (m : Nat) : List (List Int) := (List.range m).flatMap fun i => rowF xs g i xs.length
theorem rowF_start (xs : List PlaceR) (g : Int) (i : Nat) : rowF xs g i (i + 1) = [] := by
  unfold rowF
  rw [List.map_eq_nil_iff, List.filter_eq_nil_iff]
  intro j hj
  rw [List.mem_range] at hj
  simp
  omega
theorem rowF_step (xs : List PlaceR) (g : Int) {i j : Nat} (h : i < j) : rowF xs g i (j + 1) = rowF xs g i j ++ if tooNear xs g i j then [[(i : Int), (j : Int)]] else [] := by
  unfold rowF
  rw [List.range_succ, List.filter_append, List.map_append]
  simp only [List.filter_cons, List.filter_nil, h, decide_true, Bool.true_and]
  split <;> simp
theorem allF_step (xs : List PlaceR) (g : Int) (m : Nat) : allF xs g (m + 1) = allF xs g m ++ rowF xs g m xs.length := by
  unfold allF
  rw [List.range_succ, List.flatMap_append]
  simp
theorem tooNear_eq {xs : List PlaceR} {g : Int} {i j : Nat} (hi : i < xs.length) (hj : j < xs.length) : tooNear xs g i j = decide (clP xs[i] xs[j] < g) := by
  unfold tooNear
  rw [List.getElem?_eq_getElem hi, List.getElem?_eq_getElem hj]
theorem rowF_two (xs : List PlaceR) (g : Int) (i n : Nat) : ∀ l ∈ rowF xs g i n, l.length = 2 := by
  intro l hl
  unfold rowF at hl
  rw [List.mem_map] at hl
  obtain ⟨j, _, rfl⟩ := hl
  rfl
theorem allF_two (xs : List PlaceR) (g : Int) (m : Nat) : ∀ l ∈ allF xs g m, l.length = 2 := by
  intro l hl
  unfold allF at hl
  rw [List.mem_flatMap] at hl
  obtain ⟨i, _, hl⟩ := hl
  exact rowF_two xs g i _ l hl
theorem totL_two {ls : List (List Int)} (h : ∀ l ∈ ls, l.length = 2) : totL ls = 2 * ls.length := by
  induction ls with
  | nil => rfl
  | cons l ls ih =>
    have := h l (by simp)
    have := ih fun x hx => h x (by simp [hx])
    simp only [totL, List.length_cons]
    omega
theorem rowF_len (xs : List PlaceR) (g : Int) (i n : Nat) : (rowF xs g i n).length ≤ n := by
  unfold rowF
  rw [List.length_map]
  have := List.length_filter_le (fun j => decide (i < j) && tooNear xs g i j) (List.range n)
  simpa using this
theorem allF_len (xs : List PlaceR) (g : Int) (m : Nat) : (allF xs g m).length ≤ m * xs.length := by
  induction m with
  | zero => simp [allF]
  | succ m ih =>
    rw [allF_step, List.length_append, Nat.add_mul]
    have := rowF_len xs g m xs.length
    omega
/-- A slice of slices of the call's own. -/
def PairsRes (ls : List (List Int)) (w : World) (e : Ending) (w' : World) : Prop := ∃ (A : Option Addr) (c : Nat) (vs : List Value), e = .returned (.slice A ls.length c) ∧ LL w' w.heap.size w'.heap.size (.slice A ls.length c) vs ls ∧ Below w.heap.size w w'
theorem LL.nil (w : World) (B : Nat) : LL w B w.heap.size (.slice none 0 0) [] [] := ⟨rfl, Own.nil, fun b h => by simp [Value.ownBlock] at h, fun i u l h => by simp at h, fun i j u u' _ h => by simp at h⟩
theorem LL.made (w : World) (B b : Nat) (hb : b = w.heap.size) (hB : B ≤ w.heap.size) : LL (w.alloc (.cells #[] 34)) B (w.alloc (.cells #[] 34)).heap.size (.slice (some ⟨b, 0, none⟩) 0 0) [] [] :=
  ⟨rfl, own_made w hb hB, fun c h => by simp [Value.ownBlock] at h; subst h; subst hb; simp, fun i u l h => by simp at h, fun i j u u' _ h => by simp at h⟩
set_option maxRecDepth 100000 in
set_option maxHeartbeats 1000000 in
theorem implclashes (A : Option Addr) (c : Nat) (xs : List PlaceR) (g : Int) (w : World) (h : SlAt encPlace 5 w A xs) (hn : xs.length ≤ 24) (hv : ∀ x ∈ xs, vPlaceR x = true) :
    Calls Try.prog 131 #[.slice A xs.length c, .int .i64 g] w (PairsRes (allF xs g xs.length) w) := by
  have HX := hide h
  have RV := hide hv
  have hln : ∀ (m : Nat) (i j : Nat), m ≤ 24 → j ≤ 24 → (allF xs g m ++ rowF xs g i j).length ≤ 1000 := fun m i j hm hj => by
    have a := allF_len xs g m
    have b := rowF_len xs g i j
    have d : m * xs.length ≤ 24 * 24 := Nat.mul_le_mul hm hn
    rw [List.length_append]
    omega
  have HLN := hide hln
  clear h hv hln
  go_enter Try.func131, Try.ntmps131
  go_wp2_with fail
  go_loopw [10, 5] (fun v t wr => ∃ (i : Nat) (A' : Option Addr) (c' : Nat) (vs : List Value) (ls : List (List Int)), v = .int .i64 i ∧ t = .slice A' ls.length c' ∧ i ≤ xs.length ∧ Hid (ls = allF xs g i) ∧ Hid (LL wr w.heap.size wr.heap.size (.slice A' ls.length c') vs ls) ∧ Below w.heap.size w wr) (fun v _ _ => xs.length - (intOf v).toNat)
  case atStart => exact ⟨0, none, 0, [], [], rfl, rfl, by omega, hide rfl, hide (LL.nil _ _), (by repeat (first | with_reducible exact Below.refl _ _ | with_reducible assumption | (with_reducible refine Below.drew ?_) | (with_reducible refine below_drewN ?_ _) | ((with_reducible refine Below.alloc ?_ ?_ _); rotate_left; (focus (first | omega | (simp; omega) | simp))) | ((with_reducible refine Below.setCell ?_ ?_ _); rotate_left; (focus (first | omega | (simp; omega) | simp))) | (refine Below.trans ?_ (Below.mono (by assumption) (by first | omega | (simp; omega) | simp)))))⟩
  case round =>
    obtain ⟨i, A', c', vs, ls, rfl, rfl, hi, hls, hL, hb⟩ := hrel
    obtain ⟨wo, rfl⟩ : ∃ wo : World, wo = wr := ⟨_, rfl⟩
    by_cases hlt : i < xs.length
    · have hil : (i : Int) < (xs.length : Int) := by omega
      go_wp2_with fail
      go_loopw [7, 5] (fun v t wi => ∃ (j : Nat) (A' : Option Addr) (c' : Nat) (vs : List Value) (ls : List (List Int)), v = .int .i64 j ∧ t = .slice A' ls.length c' ∧ i < j ∧ j ≤ xs.length ∧ Hid (ls = allF xs g i ++ rowF xs g i j) ∧ Hid (LL wi w.heap.size wi.heap.size (.slice A' ls.length c') vs ls) ∧ Below w.heap.size w wi) (fun v _ _ => xs.length - (intOf v).toNat)
      case atStart => exact ⟨i + 1, A', c', vs, ls, by go_num, rfl, by omega, by omega, hide (by rw [rowF_start, List.append_nil]; exact hls.out), hL, hb⟩
      case round =>
        obtain ⟨j, A', c', vs, ls, rfl, rfl, hij, hj, hls, hL, hb⟩ := hrel
        by_cases hjl : j < xs.length
        · have hjl2 : (j : Int) < (xs.length : Int) := by omega
          have hz := hb.size
          have hll : ls.length ≤ 1000 := by rw [hls.out]; exact HLN.out i i j (by omega) (by omega)
          have htn := hide (tooNear_eq (g := g) hlt hjl)
          have hrs := hide (rowF_step xs g hij)
          obtain ⟨b, off, rfl, hbl, hcp⟩ := HX.out.below hb i hlt
          obtain ⟨b2, off2, e2, hbl2, hcq⟩ := HX.out.below hb j hjl
          injection e2 with e2
          injection e2 with e3 e4
          subst e3; subst e4
          have hvp := hide (RV.out xs[i] (List.getElem_mem hlt))
          have hvq := hide (RV.out xs[j] (List.getElem_mem hjl))
          have HB := hide hb
          clear hb
          generalize xs[i] = p at *
          generalize xs[j] = q at *
          obtain ⟨p0, p1, p2, p3, p4⟩ := p
          obtain ⟨q0, q1, q2, q3, q4⟩ := q
          have a0 := hcp 0 _ rfl
          have a1 := hcp 1 _ rfl
          have a2 := hcp 2 _ rfl
          have a3 := hcp 3 _ rfl
          have a4 := hcp 4 _ rfl
          have d0 := hcq 0 _ rfl
          have d1 := hcq 1 _ rfl
          have d2 := hcq 2 _ rfl
          have d3 := hcq 3 _ rfl
          have d4 := hcq 4 _ rfl
          simp only [Nat.add_zero] at a0 a1 a2 a3 a4 d0 d1 d2 d3 d4
          clear hcp hcq
          have hcl : Hid (clP ⟨p0, p1, p2, p3, p4⟩ ⟨q0, q1, q2, q3, q4⟩ = clr p1 p2 p3 p4 q1 q2 q3 q4) := hide rfl
          go_wp2_with fail
          skip
          refine wp_region_kept (by kernel_rfl) (by kernel_rfl) ?_
          intro gc gf gz
          repeat (go_big_quiet_step ((go_at_call 177; exact Calls.kept (implclearance p0 q0 p1 p2 p3 p4 q1 q2 q3 q4 _ hvp.out hvq.out))))
          refine wpQuiet_nil ?_
          intro w1 hw'
          obtain ⟨⟨_, hb1⟩, rfl⟩ := hw'
          clear gc gf gz
          try dsimp only
          have fs1 := hb1.size
          try simp at fs1 hb1
          clear a0 a1 a2 a3 a4 d0 d1 d2 d3 d4
          have hL1 := hide ((hL.out.below hb1).up fs1)
          have HB1 := hide (HB.out.trans (hb1.mono hz))
          clear hb1
          generalize clr p1 p2 p3 p4 q1 q2 q3 q4 = cc at *
          by_cases hcc : cc < g
          · have e1 : Hid (ls ++ [[(i : Int), (j : Int)]] = allF xs g i ++ rowF xs g i (j + 1)) := hide (by rw [hrs.out, htn.out, hcl.out, hls.out]; simp [hcc])
            have hz1 : w.heap.size ≤ w1.heap.size := by omega
            have hlL := hL1.out
            go_wp2_with (at_builtin; refine wpList_appLL rfl _ _ rfl w.heap.size rfl hlL rfl (by omega) hz1 ?_; intro A1 c1 w2 ho2 hb2)
            have HO2 := hide ho2
            have HB2 := hide (HB1.out.trans hb2)
            clear ho2 hb2 hlL
            go_roundw
            case rel => exact ⟨j + 1, A1, c1, _, ls ++ [[(i : Int), (j : Int)]], by go_num, by simp, by omega, by omega, e1, by simpa using HO2, HB2.out⟩
            case measure => simp [intOf]; omega
          · have e1 : Hid (ls = allF xs g i ++ rowF xs g i (j + 1)) := hide (by rw [hrs.out, htn.out, hcl.out, hls.out]; simp [hcc])
            go_wp2_with fail
            go_roundw
            case rel => exact ⟨j + 1, A', c', vs, ls, by go_num, rfl, by omega, by omega, e1, hL1, HB1.out⟩
            case measure => simp [intOf]; omega
        · obtain rfl : j = xs.length := by omega
          have e1 : Hid (ls = allF xs g (i + 1)) := hide (by rw [allF_step]; exact hls.out)
          go_wp2_with fail
          go_roundw
          case rel => exact ⟨i + 1, A', c', vs, ls, by go_num, rfl, by omega, e1, hL, hb⟩
          case measure => simp [intOf]; omega
    · obtain rfl : i = xs.length := by omega
      have e1 := hls.out
      subst e1
      go_wp2_with fail
      go_ret
      exact ⟨A', c', vs, rfl, hL.out, hb⟩
end Go.Proofs.Ytjklhacffdhgaaa
