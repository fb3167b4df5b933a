/- Slices of structs that read as lists: the predicate, and the contracts of the laws' copies, counts and comparisons. -/
import Derived.Test.YtnefgafmnpblpaaGreatValid
import Derived.Deep.RegionHeld3
import Derived.Laws.MakeOwn
import Derived.Outline
import Derived.OwnWalk
import Derived.Laws.OwnMore
namespace Go.Proofs.YtnefgafmnpblpaaGreat
open Go.RowKit

/-- A slice whose elements (of sz cells each) read as the list xs. -/
def SlAt {α : Type} (enc : α → List Value) (sz : Nat) (w : World) (A : Option Addr) (xs : List α) : Prop :=
  ∀ (k : Nat) (h : k < xs.length), ∃ b off, A = some ⟨b, off, none⟩ ∧ b < w.heap.size ∧ ∀ (j : Nat) (v : Value), (enc xs[k])[j]? = some v → w.cell? ⟨b, off + k * sz + j, none⟩ = some v
theorem SlAt.below {α : Type} {enc : α → List Value} {sz : Nat} {w w' : World} {A : Option Addr} {xs : List α} (h : SlAt enc sz w A xs) (hb : Below w.heap.size w w') : SlAt enc sz w' A xs := by
  intro k hk
  obtain ⟨b, off, e, hlt, hc⟩ := h k hk
  exact ⟨b, off, e, Nat.lt_of_lt_of_le hlt hb.size, fun j v hv => (hb.cell (p := ⟨b, off + k * sz + j, none⟩) hlt).trans (hc j v hv)⟩
theorem SlAt.far {α : Type} {enc : α → List Value} {sz : Nat} {w : World} {b o : Nat} {xs : List α} (h : SlAt enc sz w (some ⟨b, o, none⟩) xs) {p : Addr} (hp : p.block ≠ b) (v : Value) : SlAt enc sz (w.setCell p v) (some ⟨b, o, none⟩) xs := by
  intro k hk
  obtain ⟨b', off, e, hl, hc⟩ := h k hk
  injection e with e
  injection e with e1 e2
  subst e1; subst e2
  exact ⟨b, o, rfl, by simpa [World.setCell] using hl, fun j u hu => (World.cell?_setCell_other w p _ v (fun e => hp (by rw [e]))).trans (hc j u hu)⟩
theorem run_make_rowN {P : Program} (t e : TypeId) (i : TypeInfo) (z : Value) (ht : P.underlying t = some (.slice e)) (hi : P.info? e = some i) (hz : i.zero = some z)
    (kl kc : IntKind) (n c : Nat) (hnc : n ≤ c) (hbytes : i.bytes * c ≤ 281474976710656) (h63 : c ≤ 9223372036854775807) (w : World) :
    (Instr.makeSlice t (.int kl (n : Int)) (.int kc (c : Int))).run P w = .ok (.slice (some ⟨w.heap.size, 0, none⟩) n c) (w.alloc (.cells (madeCells z.cells (c * i.size)) e)) := by
  have hb : (i.bytes : Int) * (c : Int) ≤ 281474976710656 := by
    have h : ((i.bytes * c : Nat) : Int) ≤ 281474976710656 := by omega
    rwa [Int.natCast_mul] at h
  have hr := run_make (P := P) w t e i z ht hi hz kl kc n c (by omega) (by omega) hb (by omega)
  simp only [Int.toNat_natCast] at hr
  exact hr

/-- A block of the call's own that is filled from its head: N cells, none frozen, the first of them vs. -/
def Fill (t : TypeId) (w : World) (B N : Nat) (vs : List Value) : Prop := ∃ (cs : Array Value), w.heap[B]? = some (.cells cs t (0, 0)) ∧ cs.size = N ∧ ∀ (j : Nat) (v : Value), vs[j]? = some v → cs[j]? = some v
theorem Fill.start (w : World) (cs : Array Value) (t : TypeId) : Fill t (w.alloc (.cells cs t)) w.heap.size cs.size [] :=
  ⟨cs, heap_alloc_new w _, rfl, fun j v h => by simp at h⟩
theorem Fill.below {t : TypeId} {w w' : World} {B B' N : Nat} {vs : List Value} (h : Fill t w B N vs) (hb : Below B' w w') (hB : B < B') : Fill t w' B N vs := by
  obtain ⟨cs, e, hs, hv⟩ := h
  exact ⟨cs, (hb.block B hB).trans e, hs, hv⟩
theorem Fill.drewN {t : TypeId} {w : World} {B N : Nat} {vs : List Value} (h : Fill t w B N vs) (n : Nat) : Fill t (w.drewN n) B N vs := h
theorem Fill.cell {t : TypeId} {w : World} {B N : Nat} {vs : List Value} (h : Fill t w B N vs) {j : Nat} (hj : j < N) : ∃ u, w.cell? ⟨B, j, none⟩ = some u := by
  obtain ⟨cs, e, hs, hv⟩ := h
  refine ⟨cs[j], ?_⟩
  simp [World.cell?, e]
theorem Fill.frozen {t : TypeId} {w : World} {B N : Nat} {vs : List Value} (h : Fill t w B N vs) (j : Nat) : w.frozen? ⟨B, j, none⟩ = false := by
  obtain ⟨cs, e, hs, hv⟩ := h
  simp [World.frozen?, e]
theorem Fill.lt {t : TypeId} {w : World} {B N : Nat} {vs : List Value} (h : Fill t w B N vs) : B < w.heap.size := by
  obtain ⟨cs, e, hs, hv⟩ := h
  rcases Nat.lt_or_ge B w.heap.size with hlt | hge
  · exact hlt
  · rw [Array.getElem?_eq_none hge] at e; cases e
theorem Fill.push {t : TypeId} {w : World} {B N m : Nat} {vs : List Value} (h : Fill t w B N vs) (hm : vs.length = m) (hN : m < N) (v : Value) : Fill t (w.setCell ⟨B, m, none⟩ v) B N (vs ++ [v]) := by
  obtain ⟨cs, e, hs, hv⟩ := h
  refine ⟨cs.setIfInBounds m v, ?_, by simpa using hs, fun j u hu => ?_⟩
  · simp [World.setCell, Array.getElem?_modify, e]
  · by_cases hj : j = m
    · subst hj
      rw [List.getElem?_append_right (by omega)] at hu
      simp only [hm, Nat.sub_self, List.getElem?_cons_zero, Option.some.injEq] at hu
      subst hu
      rw [Array.getElem?_setIfInBounds_self_of_lt (by omega)]
    · by_cases hlt : j < vs.length
      · rw [List.getElem?_append_left hlt] at hu
        rw [Array.getElem?_setIfInBounds_ne (by omega)]
        exact hv j u hu
      · rw [List.getElem?_eq_none (by simp; omega)] at hu
        cases hu
theorem flat_length {α : Type} {enc : α → List Value} {sz : Nat} (he : ∀ x, (enc x).length = sz) (xs : List α) : (xs.flatMap enc).length = xs.length * sz := by
  induction xs with
  | nil => simp
  | cons x xs ih => simp [ih, he, Nat.add_mul, Nat.add_comm]
theorem flat_get {α : Type} {enc : α → List Value} {sz : Nat} (he : ∀ x, (enc x).length = sz) : ∀ (xs : List α) (k : Nat) (h : k < xs.length) (j : Nat), j < sz → (xs.flatMap enc)[k * sz + j]? = (enc xs[k])[j]? := by
  intro xs
  induction xs with
  | nil => intro k h; simp at h
  | cons x xs ih =>
    intro k h j hj
    cases k with
    | zero => simp only [List.flatMap_cons, Nat.zero_mul, Nat.zero_add, List.getElem_cons_zero]; rw [List.getElem?_append_left (by rw [he]; exact hj)]
    | succ k =>
      simp only [List.flatMap_cons, List.getElem_cons_succ]
      rw [List.getElem?_append_right (by rw [he, Nat.add_mul]; omega), he, show (k + 1) * sz + j - sz = k * sz + j by rw [Nat.add_mul]; omega]
      exact ih k (by simpa using h) j hj
theorem take_flat {α : Type} (enc : α → List Value) (xs : List α) (k : Nat) (h : k < xs.length) : (xs.take (k + 1)).flatMap enc = (xs.take k).flatMap enc ++ enc xs[k] := by
  rw [List.take_succ_eq_append_getElem h, List.flatMap_append]; simp
theorem Fill.fin {α : Type} {enc : α → List Value} {sz : Nat} (he : ∀ x, (enc x).length = sz) {t : TypeId} {w : World} {B N : Nat} {xs : List α} (h : Fill t w B N (xs.flatMap enc)) : SlAt enc sz w (some ⟨B, 0, none⟩) xs := by
  intro k hk
  refine ⟨B, 0, rfl, h.lt, fun j v hv => ?_⟩
  obtain ⟨cs, e, hs, hvs⟩ := h
  have hj : j < sz := by
    have := (List.getElem?_eq_some_iff.1 hv).1
    rwa [he] at this
  have := hvs (k * sz + j) v ((flat_get he xs k hk j hj).trans hv)
  simpa [World.cell?, e] using this
/-- What a loop that fills a block of its own knows at a round's head. -/
def Filling {α : Type} (enc : α → List Value) (sz : Nat) (t : TypeId) (w0 w : World) (B : Nat) (xs : List α) (k : Nat) : Prop := Fill t w B (xs.length * sz) ((xs.take k).flatMap enc) ∧ Below B w0 w

/-- The slice v owns a row of its own, in a block from B on, that reads as the list xs. -/
def Own {α : Type} (enc : α → List Value) (sz : Nat) (T : TypeId) (w : World) (B : Nat) (v : Value) (xs : List α) : Prop := w.ownsRow B T sz v xs.length (xs.flatMap enc)
section
variable {α : Type} {enc : α → List Value} {sz : Nat} {T : TypeId} {w : World} {B : Nat} {v : Value} {xs : List α}
theorem Own.nil : Own enc sz T w B (.slice none 0 0) ([] : List α) := World.ownsRow_nil _ _ _ _
theorem Own.lt (h : Own enc sz T w B v xs) : ∀ k, v.ownBlock = some k → B ≤ k ∧ k < w.heap.size := World.ownsRow.lt h
theorem Own.kept {w' : World} {row : Option Nat} (h : Own enc sz T w B v xs) (hg : w.grownBy w' row) (hne : v.ownBlock = none ∨ v.ownBlock ≠ row) : Own enc sz T w' B v xs := World.ownsRow.kept h hg hne
theorem grown_of_below {w' : World} (hb : Below w.heap.size w w') (row : Option Nat) : w.grownBy w' row := ⟨hb.os, hb.tape, hb.output, hb.size, fun k hk _ => hb.block k hk⟩
theorem Own.below {w' : World} (h : Own enc sz T w B v xs) (hb : Below w.heap.size w w') : Own enc sz T w' B v xs :=
  h.kept (grown_of_below hb none) (by cases hv : v.ownBlock <;> simp)
theorem own_mono {n : Nat} {cs : List Value} {B' : Nat} (h : w.ownsRow B T sz v n cs) (hB : B' ≤ B) : w.ownsRow B' T sz v n cs := by
  refine ⟨h.1, ?_⟩
  rcases h.2 with h | ⟨g, cap, cur, h1, h2, h3⟩
  · exact .inl h
  · exact .inr ⟨g, cap, cur, h1, Nat.le_trans hB h2, h3⟩
theorem Own.mono {B' : Nat} (h : Own enc sz T w B v xs) (hB : B' ≤ B) : Own enc sz T w B' v xs := own_mono h hB
theorem own_addr {n c : Nat} {A : Option Addr} {cs : List Value} (h : w.ownsRow B T sz (.slice A n c) n cs) (hn : 0 < n) : ∃ g, A = some ⟨g, 0, none⟩ ∧ B ≤ g ∧ g < w.heap.size := by
  rcases h.2 with ⟨_, h0⟩ | ⟨g, cap, cur, h1, h2, h3, _⟩
  · omega
  · injection h1 with h1
    exact ⟨g, h1, h2, (Array.getElem?_eq_some_iff.1 h3).1⟩
theorem own_slice {n : Nat} {cs : List Value} (h : w.ownsRow B T sz v n cs) : ∃ A c, v = .slice A n c := by
  rcases h.2 with ⟨h1, h0⟩ | ⟨g, cap, cur, h1, _⟩
  · exact ⟨_, _, by rw [h1, h0]⟩
  · exact ⟨_, _, h1⟩
theorem Own.slice (h : Own enc sz T w B v xs) : ∃ A c, v = .slice A xs.length c := own_slice h
theorem Own.at_ {A : Option Addr} {c : Nat} (he : ∀ x, (enc x).length = sz) (h : Own enc sz T w B (.slice A xs.length c) xs) : SlAt enc sz w A xs := by
  intro k hk
  obtain ⟨g, rfl, h1, h2⟩ := own_addr h (by omega)
  refine ⟨g, 0, rfl, h2, fun j u hu => ?_⟩
  have hj : j < sz := by
    have := (List.getElem?_eq_some_iff.1 hu).1
    rwa [he] at this
  have hlt : k * sz + j < xs.length * sz := by
    have : (k + 1) * sz ≤ xs.length * sz := Nat.mul_le_mul_right _ hk
    rw [Nat.add_mul] at this
    omega
  rw [Nat.zero_add, World.ownsRow.cellAt h _ hlt, flat_get he xs k hk j hj]
  exact hu
theorem Fill.own {t : TypeId} {n : Nat} (hn : n = xs.length) (hmax : n ≤ maxLen) (he : ∀ x, (enc x).length = sz) (h : Fill t w B (n * sz) (xs.flatMap enc)) : Own enc sz t w B (.slice (some ⟨B, 0, none⟩) n n) xs := by
  subst hn
  obtain ⟨cs, e, hs, hv⟩ := h
  refine ⟨flat_length he xs, .inr ⟨B, xs.length, cs, rfl, Nat.le_refl _, e, Nat.le_refl _, hmax, hs, ?_⟩⟩
  rw [← hs, ← Array.length_toList, List.take_length]
  refine List.ext_getElem? fun j => ?_
  by_cases hj : j < (xs.flatMap enc).length
  · have := hv j _ (List.getElem?_eq_getElem hj)
    rw [List.getElem?_eq_getElem hj, ← this]; simp
  · have hl := flat_length he xs
    rw [List.getElem?_eq_none (show (xs.flatMap enc).length ≤ j by omega), List.getElem?_eq_none (show cs.toList.length ≤ j by rw [Array.length_toList]; omega)]
end

theorem grown_trans {a b c : World} {row : Option Nat} (h : a.grownBy b row) (k : b.grownBy c row) : a.grownBy c row :=
  ⟨k.os.trans h.os, k.tape.trans h.tape, k.output.trans h.output, Nat.le_trans h.size k.size, fun i hi hn => (k.block i (Nat.lt_of_lt_of_le hi h.size) hn).trans (h.block i hi hn)⟩
theorem own_made {α : Type} {enc : α → List Value} {sz : Nat} {T : TypeId} {B b : Nat} (w : World) (hb : b = w.heap.size) (hB : B ≤ w.heap.size) : Own enc sz T (w.alloc (.cells #[] T)) B (.slice (some ⟨b, 0, none⟩) 0 0) ([] : List α) := by
  subst hb
  exact World.ownsRow_made w #[] 0 hB (by simp) (by simp)
theorem kept_older {α : Type} {enc : α → List Value} {sz : Nat} {T : TypeId} {w w' : World} {B N M : Nat} {v v' : Value} {xs : List α} (h : Own enc sz T w B v xs) (hN : ∀ k, v.ownBlock = some k → k < N) (hg : w.grownBy w' v'.ownBlock) (hY : ∀ k, v'.ownBlock = some k → M ≤ k) (hle : N ≤ M) : Own enc sz T w' B v xs := by
  refine h.kept hg ?_
  cases e : v.ownBlock with
  | none => exact .inl rfl
  | some b => exact .inr fun q => by have := hN b e; have := hY b q.symm; omega
theorem kept_newer {α : Type} {enc : α → List Value} {sz : Nat} {T : TypeId} {w w' : World} {B M : Nat} {v v' : Value} {xs : List α} (h : Own enc sz T w B v xs) (hg : w.grownBy w' v'.ownBlock) (hY : ∀ k, v'.ownBlock = some k → k < M) (hle : M ≤ B) : Own enc sz T w' B v xs := by
  refine h.kept hg ?_
  cases e : v.ownBlock with
  | none => exact .inl rfl
  | some b => exact .inr fun q => by have := (h.lt b e).1; have := hY b q.symm; omega
/-- An append of one element to a row of the call's own. -/
theorem wpList_app {P : Program} {α : Type} {enc : α → List Value} {sz : Nat} {t T : TypeId} {i : TypeInfo} {z : Value} {bytes : Nat} (ht : P.underlying t = some (.slice T)) (hi : P.info? T = some i) (hz : i.zero = some z) (hsz : i.size = sz) (hby : i.bytes = bytes) (hzs : z.cells.size = sz) (h0 : 0 < sz) (hb : bytes ≤ 1024)
    (he : ∀ x, (enc x).length = sz) {w : World} {ops : Array Oper} {rest : List Oper} {o : Oper} {a : Act} {Q : Exit → Act → World → Prop} (hgd : o.guard = none) (s x : Operand)
    (ho : o.op = .call { callee := .builtin .append, args := #[s, x], argTypes := #[t, t] }) (B : Nat) {v : Value} {xs : List α} (hs : a.eval s = v) (hown : Own enc sz T w B v xs) (y : α) (h1 : ∀ u ∈ enc y, u.oneCell' = true) {ad : Addr} {c : Nat} (hx : a.eval x = .slice (some ad) 1 c)
    (hc : ∀ (j : Nat) (u : Value), (enc y)[j]? = some u → w.cell? (ad.add j) = some u) (hn : xs.length ≤ 1048576) (hB : B ≤ w.heap.size)
    (h : ∀ (A : Option Addr) (c : Nat) (w' : World), Own enc sz T w' B (.slice A (xs.length + 1) c) (xs ++ [y]) → Below B w w' → w.grownBy w' v.ownBlock → wpList P ops Q rest (a.put o.dst (.slice A (xs.length + 1) c)) w') : wpList P ops Q (o :: rest) a w := by
  refine wpList_append_own w hgd s x t ho B T i z sz bytes ht hi hz hsz hby hzs h0 v xs.length (xs.flatMap enc) hs hown ad 1 c (enc y) hx (by rw [he]; omega) hc h1 (by unfold maxLen; omega) ?_ hB ?_
  · have : (xs.length + 1) * bytes ≤ 1048577 * 1024 := Nat.mul_le_mul (by omega) hb
    omega
  · intro v' w' hown' hg _
    obtain ⟨A, c, rfl⟩ := own_slice hown'
    refine h A c w' ?_ (Below.grown (Below.refl _ _) hg hB fun k hk => (Own.lt hown k hk).1) hg
    unfold Own
    rw [List.length_append, List.flatMap_append]
    simpa using hown'
/-- An append of all elements of a row that lies there. -/
theorem wpList_appAll {P : Program} {α : Type} {enc : α → List Value} {sz : Nat} {t T : TypeId} {i : TypeInfo} {z : Value} {bytes : Nat} (ht : P.underlying t = some (.slice T)) (hi : P.info? T = some i) (hz : i.zero = some z) (hsz : i.size = sz) (hby : i.bytes = bytes) (hzs : z.cells.size = sz) (h0 : 0 < sz) (hb : bytes ≤ 1024)
    (he : ∀ x, (enc x).length = sz) (h1 : ∀ x, ∀ u ∈ enc x, u.oneCell' = true) {w : World} {ops : Array Oper} {rest : List Oper} {o : Oper} {a : Act} {Q : Exit → Act → World → Prop} (hgd : o.guard = none) (s x : Operand)
    (ho : o.op = .call { callee := .builtin .append, args := #[s, x], argTypes := #[t, t] }) (B : Nat) {v : Value} {xs : List α} (hs : a.eval s = v) (hown : Own enc sz T w B v xs) {b off c : Nat} {ys : List α} (hx : a.eval x = .slice (some ⟨b, off, none⟩) ys.length c)
    (hy : SlAt enc sz w (some ⟨b, off, none⟩) ys) (hn : xs.length + ys.length ≤ 1048577) (hB : B ≤ w.heap.size)
    (h : ∀ (A : Option Addr) (c : Nat) (w' : World), Own enc sz T w' B (.slice A (xs.length + ys.length) c) (xs ++ ys) → Below B w w' → w.grownBy w' v.ownBlock → wpList P ops Q rest (a.put o.dst (.slice A (xs.length + ys.length) c)) w') : wpList P ops Q (o :: rest) a w := by
  refine wpList_append_own w hgd s x t ho B T i z sz bytes ht hi hz hsz hby hzs h0 v xs.length (xs.flatMap enc) hs hown ⟨b, off, none⟩ ys.length c (ys.flatMap enc) hx (flat_length he ys) ?_ ?_ (by unfold maxLen; omega) ?_ hB ?_
  · intro j u hu
    have hl : j < ys.length * sz := by
      have := (List.getElem?_eq_some_iff.1 hu).1
      rwa [flat_length he] at this
    have hq : j / sz < ys.length := Nat.div_lt_of_lt_mul (by rw [Nat.mul_comm]; exact hl)
    have hr : j % sz < sz := Nat.mod_lt _ h0
    have ej : j / sz * sz + j % sz = j := by rw [Nat.mul_comm]; exact Nat.div_add_mod j sz
    obtain ⟨b', off', e1, _, hc⟩ := hy (j / sz) hq
    injection e1 with e1
    injection e1 with e2 e3
    subst e2; subst e3
    rw [← ej, flat_get he ys _ hq _ hr] at hu
    have := hc _ _ hu
    rw [Nat.add_assoc, ej] at this
    have ea : (⟨b, off, none⟩ : Addr).add j = ⟨b, off + j, none⟩ := by unfold Addr.add; split <;> simp_all
    rw [ea]
    exact this
  · intro u hu
    rw [List.mem_flatMap] at hu
    obtain ⟨y, _, hy⟩ := hu
    exact h1 y u hy
  · have : (xs.length + ys.length) * bytes ≤ 1048577 * 1024 := Nat.mul_le_mul (by omega) hb
    omega
  · intro v' w' hown' hg _
    obtain ⟨A, c, rfl⟩ := own_slice hown'
    refine h A c w' ?_ (Below.grown (Below.refl _ _) hg hB fun k hk => (Own.lt hown k hk).1) hg
    unfold Own
    rw [List.length_append, List.flatMap_append]
    exact hown'
end Go.Proofs.YtnefgafmnpblpaaGreat
