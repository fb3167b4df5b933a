/- slices.Clone and slices.Insert at rows of loads of the call's own. -/
import Derived.Test.YtklmbgefdopifaaBeam2
import Derived.Shelf.Spec.SlicesInsertGrow
import Derived.Maps.AppendAt
import Derived.Deep.DeepCutAuto
import Derived.Deep.RegionLaw
namespace Go.Proofs.Ytklmbgefdopifaa
open Go.RowKit Go.Lib

theorem info_LdA : (Try.prog.info? 34).map (fun i => (i.zero, i.size, i.bytes)) = some (some (.agg #[.int .i64 0, .int .i64 0]), 2, 16) := by kernel_rfl
abbrev OwnL (w : World) (B : Nat) (v : Value) (ls : List LoadR) : Prop := Own encLoad 2 34 w B v ls
theorem encL_one (x : LoadR) : ∀ u ∈ encLoad x, u.oneCell' = true := by intro u hu; simp [encLoad] at hu; rcases hu with rfl | rfl <;> rfl
theorem flatL_len (ls : List LoadR) : (ls.flatMap encLoad).length = ls.length * 2 := flat_length (enc := encLoad) (sz := 2) (fun _ => rfl) ls
theorem flatL_one (ls : List LoadR) : ∀ u ∈ ls.flatMap encLoad, u.oneCell' = true := fun u hu => by
  obtain ⟨x, _, h⟩ := List.mem_flatMap.1 hu
  exact encL_one x u h
theorem flatL_take (ls : List LoadR) (i : Nat) : (ls.flatMap encLoad).take (i * 2) = (ls.take i).flatMap encLoad := by
  induction ls generalizing i with
  | nil => simp
  | cons x ls ih =>
    cases i with
    | zero => simp
    | succ i =>
      rw [List.take_succ_cons, List.flatMap_cons, List.flatMap_cons, ← ih i, show (i + 1) * 2 = i * 2 + 1 + 1 by omega]
      rfl
theorem flatL_drop (ls : List LoadR) (i : Nat) : (ls.flatMap encLoad).drop (i * 2) = (ls.drop i).flatMap encLoad := by
  induction ls generalizing i with
  | nil => simp
  | cons x ls ih =>
    cases i with
    | zero => simp
    | succ i =>
      rw [List.drop_succ_cons, List.flatMap_cons, ← ih i, show (i + 1) * 2 = i * 2 + 1 + 1 by omega]
      rfl
/-- What a row is with one more in it. -/
def insL (ls : List LoadR) (i : Nat) (x : LoadR) : List LoadR := ls.take i ++ [x] ++ ls.drop i
theorem insL_len {ls : List LoadR} {i : Nat} (h : i ≤ ls.length) (x : LoadR) : (insL ls i x).length = ls.length + 1 := by simp [insL]; omega
section
variable {P : Program}
/-- A copy of elements of some cells: all is read before anything is written. -/
theorem run_copy_cellsN (w : World) (dT sT ty elem : TypeId) (b o dLen dCap : Nat) (a : Addr) (sLen sCap sz : Nat) (cs : List Value)
    (hu : P.underlying dT = some (.slice elem)) (hs : (P.info? elem).map (·.size) = some sz) (hn : cs.length = Nat.min sLen dLen * sz)
    (hsrc : ∀ j v, cs[j]? = some v → w.cell? (a.add j) = some v) (hc : ∀ j, j < cs.length → (w.cell? ⟨b, o + j, none⟩).isSome = true) (hf : ∀ j, j < cs.length → w.frozen? ⟨b, o + j, none⟩ = false) (h1 : ∀ v ∈ cs, v.oneCell' = true) :
    (Builtin.copy_ #[dT, sT] ty #[.slice (some ⟨b, o, none⟩) dLen dCap, .slice (some a) sLen sCap]).run P w = .ok (goInt (Nat.min sLen dLen)) (w.setCells b o cs) := by
  have hl := run_loadCells_list (P := P) w a cs hsrc
  have hst := run_storeCells_cells (P := P) b o cs 0 w (by simpa using hc) (by simpa using hf) h1
  cases hq : P.info? elem with
  | none => simp [hq] at hs
  | some i =>
    have hi : i.size = sz := by simpa [hq] using hs
    simp [Builtin.copy_, run_underlying hu, Builtin.lenOf, Builtin.firstCells, sizeOf, typeInfo, hq, hi, ← hn, hl, hst]
end
/-- What stores into a block leave. -/
theorem setCells_block (b : Nat) : ∀ (vs : List Value) (o : Nat) (w : World) (cur : Array Value) (T : TypeId) (fr : Nat × Nat), w.heap[b]? = some (.cells cur T fr) → ∃ cur', (w.setCells b o vs).heap[b]? = some (.cells cur' T fr) ∧ cur'.size = cur.size ∧ (∀ j, j < o ∨ o + vs.length ≤ j → cur'[j]? = cur[j]?) ∧ ∀ j, j < vs.length → o + j < cur.size → cur'[o + j]? = vs[j]? := by
  intro vs
  induction vs with
  | nil => intro o w cur T fr h; exact ⟨cur, h, rfl, fun _ _ => rfl, fun j hj => by simp at hj⟩
  | cons v vs ih =>
    intro o w cur T fr h
    have h1 : (w.setCell ⟨b, o, none⟩ v).heap[b]? = some (.cells (cur.setIfInBounds o v) T fr) := by simp [World.setCell, Array.getElem?_modify, h]
    obtain ⟨cur', e, hs, ho, hi⟩ := ih (o + 1) _ _ T fr h1
    refine ⟨cur', e, by simpa using hs, fun j hj => ?_, fun j hj hb => ?_⟩
    · rw [List.length_cons] at hj
      rw [ho j (by omega), Array.getElem?_setIfInBounds_ne (by omega)]
    · cases j with
      | zero =>
        rw [Nat.add_zero, ho o (by omega), Array.getElem?_setIfInBounds_self_of_lt (by omega)]
        rfl
      | succ j =>
        rw [List.length_cons] at hj
        have := hi j (by omega) (by simpa using (show o + 1 + j < cur.size by omega))
        rw [show o + (j + 1) = o + 1 + j by omega, this]
        rfl
theorem setCells_other (b : Nat) : ∀ (vs : List Value) (o : Nat) (w : World) (k : Nat), k ≠ b → (w.setCells b o vs).heap[k]? = w.heap[k]? := by
  intro vs
  induction vs with
  | nil => intro o w k _; rfl
  | cons v vs ih =>
    intro o w k hk
    rw [World.setCells, ih (o + 1) _ k hk]
    simp [World.setCell, Array.getElem?_modify, Ne.symm hk]
theorem setCells_size (b : Nat) : ∀ (vs : List Value) (o : Nat) (w : World), (w.setCells b o vs).heap.size = w.heap.size := by
  intro vs
  induction vs with
  | nil => intro o w; rfl
  | cons v vs ih => intro o w; rw [World.setCells, ih]; simp [World.setCell]
theorem setCells_rest (b : Nat) : ∀ (vs : List Value) (o : Nat) (w : World), (w.setCells b o vs).os = w.os ∧ (w.setCells b o vs).tape = w.tape ∧ (w.setCells b o vs).output = w.output := by
  intro vs
  induction vs with
  | nil => intro o w; exact ⟨rfl, rfl, rfl⟩
  | cons v vs ih => intro o w; exact ih (o + 1) _
/-- A row after an element was put between its elements: what was laid at its place, and behind. -/
theorem own_ins {w1 : World} {B g cap i : Nat} {x : LoadR} {ls : List LoadR} {cur : Array Value} (hB : B ≤ g) (hc : w1.heap[g]? = some (.cells cur 34 (0, 0))) (hn : ls.length + 1 ≤ cap) (hm : cap ≤ maxLen) (hs : cur.size = cap * 2) (hi : i ≤ ls.length)
    (h0 : ∀ j, j < i * 2 → cur[j]? = (ls.flatMap encLoad)[j]?) (h1 : ∀ j, j < 2 → cur[i * 2 + j]? = (encLoad x)[j]?) (h2 : ∀ j, j < (ls.length - i) * 2 → cur[(i + 1) * 2 + j]? = ((ls.drop i).flatMap encLoad)[j]?) :
    OwnL w1 B (.slice (some ⟨g, 0, none⟩) (ls.length + 1) cap) (insL ls i x) := by
  have hl := insL_len hi x
  refine ⟨flat_length (enc := encLoad) (sz := 2) (fun _ => rfl) _, .inr ⟨g, cap, cur, by rw [hl], hB, hc, by omega, hm, hs, ?_⟩⟩
  rw [hl]
  refine List.ext_getElem? fun j => ?_
  have ht := flatL_len (ls.take i)
  have hd := flatL_len (ls.drop i)
  rw [List.length_take, Nat.min_eq_left hi] at ht
  rw [List.length_drop] at hd
  have hx : (encLoad x).length = 2 := rfl
  unfold insL
  rw [List.flatMap_append, List.flatMap_append, List.flatMap_cons, List.flatMap_nil, List.append_nil]
  by_cases hj : j < (ls.length + 1) * 2
  · rw [List.getElem?_take_of_lt hj, Array.getElem?_toList]
    by_cases j1 : j < i * 2
    · rw [List.append_assoc, List.getElem?_append_left (by omega), ← flatL_take, List.getElem?_take_of_lt j1]
      exact h0 j j1
    · by_cases j2 : j < i * 2 + 2
      · rw [List.append_assoc, List.getElem?_append_right (by omega), List.getElem?_append_left (by omega), ht]
        have := h1 (j - i * 2) (by omega)
        rwa [show i * 2 + (j - i * 2) = j by omega] at this
      · rw [List.getElem?_append_right (by rw [List.length_append]; omega), List.length_append, ht, hx]
        have := h2 (j - (i * 2 + 2)) (by omega)
        rwa [show (i + 1) * 2 + (j - (i * 2 + 2)) = j by omega] at this
  · rw [List.getElem?_eq_none (by simp; omega), List.getElem?_eq_none (by rw [List.length_append, List.length_append]; omega)]
end Go.Proofs.Ytklmbgefdopifaa
