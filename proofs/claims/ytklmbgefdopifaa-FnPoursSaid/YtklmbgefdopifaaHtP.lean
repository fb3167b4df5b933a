/- Plain laws of the search for schedules: what a whole search answers. -/
import Derived.Test.YtklmbgefdopifaaHtS
namespace Go.Proofs.Ytklmbgefdopifaa
open Go.RowKit

/-- A whole search. -/
def lastH (ps : List PourR) (cs : List CrucR) (budget : Int) (first : Bool) : Ht.S := Ht.srch first (Ht.nx ps cs) ps.length cs.length (ps.length + 1) [] ⟨budget, false, 0, []⟩
noncomputable def okC (cs : List CrucR) : Bool := rowsB vCrucR CrucR.nm 4 cs && decide ((1 : Int) ≤ cs.length)
/-- What a search answers: a code, and what it knows. -/
@[irreducible] noncomputable def runH (ps : List PourR) (cs : List CrucR) (budget : Int) (first : Bool) : Int × Ht.S :=
  if rowsB vPourR PourR.nm 12 ps && okC cs then (if inB budget 1 20000 then (if (lastH ps cs budget first).spent then (5, lastH ps cs budget first) else (0, lastH ps cs budget first)) else (2, lastH ps cs budget first)) else (1, lastH ps cs budget first)
theorem rowsB_okH {α : Type} {v : α → Bool} {nm : α → ByteArray} {N : Nat} {ys : List α} (h : rowsB v nm N ys = true) : (∀ x ∈ ys, v x = true) ∧ ys.length ≤ N := by
  unfold rowsB at h
  obtain ⟨h1, h2⟩ := @of_decide_eq_true _ (Classical.propDecidable _) h
  refine ⟨fun x hx => ?_, h2⟩
  obtain ⟨k, hk, rfl⟩ := List.getElem_of_mem hx
  cases e : v ys[k]
  · exact absurd ⟨hk, .inl e⟩ (h1 k)
  · rfl
theorem okC_true {cs : List CrucR} (h : okC cs = true) : (∀ y ∈ cs, vCrucR y = true) ∧ cs.length ≤ 4 ∧ 1 ≤ cs.length := by
  unfold okC at h
  rw [Bool.and_eq_true] at h
  have a := rowsB_okH h.1
  have b := of_decide_eq_true h.2
  exact ⟨a.1, a.2, by omega⟩
section
variable {ps : List PourR} {cs : List CrucR} {budget : Int} {first : Bool}
theorem runH_1 (h : rowsB vPourR PourR.nm 12 ps = false) : runH ps cs budget first = (1, lastH ps cs budget first) := by unfold runH; simp [h]
theorem runH_2 (h : okC cs = false) : runH ps cs budget first = (1, lastH ps cs budget first) := by unfold runH; simp [h]
theorem runH_3 (h : rowsB vPourR PourR.nm 12 ps = true) (h2 : okC cs = true) (h3 : inB budget 1 20000 = false) : runH ps cs budget first = (2, lastH ps cs budget first) := by unfold runH; simp [h, h2, h3]
theorem runH_4 (h : rowsB vPourR PourR.nm 12 ps = true) (h2 : okC cs = true) (h3 : inB budget 1 20000 = true) (h4 : (lastH ps cs budget first).spent = true) : runH ps cs budget first = (5, lastH ps cs budget first) := by unfold runH; simp [h, h2, h3, h4]
theorem runH_5 (h : rowsB vPourR PourR.nm 12 ps = true) (h2 : okC cs = true) (h3 : inB budget 1 20000 = true) (h4 : (lastH ps cs budget first).spent = false) : runH ps cs budget first = (0, lastH ps cs budget first) := by unfold runH; simp [h, h2, h3, h4]
end
/-- The best schedule of a search, and a code. -/
noncomputable def bestH (ps : List PourR) (cs : List CrucR) (budget : Int) (first : Bool) : List HeatR × Int :=
  if (runH ps cs budget first).1 = 0 then (if (runH ps cs budget first).2.count = 0 then ([], 3) else ((runH ps cs budget first).2.best, 0)) else ([], (runH ps cs budget first).1)
/-- The number of schedules of a search, and a code. -/
noncomputable def cntH (ps : List PourR) (cs : List CrucR) (budget : Int) : Int × Int :=
  if (runH ps cs budget false).1 = 0 then ((runH ps cs budget false).2.count, 0) else (0, (runH ps cs budget false).1)
theorem pair_detH {α : Type} {p : α × Int} {x x' : α} {c c' : Int} (h : p = (x, c)) (h' : p = (x', c')) : x = x' ∧ c = c' := by
  have := h.symm.trans h'
  injection this with h1 h2
  exact ⟨h1, h2⟩
/-- A slice of the call's own and a code. -/
def SlResH {α : Type} (enc : α → List Value) (sz : Nat) (T : TypeId) (P : List α → Int → Prop) (w : World) (e : Ending) (w' : World) : Prop :=
  ∃ (A : Option Addr) (c : Nat) (xs : List α) (code : Int), e = .returned (.tuple #[.slice A xs.length c, .int .i64 code]) ∧ P xs code ∧ xs.length ≤ 1048576 ∧ Own enc sz T w' w.heap.size (.slice A xs.length c) xs ∧ Below w.heap.size w w'
theorem slResH_nil {α : Type} {enc : α → List Value} {sz : Nat} {T : TypeId} {P : List α → Int → Prop} {w w' : World} {code : Int} (h : P [] code) (hb : Below w.heap.size w w') : SlResH enc sz T P w (.returned (.tuple #[.slice none 0 0, .int .i64 code])) w' :=
  ⟨none, 0, [], code, rfl, h, by simp, Own.nil, hb⟩
theorem ret_twoH {a b : Int} {p : Int × Int} (h : p = (a, b)) : Ending.returned (.tuple #[.int .i64 a, .int .i64 b]) = .returned (two p) := by subst h; rfl
end Go.Proofs.Ytklmbgefdopifaa
