/- The least room between bells, on both sides, and its law's walk. -/
import Derived.Test.YtjklhacffdhgaaaRoom
import Derived.Test.YtjklhacffdhgaaaRows2
import Derived.Test.YtjklhacffdhgaaaInts
namespace Go.Proofs.Ytjklhacffdhgaaa
open Go.RowKit

theorem rowsB_all {α : Type} {v : α → Bool} {nm : α → ByteArray} {N : Nat} {xs : List α} (h : rowsB v nm N xs = true) : (∀ x ∈ xs, v x = true) ∧ xs.length ≤ N ∧ ∀ k, ¬ badAt v nm xs k := by
  unfold rowsB at h
  obtain ⟨h1, h2⟩ := @of_decide_eq_true _ (Classical.propDecidable _) h
  refine ⟨fun x hx => ?_, h2, h1⟩
  obtain ⟨k, hk, rfl⟩ := List.getElem_of_mem hx
  cases e : v xs[k]
  · exact absurd ⟨hk, .inl e⟩ (h1 k)
  · rfl
/-- The room between two places. -/
def clP (p q : PlaceR) : Int := clr p.x p.y p.z p.r q.x q.y q.z q.r
theorem sq_neg (a b : Int) : (a - b) * (a - b) = (b - a) * (b - a) := by rw [← Int.neg_mul_neg, show -(a - b) = b - a by omega]
theorem clP_comm (p q : PlaceR) : clP p q = clP q p := by
  unfold clP clr
  rw [sq_neg p.x q.x, sq_neg p.y q.y, sq_neg p.z q.z]
  omega
theorem clr_bd {x y z r x' y' z' r' : Int} {s s' : ByteArray} (h : vPlace s x y z r = true) (h' : vPlace s' x' y' z' r' = true) : -10000 ≤ clr x y z r x' y' z' r' ∧ clr x y z r x' y' z' r' ≤ 40000 := by
  obtain ⟨_, ⟨a1, a2⟩, ⟨a3, a4⟩, ⟨a5, a6⟩, ⟨a7, a8⟩⟩ := vPlace_true _ _ _ _ _ h
  obtain ⟨_, ⟨b1, b2⟩, ⟨b3, b4⟩, ⟨b5, b6⟩, ⟨b7, b8⟩⟩ := vPlace_true _ _ _ _ _ h'
  obtain ⟨c1, c2⟩ := sq_bd a1 a2 b1 b2
  obtain ⟨c3, c4⟩ := sq_bd a3 a4 b3 b4
  obtain ⟨c5, c6⟩ := sq_bd a5 a6 b5 b6
  have r1 := Pl.rt_nonneg ((x - x') * (x - x') + (y - y') * (y - y') + (z - z') * (z - z'))
  have r2 : Pl.rt ((x - x') * (x - x') + (y - y') * (y - y') + (z - z') * (z - z')) ≤ 40000 := Pl.rt_le (by omega) (by omega)
  unfold clr
  omega
/-- m is the room of some pair, and not more than that of the pairs seen. -/
def LeastSo (xs : List PlaceR) (m : Int) (S : Nat → Nat → Prop) : Prop :=
  (∃ (i j : Nat) (h : i < j) (h' : j < xs.length), m = clP (xs[i]'(by omega)) xs[j]) ∧ ∀ (i j : Nat) (h : i < j) (h' : j < xs.length), S i j → m ≤ clP (xs[i]'(by omega)) xs[j]
theorem LeastSo.imp {xs : List PlaceR} {m : Int} {S S' : Nat → Nat → Prop} (h : LeastSo xs m S) (hS : ∀ i j, i < j → j < xs.length → S' i j → S i j) : LeastSo xs m S' := ⟨h.1, fun i j a b c => h.2 i j a b (hS i j a b c)⟩
theorem LeastSo.step {xs : List PlaceR} {m : Int} {S : Nat → Nat → Prop} (h : LeastSo xs m S) {i0 j0 : Nat} (h1 : i0 < j0) (h2 : j0 < xs.length) {c : Int} (hc : c = clP (xs[i0]'(by omega)) xs[j0]) {m' : Int} (hm : (c ≤ m ∧ m' = c) ∨ (m ≤ c ∧ m' = m)) :
    LeastSo xs m' fun i j => S i j ∨ (i = i0 ∧ j = j0) := by
  refine ⟨?_, fun i j a b d => ?_⟩
  · rcases hm with ⟨_, rfl⟩ | ⟨_, rfl⟩
    · exact ⟨i0, j0, h1, h2, hc⟩
    · exact h.1
  · rcases d with d | ⟨rfl, rfl⟩
    · have := h.2 i j a b d
      omega
    · omega
noncomputable def leastV (xs : List PlaceR) : Int := @dite _ (∃ m, LeastSo xs m fun _ _ => True) (Classical.propDecidable _) (fun h => Classical.choose h) (fun _ => 0)
theorem leastV_eq {xs : List PlaceR} {m : Int} (h : LeastSo xs m fun _ _ => True) : leastV xs = m := by
  have hex : ∃ m, LeastSo xs m fun _ _ => True := ⟨m, h⟩
  have e : leastV xs = Classical.choose hex := by unfold leastV; exact dif_pos hex
  have h2 := Classical.choose_spec hex
  rw [e]
  generalize Classical.choose hex = m2 at *
  obtain ⟨i, j, a, b, rfl⟩ := h.1
  obtain ⟨i', j', a', b', rfl⟩ := h2.1
  have := h.2 i' j' a' b' trivial
  have := h2.2 i j a b trivial
  omega
@[irreducible] noncomputable def leastOf (xs : List PlaceR) : Int × Int := if rowsB vPlaceR PlaceR.nm 24 xs then (if xs.length < 2 then (0, 6) else (leastV xs, 0)) else (0, 1)

/-- The smaller of two. -/
def mnI (a b : Int) : Int := if a < b then a else b
end Go.Proofs.Ytjklhacffdhgaaa
