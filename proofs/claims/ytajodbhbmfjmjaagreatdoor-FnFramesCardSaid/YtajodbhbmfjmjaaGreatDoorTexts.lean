/- The texts of a clapper, a tower, a swing and a place, on both sides. Conditions: the names are no longer than a Go string can be; what is read lies in memory; the library's table of powers of ten is laid. -/
import Derived.Test.YtajodbhbmfjmjaaGreatDoorList
import Derived.Test.YtajodbhbmfjmjaaGreatDoorClapper2
import Derived.Test.YtajodbhbmfjmjaaGreatDoorValid
namespace Go.Proofs.YtajodbhbmfjmjaaGreatDoor
open Go.RowKit Go.Lib

theorem slat_lit (w : World) (xs : List Int) : SlAt encI 1 (w.alloc (.cells (xs.map (Value.int .i64)).toArray 2)) (some ⟨w.heap.size, 0, none⟩) xs :=
  Fill.fin (enc := encI) (sz := 1) (t := 2) (N := (xs.map (Value.int .i64)).toArray.size) (fun _ => rfl) ⟨(xs.map (Value.int .i64)).toArray, heap_alloc_new w _, rfl, fun j v h => by rw [encI_map] at h; simpa using h⟩
theorem slat_litd (w : World) (xs : List Int) : SlAt encI 1 (w.alloc (.cells (xs.map (Value.int .i64)).toArray 2)).drew (some ⟨w.heap.size, 0, none⟩) xs := by
  have h := slat_lit w xs
  generalize w.alloc (.cells (xs.map (Value.int .i64)).toArray 2) = W at h ⊢
  exact h.below ((Below.refl _ _).drew)
theorem rowText_len {xs : List Int} (hn : xs ≠ []) (hx : ∀ x ∈ xs, -9223372036854775808 ≤ x ∧ x ≤ 9223372036854775807) : (rowText xs).length ≤ 22 * xs.length := by
  rw [← rowK_all xs hn]
  exact rowK_len xs hx xs.length (Nat.le_refl _)
/-- A name and a list of numbers as text. -/
def twoW (s : ByteArray) (xs : List Int) : ByteArray := s ++ ⟨#[32]⟩ ++ ⟨(rowText xs).toArray⟩
theorem ret_st {a b : ByteArray} (h : a = b) : Ending.returned (.string a) = .returned (.string b) := by rw [h]
theorem name_size {s : ByteArray} (h : nameB s.data.toList = true) : s.size ≤ 10 := by
  have := (nameB_len h).2
  simpa using this
theorem list_row {xs : List Int} (h : xs.length ≤ 64) (hv : ∀ x ∈ xs, -1000000000000 ≤ x ∧ x ≤ 1000000000000) : listText xs = rowText xs := listText_vals h (by rw [List.all_eq_true]; intro x hx; have := hv x hx; unfold isVal; simp; exact this)
theorem implListText_row (A : Option Addr) (c : Nat) (xs : List Int) (w : World) (h : SlAt encI 1 w A xs) (hE : EnvT w) (hn : xs.length ≤ 1048576) (hx : ∀ x ∈ xs, -9223372036854775808 ≤ x ∧ x ≤ 9223372036854775807) (hr : listText xs = rowText xs) :
    Calls Tryz.prog 29 #[.slice A xs.length c] w fun e w' => e = .returned (.string ⟨(rowText xs).toArray⟩) ∧ Below w.heap.size w w' := by
  rw [← hr]
  exact implListText A c xs w h hE (by omega) hx
end Go.Proofs.YtajodbhbmfjmjaaGreatDoor
