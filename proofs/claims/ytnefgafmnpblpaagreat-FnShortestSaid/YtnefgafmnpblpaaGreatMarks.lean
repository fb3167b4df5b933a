/- The laws' marks: markText, and the marks of slices of structs. -/
import Derived.Test.YtnefgafmnpblpaaGreatInts
import Derived.Laws.IdiomStrings
import Derived.Laws.Concat
namespace Go.Proofs.YtnefgafmnpblpaaGreat
open Go.RowKit

/-- The decimal digits. -/
def dgs (n : Nat) : List UInt8 := if n = 0 then [] else dgs (n / 10) ++ [UInt8.ofNat (48 + n % 10)]
termination_by n
decreasing_by omega
theorem dgs_zero : dgs 0 = [] := by rw [dgs]; simp
theorem dgs_pos {n : Nat} (h : 0 < n) : dgs n = dgs (n / 10) ++ [UInt8.ofNat (48 + n % 10)] := by rw [dgs]; simp [show ¬ n = 0 by omega]
theorem dgs_len (n : Nat) : (dgs n).length ≤ n := by
  induction n using Nat.strongRecOn with
  | _ n ih =>
    by_cases h : n = 0
    · subst h; simp [dgs_zero]
    · rw [dgs_pos (by omega), List.length_append]
      have := ih (n / 10) (by omega)
      simp
      omega
theorem ret_str {a b : ByteArray} (h : a = b) : Ending.returned (.string a) = .returned (.string b) := by rw [h]
/-- The mark's text. -/
def mText (k : Int) : ByteArray := ⟨(109 :: dgs k.toNat).toArray⟩
theorem mk_app (a b : List UInt8) : (⟨a.toArray⟩ : ByteArray) ++ ⟨b.toArray⟩ = ⟨(a ++ b).toArray⟩ := ByteArray.mk_append_mk a b
end Go.Proofs.YtnefgafmnpblpaaGreat
