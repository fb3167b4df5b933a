/- Contracts of the arithmetic functions: abs, nearest, the roots, on both sides. -/
import Derived.Test.YtklmbgefdopifaaBasics
namespace Go.Proofs.Ytklmbgefdopifaa
open Go.RowKit

/-- The greater of two. -/
def mx (a b : Int) : Int := if a < b then b else a
theorem fold_mx (a b : Int) : (if a < b then b else a) = mx a b := rfl
theorem mx_le {a b c : Int} (h1 : a ≤ c) (h2 : b ≤ c) : mx a b ≤ c := by unfold mx; split <;> omega
theorem le_mx {a b c : Int} (h : c ≤ a ∨ c ≤ b) : c ≤ mx a b := by unfold mx; split <;> omega
theorem specl00Max (a b : Int) (w : World) : Calls Try.prog 113 #[.int .i64 a, .int .i64 b] w fun e w' => e = .returned (.int .i64 (mx a b)) ∧ w = w' := by
  by_cases h : b < a
  · have e : Hid (mx a b = a) := by unfold Hid mx; rw [if_neg (by omega)]
    go_enter Try.func113, Try.ntmps113
    go_wp2
    go_ret
    exact ⟨ret_int e.out.symm, rfl⟩
  · have e : Hid (mx a b = b) := by unfold Hid mx; split <;> omega
    go_enter Try.func113, Try.ntmps113
    go_wp2
    go_ret
    exact ⟨ret_int e.out.symm, rfl⟩
end Go.Proofs.Ytklmbgefdopifaa
