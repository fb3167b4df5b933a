/- Contracts of the functions that take or give a clapper. -/
import Derived.Test.YtajodbhbmfjmjaaGreatDoorClapper
namespace Go.Proofs.YtajodbhbmfjmjaaGreatDoor
open Go.RowKit

def vClap (a b c : Int) : Bool := inB a 10 1000000 && inB b 1000 300000 && inB c 10 50000
theorem vClap_true {a b c : Int} (h : vClap a b c = true) : (10 ≤ a ∧ a ≤ 1000000) ∧ (1000 ≤ b ∧ b ≤ 300000) ∧ 10 ≤ c ∧ c ≤ 50000 := by
  unfold vClap at h
  simp only [Bool.and_eq_true] at h
  exact ⟨inB_true h.1.1, inB_true h.1.2, inB_true h.2⟩


/-- The clapper for a bell: mass, length, gap, code. -/
@[irreducible] def clapFor (m h r : Int) : Int × Int × Int × Int :=
  if inB m 1 30000000 && inB h 1 300000 && inB r 1 300000 then
    if vClap (mx 10 (Pl.nr (3 * m) 100)) (mx 1000 (Pl.nr (9 * h) 10)) (mx 10 (Pl.nr r 5)) then (mx 10 (Pl.nr (3 * m) 100), mx 1000 (Pl.nr (9 * h) 10), mx 10 (Pl.nr r 5), 0) else (0, 0, 0, 2)
  else (0, 0, 0, 2)
theorem ret_clap {a b c d : Int} {p : Int × Int × Int × Int} (h : p = (a, b, c, d)) : Ending.returned (.tuple #[.agg #[.int .i64 a, .int .i64 b, .int .i64 c], .int .i64 d]) =
    .returned (.tuple #[.agg #[.int .i64 p.1, .int .i64 p.2.1, .int .i64 p.2.2.1], .int .i64 p.2.2.2]) := by subst h; rfl
end Go.Proofs.YtajodbhbmfjmjaaGreatDoor
