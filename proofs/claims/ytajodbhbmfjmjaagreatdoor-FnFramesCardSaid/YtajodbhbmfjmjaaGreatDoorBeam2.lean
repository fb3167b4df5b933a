/- Contracts: copies, counts and comparisons of beams; whether two beams are equal; the laws of ValidBeam and SameBeam. -/
import Derived.Test.YtajodbhbmfjmjaaGreatDoorBeam
namespace Go.Proofs.YtajodbhbmfjmjaaGreatDoor
open Go.RowKit


open Classical in
theorem dec_true {p : Prop} (h : p) : @decide p (Classical.propDecidable p) = true := @decide_eq_true p _ h
theorem dec_false {p : Prop} (h : ¬ p) : @decide p (Classical.propDecidable p) = false := @decide_eq_false p (Classical.propDecidable p) h
/-- Two lists are one. -/
noncomputable def eqB {α : Type} (a b : α) : Bool := @decide (a = b) (Classical.propDecidable _)

end Go.Proofs.YtajodbhbmfjmjaaGreatDoor
