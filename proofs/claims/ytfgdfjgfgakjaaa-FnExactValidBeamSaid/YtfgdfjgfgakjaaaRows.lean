/-
  No cell of these rows narrows 'for every input' (looked for: loops, veiled, ifaces, maps, wideKeys, modest, calm, conditions, laid).
  DERIVED. THE GIVEN ROWS OF THIS SEAT. 12 by the template 'for every input the law returns true; each argument reads behind the call as it read before'; 0 by the template 'total and deterministic' (their statements: YtfgdfjgfgakjaaaTotals.lean).
  GIVEN WITH THE SEED: the statements are not yours to turn. If you find one false, say at which input.
  Laid BY PROGRAM, IN A SANDBOX (cutbox-rows.mjs): the forced cells as the released guide's own fill.sh prints them over the translation f3910327e410412d… (all of the seat's roots in one cut). By AI agents, Wed Nov 11 2026. No macro, syntax, notation, axiom, sorry.
-/
import Derived.Test.YtfgdfjgfgakjaaaChecked
import GoSem.Claim
import GoSem.ClaimJoined
import GoSem.ClaimMapViews
import Derived.JoinedTies
import Derived.KernelRfl
namespace Go.Proofs.Ytfgdfjgfgakjaaa
/- THE CELL 'sum', in the pinned program and in every row, IS THE sha256 OF THE DUMP (.gsa) THAT YtfgdfjgfgakjaaaProg.lean LOADS. Nothing in Lean hashes anything: it is a label: what it is worth is what the hold of that sum in a sandbox is worth. -/
noncomputable def Try.pinned : Pinned := { name := "ytfgdfjgfgakjaaa", sum := "f3910327e410412d0b4896ffee0a5ee1e33fd327311239d1fdfb9c39fb666bfc", checked := Try.checked }
namespace Rows
def none {H : Type} : Left H := { results := [], args := [] }

/-- 'laws.FnExactValidChamber': WHATEVER THE INPUT: true; the input reads as it did. -/
def fnExactValidChamberSpec : ChangeSpec := { name := "fnExactValidChamber", fn := fun _ => fun
  | [d] => { results := [.lit (.bool true)], args := [d] }
  | _ => none }
def fnExactValidChamberRow : OpenClaim := { program := "ytfgdfjgfgakjaaa", sum := "f3910327e410412d0b4896ffee0a5ee1e33fd327311239d1fdfb9c39fb666bfc", func := "loop.example/g00952/laws.FnExactValidChamber", spec := "fnExactValidChamber", apart := false }
def FnExactValidChamberSaid : Prop := fnExactValidChamberRow.holds Try.pinned (OpenSpec.ofChange fnExactValidChamberSpec)

/-- ITS FALSE NEIGHBOUR: 'it returns false'. Refute it at one input. -/
def fnExactValidChamberWrong : ChangeSpec := { name := "fnExactValidChamber", fn := fun _ => fun
  | [d] => { results := [.lit (.bool false)], args := [d] }
  | _ => none }
def FnExactValidChamberWrongFalsely : Prop := fnExactValidChamberRow.holds Try.pinned (OpenSpec.ofChange fnExactValidChamberWrong)

/-- 'laws.FnExactValidTower': WHATEVER THE INPUT: true; the input reads as it did. -/
def fnExactValidTowerSpec : ChangeSpec := { name := "fnExactValidTower", fn := fun _ => fun
  | [d] => { results := [.lit (.bool true)], args := [d] }
  | _ => none }
def fnExactValidTowerRow : OpenClaim := { program := "ytfgdfjgfgakjaaa", sum := "f3910327e410412d0b4896ffee0a5ee1e33fd327311239d1fdfb9c39fb666bfc", func := "loop.example/g00952/laws.FnExactValidTower", spec := "fnExactValidTower", apart := false }
def FnExactValidTowerSaid : Prop := fnExactValidTowerRow.holds Try.pinned (OpenSpec.ofChange fnExactValidTowerSpec)

/-- ITS FALSE NEIGHBOUR: 'it returns false'. Refute it at one input. -/
def fnExactValidTowerWrong : ChangeSpec := { name := "fnExactValidTower", fn := fun _ => fun
  | [d] => { results := [.lit (.bool false)], args := [d] }
  | _ => none }
def FnExactValidTowerWrongFalsely : Prop := fnExactValidTowerRow.holds Try.pinned (OpenSpec.ofChange fnExactValidTowerWrong)

/-- 'laws.FnExactPendulumTime': WHATEVER THE INPUT: true; the input reads as it did. -/
def fnExactPendulumTimeSpec : ChangeSpec := { name := "fnExactPendulumTime", fn := fun _ => fun
  | [d] => { results := [.lit (.bool true)], args := [d] }
  | _ => none }
def fnExactPendulumTimeRow : OpenClaim := { program := "ytfgdfjgfgakjaaa", sum := "f3910327e410412d0b4896ffee0a5ee1e33fd327311239d1fdfb9c39fb666bfc", func := "loop.example/g00952/laws.FnExactPendulumTime", spec := "fnExactPendulumTime", apart := false }
def FnExactPendulumTimeSaid : Prop := fnExactPendulumTimeRow.holds Try.pinned (OpenSpec.ofChange fnExactPendulumTimeSpec)

/-- ITS FALSE NEIGHBOUR: 'it returns false'. Refute it at one input. -/
def fnExactPendulumTimeWrong : ChangeSpec := { name := "fnExactPendulumTime", fn := fun _ => fun
  | [d] => { results := [.lit (.bool false)], args := [d] }
  | _ => none }
def FnExactPendulumTimeWrongFalsely : Prop := fnExactPendulumTimeRow.holds Try.pinned (OpenSpec.ofChange fnExactPendulumTimeWrong)

/-- 'laws.FnExactClapperFor': WHATEVER THE INPUT: true; the input reads as it did. -/
def fnExactClapperForSpec : ChangeSpec := { name := "fnExactClapperFor", fn := fun _ => fun
  | [d1, d2, d3] => { results := [.lit (.bool true)], args := [d1, d2, d3] }
  | _ => none }
def fnExactClapperForRow : OpenClaim := { program := "ytfgdfjgfgakjaaa", sum := "f3910327e410412d0b4896ffee0a5ee1e33fd327311239d1fdfb9c39fb666bfc", func := "loop.example/g00952/laws.FnExactClapperFor", spec := "fnExactClapperFor", apart := false }
def FnExactClapperForSaid : Prop := fnExactClapperForRow.holds Try.pinned (OpenSpec.ofChange fnExactClapperForSpec)

/-- ITS FALSE NEIGHBOUR: 'it returns false'. Refute it at one input. -/
def fnExactClapperForWrong : ChangeSpec := { name := "fnExactClapperFor", fn := fun _ => fun
  | [d1, d2, d3] => { results := [.lit (.bool false)], args := [d1, d2, d3] }
  | _ => none }
def FnExactClapperForWrongFalsely : Prop := fnExactClapperForRow.holds Try.pinned (OpenSpec.ofChange fnExactClapperForWrong)

/-- 'laws.FnExactFitsChamber': WHATEVER THE INPUT: true; the input reads as it did. -/
def fnExactFitsChamberSpec : ChangeSpec := { name := "fnExactFitsChamber", fn := fun _ => fun
  | [d1, d2, d3] => { results := [.lit (.bool true)], args := [d1, d2, d3] }
  | _ => none }
def fnExactFitsChamberRow : OpenClaim := { program := "ytfgdfjgfgakjaaa", sum := "f3910327e410412d0b4896ffee0a5ee1e33fd327311239d1fdfb9c39fb666bfc", func := "loop.example/g00952/laws.FnExactFitsChamber", spec := "fnExactFitsChamber", apart := false }
def FnExactFitsChamberSaid : Prop := fnExactFitsChamberRow.holds Try.pinned (OpenSpec.ofChange fnExactFitsChamberSpec)

/-- ITS FALSE NEIGHBOUR: 'it returns false'. Refute it at one input. -/
def fnExactFitsChamberWrong : ChangeSpec := { name := "fnExactFitsChamber", fn := fun _ => fun
  | [d1, d2, d3] => { results := [.lit (.bool false)], args := [d1, d2, d3] }
  | _ => none }
def FnExactFitsChamberWrongFalsely : Prop := fnExactFitsChamberRow.holds Try.pinned (OpenSpec.ofChange fnExactFitsChamberWrong)

/-- 'laws.FnExactGapFor': WHATEVER THE INPUT: true; the input reads as it did. -/
def fnExactGapForSpec : ChangeSpec := { name := "fnExactGapFor", fn := fun _ => fun
  | [d1, d2] => { results := [.lit (.bool true)], args := [d1, d2] }
  | _ => none }
def fnExactGapForRow : OpenClaim := { program := "ytfgdfjgfgakjaaa", sum := "f3910327e410412d0b4896ffee0a5ee1e33fd327311239d1fdfb9c39fb666bfc", func := "loop.example/g00952/laws.FnExactGapFor", spec := "fnExactGapFor", apart := false }
def FnExactGapForSaid : Prop := fnExactGapForRow.holds Try.pinned (OpenSpec.ofChange fnExactGapForSpec)

/-- ITS FALSE NEIGHBOUR: 'it returns false'. Refute it at one input. -/
def fnExactGapForWrong : ChangeSpec := { name := "fnExactGapFor", fn := fun _ => fun
  | [d1, d2] => { results := [.lit (.bool false)], args := [d1, d2] }
  | _ => none }
def FnExactGapForWrongFalsely : Prop := fnExactGapForRow.holds Try.pinned (OpenSpec.ofChange fnExactGapForWrong)

/-- 'laws.FnExactLengthFor': WHATEVER THE INPUT: true; the input reads as it did. -/
def fnExactLengthForSpec : ChangeSpec := { name := "fnExactLengthFor", fn := fun _ => fun
  | [d] => { results := [.lit (.bool true)], args := [d] }
  | _ => none }
def fnExactLengthForRow : OpenClaim := { program := "ytfgdfjgfgakjaaa", sum := "f3910327e410412d0b4896ffee0a5ee1e33fd327311239d1fdfb9c39fb666bfc", func := "loop.example/g00952/laws.FnExactLengthFor", spec := "fnExactLengthFor", apart := false }
def FnExactLengthForSaid : Prop := fnExactLengthForRow.holds Try.pinned (OpenSpec.ofChange fnExactLengthForSpec)

/-- ITS FALSE NEIGHBOUR: 'it returns false'. Refute it at one input. -/
def fnExactLengthForWrong : ChangeSpec := { name := "fnExactLengthFor", fn := fun _ => fun
  | [d] => { results := [.lit (.bool false)], args := [d] }
  | _ => none }
def FnExactLengthForWrongFalsely : Prop := fnExactLengthForRow.holds Try.pinned (OpenSpec.ofChange fnExactLengthForWrong)

/-- 'laws.FnExactClearanceOf': WHATEVER THE INPUT: true; the input reads as it did. -/
def fnExactClearanceOfSpec : ChangeSpec := { name := "fnExactClearanceOf", fn := fun _ => fun
  | [d1, d2] => { results := [.lit (.bool true)], args := [d1, d2] }
  | _ => none }
def fnExactClearanceOfRow : OpenClaim := { program := "ytfgdfjgfgakjaaa", sum := "f3910327e410412d0b4896ffee0a5ee1e33fd327311239d1fdfb9c39fb666bfc", func := "loop.example/g00952/laws.FnExactClearanceOf", spec := "fnExactClearanceOf", apart := false }
def FnExactClearanceOfSaid : Prop := fnExactClearanceOfRow.holds Try.pinned (OpenSpec.ofChange fnExactClearanceOfSpec)

/-- ITS FALSE NEIGHBOUR: 'it returns false'. Refute it at one input. -/
def fnExactClearanceOfWrong : ChangeSpec := { name := "fnExactClearanceOf", fn := fun _ => fun
  | [d1, d2] => { results := [.lit (.bool false)], args := [d1, d2] }
  | _ => none }
def FnExactClearanceOfWrongFalsely : Prop := fnExactClearanceOfRow.holds Try.pinned (OpenSpec.ofChange fnExactClearanceOfWrong)

/-- 'laws.FnExactSameBeam': WHATEVER THE INPUT: true; the input reads as it did. -/
def fnExactSameBeamSpec : ChangeSpec := { name := "fnExactSameBeam", fn := fun _ => fun
  | [d1, d2] => { results := [.lit (.bool true)], args := [d1, d2] }
  | _ => none }
def fnExactSameBeamRow : OpenClaim := { program := "ytfgdfjgfgakjaaa", sum := "f3910327e410412d0b4896ffee0a5ee1e33fd327311239d1fdfb9c39fb666bfc", func := "loop.example/g00952/laws.FnExactSameBeam", spec := "fnExactSameBeam", apart := false }
def FnExactSameBeamSaid : Prop := fnExactSameBeamRow.holds Try.pinned (OpenSpec.ofChange fnExactSameBeamSpec)

/-- ITS FALSE NEIGHBOUR: 'it returns false'. Refute it at one input. -/
def fnExactSameBeamWrong : ChangeSpec := { name := "fnExactSameBeam", fn := fun _ => fun
  | [d1, d2] => { results := [.lit (.bool false)], args := [d1, d2] }
  | _ => none }
def FnExactSameBeamWrongFalsely : Prop := fnExactSameBeamRow.holds Try.pinned (OpenSpec.ofChange fnExactSameBeamWrong)

/-- 'laws.FnExactValidSwings': WHATEVER THE INPUT: true; the input reads as it did. -/
def fnExactValidSwingsSpec : ChangeSpec := { name := "fnExactValidSwings", fn := fun _ => fun
  | [d] => { results := [.lit (.bool true)], args := [d] }
  | _ => none }
def fnExactValidSwingsRow : OpenClaim := { program := "ytfgdfjgfgakjaaa", sum := "f3910327e410412d0b4896ffee0a5ee1e33fd327311239d1fdfb9c39fb666bfc", func := "loop.example/g00952/laws.FnExactValidSwings", spec := "fnExactValidSwings", apart := false }
def FnExactValidSwingsSaid : Prop := fnExactValidSwingsRow.holds Try.pinned (OpenSpec.ofChange fnExactValidSwingsSpec)

/-- ITS FALSE NEIGHBOUR: 'it returns false'. Refute it at one input. -/
def fnExactValidSwingsWrong : ChangeSpec := { name := "fnExactValidSwings", fn := fun _ => fun
  | [d] => { results := [.lit (.bool false)], args := [d] }
  | _ => none }
def FnExactValidSwingsWrongFalsely : Prop := fnExactValidSwingsRow.holds Try.pinned (OpenSpec.ofChange fnExactValidSwingsWrong)

/-- 'laws.FnExactValidPlaces': WHATEVER THE INPUT: true; the input reads as it did. -/
def fnExactValidPlacesSpec : ChangeSpec := { name := "fnExactValidPlaces", fn := fun _ => fun
  | [d] => { results := [.lit (.bool true)], args := [d] }
  | _ => none }
def fnExactValidPlacesRow : OpenClaim := { program := "ytfgdfjgfgakjaaa", sum := "f3910327e410412d0b4896ffee0a5ee1e33fd327311239d1fdfb9c39fb666bfc", func := "loop.example/g00952/laws.FnExactValidPlaces", spec := "fnExactValidPlaces", apart := false }
def FnExactValidPlacesSaid : Prop := fnExactValidPlacesRow.holds Try.pinned (OpenSpec.ofChange fnExactValidPlacesSpec)

/-- ITS FALSE NEIGHBOUR: 'it returns false'. Refute it at one input. -/
def fnExactValidPlacesWrong : ChangeSpec := { name := "fnExactValidPlaces", fn := fun _ => fun
  | [d] => { results := [.lit (.bool false)], args := [d] }
  | _ => none }
def FnExactValidPlacesWrongFalsely : Prop := fnExactValidPlacesRow.holds Try.pinned (OpenSpec.ofChange fnExactValidPlacesWrong)

/-- 'laws.FnExactValidBeam': WHATEVER THE INPUT: true; the input reads as it did. -/
def fnExactValidBeamSpec : ChangeSpec := { name := "fnExactValidBeam", fn := fun _ => fun
  | [d] => { results := [.lit (.bool true)], args := [d] }
  | _ => none }
def fnExactValidBeamRow : OpenClaim := { program := "ytfgdfjgfgakjaaa", sum := "f3910327e410412d0b4896ffee0a5ee1e33fd327311239d1fdfb9c39fb666bfc", func := "loop.example/g00952/laws.FnExactValidBeam", spec := "fnExactValidBeam", apart := false }
def FnExactValidBeamSaid : Prop := fnExactValidBeamRow.holds Try.pinned (OpenSpec.ofChange fnExactValidBeamSpec)

/-- ITS FALSE NEIGHBOUR: 'it returns false'. Refute it at one input. -/
def fnExactValidBeamWrong : ChangeSpec := { name := "fnExactValidBeam", fn := fun _ => fun
  | [d] => { results := [.lit (.bool false)], args := [d] }
  | _ => none }
def FnExactValidBeamWrongFalsely : Prop := fnExactValidBeamRow.holds Try.pinned (OpenSpec.ofChange fnExactValidBeamWrong)

/- THE SECOND FORM. 'bulk': how many values and letters a reading holds, each counted each time it is reached (what is shared counts as often as it is met; a slice's spare places count too). A statement '..UptoSaid' is the law's where the arguments, and the package variables that the reading takes, are together of bulk at most 1048576: NARROWER than '..Said'. Prove '..Said' where nothing that the law and all that it calls make is longer than what came in: it says more and counts as full. Else prove '..UptoSaid'. A law counts once. -/
mutual
def uptoBulk {H : Type} : DataW H → Nat
  | .lit (.string bytes) => bytes.length + 1
  | .lit _ => 1
  | .nil => 1
  | .ptr d => uptoBulk d + 1
  | .slice elems spare => uptoBulkAll elems + uptoBulkAll spare + 1
  | .agg parts => uptoBulkAll parts + 1
  | .iface _ d => uptoBulk d + 1
  | .map entries => uptoBulkEntries entries + 1
  | .held _ => 1
def uptoBulkAll {H : Type} : List (DataW H) → Nat
  | [] => 0
  | d :: r => uptoBulk d + uptoBulkAll r
def uptoBulkEntries {H : Type} : List (Lit × DataW H) → Nat
  | [] => 0
  | x :: r => uptoBulkEntry x + uptoBulkEntries r
def uptoBulkEntry {H : Type} : Lit × DataW H → Nat
  | (.string bytes, d) => bytes.length + uptoBulk d + 1
  | (_, d) => uptoBulk d + 1
 end
def uptoSmall : (H : Type) → List (DataW H) → Bool := fun _ ds => decide (uptoBulkAll ds ≤ 1048576)
def OpenSpec.upto (s : _root_.Go.ChangeSpec) : _root_.Go.OpenSpec := { _root_.Go.OpenSpec.ofChange s with cond := some uptoSmall }

/-- 'laws.FnExactValidChamber', WHERE WHAT IT READS IS OF BULK AT MOST 1048576: true; the input reads as it did. -/
def fnExactValidChamberUptoRow : OpenClaim := { program := "ytfgdfjgfgakjaaa", sum := "f3910327e410412d0b4896ffee0a5ee1e33fd327311239d1fdfb9c39fb666bfc", func := "loop.example/g00952/laws.FnExactValidChamber", spec := "fnExactValidChamber", apart := false, narrowed := true }
def FnExactValidChamberUptoSaid : Prop := fnExactValidChamberUptoRow.holds Try.pinned (OpenSpec.upto fnExactValidChamberSpec)

/-- 'laws.FnExactValidTower', WHERE WHAT IT READS IS OF BULK AT MOST 1048576: true; the input reads as it did. -/
def fnExactValidTowerUptoRow : OpenClaim := { program := "ytfgdfjgfgakjaaa", sum := "f3910327e410412d0b4896ffee0a5ee1e33fd327311239d1fdfb9c39fb666bfc", func := "loop.example/g00952/laws.FnExactValidTower", spec := "fnExactValidTower", apart := false, narrowed := true }
def FnExactValidTowerUptoSaid : Prop := fnExactValidTowerUptoRow.holds Try.pinned (OpenSpec.upto fnExactValidTowerSpec)

/-- 'laws.FnExactPendulumTime', WHERE WHAT IT READS IS OF BULK AT MOST 1048576: true; the input reads as it did. -/
def fnExactPendulumTimeUptoRow : OpenClaim := { program := "ytfgdfjgfgakjaaa", sum := "f3910327e410412d0b4896ffee0a5ee1e33fd327311239d1fdfb9c39fb666bfc", func := "loop.example/g00952/laws.FnExactPendulumTime", spec := "fnExactPendulumTime", apart := false, narrowed := true }
def FnExactPendulumTimeUptoSaid : Prop := fnExactPendulumTimeUptoRow.holds Try.pinned (OpenSpec.upto fnExactPendulumTimeSpec)

/-- 'laws.FnExactClapperFor', WHERE WHAT IT READS IS OF BULK AT MOST 1048576: true; the input reads as it did. -/
def fnExactClapperForUptoRow : OpenClaim := { program := "ytfgdfjgfgakjaaa", sum := "f3910327e410412d0b4896ffee0a5ee1e33fd327311239d1fdfb9c39fb666bfc", func := "loop.example/g00952/laws.FnExactClapperFor", spec := "fnExactClapperFor", apart := false, narrowed := true }
def FnExactClapperForUptoSaid : Prop := fnExactClapperForUptoRow.holds Try.pinned (OpenSpec.upto fnExactClapperForSpec)

/-- 'laws.FnExactFitsChamber', WHERE WHAT IT READS IS OF BULK AT MOST 1048576: true; the input reads as it did. -/
def fnExactFitsChamberUptoRow : OpenClaim := { program := "ytfgdfjgfgakjaaa", sum := "f3910327e410412d0b4896ffee0a5ee1e33fd327311239d1fdfb9c39fb666bfc", func := "loop.example/g00952/laws.FnExactFitsChamber", spec := "fnExactFitsChamber", apart := false, narrowed := true }
def FnExactFitsChamberUptoSaid : Prop := fnExactFitsChamberUptoRow.holds Try.pinned (OpenSpec.upto fnExactFitsChamberSpec)

/-- 'laws.FnExactGapFor', WHERE WHAT IT READS IS OF BULK AT MOST 1048576: true; the input reads as it did. -/
def fnExactGapForUptoRow : OpenClaim := { program := "ytfgdfjgfgakjaaa", sum := "f3910327e410412d0b4896ffee0a5ee1e33fd327311239d1fdfb9c39fb666bfc", func := "loop.example/g00952/laws.FnExactGapFor", spec := "fnExactGapFor", apart := false, narrowed := true }
def FnExactGapForUptoSaid : Prop := fnExactGapForUptoRow.holds Try.pinned (OpenSpec.upto fnExactGapForSpec)

/-- 'laws.FnExactLengthFor', WHERE WHAT IT READS IS OF BULK AT MOST 1048576: true; the input reads as it did. -/
def fnExactLengthForUptoRow : OpenClaim := { program := "ytfgdfjgfgakjaaa", sum := "f3910327e410412d0b4896ffee0a5ee1e33fd327311239d1fdfb9c39fb666bfc", func := "loop.example/g00952/laws.FnExactLengthFor", spec := "fnExactLengthFor", apart := false, narrowed := true }
def FnExactLengthForUptoSaid : Prop := fnExactLengthForUptoRow.holds Try.pinned (OpenSpec.upto fnExactLengthForSpec)

/-- 'laws.FnExactClearanceOf', WHERE WHAT IT READS IS OF BULK AT MOST 1048576: true; the input reads as it did. -/
def fnExactClearanceOfUptoRow : OpenClaim := { program := "ytfgdfjgfgakjaaa", sum := "f3910327e410412d0b4896ffee0a5ee1e33fd327311239d1fdfb9c39fb666bfc", func := "loop.example/g00952/laws.FnExactClearanceOf", spec := "fnExactClearanceOf", apart := false, narrowed := true }
def FnExactClearanceOfUptoSaid : Prop := fnExactClearanceOfUptoRow.holds Try.pinned (OpenSpec.upto fnExactClearanceOfSpec)

/-- 'laws.FnExactSameBeam', WHERE WHAT IT READS IS OF BULK AT MOST 1048576: true; the input reads as it did. -/
def fnExactSameBeamUptoRow : OpenClaim := { program := "ytfgdfjgfgakjaaa", sum := "f3910327e410412d0b4896ffee0a5ee1e33fd327311239d1fdfb9c39fb666bfc", func := "loop.example/g00952/laws.FnExactSameBeam", spec := "fnExactSameBeam", apart := false, narrowed := true }
def FnExactSameBeamUptoSaid : Prop := fnExactSameBeamUptoRow.holds Try.pinned (OpenSpec.upto fnExactSameBeamSpec)

/-- 'laws.FnExactValidSwings', WHERE WHAT IT READS IS OF BULK AT MOST 1048576: true; the input reads as it did. -/
def fnExactValidSwingsUptoRow : OpenClaim := { program := "ytfgdfjgfgakjaaa", sum := "f3910327e410412d0b4896ffee0a5ee1e33fd327311239d1fdfb9c39fb666bfc", func := "loop.example/g00952/laws.FnExactValidSwings", spec := "fnExactValidSwings", apart := false, narrowed := true }
def FnExactValidSwingsUptoSaid : Prop := fnExactValidSwingsUptoRow.holds Try.pinned (OpenSpec.upto fnExactValidSwingsSpec)

/-- 'laws.FnExactValidPlaces', WHERE WHAT IT READS IS OF BULK AT MOST 1048576: true; the input reads as it did. -/
def fnExactValidPlacesUptoRow : OpenClaim := { program := "ytfgdfjgfgakjaaa", sum := "f3910327e410412d0b4896ffee0a5ee1e33fd327311239d1fdfb9c39fb666bfc", func := "loop.example/g00952/laws.FnExactValidPlaces", spec := "fnExactValidPlaces", apart := false, narrowed := true }
def FnExactValidPlacesUptoSaid : Prop := fnExactValidPlacesUptoRow.holds Try.pinned (OpenSpec.upto fnExactValidPlacesSpec)

/-- 'laws.FnExactValidBeam', WHERE WHAT IT READS IS OF BULK AT MOST 1048576: true; the input reads as it did. -/
def fnExactValidBeamUptoRow : OpenClaim := { program := "ytfgdfjgfgakjaaa", sum := "f3910327e410412d0b4896ffee0a5ee1e33fd327311239d1fdfb9c39fb666bfc", func := "loop.example/g00952/laws.FnExactValidBeam", spec := "fnExactValidBeam", apart := false, narrowed := true }
def FnExactValidBeamUptoSaid : Prop := fnExactValidBeamUptoRow.holds Try.pinned (OpenSpec.upto fnExactValidBeamSpec)

end Rows
end Go.Proofs.Ytfgdfjgfgakjaaa
