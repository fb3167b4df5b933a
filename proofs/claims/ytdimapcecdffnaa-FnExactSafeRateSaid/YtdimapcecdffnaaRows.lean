/-
  No cell of these rows narrows 'for every input' (looked for: loops, veiled, ifaces, maps, wideKeys, modest, calm, conditions, laid).
  DERIVED. THE GIVEN ROWS OF THIS SEAT. 12 by the template 'for every input the law returns true; each argument reads behind the call as it read before'; 0 by the template 'total and deterministic' (their statements: YtdimapcecdffnaaTotals.lean).
  GIVEN WITH THE SEED: the statements are not yours to turn. If you find one false, say at which input.
  Laid BY PROGRAM, IN A SANDBOX (cutbox-rows.mjs): the forced cells as the released guide's own fill.sh prints them over the translation f3160b2c62834ea6… (all of the seat's roots in one cut). By AI agents, Wed Nov 11 2026. No macro, syntax, notation, axiom, sorry.
-/
import Derived.Test.YtdimapcecdffnaaChecked
import GoSem.Claim
import GoSem.ClaimJoined
import GoSem.ClaimMapViews
import Derived.JoinedTies
import Derived.KernelRfl
namespace Go.Proofs.Ytdimapcecdffnaa
/- THE CELL 'sum', in the pinned program and in every row, IS THE sha256 OF THE DUMP (.gsa) THAT YtdimapcecdffnaaProg.lean LOADS. Nothing in Lean hashes anything: it is a label: what it is worth is what the hold of that sum in a sandbox is worth. -/
noncomputable def Try.pinned : Pinned := { name := "ytdimapcecdffnaa", sum := "f3160b2c62834ea630470427cb41a79d2a2e45440feff19b83ef10c43ccacb7b", checked := Try.checked }
namespace Rows
def none {H : Type} : Left H := { results := [], args := [] }

/-- 'laws.FnExactResonanceOf': WHATEVER THE INPUT: true; the input reads as it did. -/
def fnExactResonanceOfSpec : ChangeSpec := { name := "fnExactResonanceOf", fn := fun _ => fun
  | [d1, d2] => { results := [.lit (.bool true)], args := [d1, d2] }
  | _ => none }
def fnExactResonanceOfRow : OpenClaim := { program := "ytdimapcecdffnaa", sum := "f3160b2c62834ea630470427cb41a79d2a2e45440feff19b83ef10c43ccacb7b", func := "loop.example/g00952/laws.FnExactResonanceOf", spec := "fnExactResonanceOf", apart := false }
def FnExactResonanceOfSaid : Prop := fnExactResonanceOfRow.holds Try.pinned (OpenSpec.ofChange fnExactResonanceOfSpec)

/-- ITS FALSE NEIGHBOUR: 'it returns false'. Refute it at one input. -/
def fnExactResonanceOfWrong : ChangeSpec := { name := "fnExactResonanceOf", fn := fun _ => fun
  | [d1, d2] => { results := [.lit (.bool false)], args := [d1, d2] }
  | _ => none }
def FnExactResonanceOfWrongFalsely : Prop := fnExactResonanceOfRow.holds Try.pinned (OpenSpec.ofChange fnExactResonanceOfWrong)

/-- 'laws.FnExactAmplitudeOf': WHATEVER THE INPUT: true; the input reads as it did. -/
def fnExactAmplitudeOfSpec : ChangeSpec := { name := "fnExactAmplitudeOf", fn := fun _ => fun
  | [d1, d2] => { results := [.lit (.bool true)], args := [d1, d2] }
  | _ => none }
def fnExactAmplitudeOfRow : OpenClaim := { program := "ytdimapcecdffnaa", sum := "f3160b2c62834ea630470427cb41a79d2a2e45440feff19b83ef10c43ccacb7b", func := "loop.example/g00952/laws.FnExactAmplitudeOf", spec := "fnExactAmplitudeOf", apart := false }
def FnExactAmplitudeOfSaid : Prop := fnExactAmplitudeOfRow.holds Try.pinned (OpenSpec.ofChange fnExactAmplitudeOfSpec)

/-- ITS FALSE NEIGHBOUR: 'it returns false'. Refute it at one input. -/
def fnExactAmplitudeOfWrong : ChangeSpec := { name := "fnExactAmplitudeOf", fn := fun _ => fun
  | [d1, d2] => { results := [.lit (.bool false)], args := [d1, d2] }
  | _ => none }
def FnExactAmplitudeOfWrongFalsely : Prop := fnExactAmplitudeOfRow.holds Try.pinned (OpenSpec.ofChange fnExactAmplitudeOfWrong)

/-- 'laws.FnExactSafeRate': WHATEVER THE INPUT: true; the input reads as it did. -/
def fnExactSafeRateSpec : ChangeSpec := { name := "fnExactSafeRate", fn := fun _ => fun
  | [d1, d2, d3] => { results := [.lit (.bool true)], args := [d1, d2, d3] }
  | _ => none }
def fnExactSafeRateRow : OpenClaim := { program := "ytdimapcecdffnaa", sum := "f3160b2c62834ea630470427cb41a79d2a2e45440feff19b83ef10c43ccacb7b", func := "loop.example/g00952/laws.FnExactSafeRate", spec := "fnExactSafeRate", apart := false }
def FnExactSafeRateSaid : Prop := fnExactSafeRateRow.holds Try.pinned (OpenSpec.ofChange fnExactSafeRateSpec)

/-- ITS FALSE NEIGHBOUR: 'it returns false'. Refute it at one input. -/
def fnExactSafeRateWrong : ChangeSpec := { name := "fnExactSafeRate", fn := fun _ => fun
  | [d1, d2, d3] => { results := [.lit (.bool false)], args := [d1, d2, d3] }
  | _ => none }
def FnExactSafeRateWrongFalsely : Prop := fnExactSafeRateRow.holds Try.pinned (OpenSpec.ofChange fnExactSafeRateWrong)

/-- 'laws.FnExactTotalSway': WHATEVER THE INPUT: true; the input reads as it did. -/
def fnExactTotalSwaySpec : ChangeSpec := { name := "fnExactTotalSway", fn := fun _ => fun
  | [d1, d2] => { results := [.lit (.bool true)], args := [d1, d2] }
  | _ => none }
def fnExactTotalSwayRow : OpenClaim := { program := "ytdimapcecdffnaa", sum := "f3160b2c62834ea630470427cb41a79d2a2e45440feff19b83ef10c43ccacb7b", func := "loop.example/g00952/laws.FnExactTotalSway", spec := "fnExactTotalSway", apart := false }
def FnExactTotalSwaySaid : Prop := fnExactTotalSwayRow.holds Try.pinned (OpenSpec.ofChange fnExactTotalSwaySpec)

/-- ITS FALSE NEIGHBOUR: 'it returns false'. Refute it at one input. -/
def fnExactTotalSwayWrong : ChangeSpec := { name := "fnExactTotalSway", fn := fun _ => fun
  | [d1, d2] => { results := [.lit (.bool false)], args := [d1, d2] }
  | _ => none }
def FnExactTotalSwayWrongFalsely : Prop := fnExactTotalSwayRow.holds Try.pinned (OpenSpec.ofChange fnExactTotalSwayWrong)

/-- 'laws.FnExactIsPermitted': WHATEVER THE INPUT: true; the input reads as it did. -/
def fnExactIsPermittedSpec : ChangeSpec := { name := "fnExactIsPermitted", fn := fun _ => fun
  | [d1, d2] => { results := [.lit (.bool true)], args := [d1, d2] }
  | _ => none }
def fnExactIsPermittedRow : OpenClaim := { program := "ytdimapcecdffnaa", sum := "f3160b2c62834ea630470427cb41a79d2a2e45440feff19b83ef10c43ccacb7b", func := "loop.example/g00952/laws.FnExactIsPermitted", spec := "fnExactIsPermitted", apart := false }
def FnExactIsPermittedSaid : Prop := fnExactIsPermittedRow.holds Try.pinned (OpenSpec.ofChange fnExactIsPermittedSpec)

/-- ITS FALSE NEIGHBOUR: 'it returns false'. Refute it at one input. -/
def fnExactIsPermittedWrong : ChangeSpec := { name := "fnExactIsPermitted", fn := fun _ => fun
  | [d1, d2] => { results := [.lit (.bool false)], args := [d1, d2] }
  | _ => none }
def FnExactIsPermittedWrongFalsely : Prop := fnExactIsPermittedRow.holds Try.pinned (OpenSpec.ofChange fnExactIsPermittedWrong)

/-- 'laws.FnSway': WHATEVER THE INPUT: true; the input reads as it did. -/
def fnSwaySpec : ChangeSpec := { name := "fnSway", fn := fun _ => fun
  | [d1, d2] => { results := [.lit (.bool true)], args := [d1, d2] }
  | _ => none }
def fnSwayRow : OpenClaim := { program := "ytdimapcecdffnaa", sum := "f3160b2c62834ea630470427cb41a79d2a2e45440feff19b83ef10c43ccacb7b", func := "loop.example/g00952/laws.FnSway", spec := "fnSway", apart := false }
def FnSwaySaid : Prop := fnSwayRow.holds Try.pinned (OpenSpec.ofChange fnSwaySpec)

/-- ITS FALSE NEIGHBOUR: 'it returns false'. Refute it at one input. -/
def fnSwayWrong : ChangeSpec := { name := "fnSway", fn := fun _ => fun
  | [d1, d2] => { results := [.lit (.bool false)], args := [d1, d2] }
  | _ => none }
def FnSwayWrongFalsely : Prop := fnSwayRow.holds Try.pinned (OpenSpec.ofChange fnSwayWrong)

/-- 'laws.FnExactMovePlace': WHATEVER THE INPUT: true; the input reads as it did. -/
def fnExactMovePlaceSpec : ChangeSpec := { name := "fnExactMovePlace", fn := fun _ => fun
  | [d1, d2, d3, d4, d5] => { results := [.lit (.bool true)], args := [d1, d2, d3, d4, d5] }
  | _ => none }
def fnExactMovePlaceRow : OpenClaim := { program := "ytdimapcecdffnaa", sum := "f3160b2c62834ea630470427cb41a79d2a2e45440feff19b83ef10c43ccacb7b", func := "loop.example/g00952/laws.FnExactMovePlace", spec := "fnExactMovePlace", apart := false }
def FnExactMovePlaceSaid : Prop := fnExactMovePlaceRow.holds Try.pinned (OpenSpec.ofChange fnExactMovePlaceSpec)

/-- ITS FALSE NEIGHBOUR: 'it returns false'. Refute it at one input. -/
def fnExactMovePlaceWrong : ChangeSpec := { name := "fnExactMovePlace", fn := fun _ => fun
  | [d1, d2, d3, d4, d5] => { results := [.lit (.bool false)], args := [d1, d2, d3, d4, d5] }
  | _ => none }
def FnExactMovePlaceWrongFalsely : Prop := fnExactMovePlaceRow.holds Try.pinned (OpenSpec.ofChange fnExactMovePlaceWrong)

/-- 'laws.FnExactLeastClearance': WHATEVER THE INPUT: true; the input reads as it did. -/
def fnExactLeastClearanceSpec : ChangeSpec := { name := "fnExactLeastClearance", fn := fun _ => fun
  | [d] => { results := [.lit (.bool true)], args := [d] }
  | _ => none }
def fnExactLeastClearanceRow : OpenClaim := { program := "ytdimapcecdffnaa", sum := "f3160b2c62834ea630470427cb41a79d2a2e45440feff19b83ef10c43ccacb7b", func := "loop.example/g00952/laws.FnExactLeastClearance", spec := "fnExactLeastClearance", apart := false }
def FnExactLeastClearanceSaid : Prop := fnExactLeastClearanceRow.holds Try.pinned (OpenSpec.ofChange fnExactLeastClearanceSpec)

/-- ITS FALSE NEIGHBOUR: 'it returns false'. Refute it at one input. -/
def fnExactLeastClearanceWrong : ChangeSpec := { name := "fnExactLeastClearance", fn := fun _ => fun
  | [d] => { results := [.lit (.bool false)], args := [d] }
  | _ => none }
def FnExactLeastClearanceWrongFalsely : Prop := fnExactLeastClearanceRow.holds Try.pinned (OpenSpec.ofChange fnExactLeastClearanceWrong)

/-- 'laws.FnExactOutsideOf': WHATEVER THE INPUT: true; the input reads as it did. -/
def fnExactOutsideOfSpec : ChangeSpec := { name := "fnExactOutsideOf", fn := fun _ => fun
  | [d1, d2, d3] => { results := [.lit (.bool true)], args := [d1, d2, d3] }
  | _ => none }
def fnExactOutsideOfRow : OpenClaim := { program := "ytdimapcecdffnaa", sum := "f3160b2c62834ea630470427cb41a79d2a2e45440feff19b83ef10c43ccacb7b", func := "loop.example/g00952/laws.FnExactOutsideOf", spec := "fnExactOutsideOf", apart := false }
def FnExactOutsideOfSaid : Prop := fnExactOutsideOfRow.holds Try.pinned (OpenSpec.ofChange fnExactOutsideOfSpec)

/-- ITS FALSE NEIGHBOUR: 'it returns false'. Refute it at one input. -/
def fnExactOutsideOfWrong : ChangeSpec := { name := "fnExactOutsideOf", fn := fun _ => fun
  | [d1, d2, d3] => { results := [.lit (.bool false)], args := [d1, d2, d3] }
  | _ => none }
def FnExactOutsideOfWrongFalsely : Prop := fnExactOutsideOfRow.holds Try.pinned (OpenSpec.ofChange fnExactOutsideOfWrong)

/-- 'laws.FnExactIsClear': WHATEVER THE INPUT: true; the input reads as it did. -/
def fnExactIsClearSpec : ChangeSpec := { name := "fnExactIsClear", fn := fun _ => fun
  | [d1, d2, d3] => { results := [.lit (.bool true)], args := [d1, d2, d3] }
  | _ => none }
def fnExactIsClearRow : OpenClaim := { program := "ytdimapcecdffnaa", sum := "f3160b2c62834ea630470427cb41a79d2a2e45440feff19b83ef10c43ccacb7b", func := "loop.example/g00952/laws.FnExactIsClear", spec := "fnExactIsClear", apart := false }
def FnExactIsClearSaid : Prop := fnExactIsClearRow.holds Try.pinned (OpenSpec.ofChange fnExactIsClearSpec)

/-- ITS FALSE NEIGHBOUR: 'it returns false'. Refute it at one input. -/
def fnExactIsClearWrong : ChangeSpec := { name := "fnExactIsClear", fn := fun _ => fun
  | [d1, d2, d3] => { results := [.lit (.bool false)], args := [d1, d2, d3] }
  | _ => none }
def FnExactIsClearWrongFalsely : Prop := fnExactIsClearRow.holds Try.pinned (OpenSpec.ofChange fnExactIsClearWrong)

/-- 'laws.FnExactClashesOf': WHATEVER THE INPUT: true; the input reads as it did. -/
def fnExactClashesOfSpec : ChangeSpec := { name := "fnExactClashesOf", fn := fun _ => fun
  | [d1, d2] => { results := [.lit (.bool true)], args := [d1, d2] }
  | _ => none }
def fnExactClashesOfRow : OpenClaim := { program := "ytdimapcecdffnaa", sum := "f3160b2c62834ea630470427cb41a79d2a2e45440feff19b83ef10c43ccacb7b", func := "loop.example/g00952/laws.FnExactClashesOf", spec := "fnExactClashesOf", apart := false }
def FnExactClashesOfSaid : Prop := fnExactClashesOfRow.holds Try.pinned (OpenSpec.ofChange fnExactClashesOfSpec)

/-- ITS FALSE NEIGHBOUR: 'it returns false'. Refute it at one input. -/
def fnExactClashesOfWrong : ChangeSpec := { name := "fnExactClashesOf", fn := fun _ => fun
  | [d1, d2] => { results := [.lit (.bool false)], args := [d1, d2] }
  | _ => none }
def FnExactClashesOfWrongFalsely : Prop := fnExactClashesOfRow.holds Try.pinned (OpenSpec.ofChange fnExactClashesOfWrong)

/-- 'laws.FnExactStrikeTimes': WHATEVER THE INPUT: true; the input reads as it did. -/
def fnExactStrikeTimesSpec : ChangeSpec := { name := "fnExactStrikeTimes", fn := fun _ => fun
  | [d1, d2, d3] => { results := [.lit (.bool true)], args := [d1, d2, d3] }
  | _ => none }
def fnExactStrikeTimesRow : OpenClaim := { program := "ytdimapcecdffnaa", sum := "f3160b2c62834ea630470427cb41a79d2a2e45440feff19b83ef10c43ccacb7b", func := "loop.example/g00952/laws.FnExactStrikeTimes", spec := "fnExactStrikeTimes", apart := false }
def FnExactStrikeTimesSaid : Prop := fnExactStrikeTimesRow.holds Try.pinned (OpenSpec.ofChange fnExactStrikeTimesSpec)

/-- ITS FALSE NEIGHBOUR: 'it returns false'. Refute it at one input. -/
def fnExactStrikeTimesWrong : ChangeSpec := { name := "fnExactStrikeTimes", fn := fun _ => fun
  | [d1, d2, d3] => { results := [.lit (.bool false)], args := [d1, d2, d3] }
  | _ => none }
def FnExactStrikeTimesWrongFalsely : Prop := fnExactStrikeTimesRow.holds Try.pinned (OpenSpec.ofChange fnExactStrikeTimesWrong)

/- THE SECOND FORM. 'bulk': how many values and letters a reading holds, each counted each time it is reached (what is shared counts as often as it is met; a slice's spare places count too). A statement '..UptoSaid' is the law's where the arguments, and the package variables that the reading takes, are together of bulk at most 1048576: NARROWER than '..Said'. Prove '..Said' where nothing that the law and all that it calls make is longer than what came in: it says more and counts as full. Else prove '..UptoSaid'. A law counts once. -/
mutual
def uptoBulk {H : Type} : DataW H → Nat
  | .lit (.string bytes) => bytes.length + 1
  | .lit _ => 1
  | .nil => 1
  | .ptr d => uptoBulk d + 1
  | .slice elems spare => uptoBulkAll elems + uptoBulkAll spare + 1
  | .agg parts => uptoBulkAll parts + 1
  | .iface _ d => uptoBulk d + 1
  | .map entries => uptoBulkEntries entries + 1
  | .held _ => 1
def uptoBulkAll {H : Type} : List (DataW H) → Nat
  | [] => 0
  | d :: r => uptoBulk d + uptoBulkAll r
def uptoBulkEntries {H : Type} : List (Lit × DataW H) → Nat
  | [] => 0
  | x :: r => uptoBulkEntry x + uptoBulkEntries r
def uptoBulkEntry {H : Type} : Lit × DataW H → Nat
  | (.string bytes, d) => bytes.length + uptoBulk d + 1
  | (_, d) => uptoBulk d + 1
 end
def uptoSmall : (H : Type) → List (DataW H) → Bool := fun _ ds => decide (uptoBulkAll ds ≤ 1048576)
def OpenSpec.upto (s : _root_.Go.ChangeSpec) : _root_.Go.OpenSpec := { _root_.Go.OpenSpec.ofChange s with cond := some uptoSmall }

/-- 'laws.FnExactResonanceOf', WHERE WHAT IT READS IS OF BULK AT MOST 1048576: true; the input reads as it did. -/
def fnExactResonanceOfUptoRow : OpenClaim := { program := "ytdimapcecdffnaa", sum := "f3160b2c62834ea630470427cb41a79d2a2e45440feff19b83ef10c43ccacb7b", func := "loop.example/g00952/laws.FnExactResonanceOf", spec := "fnExactResonanceOf", apart := false, narrowed := true }
def FnExactResonanceOfUptoSaid : Prop := fnExactResonanceOfUptoRow.holds Try.pinned (OpenSpec.upto fnExactResonanceOfSpec)

/-- 'laws.FnExactAmplitudeOf', WHERE WHAT IT READS IS OF BULK AT MOST 1048576: true; the input reads as it did. -/
def fnExactAmplitudeOfUptoRow : OpenClaim := { program := "ytdimapcecdffnaa", sum := "f3160b2c62834ea630470427cb41a79d2a2e45440feff19b83ef10c43ccacb7b", func := "loop.example/g00952/laws.FnExactAmplitudeOf", spec := "fnExactAmplitudeOf", apart := false, narrowed := true }
def FnExactAmplitudeOfUptoSaid : Prop := fnExactAmplitudeOfUptoRow.holds Try.pinned (OpenSpec.upto fnExactAmplitudeOfSpec)

/-- 'laws.FnExactSafeRate', WHERE WHAT IT READS IS OF BULK AT MOST 1048576: true; the input reads as it did. -/
def fnExactSafeRateUptoRow : OpenClaim := { program := "ytdimapcecdffnaa", sum := "f3160b2c62834ea630470427cb41a79d2a2e45440feff19b83ef10c43ccacb7b", func := "loop.example/g00952/laws.FnExactSafeRate", spec := "fnExactSafeRate", apart := false, narrowed := true }
def FnExactSafeRateUptoSaid : Prop := fnExactSafeRateUptoRow.holds Try.pinned (OpenSpec.upto fnExactSafeRateSpec)

/-- 'laws.FnExactTotalSway', WHERE WHAT IT READS IS OF BULK AT MOST 1048576: true; the input reads as it did. -/
def fnExactTotalSwayUptoRow : OpenClaim := { program := "ytdimapcecdffnaa", sum := "f3160b2c62834ea630470427cb41a79d2a2e45440feff19b83ef10c43ccacb7b", func := "loop.example/g00952/laws.FnExactTotalSway", spec := "fnExactTotalSway", apart := false, narrowed := true }
def FnExactTotalSwayUptoSaid : Prop := fnExactTotalSwayUptoRow.holds Try.pinned (OpenSpec.upto fnExactTotalSwaySpec)

/-- 'laws.FnExactIsPermitted', WHERE WHAT IT READS IS OF BULK AT MOST 1048576: true; the input reads as it did. -/
def fnExactIsPermittedUptoRow : OpenClaim := { program := "ytdimapcecdffnaa", sum := "f3160b2c62834ea630470427cb41a79d2a2e45440feff19b83ef10c43ccacb7b", func := "loop.example/g00952/laws.FnExactIsPermitted", spec := "fnExactIsPermitted", apart := false, narrowed := true }
def FnExactIsPermittedUptoSaid : Prop := fnExactIsPermittedUptoRow.holds Try.pinned (OpenSpec.upto fnExactIsPermittedSpec)

/-- 'laws.FnSway', WHERE WHAT IT READS IS OF BULK AT MOST 1048576: true; the input reads as it did. -/
def fnSwayUptoRow : OpenClaim := { program := "ytdimapcecdffnaa", sum := "f3160b2c62834ea630470427cb41a79d2a2e45440feff19b83ef10c43ccacb7b", func := "loop.example/g00952/laws.FnSway", spec := "fnSway", apart := false, narrowed := true }
def FnSwayUptoSaid : Prop := fnSwayUptoRow.holds Try.pinned (OpenSpec.upto fnSwaySpec)

/-- 'laws.FnExactMovePlace', WHERE WHAT IT READS IS OF BULK AT MOST 1048576: true; the input reads as it did. -/
def fnExactMovePlaceUptoRow : OpenClaim := { program := "ytdimapcecdffnaa", sum := "f3160b2c62834ea630470427cb41a79d2a2e45440feff19b83ef10c43ccacb7b", func := "loop.example/g00952/laws.FnExactMovePlace", spec := "fnExactMovePlace", apart := false, narrowed := true }
def FnExactMovePlaceUptoSaid : Prop := fnExactMovePlaceUptoRow.holds Try.pinned (OpenSpec.upto fnExactMovePlaceSpec)

/-- 'laws.FnExactLeastClearance', WHERE WHAT IT READS IS OF BULK AT MOST 1048576: true; the input reads as it did. -/
def fnExactLeastClearanceUptoRow : OpenClaim := { program := "ytdimapcecdffnaa", sum := "f3160b2c62834ea630470427cb41a79d2a2e45440feff19b83ef10c43ccacb7b", func := "loop.example/g00952/laws.FnExactLeastClearance", spec := "fnExactLeastClearance", apart := false, narrowed := true }
def FnExactLeastClearanceUptoSaid : Prop := fnExactLeastClearanceUptoRow.holds Try.pinned (OpenSpec.upto fnExactLeastClearanceSpec)

/-- 'laws.FnExactOutsideOf', WHERE WHAT IT READS IS OF BULK AT MOST 1048576: true; the input reads as it did. -/
def fnExactOutsideOfUptoRow : OpenClaim := { program := "ytdimapcecdffnaa", sum := "f3160b2c62834ea630470427cb41a79d2a2e45440feff19b83ef10c43ccacb7b", func := "loop.example/g00952/laws.FnExactOutsideOf", spec := "fnExactOutsideOf", apart := false, narrowed := true }
def FnExactOutsideOfUptoSaid : Prop := fnExactOutsideOfUptoRow.holds Try.pinned (OpenSpec.upto fnExactOutsideOfSpec)

/-- 'laws.FnExactIsClear', WHERE WHAT IT READS IS OF BULK AT MOST 1048576: true; the input reads as it did. -/
def fnExactIsClearUptoRow : OpenClaim := { program := "ytdimapcecdffnaa", sum := "f3160b2c62834ea630470427cb41a79d2a2e45440feff19b83ef10c43ccacb7b", func := "loop.example/g00952/laws.FnExactIsClear", spec := "fnExactIsClear", apart := false, narrowed := true }
def FnExactIsClearUptoSaid : Prop := fnExactIsClearUptoRow.holds Try.pinned (OpenSpec.upto fnExactIsClearSpec)

/-- 'laws.FnExactClashesOf', WHERE WHAT IT READS IS OF BULK AT MOST 1048576: true; the input reads as it did. -/
def fnExactClashesOfUptoRow : OpenClaim := { program := "ytdimapcecdffnaa", sum := "f3160b2c62834ea630470427cb41a79d2a2e45440feff19b83ef10c43ccacb7b", func := "loop.example/g00952/laws.FnExactClashesOf", spec := "fnExactClashesOf", apart := false, narrowed := true }
def FnExactClashesOfUptoSaid : Prop := fnExactClashesOfUptoRow.holds Try.pinned (OpenSpec.upto fnExactClashesOfSpec)

/-- 'laws.FnExactStrikeTimes', WHERE WHAT IT READS IS OF BULK AT MOST 1048576: true; the input reads as it did. -/
def fnExactStrikeTimesUptoRow : OpenClaim := { program := "ytdimapcecdffnaa", sum := "f3160b2c62834ea630470427cb41a79d2a2e45440feff19b83ef10c43ccacb7b", func := "loop.example/g00952/laws.FnExactStrikeTimes", spec := "fnExactStrikeTimes", apart := false, narrowed := true }
def FnExactStrikeTimesUptoSaid : Prop := fnExactStrikeTimesUptoRow.holds Try.pinned (OpenSpec.upto fnExactStrikeTimesSpec)

end Rows
end Go.Proofs.Ytdimapcecdffnaa
