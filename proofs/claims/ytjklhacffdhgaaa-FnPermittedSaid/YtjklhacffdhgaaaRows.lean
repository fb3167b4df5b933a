/-
  No cell of these rows narrows 'for every input' (looked for: loops, veiled, ifaces, maps, wideKeys, modest, calm, conditions, laid).
  DERIVED. THE GIVEN ROWS OF THIS SEAT. 11 by the template 'for every input the law returns true; each argument reads behind the call as it read before'; 0 by the template 'total and deterministic' (their statements: YtjklhacffdhgaaaTotals.lean).
  GIVEN WITH THE SEED: the statements are not yours to turn. If you find one false, say at which input.
  Laid BY PROGRAM, IN A SANDBOX (cutbox-rows.mjs): the forced cells as the released guide's own fill.sh prints them over the translation ff2d991347ea4b56… (all of the seat's roots in one cut). By AI agents, Wed Nov 11 2026. No macro, syntax, notation, axiom, sorry.
-/
import Derived.Test.YtjklhacffdhgaaaChecked
import GoSem.Claim
import GoSem.ClaimJoined
import GoSem.ClaimMapViews
import Derived.JoinedTies
import Derived.KernelRfl
namespace Go.Proofs.Ytjklhacffdhgaaa
/- THE CELL 'sum', in the pinned program and in every row, IS THE sha256 OF THE DUMP (.gsa) THAT YtjklhacffdhgaaaProg.lean LOADS. Nothing in Lean hashes anything: it is a label: what it is worth is what the hold of that sum in a sandbox is worth. -/
noncomputable def Try.pinned : Pinned := { name := "ytjklhacffdhgaaa", sum := "ff2d991347ea4b5624ea2deb3d6809ca13fb5daeb4aff0c169677f166c8bba22", checked := Try.checked }
namespace Rows
def none {H : Type} : Left H := { results := [], args := [] }

/-- 'laws.FnExactCountCharges': WHATEVER THE INPUT: true; the input reads as it did. -/
def fnExactCountChargesSpec : ChangeSpec := { name := "fnExactCountCharges", fn := fun _ => fun
  | [d1, d2, d3] => { results := [.lit (.bool true)], args := [d1, d2, d3] }
  | _ => none }
def fnExactCountChargesRow : OpenClaim := { program := "ytjklhacffdhgaaa", sum := "ff2d991347ea4b5624ea2deb3d6809ca13fb5daeb4aff0c169677f166c8bba22", func := "loop.example/g00952/laws.FnExactCountCharges", spec := "fnExactCountCharges", recurses := true, apart := false }
def FnExactCountChargesSaid : Prop := fnExactCountChargesRow.holds Try.pinned (OpenSpec.ofChange fnExactCountChargesSpec)

/-- ITS FALSE NEIGHBOUR: 'it returns false'. Refute it at one input. -/
def fnExactCountChargesWrong : ChangeSpec := { name := "fnExactCountCharges", fn := fun _ => fun
  | [d1, d2, d3] => { results := [.lit (.bool false)], args := [d1, d2, d3] }
  | _ => none }
def FnExactCountChargesWrongFalsely : Prop := fnExactCountChargesRow.holds Try.pinned (OpenSpec.ofChange fnExactCountChargesWrong)

/-- 'laws.FnExactFirstCharge': WHATEVER THE INPUT: true; the input reads as it did. -/
def fnExactFirstChargeSpec : ChangeSpec := { name := "fnExactFirstCharge", fn := fun _ => fun
  | [d1, d2, d3] => { results := [.lit (.bool true)], args := [d1, d2, d3] }
  | _ => none }
def fnExactFirstChargeRow : OpenClaim := { program := "ytjklhacffdhgaaa", sum := "ff2d991347ea4b5624ea2deb3d6809ca13fb5daeb4aff0c169677f166c8bba22", func := "loop.example/g00952/laws.FnExactFirstCharge", spec := "fnExactFirstCharge", recurses := true, apart := false }
def FnExactFirstChargeSaid : Prop := fnExactFirstChargeRow.holds Try.pinned (OpenSpec.ofChange fnExactFirstChargeSpec)

/-- ITS FALSE NEIGHBOUR: 'it returns false'. Refute it at one input. -/
def fnExactFirstChargeWrong : ChangeSpec := { name := "fnExactFirstCharge", fn := fun _ => fun
  | [d1, d2, d3] => { results := [.lit (.bool false)], args := [d1, d2, d3] }
  | _ => none }
def FnExactFirstChargeWrongFalsely : Prop := fnExactFirstChargeRow.holds Try.pinned (OpenSpec.ofChange fnExactFirstChargeWrong)

/-- 'laws.FnExactLeastCharge': WHATEVER THE INPUT: true; the input reads as it did. -/
def fnExactLeastChargeSpec : ChangeSpec := { name := "fnExactLeastCharge", fn := fun _ => fun
  | [d1, d2, d3] => { results := [.lit (.bool true)], args := [d1, d2, d3] }
  | _ => none }
def fnExactLeastChargeRow : OpenClaim := { program := "ytjklhacffdhgaaa", sum := "ff2d991347ea4b5624ea2deb3d6809ca13fb5daeb4aff0c169677f166c8bba22", func := "loop.example/g00952/laws.FnExactLeastCharge", spec := "fnExactLeastCharge", recurses := true, apart := false }
def FnExactLeastChargeSaid : Prop := fnExactLeastChargeRow.holds Try.pinned (OpenSpec.ofChange fnExactLeastChargeSpec)

/-- ITS FALSE NEIGHBOUR: 'it returns false'. Refute it at one input. -/
def fnExactLeastChargeWrong : ChangeSpec := { name := "fnExactLeastCharge", fn := fun _ => fun
  | [d1, d2, d3] => { results := [.lit (.bool false)], args := [d1, d2, d3] }
  | _ => none }
def FnExactLeastChargeWrongFalsely : Prop := fnExactLeastChargeRow.holds Try.pinned (OpenSpec.ofChange fnExactLeastChargeWrong)

/-- 'laws.FnCharges': WHATEVER THE INPUT: true; the input reads as it did. -/
def fnChargesSpec : ChangeSpec := { name := "fnCharges", fn := fun _ => fun
  | [d1, d2] => { results := [.lit (.bool true)], args := [d1, d2] }
  | _ => none }
def fnChargesRow : OpenClaim := { program := "ytjklhacffdhgaaa", sum := "ff2d991347ea4b5624ea2deb3d6809ca13fb5daeb4aff0c169677f166c8bba22", func := "loop.example/g00952/laws.FnCharges", spec := "fnCharges", recurses := true, apart := false }
def FnChargesSaid : Prop := fnChargesRow.holds Try.pinned (OpenSpec.ofChange fnChargesSpec)

/-- ITS FALSE NEIGHBOUR: 'it returns false'. Refute it at one input. -/
def fnChargesWrong : ChangeSpec := { name := "fnCharges", fn := fun _ => fun
  | [d1, d2] => { results := [.lit (.bool false)], args := [d1, d2] }
  | _ => none }
def FnChargesWrongFalsely : Prop := fnChargesRow.holds Try.pinned (OpenSpec.ofChange fnChargesWrong)

/-- 'laws.FnExactGreatestForce': WHATEVER THE INPUT: true; the input reads as it did. -/
def fnExactGreatestForceSpec : ChangeSpec := { name := "fnExactGreatestForce", fn := fun _ => fun
  | [d1, d2, d3] => { results := [.lit (.bool true)], args := [d1, d2, d3] }
  | _ => none }
def fnExactGreatestForceRow : OpenClaim := { program := "ytjklhacffdhgaaa", sum := "ff2d991347ea4b5624ea2deb3d6809ca13fb5daeb4aff0c169677f166c8bba22", func := "loop.example/g00952/laws.FnExactGreatestForce", spec := "fnExactGreatestForce", recurses := true, apart := false }
def FnExactGreatestForceSaid : Prop := fnExactGreatestForceRow.holds Try.pinned (OpenSpec.ofChange fnExactGreatestForceSpec)

/-- ITS FALSE NEIGHBOUR: 'it returns false'. Refute it at one input. -/
def fnExactGreatestForceWrong : ChangeSpec := { name := "fnExactGreatestForce", fn := fun _ => fun
  | [d1, d2, d3] => { results := [.lit (.bool false)], args := [d1, d2, d3] }
  | _ => none }
def FnExactGreatestForceWrongFalsely : Prop := fnExactGreatestForceRow.holds Try.pinned (OpenSpec.ofChange fnExactGreatestForceWrong)

/-- 'laws.FnExactMostBells': WHATEVER THE INPUT: true; the input reads as it did. -/
def fnExactMostBellsSpec : ChangeSpec := { name := "fnExactMostBells", fn := fun _ => fun
  | [d1, d2] => { results := [.lit (.bool true)], args := [d1, d2] }
  | _ => none }
def fnExactMostBellsRow : OpenClaim := { program := "ytjklhacffdhgaaa", sum := "ff2d991347ea4b5624ea2deb3d6809ca13fb5daeb4aff0c169677f166c8bba22", func := "loop.example/g00952/laws.FnExactMostBells", spec := "fnExactMostBells", unfollowed := true, recurses := true, apart := false }
def FnExactMostBellsSaid : Prop := fnExactMostBellsRow.holds Try.pinned (OpenSpec.ofChange fnExactMostBellsSpec)

/-- ITS FALSE NEIGHBOUR: 'it returns false'. Refute it at one input. -/
def fnExactMostBellsWrong : ChangeSpec := { name := "fnExactMostBells", fn := fun _ => fun
  | [d1, d2] => { results := [.lit (.bool false)], args := [d1, d2] }
  | _ => none }
def FnExactMostBellsWrongFalsely : Prop := fnExactMostBellsRow.holds Try.pinned (OpenSpec.ofChange fnExactMostBellsWrong)

/-- 'laws.FnPermitted': WHATEVER THE INPUT: true; the input reads as it did. -/
def fnPermittedSpec : ChangeSpec := { name := "fnPermitted", fn := fun _ => fun
  | [d] => { results := [.lit (.bool true)], args := [d] }
  | _ => none }
def fnPermittedRow : OpenClaim := { program := "ytjklhacffdhgaaa", sum := "ff2d991347ea4b5624ea2deb3d6809ca13fb5daeb4aff0c169677f166c8bba22", func := "loop.example/g00952/laws.FnPermitted", spec := "fnPermitted", unfollowed := true, recurses := true, apart := false }
def FnPermittedSaid : Prop := fnPermittedRow.holds Try.pinned (OpenSpec.ofChange fnPermittedSpec)

/-- ITS FALSE NEIGHBOUR: 'it returns false'. Refute it at one input. -/
def fnPermittedWrong : ChangeSpec := { name := "fnPermitted", fn := fun _ => fun
  | [d] => { results := [.lit (.bool false)], args := [d] }
  | _ => none }
def FnPermittedWrongFalsely : Prop := fnPermittedRow.holds Try.pinned (OpenSpec.ofChange fnPermittedWrong)

/-- 'laws.FnSway': WHATEVER THE INPUT: true; the input reads as it did. -/
def fnSwaySpec : ChangeSpec := { name := "fnSway", fn := fun _ => fun
  | [d1, d2] => { results := [.lit (.bool true)], args := [d1, d2] }
  | _ => none }
def fnSwayRow : OpenClaim := { program := "ytjklhacffdhgaaa", sum := "ff2d991347ea4b5624ea2deb3d6809ca13fb5daeb4aff0c169677f166c8bba22", func := "loop.example/g00952/laws.FnSway", spec := "fnSway", apart := false }
def FnSwaySaid : Prop := fnSwayRow.holds Try.pinned (OpenSpec.ofChange fnSwaySpec)

/-- ITS FALSE NEIGHBOUR: 'it returns false'. Refute it at one input. -/
def fnSwayWrong : ChangeSpec := { name := "fnSway", fn := fun _ => fun
  | [d1, d2] => { results := [.lit (.bool false)], args := [d1, d2] }
  | _ => none }
def FnSwayWrongFalsely : Prop := fnSwayRow.holds Try.pinned (OpenSpec.ofChange fnSwayWrong)

/-- 'laws.FnExactFirstLayout': WHATEVER THE INPUT: true; the input reads as it did. -/
def fnExactFirstLayoutSpec : ChangeSpec := { name := "fnExactFirstLayout", fn := fun _ => fun
  | [d1, d2, d3, d4, d5, d6] => { results := [.lit (.bool true)], args := [d1, d2, d3, d4, d5, d6] }
  | _ => none }
def fnExactFirstLayoutRow : OpenClaim := { program := "ytjklhacffdhgaaa", sum := "ff2d991347ea4b5624ea2deb3d6809ca13fb5daeb4aff0c169677f166c8bba22", func := "loop.example/g00952/laws.FnExactFirstLayout", spec := "fnExactFirstLayout", recurses := true, apart := false }
def FnExactFirstLayoutSaid : Prop := fnExactFirstLayoutRow.holds Try.pinned (OpenSpec.ofChange fnExactFirstLayoutSpec)

/-- ITS FALSE NEIGHBOUR: 'it returns false'. Refute it at one input. -/
def fnExactFirstLayoutWrong : ChangeSpec := { name := "fnExactFirstLayout", fn := fun _ => fun
  | [d1, d2, d3, d4, d5, d6] => { results := [.lit (.bool false)], args := [d1, d2, d3, d4, d5, d6] }
  | _ => none }
def FnExactFirstLayoutWrongFalsely : Prop := fnExactFirstLayoutRow.holds Try.pinned (OpenSpec.ofChange fnExactFirstLayoutWrong)

/-- 'laws.FnLayout': WHATEVER THE INPUT: true; the input reads as it did. -/
def fnLayoutSpec : ChangeSpec := { name := "fnLayout", fn := fun _ => fun
  | [d] => { results := [.lit (.bool true)], args := [d] }
  | _ => none }
def fnLayoutRow : OpenClaim := { program := "ytjklhacffdhgaaa", sum := "ff2d991347ea4b5624ea2deb3d6809ca13fb5daeb4aff0c169677f166c8bba22", func := "loop.example/g00952/laws.FnLayout", spec := "fnLayout", recurses := true, apart := false }
def FnLayoutSaid : Prop := fnLayoutRow.holds Try.pinned (OpenSpec.ofChange fnLayoutSpec)

/-- ITS FALSE NEIGHBOUR: 'it returns false'. Refute it at one input. -/
def fnLayoutWrong : ChangeSpec := { name := "fnLayout", fn := fun _ => fun
  | [d] => { results := [.lit (.bool false)], args := [d] }
  | _ => none }
def FnLayoutWrongFalsely : Prop := fnLayoutRow.holds Try.pinned (OpenSpec.ofChange fnLayoutWrong)

/-- 'laws.FnExactAddLoad': WHATEVER THE INPUT: true; the input reads as it did. -/
def fnExactAddLoadSpec : ChangeSpec := { name := "fnExactAddLoad", fn := fun _ => fun
  | [d1, d2] => { results := [.lit (.bool true)], args := [d1, d2] }
  | _ => none }
def fnExactAddLoadRow : OpenClaim := { program := "ytjklhacffdhgaaa", sum := "ff2d991347ea4b5624ea2deb3d6809ca13fb5daeb4aff0c169677f166c8bba22", func := "loop.example/g00952/laws.FnExactAddLoad", spec := "fnExactAddLoad", inPlace := ["slices.overlaps[loop.example/g00952/impl.Load]"], apart := false }
def FnExactAddLoadSaid : Prop := fnExactAddLoadRow.holds Try.pinned (OpenSpec.ofChange fnExactAddLoadSpec)

/-- ITS FALSE NEIGHBOUR: 'it returns false'. Refute it at one input. -/
def fnExactAddLoadWrong : ChangeSpec := { name := "fnExactAddLoad", fn := fun _ => fun
  | [d1, d2] => { results := [.lit (.bool false)], args := [d1, d2] }
  | _ => none }
def FnExactAddLoadWrongFalsely : Prop := fnExactAddLoadRow.holds Try.pinned (OpenSpec.ofChange fnExactAddLoadWrong)

/- THE SECOND FORM. 'bulk': how many values and letters a reading holds, each counted each time it is reached (what is shared counts as often as it is met; a slice's spare places count too). A statement '..UptoSaid' is the law's where the arguments, and the package variables that the reading takes, are together of bulk at most 1048576: NARROWER than '..Said'. Prove '..Said' where nothing that the law and all that it calls make is longer than what came in: it says more and counts as full. Else prove '..UptoSaid'. A law counts once. -/
mutual
def uptoBulk {H : Type} : DataW H → Nat
  | .lit (.string bytes) => bytes.length + 1
  | .lit _ => 1
  | .nil => 1
  | .ptr d => uptoBulk d + 1
  | .slice elems spare => uptoBulkAll elems + uptoBulkAll spare + 1
  | .agg parts => uptoBulkAll parts + 1
  | .iface _ d => uptoBulk d + 1
  | .map entries => uptoBulkEntries entries + 1
  | .held _ => 1
def uptoBulkAll {H : Type} : List (DataW H) → Nat
  | [] => 0
  | d :: r => uptoBulk d + uptoBulkAll r
def uptoBulkEntries {H : Type} : List (Lit × DataW H) → Nat
  | [] => 0
  | x :: r => uptoBulkEntry x + uptoBulkEntries r
def uptoBulkEntry {H : Type} : Lit × DataW H → Nat
  | (.string bytes, d) => bytes.length + uptoBulk d + 1
  | (_, d) => uptoBulk d + 1
 end
def uptoSmall : (H : Type) → List (DataW H) → Bool := fun _ ds => decide (uptoBulkAll ds ≤ 1048576)
def OpenSpec.upto (s : _root_.Go.ChangeSpec) : _root_.Go.OpenSpec := { _root_.Go.OpenSpec.ofChange s with cond := some uptoSmall }

/-- 'laws.FnExactCountCharges', WHERE WHAT IT READS IS OF BULK AT MOST 1048576: true; the input reads as it did. -/
def fnExactCountChargesUptoRow : OpenClaim := { program := "ytjklhacffdhgaaa", sum := "ff2d991347ea4b5624ea2deb3d6809ca13fb5daeb4aff0c169677f166c8bba22", func := "loop.example/g00952/laws.FnExactCountCharges", spec := "fnExactCountCharges", recurses := true, apart := false, narrowed := true }
def FnExactCountChargesUptoSaid : Prop := fnExactCountChargesUptoRow.holds Try.pinned (OpenSpec.upto fnExactCountChargesSpec)

/-- 'laws.FnExactFirstCharge', WHERE WHAT IT READS IS OF BULK AT MOST 1048576: true; the input reads as it did. -/
def fnExactFirstChargeUptoRow : OpenClaim := { program := "ytjklhacffdhgaaa", sum := "ff2d991347ea4b5624ea2deb3d6809ca13fb5daeb4aff0c169677f166c8bba22", func := "loop.example/g00952/laws.FnExactFirstCharge", spec := "fnExactFirstCharge", recurses := true, apart := false, narrowed := true }
def FnExactFirstChargeUptoSaid : Prop := fnExactFirstChargeUptoRow.holds Try.pinned (OpenSpec.upto fnExactFirstChargeSpec)

/-- 'laws.FnExactLeastCharge', WHERE WHAT IT READS IS OF BULK AT MOST 1048576: true; the input reads as it did. -/
def fnExactLeastChargeUptoRow : OpenClaim := { program := "ytjklhacffdhgaaa", sum := "ff2d991347ea4b5624ea2deb3d6809ca13fb5daeb4aff0c169677f166c8bba22", func := "loop.example/g00952/laws.FnExactLeastCharge", spec := "fnExactLeastCharge", recurses := true, apart := false, narrowed := true }
def FnExactLeastChargeUptoSaid : Prop := fnExactLeastChargeUptoRow.holds Try.pinned (OpenSpec.upto fnExactLeastChargeSpec)

/-- 'laws.FnCharges', WHERE WHAT IT READS IS OF BULK AT MOST 1048576: true; the input reads as it did. -/
def fnChargesUptoRow : OpenClaim := { program := "ytjklhacffdhgaaa", sum := "ff2d991347ea4b5624ea2deb3d6809ca13fb5daeb4aff0c169677f166c8bba22", func := "loop.example/g00952/laws.FnCharges", spec := "fnCharges", recurses := true, apart := false, narrowed := true }
def FnChargesUptoSaid : Prop := fnChargesUptoRow.holds Try.pinned (OpenSpec.upto fnChargesSpec)

/-- 'laws.FnExactGreatestForce', WHERE WHAT IT READS IS OF BULK AT MOST 1048576: true; the input reads as it did. -/
def fnExactGreatestForceUptoRow : OpenClaim := { program := "ytjklhacffdhgaaa", sum := "ff2d991347ea4b5624ea2deb3d6809ca13fb5daeb4aff0c169677f166c8bba22", func := "loop.example/g00952/laws.FnExactGreatestForce", spec := "fnExactGreatestForce", recurses := true, apart := false, narrowed := true }
def FnExactGreatestForceUptoSaid : Prop := fnExactGreatestForceUptoRow.holds Try.pinned (OpenSpec.upto fnExactGreatestForceSpec)

/-- 'laws.FnExactMostBells', WHERE WHAT IT READS IS OF BULK AT MOST 1048576: true; the input reads as it did. -/
def fnExactMostBellsUptoRow : OpenClaim := { program := "ytjklhacffdhgaaa", sum := "ff2d991347ea4b5624ea2deb3d6809ca13fb5daeb4aff0c169677f166c8bba22", func := "loop.example/g00952/laws.FnExactMostBells", spec := "fnExactMostBells", unfollowed := true, recurses := true, apart := false, narrowed := true }
def FnExactMostBellsUptoSaid : Prop := fnExactMostBellsUptoRow.holds Try.pinned (OpenSpec.upto fnExactMostBellsSpec)

/-- 'laws.FnPermitted', WHERE WHAT IT READS IS OF BULK AT MOST 1048576: true; the input reads as it did. -/
def fnPermittedUptoRow : OpenClaim := { program := "ytjklhacffdhgaaa", sum := "ff2d991347ea4b5624ea2deb3d6809ca13fb5daeb4aff0c169677f166c8bba22", func := "loop.example/g00952/laws.FnPermitted", spec := "fnPermitted", unfollowed := true, recurses := true, apart := false, narrowed := true }
def FnPermittedUptoSaid : Prop := fnPermittedUptoRow.holds Try.pinned (OpenSpec.upto fnPermittedSpec)

/-- 'laws.FnSway', WHERE WHAT IT READS IS OF BULK AT MOST 1048576: true; the input reads as it did. -/
def fnSwayUptoRow : OpenClaim := { program := "ytjklhacffdhgaaa", sum := "ff2d991347ea4b5624ea2deb3d6809ca13fb5daeb4aff0c169677f166c8bba22", func := "loop.example/g00952/laws.FnSway", spec := "fnSway", apart := false, narrowed := true }
def FnSwayUptoSaid : Prop := fnSwayUptoRow.holds Try.pinned (OpenSpec.upto fnSwaySpec)

/-- 'laws.FnExactFirstLayout', WHERE WHAT IT READS IS OF BULK AT MOST 1048576: true; the input reads as it did. -/
def fnExactFirstLayoutUptoRow : OpenClaim := { program := "ytjklhacffdhgaaa", sum := "ff2d991347ea4b5624ea2deb3d6809ca13fb5daeb4aff0c169677f166c8bba22", func := "loop.example/g00952/laws.FnExactFirstLayout", spec := "fnExactFirstLayout", recurses := true, apart := false, narrowed := true }
def FnExactFirstLayoutUptoSaid : Prop := fnExactFirstLayoutUptoRow.holds Try.pinned (OpenSpec.upto fnExactFirstLayoutSpec)

/-- 'laws.FnLayout', WHERE WHAT IT READS IS OF BULK AT MOST 1048576: true; the input reads as it did. -/
def fnLayoutUptoRow : OpenClaim := { program := "ytjklhacffdhgaaa", sum := "ff2d991347ea4b5624ea2deb3d6809ca13fb5daeb4aff0c169677f166c8bba22", func := "loop.example/g00952/laws.FnLayout", spec := "fnLayout", recurses := true, apart := false, narrowed := true }
def FnLayoutUptoSaid : Prop := fnLayoutUptoRow.holds Try.pinned (OpenSpec.upto fnLayoutSpec)

/-- 'laws.FnExactAddLoad', WHERE WHAT IT READS IS OF BULK AT MOST 1048576: true; the input reads as it did. -/
def fnExactAddLoadUptoRow : OpenClaim := { program := "ytjklhacffdhgaaa", sum := "ff2d991347ea4b5624ea2deb3d6809ca13fb5daeb4aff0c169677f166c8bba22", func := "loop.example/g00952/laws.FnExactAddLoad", spec := "fnExactAddLoad", inPlace := ["slices.overlaps[loop.example/g00952/impl.Load]"], apart := false, narrowed := true }
def FnExactAddLoadUptoSaid : Prop := fnExactAddLoadUptoRow.holds Try.pinned (OpenSpec.upto fnExactAddLoadSpec)

end Rows
end Go.Proofs.Ytjklhacffdhgaaa
