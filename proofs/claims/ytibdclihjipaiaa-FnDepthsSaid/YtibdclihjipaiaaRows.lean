/-
  No cell of these rows narrows 'for every input' (looked for: loops, veiled, ifaces, maps, wideKeys, modest, calm, conditions, laid).
  DERIVED. THE GIVEN ROWS OF THIS SEAT. 12 by the template 'for every input the law returns true; each argument reads behind the call as it read before'; 0 by the template 'total and deterministic' (their statements: YtibdclihjipaiaaTotals.lean).
  GIVEN WITH THE SEED: the statements are not yours to turn. If you find one false, say at which input.
  Laid BY PROGRAM, IN A SANDBOX (cutbox-rows.mjs): the forced cells as the released guide's own fill.sh prints them over the translation e3b601af8e71e29b… (all of the seat's roots in one cut). By AI agents, Wed Nov 11 2026. No macro, syntax, notation, axiom, sorry.
-/
import Derived.Test.YtibdclihjipaiaaChecked
import GoSem.Claim
import GoSem.ClaimJoined
import GoSem.ClaimMapViews
import Derived.JoinedTies
import Derived.KernelRfl
namespace Go.Proofs.Ytibdclihjipaiaa
/- THE CELL 'sum', in the pinned program and in every row, IS THE sha256 OF THE DUMP (.gsa) THAT YtibdclihjipaiaaProg.lean LOADS. Nothing in Lean hashes anything: it is a label: what it is worth is what the hold of that sum in a sandbox is worth. -/
noncomputable def Try.pinned : Pinned := { name := "ytibdclihjipaiaa", sum := "e3b601af8e71e29b0e05d1afcc9353820f2a4a24b3a172f142f970748b5f6857", checked := Try.checked }
namespace Rows
def none {H : Type} : Left H := { results := [], args := [] }

/-- 'laws.FnExactSameBeam': WHATEVER THE INPUT: true; the input reads as it did. -/
def fnExactSameBeamSpec : ChangeSpec := { name := "fnExactSameBeam", fn := fun _ => fun
  | [d1, d2] => { results := [.lit (.bool true)], args := [d1, d2] }
  | _ => none }
def fnExactSameBeamRow : OpenClaim := { program := "ytibdclihjipaiaa", sum := "e3b601af8e71e29b0e05d1afcc9353820f2a4a24b3a172f142f970748b5f6857", func := "loop.example/g00952/laws.FnExactSameBeam", spec := "fnExactSameBeam", apart := false }
def FnExactSameBeamSaid : Prop := fnExactSameBeamRow.holds Try.pinned (OpenSpec.ofChange fnExactSameBeamSpec)

/-- ITS FALSE NEIGHBOUR: 'it returns false'. Refute it at one input. -/
def fnExactSameBeamWrong : ChangeSpec := { name := "fnExactSameBeam", fn := fun _ => fun
  | [d1, d2] => { results := [.lit (.bool false)], args := [d1, d2] }
  | _ => none }
def FnExactSameBeamWrongFalsely : Prop := fnExactSameBeamRow.holds Try.pinned (OpenSpec.ofChange fnExactSameBeamWrong)

/-- 'laws.FnExactValidFrame': WHATEVER THE INPUT: true; the input reads as it did. -/
def fnExactValidFrameSpec : ChangeSpec := { name := "fnExactValidFrame", fn := fun _ => fun
  | [d] => { results := [.lit (.bool true)], args := [d] }
  | _ => none }
def fnExactValidFrameRow : OpenClaim := { program := "ytibdclihjipaiaa", sum := "e3b601af8e71e29b0e05d1afcc9353820f2a4a24b3a172f142f970748b5f6857", func := "loop.example/g00952/laws.FnExactValidFrame", spec := "fnExactValidFrame", apart := false }
def FnExactValidFrameSaid : Prop := fnExactValidFrameRow.holds Try.pinned (OpenSpec.ofChange fnExactValidFrameSpec)

/-- ITS FALSE NEIGHBOUR: 'it returns false'. Refute it at one input. -/
def fnExactValidFrameWrong : ChangeSpec := { name := "fnExactValidFrame", fn := fun _ => fun
  | [d] => { results := [.lit (.bool false)], args := [d] }
  | _ => none }
def FnExactValidFrameWrongFalsely : Prop := fnExactValidFrameRow.holds Try.pinned (OpenSpec.ofChange fnExactValidFrameWrong)

/-- 'laws.FnExactReactionsOf': WHATEVER THE INPUT: true; the input reads as it did. -/
def fnExactReactionsOfSpec : ChangeSpec := { name := "fnExactReactionsOf", fn := fun _ => fun
  | [d] => { results := [.lit (.bool true)], args := [d] }
  | _ => none }
def fnExactReactionsOfRow : OpenClaim := { program := "ytibdclihjipaiaa", sum := "e3b601af8e71e29b0e05d1afcc9353820f2a4a24b3a172f142f970748b5f6857", func := "loop.example/g00952/laws.FnExactReactionsOf", spec := "fnExactReactionsOf", apart := false }
def FnExactReactionsOfSaid : Prop := fnExactReactionsOfRow.holds Try.pinned (OpenSpec.ofChange fnExactReactionsOfSpec)

/-- ITS FALSE NEIGHBOUR: 'it returns false'. Refute it at one input. -/
def fnExactReactionsOfWrong : ChangeSpec := { name := "fnExactReactionsOf", fn := fun _ => fun
  | [d] => { results := [.lit (.bool false)], args := [d] }
  | _ => none }
def FnExactReactionsOfWrongFalsely : Prop := fnExactReactionsOfRow.holds Try.pinned (OpenSpec.ofChange fnExactReactionsOfWrong)

/-- 'laws.FnExactBendingOf': WHATEVER THE INPUT: true; the input reads as it did. -/
def fnExactBendingOfSpec : ChangeSpec := { name := "fnExactBendingOf", fn := fun _ => fun
  | [d] => { results := [.lit (.bool true)], args := [d] }
  | _ => none }
def fnExactBendingOfRow : OpenClaim := { program := "ytibdclihjipaiaa", sum := "e3b601af8e71e29b0e05d1afcc9353820f2a4a24b3a172f142f970748b5f6857", func := "loop.example/g00952/laws.FnExactBendingOf", spec := "fnExactBendingOf", apart := false }
def FnExactBendingOfSaid : Prop := fnExactBendingOfRow.holds Try.pinned (OpenSpec.ofChange fnExactBendingOfSpec)

/-- ITS FALSE NEIGHBOUR: 'it returns false'. Refute it at one input. -/
def fnExactBendingOfWrong : ChangeSpec := { name := "fnExactBendingOf", fn := fun _ => fun
  | [d] => { results := [.lit (.bool false)], args := [d] }
  | _ => none }
def FnExactBendingOfWrongFalsely : Prop := fnExactBendingOfRow.holds Try.pinned (OpenSpec.ofChange fnExactBendingOfWrong)

/-- 'laws.FnExactMomentAt': WHATEVER THE INPUT: true; the input reads as it did. -/
def fnExactMomentAtSpec : ChangeSpec := { name := "fnExactMomentAt", fn := fun _ => fun
  | [d1, d2] => { results := [.lit (.bool true)], args := [d1, d2] }
  | _ => none }
def fnExactMomentAtRow : OpenClaim := { program := "ytibdclihjipaiaa", sum := "e3b601af8e71e29b0e05d1afcc9353820f2a4a24b3a172f142f970748b5f6857", func := "loop.example/g00952/laws.FnExactMomentAt", spec := "fnExactMomentAt", apart := false }
def FnExactMomentAtSaid : Prop := fnExactMomentAtRow.holds Try.pinned (OpenSpec.ofChange fnExactMomentAtSpec)

/-- ITS FALSE NEIGHBOUR: 'it returns false'. Refute it at one input. -/
def fnExactMomentAtWrong : ChangeSpec := { name := "fnExactMomentAt", fn := fun _ => fun
  | [d1, d2] => { results := [.lit (.bool false)], args := [d1, d2] }
  | _ => none }
def FnExactMomentAtWrongFalsely : Prop := fnExactMomentAtRow.holds Try.pinned (OpenSpec.ofChange fnExactMomentAtWrong)

/-- 'laws.FnExactGreatestMoment': WHATEVER THE INPUT: true; the input reads as it did. -/
def fnExactGreatestMomentSpec : ChangeSpec := { name := "fnExactGreatestMoment", fn := fun _ => fun
  | [d] => { results := [.lit (.bool true)], args := [d] }
  | _ => none }
def fnExactGreatestMomentRow : OpenClaim := { program := "ytibdclihjipaiaa", sum := "e3b601af8e71e29b0e05d1afcc9353820f2a4a24b3a172f142f970748b5f6857", func := "loop.example/g00952/laws.FnExactGreatestMoment", spec := "fnExactGreatestMoment", apart := false }
def FnExactGreatestMomentSaid : Prop := fnExactGreatestMomentRow.holds Try.pinned (OpenSpec.ofChange fnExactGreatestMomentSpec)

/-- ITS FALSE NEIGHBOUR: 'it returns false'. Refute it at one input. -/
def fnExactGreatestMomentWrong : ChangeSpec := { name := "fnExactGreatestMoment", fn := fun _ => fun
  | [d] => { results := [.lit (.bool false)], args := [d] }
  | _ => none }
def FnExactGreatestMomentWrongFalsely : Prop := fnExactGreatestMomentRow.holds Try.pinned (OpenSpec.ofChange fnExactGreatestMomentWrong)

/-- 'laws.FnExactStressOf': WHATEVER THE INPUT: true; the input reads as it did. -/
def fnExactStressOfSpec : ChangeSpec := { name := "fnExactStressOf", fn := fun _ => fun
  | [d] => { results := [.lit (.bool true)], args := [d] }
  | _ => none }
def fnExactStressOfRow : OpenClaim := { program := "ytibdclihjipaiaa", sum := "e3b601af8e71e29b0e05d1afcc9353820f2a4a24b3a172f142f970748b5f6857", func := "loop.example/g00952/laws.FnExactStressOf", spec := "fnExactStressOf", apart := false }
def FnExactStressOfSaid : Prop := fnExactStressOfRow.holds Try.pinned (OpenSpec.ofChange fnExactStressOfSpec)

/-- ITS FALSE NEIGHBOUR: 'it returns false'. Refute it at one input. -/
def fnExactStressOfWrong : ChangeSpec := { name := "fnExactStressOf", fn := fun _ => fun
  | [d] => { results := [.lit (.bool false)], args := [d] }
  | _ => none }
def FnExactStressOfWrongFalsely : Prop := fnExactStressOfRow.holds Try.pinned (OpenSpec.ofChange fnExactStressOfWrong)

/-- 'laws.FnExactCarriesLoads': WHATEVER THE INPUT: true; the input reads as it did. -/
def fnExactCarriesLoadsSpec : ChangeSpec := { name := "fnExactCarriesLoads", fn := fun _ => fun
  | [d1, d2, d3] => { results := [.lit (.bool true)], args := [d1, d2, d3] }
  | _ => none }
def fnExactCarriesLoadsRow : OpenClaim := { program := "ytibdclihjipaiaa", sum := "e3b601af8e71e29b0e05d1afcc9353820f2a4a24b3a172f142f970748b5f6857", func := "loop.example/g00952/laws.FnExactCarriesLoads", spec := "fnExactCarriesLoads", apart := false }
def FnExactCarriesLoadsSaid : Prop := fnExactCarriesLoadsRow.holds Try.pinned (OpenSpec.ofChange fnExactCarriesLoadsSpec)

/-- ITS FALSE NEIGHBOUR: 'it returns false'. Refute it at one input. -/
def fnExactCarriesLoadsWrong : ChangeSpec := { name := "fnExactCarriesLoads", fn := fun _ => fun
  | [d1, d2, d3] => { results := [.lit (.bool false)], args := [d1, d2, d3] }
  | _ => none }
def FnExactCarriesLoadsWrongFalsely : Prop := fnExactCarriesLoadsRow.holds Try.pinned (OpenSpec.ofChange fnExactCarriesLoadsWrong)

/-- 'laws.FnExactLeastDepth': WHATEVER THE INPUT: true; the input reads as it did. -/
def fnExactLeastDepthSpec : ChangeSpec := { name := "fnExactLeastDepth", fn := fun _ => fun
  | [d1, d2, d3] => { results := [.lit (.bool true)], args := [d1, d2, d3] }
  | _ => none }
def fnExactLeastDepthRow : OpenClaim := { program := "ytibdclihjipaiaa", sum := "e3b601af8e71e29b0e05d1afcc9353820f2a4a24b3a172f142f970748b5f6857", func := "loop.example/g00952/laws.FnExactLeastDepth", spec := "fnExactLeastDepth", apart := false }
def FnExactLeastDepthSaid : Prop := fnExactLeastDepthRow.holds Try.pinned (OpenSpec.ofChange fnExactLeastDepthSpec)

/-- ITS FALSE NEIGHBOUR: 'it returns false'. Refute it at one input. -/
def fnExactLeastDepthWrong : ChangeSpec := { name := "fnExactLeastDepth", fn := fun _ => fun
  | [d1, d2, d3] => { results := [.lit (.bool false)], args := [d1, d2, d3] }
  | _ => none }
def FnExactLeastDepthWrongFalsely : Prop := fnExactLeastDepthRow.holds Try.pinned (OpenSpec.ofChange fnExactLeastDepthWrong)

/-- 'laws.FnExactAddLoad': WHATEVER THE INPUT: true; the input reads as it did. -/
def fnExactAddLoadSpec : ChangeSpec := { name := "fnExactAddLoad", fn := fun _ => fun
  | [d1, d2] => { results := [.lit (.bool true)], args := [d1, d2] }
  | _ => none }
def fnExactAddLoadRow : OpenClaim := { program := "ytibdclihjipaiaa", sum := "e3b601af8e71e29b0e05d1afcc9353820f2a4a24b3a172f142f970748b5f6857", func := "loop.example/g00952/laws.FnExactAddLoad", spec := "fnExactAddLoad", inPlace := ["slices.overlaps[loop.example/g00952/impl.Load]"], apart := false }
def FnExactAddLoadSaid : Prop := fnExactAddLoadRow.holds Try.pinned (OpenSpec.ofChange fnExactAddLoadSpec)

/-- ITS FALSE NEIGHBOUR: 'it returns false'. Refute it at one input. -/
def fnExactAddLoadWrong : ChangeSpec := { name := "fnExactAddLoad", fn := fun _ => fun
  | [d1, d2] => { results := [.lit (.bool false)], args := [d1, d2] }
  | _ => none }
def FnExactAddLoadWrongFalsely : Prop := fnExactAddLoadRow.holds Try.pinned (OpenSpec.ofChange fnExactAddLoadWrong)

/-- 'laws.FnDepths': WHATEVER THE INPUT: true; the input reads as it did. -/
def fnDepthsSpec : ChangeSpec := { name := "fnDepths", fn := fun _ => fun
  | [d1, d2] => { results := [.lit (.bool true)], args := [d1, d2] }
  | _ => none }
def fnDepthsRow : OpenClaim := { program := "ytibdclihjipaiaa", sum := "e3b601af8e71e29b0e05d1afcc9353820f2a4a24b3a172f142f970748b5f6857", func := "loop.example/g00952/laws.FnDepths", spec := "fnDepths", apart := false }
def FnDepthsSaid : Prop := fnDepthsRow.holds Try.pinned (OpenSpec.ofChange fnDepthsSpec)

/-- ITS FALSE NEIGHBOUR: 'it returns false'. Refute it at one input. -/
def fnDepthsWrong : ChangeSpec := { name := "fnDepths", fn := fun _ => fun
  | [d1, d2] => { results := [.lit (.bool false)], args := [d1, d2] }
  | _ => none }
def FnDepthsWrongFalsely : Prop := fnDepthsRow.holds Try.pinned (OpenSpec.ofChange fnDepthsWrong)

/-- 'laws.FnExactFirstLayout': WHATEVER THE INPUT: true; the input reads as it did. -/
def fnExactFirstLayoutSpec : ChangeSpec := { name := "fnExactFirstLayout", fn := fun _ => fun
  | [d1, d2, d3, d4, d5, d6] => { results := [.lit (.bool true)], args := [d1, d2, d3, d4, d5, d6] }
  | _ => none }
def fnExactFirstLayoutRow : OpenClaim := { program := "ytibdclihjipaiaa", sum := "e3b601af8e71e29b0e05d1afcc9353820f2a4a24b3a172f142f970748b5f6857", func := "loop.example/g00952/laws.FnExactFirstLayout", spec := "fnExactFirstLayout", recurses := true, apart := false }
def FnExactFirstLayoutSaid : Prop := fnExactFirstLayoutRow.holds Try.pinned (OpenSpec.ofChange fnExactFirstLayoutSpec)

/-- ITS FALSE NEIGHBOUR: 'it returns false'. Refute it at one input. -/
def fnExactFirstLayoutWrong : ChangeSpec := { name := "fnExactFirstLayout", fn := fun _ => fun
  | [d1, d2, d3, d4, d5, d6] => { results := [.lit (.bool false)], args := [d1, d2, d3, d4, d5, d6] }
  | _ => none }
def FnExactFirstLayoutWrongFalsely : Prop := fnExactFirstLayoutRow.holds Try.pinned (OpenSpec.ofChange fnExactFirstLayoutWrong)

/- THE SECOND FORM. 'bulk': how many values and letters a reading holds, each counted each time it is reached (what is shared counts as often as it is met; a slice's spare places count too). A statement '..UptoSaid' is the law's where the arguments, and the package variables that the reading takes, are together of bulk at most 1048576: NARROWER than '..Said'. Prove '..Said' where nothing that the law and all that it calls make is longer than what came in: it says more and counts as full. Else prove '..UptoSaid'. A law counts once. -/
mutual
def uptoBulk {H : Type} : DataW H → Nat
  | .lit (.string bytes) => bytes.length + 1
  | .lit _ => 1
  | .nil => 1
  | .ptr d => uptoBulk d + 1
  | .slice elems spare => uptoBulkAll elems + uptoBulkAll spare + 1
  | .agg parts => uptoBulkAll parts + 1
  | .iface _ d => uptoBulk d + 1
  | .map entries => uptoBulkEntries entries + 1
  | .held _ => 1
def uptoBulkAll {H : Type} : List (DataW H) → Nat
  | [] => 0
  | d :: r => uptoBulk d + uptoBulkAll r
def uptoBulkEntries {H : Type} : List (Lit × DataW H) → Nat
  | [] => 0
  | x :: r => uptoBulkEntry x + uptoBulkEntries r
def uptoBulkEntry {H : Type} : Lit × DataW H → Nat
  | (.string bytes, d) => bytes.length + uptoBulk d + 1
  | (_, d) => uptoBulk d + 1
 end
def uptoSmall : (H : Type) → List (DataW H) → Bool := fun _ ds => decide (uptoBulkAll ds ≤ 1048576)
def OpenSpec.upto (s : _root_.Go.ChangeSpec) : _root_.Go.OpenSpec := { _root_.Go.OpenSpec.ofChange s with cond := some uptoSmall }

/-- 'laws.FnExactSameBeam', WHERE WHAT IT READS IS OF BULK AT MOST 1048576: true; the input reads as it did. -/
def fnExactSameBeamUptoRow : OpenClaim := { program := "ytibdclihjipaiaa", sum := "e3b601af8e71e29b0e05d1afcc9353820f2a4a24b3a172f142f970748b5f6857", func := "loop.example/g00952/laws.FnExactSameBeam", spec := "fnExactSameBeam", apart := false, narrowed := true }
def FnExactSameBeamUptoSaid : Prop := fnExactSameBeamUptoRow.holds Try.pinned (OpenSpec.upto fnExactSameBeamSpec)

/-- 'laws.FnExactValidFrame', WHERE WHAT IT READS IS OF BULK AT MOST 1048576: true; the input reads as it did. -/
def fnExactValidFrameUptoRow : OpenClaim := { program := "ytibdclihjipaiaa", sum := "e3b601af8e71e29b0e05d1afcc9353820f2a4a24b3a172f142f970748b5f6857", func := "loop.example/g00952/laws.FnExactValidFrame", spec := "fnExactValidFrame", apart := false, narrowed := true }
def FnExactValidFrameUptoSaid : Prop := fnExactValidFrameUptoRow.holds Try.pinned (OpenSpec.upto fnExactValidFrameSpec)

/-- 'laws.FnExactReactionsOf', WHERE WHAT IT READS IS OF BULK AT MOST 1048576: true; the input reads as it did. -/
def fnExactReactionsOfUptoRow : OpenClaim := { program := "ytibdclihjipaiaa", sum := "e3b601af8e71e29b0e05d1afcc9353820f2a4a24b3a172f142f970748b5f6857", func := "loop.example/g00952/laws.FnExactReactionsOf", spec := "fnExactReactionsOf", apart := false, narrowed := true }
def FnExactReactionsOfUptoSaid : Prop := fnExactReactionsOfUptoRow.holds Try.pinned (OpenSpec.upto fnExactReactionsOfSpec)

/-- 'laws.FnExactBendingOf', WHERE WHAT IT READS IS OF BULK AT MOST 1048576: true; the input reads as it did. -/
def fnExactBendingOfUptoRow : OpenClaim := { program := "ytibdclihjipaiaa", sum := "e3b601af8e71e29b0e05d1afcc9353820f2a4a24b3a172f142f970748b5f6857", func := "loop.example/g00952/laws.FnExactBendingOf", spec := "fnExactBendingOf", apart := false, narrowed := true }
def FnExactBendingOfUptoSaid : Prop := fnExactBendingOfUptoRow.holds Try.pinned (OpenSpec.upto fnExactBendingOfSpec)

/-- 'laws.FnExactMomentAt', WHERE WHAT IT READS IS OF BULK AT MOST 1048576: true; the input reads as it did. -/
def fnExactMomentAtUptoRow : OpenClaim := { program := "ytibdclihjipaiaa", sum := "e3b601af8e71e29b0e05d1afcc9353820f2a4a24b3a172f142f970748b5f6857", func := "loop.example/g00952/laws.FnExactMomentAt", spec := "fnExactMomentAt", apart := false, narrowed := true }
def FnExactMomentAtUptoSaid : Prop := fnExactMomentAtUptoRow.holds Try.pinned (OpenSpec.upto fnExactMomentAtSpec)

/-- 'laws.FnExactGreatestMoment', WHERE WHAT IT READS IS OF BULK AT MOST 1048576: true; the input reads as it did. -/
def fnExactGreatestMomentUptoRow : OpenClaim := { program := "ytibdclihjipaiaa", sum := "e3b601af8e71e29b0e05d1afcc9353820f2a4a24b3a172f142f970748b5f6857", func := "loop.example/g00952/laws.FnExactGreatestMoment", spec := "fnExactGreatestMoment", apart := false, narrowed := true }
def FnExactGreatestMomentUptoSaid : Prop := fnExactGreatestMomentUptoRow.holds Try.pinned (OpenSpec.upto fnExactGreatestMomentSpec)

/-- 'laws.FnExactStressOf', WHERE WHAT IT READS IS OF BULK AT MOST 1048576: true; the input reads as it did. -/
def fnExactStressOfUptoRow : OpenClaim := { program := "ytibdclihjipaiaa", sum := "e3b601af8e71e29b0e05d1afcc9353820f2a4a24b3a172f142f970748b5f6857", func := "loop.example/g00952/laws.FnExactStressOf", spec := "fnExactStressOf", apart := false, narrowed := true }
def FnExactStressOfUptoSaid : Prop := fnExactStressOfUptoRow.holds Try.pinned (OpenSpec.upto fnExactStressOfSpec)

/-- 'laws.FnExactCarriesLoads', WHERE WHAT IT READS IS OF BULK AT MOST 1048576: true; the input reads as it did. -/
def fnExactCarriesLoadsUptoRow : OpenClaim := { program := "ytibdclihjipaiaa", sum := "e3b601af8e71e29b0e05d1afcc9353820f2a4a24b3a172f142f970748b5f6857", func := "loop.example/g00952/laws.FnExactCarriesLoads", spec := "fnExactCarriesLoads", apart := false, narrowed := true }
def FnExactCarriesLoadsUptoSaid : Prop := fnExactCarriesLoadsUptoRow.holds Try.pinned (OpenSpec.upto fnExactCarriesLoadsSpec)

/-- 'laws.FnExactLeastDepth', WHERE WHAT IT READS IS OF BULK AT MOST 1048576: true; the input reads as it did. -/
def fnExactLeastDepthUptoRow : OpenClaim := { program := "ytibdclihjipaiaa", sum := "e3b601af8e71e29b0e05d1afcc9353820f2a4a24b3a172f142f970748b5f6857", func := "loop.example/g00952/laws.FnExactLeastDepth", spec := "fnExactLeastDepth", apart := false, narrowed := true }
def FnExactLeastDepthUptoSaid : Prop := fnExactLeastDepthUptoRow.holds Try.pinned (OpenSpec.upto fnExactLeastDepthSpec)

/-- 'laws.FnExactAddLoad', WHERE WHAT IT READS IS OF BULK AT MOST 1048576: true; the input reads as it did. -/
def fnExactAddLoadUptoRow : OpenClaim := { program := "ytibdclihjipaiaa", sum := "e3b601af8e71e29b0e05d1afcc9353820f2a4a24b3a172f142f970748b5f6857", func := "loop.example/g00952/laws.FnExactAddLoad", spec := "fnExactAddLoad", inPlace := ["slices.overlaps[loop.example/g00952/impl.Load]"], apart := false, narrowed := true }
def FnExactAddLoadUptoSaid : Prop := fnExactAddLoadUptoRow.holds Try.pinned (OpenSpec.upto fnExactAddLoadSpec)

/-- 'laws.FnDepths', WHERE WHAT IT READS IS OF BULK AT MOST 1048576: true; the input reads as it did. -/
def fnDepthsUptoRow : OpenClaim := { program := "ytibdclihjipaiaa", sum := "e3b601af8e71e29b0e05d1afcc9353820f2a4a24b3a172f142f970748b5f6857", func := "loop.example/g00952/laws.FnDepths", spec := "fnDepths", apart := false, narrowed := true }
def FnDepthsUptoSaid : Prop := fnDepthsUptoRow.holds Try.pinned (OpenSpec.upto fnDepthsSpec)

/-- 'laws.FnExactFirstLayout', WHERE WHAT IT READS IS OF BULK AT MOST 1048576: true; the input reads as it did. -/
def fnExactFirstLayoutUptoRow : OpenClaim := { program := "ytibdclihjipaiaa", sum := "e3b601af8e71e29b0e05d1afcc9353820f2a4a24b3a172f142f970748b5f6857", func := "loop.example/g00952/laws.FnExactFirstLayout", spec := "fnExactFirstLayout", recurses := true, apart := false, narrowed := true }
def FnExactFirstLayoutUptoSaid : Prop := fnExactFirstLayoutUptoRow.holds Try.pinned (OpenSpec.upto fnExactFirstLayoutSpec)

end Rows
end Go.Proofs.Ytibdclihjipaiaa
