/-
  No cell of these rows narrows 'for every input' (looked for: loops, veiled, ifaces, maps, wideKeys, modest, calm, conditions, laid).
  DERIVED. THE GIVEN ROWS OF THIS SEAT. 5 by the template 'for every input the law returns true; each argument reads behind the call as it read before'; 0 by the template 'total and deterministic' (their statements: YtklmbgefdopifaaTotals.lean).
  GIVEN WITH THE SEED: the statements are not yours to turn. If you find one false, say at which input.
  Laid BY PROGRAM, IN A SANDBOX (cutbox-rows.mjs): the forced cells as the released guide's own fill.sh prints them over the translation c7279e986939e442… (all of the seat's roots in one cut). By AI agents, Wed Nov 11 2026. No macro, syntax, notation, axiom, sorry.
-/
import Derived.Test.YtklmbgefdopifaaChecked
import GoSem.Claim
import GoSem.ClaimJoined
import GoSem.ClaimMapViews
import Derived.JoinedTies
import Derived.KernelRfl
namespace Go.Proofs.Ytklmbgefdopifaa
/- THE CELL 'sum', in the pinned program and in every row, IS THE sha256 OF THE DUMP (.gsa) THAT YtklmbgefdopifaaProg.lean LOADS. Nothing in Lean hashes anything: it is a label: what it is worth is what the hold of that sum in a sandbox is worth. -/
noncomputable def Try.pinned : Pinned := { name := "ytklmbgefdopifaa", sum := "c7279e986939e44252ec8d9d6a8813dd77acbc68535942a659bc8af788b9b0da", checked := Try.checked }
namespace Rows
def none {H : Type} : Left H := { results := [], args := [] }

/-- 'laws.FnExactAddLoad': WHATEVER THE INPUT: true; the input reads as it did. -/
def fnExactAddLoadSpec : ChangeSpec := { name := "fnExactAddLoad", fn := fun _ => fun
  | [d1, d2] => { results := [.lit (.bool true)], args := [d1, d2] }
  | _ => none }
def fnExactAddLoadRow : OpenClaim := { program := "ytklmbgefdopifaa", sum := "c7279e986939e44252ec8d9d6a8813dd77acbc68535942a659bc8af788b9b0da", func := "loop.example/g00952/laws.FnExactAddLoad", spec := "fnExactAddLoad", inPlace := ["slices.overlaps[loop.example/g00952/impl.Load]"], apart := false }
def FnExactAddLoadSaid : Prop := fnExactAddLoadRow.holds Try.pinned (OpenSpec.ofChange fnExactAddLoadSpec)

/-- ITS FALSE NEIGHBOUR: 'it returns false'. Refute it at one input. -/
def fnExactAddLoadWrong : ChangeSpec := { name := "fnExactAddLoad", fn := fun _ => fun
  | [d1, d2] => { results := [.lit (.bool false)], args := [d1, d2] }
  | _ => none }
def FnExactAddLoadWrongFalsely : Prop := fnExactAddLoadRow.holds Try.pinned (OpenSpec.ofChange fnExactAddLoadWrong)

/-- 'laws.FnExactCountSchedules': WHATEVER THE INPUT: true; the input reads as it did. -/
def fnExactCountSchedulesSpec : ChangeSpec := { name := "fnExactCountSchedules", fn := fun _ => fun
  | [d1, d2, d3] => { results := [.lit (.bool true)], args := [d1, d2, d3] }
  | _ => none }
def fnExactCountSchedulesRow : OpenClaim := { program := "ytklmbgefdopifaa", sum := "c7279e986939e44252ec8d9d6a8813dd77acbc68535942a659bc8af788b9b0da", func := "loop.example/g00952/laws.FnExactCountSchedules", spec := "fnExactCountSchedules", unfollowed := true, recurses := true, apart := false }
def FnExactCountSchedulesSaid : Prop := fnExactCountSchedulesRow.holds Try.pinned (OpenSpec.ofChange fnExactCountSchedulesSpec)

/-- ITS FALSE NEIGHBOUR: 'it returns false'. Refute it at one input. -/
def fnExactCountSchedulesWrong : ChangeSpec := { name := "fnExactCountSchedules", fn := fun _ => fun
  | [d1, d2, d3] => { results := [.lit (.bool false)], args := [d1, d2, d3] }
  | _ => none }
def FnExactCountSchedulesWrongFalsely : Prop := fnExactCountSchedulesRow.holds Try.pinned (OpenSpec.ofChange fnExactCountSchedulesWrong)

/-- 'laws.FnExactBestHeats': WHATEVER THE INPUT: true; the input reads as it did. -/
def fnExactBestHeatsSpec : ChangeSpec := { name := "fnExactBestHeats", fn := fun _ => fun
  | [d1, d2, d3] => { results := [.lit (.bool true)], args := [d1, d2, d3] }
  | _ => none }
def fnExactBestHeatsRow : OpenClaim := { program := "ytklmbgefdopifaa", sum := "c7279e986939e44252ec8d9d6a8813dd77acbc68535942a659bc8af788b9b0da", func := "loop.example/g00952/laws.FnExactBestHeats", spec := "fnExactBestHeats", unfollowed := true, recurses := true, apart := false }
def FnExactBestHeatsSaid : Prop := fnExactBestHeatsRow.holds Try.pinned (OpenSpec.ofChange fnExactBestHeatsSpec)

/-- ITS FALSE NEIGHBOUR: 'it returns false'. Refute it at one input. -/
def fnExactBestHeatsWrong : ChangeSpec := { name := "fnExactBestHeats", fn := fun _ => fun
  | [d1, d2, d3] => { results := [.lit (.bool false)], args := [d1, d2, d3] }
  | _ => none }
def FnExactBestHeatsWrongFalsely : Prop := fnExactBestHeatsRow.holds Try.pinned (OpenSpec.ofChange fnExactBestHeatsWrong)

/-- 'laws.FnExactFirstHeats': WHATEVER THE INPUT: true; the input reads as it did. -/
def fnExactFirstHeatsSpec : ChangeSpec := { name := "fnExactFirstHeats", fn := fun _ => fun
  | [d1, d2, d3] => { results := [.lit (.bool true)], args := [d1, d2, d3] }
  | _ => none }
def fnExactFirstHeatsRow : OpenClaim := { program := "ytklmbgefdopifaa", sum := "c7279e986939e44252ec8d9d6a8813dd77acbc68535942a659bc8af788b9b0da", func := "loop.example/g00952/laws.FnExactFirstHeats", spec := "fnExactFirstHeats", unfollowed := true, recurses := true, apart := false }
def FnExactFirstHeatsSaid : Prop := fnExactFirstHeatsRow.holds Try.pinned (OpenSpec.ofChange fnExactFirstHeatsSpec)

/-- ITS FALSE NEIGHBOUR: 'it returns false'. Refute it at one input. -/
def fnExactFirstHeatsWrong : ChangeSpec := { name := "fnExactFirstHeats", fn := fun _ => fun
  | [d1, d2, d3] => { results := [.lit (.bool false)], args := [d1, d2, d3] }
  | _ => none }
def FnExactFirstHeatsWrongFalsely : Prop := fnExactFirstHeatsRow.holds Try.pinned (OpenSpec.ofChange fnExactFirstHeatsWrong)

/-- 'laws.FnPours': WHATEVER THE INPUT: true; the input reads as it did. -/
def fnPoursSpec : ChangeSpec := { name := "fnPours", fn := fun _ => fun
  | [d1, d2] => { results := [.lit (.bool true)], args := [d1, d2] }
  | _ => none }
def fnPoursRow : OpenClaim := { program := "ytklmbgefdopifaa", sum := "c7279e986939e44252ec8d9d6a8813dd77acbc68535942a659bc8af788b9b0da", func := "loop.example/g00952/laws.FnPours", spec := "fnPours", unfollowed := true, recurses := true, apart := false }
def FnPoursSaid : Prop := fnPoursRow.holds Try.pinned (OpenSpec.ofChange fnPoursSpec)

/-- ITS FALSE NEIGHBOUR: 'it returns false'. Refute it at one input. -/
def fnPoursWrong : ChangeSpec := { name := "fnPours", fn := fun _ => fun
  | [d1, d2] => { results := [.lit (.bool false)], args := [d1, d2] }
  | _ => none }
def FnPoursWrongFalsely : Prop := fnPoursRow.holds Try.pinned (OpenSpec.ofChange fnPoursWrong)

/- THE SECOND FORM. 'bulk': how many values and letters a reading holds, each counted each time it is reached (what is shared counts as often as it is met; a slice's spare places count too). A statement '..UptoSaid' is the law's where the arguments, and the package variables that the reading takes, are together of bulk at most 1048576: NARROWER than '..Said'. Prove '..Said' where nothing that the law and all that it calls make is longer than what came in: it says more and counts as full. Else prove '..UptoSaid'. A law counts once. -/
mutual
def uptoBulk {H : Type} : DataW H → Nat
  | .lit (.string bytes) => bytes.length + 1
  | .lit _ => 1
  | .nil => 1
  | .ptr d => uptoBulk d + 1
  | .slice elems spare => uptoBulkAll elems + uptoBulkAll spare + 1
  | .agg parts => uptoBulkAll parts + 1
  | .iface _ d => uptoBulk d + 1
  | .map entries => uptoBulkEntries entries + 1
  | .held _ => 1
def uptoBulkAll {H : Type} : List (DataW H) → Nat
  | [] => 0
  | d :: r => uptoBulk d + uptoBulkAll r
def uptoBulkEntries {H : Type} : List (Lit × DataW H) → Nat
  | [] => 0
  | x :: r => uptoBulkEntry x + uptoBulkEntries r
def uptoBulkEntry {H : Type} : Lit × DataW H → Nat
  | (.string bytes, d) => bytes.length + uptoBulk d + 1
  | (_, d) => uptoBulk d + 1
 end
def uptoSmall : (H : Type) → List (DataW H) → Bool := fun _ ds => decide (uptoBulkAll ds ≤ 1048576)
def OpenSpec.upto (s : _root_.Go.ChangeSpec) : _root_.Go.OpenSpec := { _root_.Go.OpenSpec.ofChange s with cond := some uptoSmall }

/-- 'laws.FnExactAddLoad', WHERE WHAT IT READS IS OF BULK AT MOST 1048576: true; the input reads as it did. -/
def fnExactAddLoadUptoRow : OpenClaim := { program := "ytklmbgefdopifaa", sum := "c7279e986939e44252ec8d9d6a8813dd77acbc68535942a659bc8af788b9b0da", func := "loop.example/g00952/laws.FnExactAddLoad", spec := "fnExactAddLoad", inPlace := ["slices.overlaps[loop.example/g00952/impl.Load]"], apart := false, narrowed := true }
def FnExactAddLoadUptoSaid : Prop := fnExactAddLoadUptoRow.holds Try.pinned (OpenSpec.upto fnExactAddLoadSpec)

/-- 'laws.FnExactCountSchedules', WHERE WHAT IT READS IS OF BULK AT MOST 1048576: true; the input reads as it did. -/
def fnExactCountSchedulesUptoRow : OpenClaim := { program := "ytklmbgefdopifaa", sum := "c7279e986939e44252ec8d9d6a8813dd77acbc68535942a659bc8af788b9b0da", func := "loop.example/g00952/laws.FnExactCountSchedules", spec := "fnExactCountSchedules", unfollowed := true, recurses := true, apart := false, narrowed := true }
def FnExactCountSchedulesUptoSaid : Prop := fnExactCountSchedulesUptoRow.holds Try.pinned (OpenSpec.upto fnExactCountSchedulesSpec)

/-- 'laws.FnExactBestHeats', WHERE WHAT IT READS IS OF BULK AT MOST 1048576: true; the input reads as it did. -/
def fnExactBestHeatsUptoRow : OpenClaim := { program := "ytklmbgefdopifaa", sum := "c7279e986939e44252ec8d9d6a8813dd77acbc68535942a659bc8af788b9b0da", func := "loop.example/g00952/laws.FnExactBestHeats", spec := "fnExactBestHeats", unfollowed := true, recurses := true, apart := false, narrowed := true }
def FnExactBestHeatsUptoSaid : Prop := fnExactBestHeatsUptoRow.holds Try.pinned (OpenSpec.upto fnExactBestHeatsSpec)

/-- 'laws.FnExactFirstHeats', WHERE WHAT IT READS IS OF BULK AT MOST 1048576: true; the input reads as it did. -/
def fnExactFirstHeatsUptoRow : OpenClaim := { program := "ytklmbgefdopifaa", sum := "c7279e986939e44252ec8d9d6a8813dd77acbc68535942a659bc8af788b9b0da", func := "loop.example/g00952/laws.FnExactFirstHeats", spec := "fnExactFirstHeats", unfollowed := true, recurses := true, apart := false, narrowed := true }
def FnExactFirstHeatsUptoSaid : Prop := fnExactFirstHeatsUptoRow.holds Try.pinned (OpenSpec.upto fnExactFirstHeatsSpec)

/-- 'laws.FnPours', WHERE WHAT IT READS IS OF BULK AT MOST 1048576: true; the input reads as it did. -/
def fnPoursUptoRow : OpenClaim := { program := "ytklmbgefdopifaa", sum := "c7279e986939e44252ec8d9d6a8813dd77acbc68535942a659bc8af788b9b0da", func := "loop.example/g00952/laws.FnPours", spec := "fnPours", unfollowed := true, recurses := true, apart := false, narrowed := true }
def FnPoursUptoSaid : Prop := fnPoursUptoRow.holds Try.pinned (OpenSpec.upto fnPoursSpec)

end Rows
end Go.Proofs.Ytklmbgefdopifaa
