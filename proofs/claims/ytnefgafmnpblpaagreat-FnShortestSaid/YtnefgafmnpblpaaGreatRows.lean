/-
  No cell of these rows narrows 'for every input' (looked for: loops, veiled, ifaces, maps, wideKeys, modest, calm, conditions, laid).
  DERIVED. THE GIVEN ROWS OF THIS SEAT. 5 by the template 'for every input the law returns true; each argument reads behind the call as it read before'; 0 by the template 'total and deterministic' (their statements: YtnefgafmnpblpaaGreatTotals.lean).
  GIVEN WITH THE SEED: the statements are not yours to turn. If you find one false, say at which input.
  Laid BY PROGRAM, IN A SANDBOX (cutbox-rows.mjs): the forced cells as the released guide's own fill.sh prints them over the translation 1ec7d3e9047d1532… (all of the seat's roots in one cut). By AI agents, Wed Nov 11 2026. No macro, syntax, notation, axiom, sorry.
-/
import Derived.Test.YtnefgafmnpblpaaGreatChecked
import GoSem.Claim
import GoSem.ClaimJoined
import GoSem.ClaimMapViews
import Derived.JoinedTies
import Derived.KernelRfl
namespace Go.Proofs.YtnefgafmnpblpaaGreat
/- THE CELL 'sum', in the pinned program and in every row, IS THE sha256 OF THE DUMP (.gsa) THAT YtnefgafmnpblpaaGreatProg.lean LOADS. Nothing in Lean hashes anything: it is a label: what it is worth is what the hold of that sum in a sandbox is worth. -/
noncomputable def Tryz.pinned : Pinned := { name := "ytnefgafmnpblpaagreat", sum := "1ec7d3e9047d153255a0debed7e0cf5d67da2c5410e6083e802fe0022e4d7675", checked := Tryz.checked }
namespace Rows
def none {H : Type} : Left H := { results := [], args := [] }

/-- 'laws.FnShortest': WHATEVER THE INPUT: true; the input reads as it did. -/
def fnShortestSpec : ChangeSpec := { name := "fnShortest", fn := fun _ => fun
  | [d] => { results := [.lit (.bool true)], args := [d] }
  | _ => none }
def fnShortestRow : OpenClaim := { program := "ytnefgafmnpblpaagreat", sum := "1ec7d3e9047d153255a0debed7e0cf5d67da2c5410e6083e802fe0022e4d7675", func := "loop.example/g00952/laws.FnShortest", spec := "fnShortest", unfollowed := true, recurses := true, apart := false }
def FnShortestSaid : Prop := fnShortestRow.holds Tryz.pinned (OpenSpec.ofChange fnShortestSpec)

/-- ITS FALSE NEIGHBOUR: 'it returns false'. Refute it at one input. -/
def fnShortestWrong : ChangeSpec := { name := "fnShortest", fn := fun _ => fun
  | [d] => { results := [.lit (.bool false)], args := [d] }
  | _ => none }
def FnShortestWrongFalsely : Prop := fnShortestRow.holds Tryz.pinned (OpenSpec.ofChange fnShortestWrong)

/-- 'laws.FnPlans': WHATEVER THE INPUT: true; the input reads as it did. -/
def fnPlansSpec : ChangeSpec := { name := "fnPlans", fn := fun _ => fun
  | [d] => { results := [.lit (.bool true)], args := [d] }
  | _ => none }
def fnPlansRow : OpenClaim := { program := "ytnefgafmnpblpaagreat", sum := "1ec7d3e9047d153255a0debed7e0cf5d67da2c5410e6083e802fe0022e4d7675", func := "loop.example/g00952/laws.FnPlans", spec := "fnPlans", unfollowed := true, recurses := true, apart := false }
def FnPlansSaid : Prop := fnPlansRow.holds Tryz.pinned (OpenSpec.ofChange fnPlansSpec)

/-- ITS FALSE NEIGHBOUR: 'it returns false'. Refute it at one input. -/
def fnPlansWrong : ChangeSpec := { name := "fnPlans", fn := fun _ => fun
  | [d] => { results := [.lit (.bool false)], args := [d] }
  | _ => none }
def FnPlansWrongFalsely : Prop := fnPlansRow.holds Tryz.pinned (OpenSpec.ofChange fnPlansWrong)

/-- 'laws.FnExactCountPlans': WHATEVER THE INPUT: true; the input reads as it did. -/
def fnExactCountPlansSpec : ChangeSpec := { name := "fnExactCountPlans", fn := fun _ => fun
  | [d1, d2, d3, d4] => { results := [.lit (.bool true)], args := [d1, d2, d3, d4] }
  | _ => none }
def fnExactCountPlansRow : OpenClaim := { program := "ytnefgafmnpblpaagreat", sum := "1ec7d3e9047d153255a0debed7e0cf5d67da2c5410e6083e802fe0022e4d7675", func := "loop.example/g00952/laws.FnExactCountPlans", spec := "fnExactCountPlans", unfollowed := true, recurses := true, apart := false }
def FnExactCountPlansSaid : Prop := fnExactCountPlansRow.holds Tryz.pinned (OpenSpec.ofChange fnExactCountPlansSpec)

/-- ITS FALSE NEIGHBOUR: 'it returns false'. Refute it at one input. -/
def fnExactCountPlansWrong : ChangeSpec := { name := "fnExactCountPlans", fn := fun _ => fun
  | [d1, d2, d3, d4] => { results := [.lit (.bool false)], args := [d1, d2, d3, d4] }
  | _ => none }
def FnExactCountPlansWrongFalsely : Prop := fnExactCountPlansRow.holds Tryz.pinned (OpenSpec.ofChange fnExactCountPlansWrong)

/-- 'laws.FnExactClosestPlan': WHATEVER THE INPUT: true; the input reads as it did. -/
def fnExactClosestPlanSpec : ChangeSpec := { name := "fnExactClosestPlan", fn := fun _ => fun
  | [d1, d2, d3, d4] => { results := [.lit (.bool true)], args := [d1, d2, d3, d4] }
  | _ => none }
def fnExactClosestPlanRow : OpenClaim := { program := "ytnefgafmnpblpaagreat", sum := "1ec7d3e9047d153255a0debed7e0cf5d67da2c5410e6083e802fe0022e4d7675", func := "loop.example/g00952/laws.FnExactClosestPlan", spec := "fnExactClosestPlan", unfollowed := true, recurses := true, apart := false }
def FnExactClosestPlanSaid : Prop := fnExactClosestPlanRow.holds Tryz.pinned (OpenSpec.ofChange fnExactClosestPlanSpec)

/-- ITS FALSE NEIGHBOUR: 'it returns false'. Refute it at one input. -/
def fnExactClosestPlanWrong : ChangeSpec := { name := "fnExactClosestPlan", fn := fun _ => fun
  | [d1, d2, d3, d4] => { results := [.lit (.bool false)], args := [d1, d2, d3, d4] }
  | _ => none }
def FnExactClosestPlanWrongFalsely : Prop := fnExactClosestPlanRow.holds Tryz.pinned (OpenSpec.ofChange fnExactClosestPlanWrong)

/-- 'laws.FnExactFirstPlan': WHATEVER THE INPUT: true; the input reads as it did. -/
def fnExactFirstPlanSpec : ChangeSpec := { name := "fnExactFirstPlan", fn := fun _ => fun
  | [d1, d2, d3, d4] => { results := [.lit (.bool true)], args := [d1, d2, d3, d4] }
  | _ => none }
def fnExactFirstPlanRow : OpenClaim := { program := "ytnefgafmnpblpaagreat", sum := "1ec7d3e9047d153255a0debed7e0cf5d67da2c5410e6083e802fe0022e4d7675", func := "loop.example/g00952/laws.FnExactFirstPlan", spec := "fnExactFirstPlan", unfollowed := true, recurses := true, apart := false }
def FnExactFirstPlanSaid : Prop := fnExactFirstPlanRow.holds Tryz.pinned (OpenSpec.ofChange fnExactFirstPlanSpec)

/-- ITS FALSE NEIGHBOUR: 'it returns false'. Refute it at one input. -/
def fnExactFirstPlanWrong : ChangeSpec := { name := "fnExactFirstPlan", fn := fun _ => fun
  | [d1, d2, d3, d4] => { results := [.lit (.bool false)], args := [d1, d2, d3, d4] }
  | _ => none }
def FnExactFirstPlanWrongFalsely : Prop := fnExactFirstPlanRow.holds Tryz.pinned (OpenSpec.ofChange fnExactFirstPlanWrong)

/- THE SECOND FORM. 'bulk': how many values and letters a reading holds, each counted each time it is reached (what is shared counts as often as it is met; a slice's spare places count too). A statement '..UptoSaid' is the law's where the arguments, and the package variables that the reading takes, are together of bulk at most 1048576: NARROWER than '..Said'. Prove '..Said' where nothing that the law and all that it calls make is longer than what came in: it says more and counts as full. Else prove '..UptoSaid'. A law counts once. -/
mutual
def uptoBulk {H : Type} : DataW H → Nat
  | .lit (.string bytes) => bytes.length + 1
  | .lit _ => 1
  | .nil => 1
  | .ptr d => uptoBulk d + 1
  | .slice elems spare => uptoBulkAll elems + uptoBulkAll spare + 1
  | .agg parts => uptoBulkAll parts + 1
  | .iface _ d => uptoBulk d + 1
  | .map entries => uptoBulkEntries entries + 1
  | .held _ => 1
def uptoBulkAll {H : Type} : List (DataW H) → Nat
  | [] => 0
  | d :: r => uptoBulk d + uptoBulkAll r
def uptoBulkEntries {H : Type} : List (Lit × DataW H) → Nat
  | [] => 0
  | x :: r => uptoBulkEntry x + uptoBulkEntries r
def uptoBulkEntry {H : Type} : Lit × DataW H → Nat
  | (.string bytes, d) => bytes.length + uptoBulk d + 1
  | (_, d) => uptoBulk d + 1
 end
def uptoSmall : (H : Type) → List (DataW H) → Bool := fun _ ds => decide (uptoBulkAll ds ≤ 1048576)
def OpenSpec.upto (s : _root_.Go.ChangeSpec) : _root_.Go.OpenSpec := { _root_.Go.OpenSpec.ofChange s with cond := some uptoSmall }

/-- 'laws.FnShortest', WHERE WHAT IT READS IS OF BULK AT MOST 1048576: true; the input reads as it did. -/
def fnShortestUptoRow : OpenClaim := { program := "ytnefgafmnpblpaagreat", sum := "1ec7d3e9047d153255a0debed7e0cf5d67da2c5410e6083e802fe0022e4d7675", func := "loop.example/g00952/laws.FnShortest", spec := "fnShortest", unfollowed := true, recurses := true, apart := false, narrowed := true }
def FnShortestUptoSaid : Prop := fnShortestUptoRow.holds Tryz.pinned (OpenSpec.upto fnShortestSpec)

/-- 'laws.FnPlans', WHERE WHAT IT READS IS OF BULK AT MOST 1048576: true; the input reads as it did. -/
def fnPlansUptoRow : OpenClaim := { program := "ytnefgafmnpblpaagreat", sum := "1ec7d3e9047d153255a0debed7e0cf5d67da2c5410e6083e802fe0022e4d7675", func := "loop.example/g00952/laws.FnPlans", spec := "fnPlans", unfollowed := true, recurses := true, apart := false, narrowed := true }
def FnPlansUptoSaid : Prop := fnPlansUptoRow.holds Tryz.pinned (OpenSpec.upto fnPlansSpec)

/-- 'laws.FnExactCountPlans', WHERE WHAT IT READS IS OF BULK AT MOST 1048576: true; the input reads as it did. -/
def fnExactCountPlansUptoRow : OpenClaim := { program := "ytnefgafmnpblpaagreat", sum := "1ec7d3e9047d153255a0debed7e0cf5d67da2c5410e6083e802fe0022e4d7675", func := "loop.example/g00952/laws.FnExactCountPlans", spec := "fnExactCountPlans", unfollowed := true, recurses := true, apart := false, narrowed := true }
def FnExactCountPlansUptoSaid : Prop := fnExactCountPlansUptoRow.holds Tryz.pinned (OpenSpec.upto fnExactCountPlansSpec)

/-- 'laws.FnExactClosestPlan', WHERE WHAT IT READS IS OF BULK AT MOST 1048576: true; the input reads as it did. -/
def fnExactClosestPlanUptoRow : OpenClaim := { program := "ytnefgafmnpblpaagreat", sum := "1ec7d3e9047d153255a0debed7e0cf5d67da2c5410e6083e802fe0022e4d7675", func := "loop.example/g00952/laws.FnExactClosestPlan", spec := "fnExactClosestPlan", unfollowed := true, recurses := true, apart := false, narrowed := true }
def FnExactClosestPlanUptoSaid : Prop := fnExactClosestPlanUptoRow.holds Tryz.pinned (OpenSpec.upto fnExactClosestPlanSpec)

/-- 'laws.FnExactFirstPlan', WHERE WHAT IT READS IS OF BULK AT MOST 1048576: true; the input reads as it did. -/
def fnExactFirstPlanUptoRow : OpenClaim := { program := "ytnefgafmnpblpaagreat", sum := "1ec7d3e9047d153255a0debed7e0cf5d67da2c5410e6083e802fe0022e4d7675", func := "loop.example/g00952/laws.FnExactFirstPlan", spec := "fnExactFirstPlan", unfollowed := true, recurses := true, apart := false, narrowed := true }
def FnExactFirstPlanUptoSaid : Prop := fnExactFirstPlanUptoRow.holds Tryz.pinned (OpenSpec.upto fnExactFirstPlanSpec)

end Rows
end Go.Proofs.YtnefgafmnpblpaaGreat
