/-
  DERIVED. GIVEN WITH THE SEED: THE CARDS: each row of YtobcjhbfkanakaaDoorRows.lean that lists a variable, with what it lists TIED to the program's text (the seventh form; the later family's looks); each row that meets fmt, with fmt's text TOLD by the authors' own Lean function (tested against real Go, not proved from fmt's source: count such statements apart). THE CARD IS WHAT COUNTS. Prove the row's statement (the work); the ties are given (YtobcjhbfkanakaaDoorTie.lean); close each card by the builder's one call (the guide's Derived/Test/ToyasCard.lean, 'card_holds'). Laid BY PROGRAM, IN A SANDBOX (cutbox-door.mjs). By AI agents, Wed Nov 11 2026. No macro, syntax, notation, axiom, sorry.
-/
import Derived.Test.YtobcjhbfkanakaaDoorRows
import GoSem.ClaimSeven
namespace Go.Proofs.YtobcjhbfkanakaaDoor
namespace Rows

/-- THE TIED CARD OF 'laws.FnClappers'. -/
def fnClappersCard : Claim7 := { stood := { row := fnClappersRow, standIns := [], harness := (true, "e6b36773b02a322ff90a73910602609b9d958ec04d3373b537291178bddb6fad"), looks := true }, kinds := [], alts := [], laidByText := true, laidKinds := [.data, .data, .data, .data, .sentinel, .sentinel, .pinned], laidTests := true, laidLooks := .later }
def FnClappersCardSaid : Prop := Claim7.holds Tryd.pinned (.plain (OpenSpec.ofChange fnClappersSpec)) fnClappersCard

/-- THE TIED CARD OF 'laws.FnExactReadBeam'. -/
def fnExactReadBeamCard : Claim7 := { stood := { row := fnExactReadBeamRow, standIns := [], harness := (true, "e6b36773b02a322ff90a73910602609b9d958ec04d3373b537291178bddb6fad"), looks := true }, kinds := [], alts := [], laidByText := true, laidKinds := [.data, .data, .data, .data, .sentinel, .sentinel, .pinned], laidTests := true, laidLooks := .later }
def FnExactReadBeamCardSaid : Prop := Claim7.holds Tryd.pinned (.plain (OpenSpec.ofChange fnExactReadBeamSpec)) fnExactReadBeamCard

/-- THE SECOND FORM's CARD OF 'laws.FnClappers'. -/
def fnClappersUptoCard : Claim7 := { stood := { row := fnClappersUptoRow, standIns := [], harness := (true, "e6b36773b02a322ff90a73910602609b9d958ec04d3373b537291178bddb6fad"), looks := true }, kinds := [], alts := [], laidByText := true, laidKinds := [.data, .data, .data, .data, .sentinel, .sentinel, .pinned], laidTests := true, laidLooks := .later }
def FnClappersUptoCardSaid : Prop := Claim7.holds Tryd.pinned (.plain (OpenSpec.upto fnClappersSpec)) fnClappersUptoCard

/-- THE SECOND FORM's CARD OF 'laws.FnExactReadBeam'. -/
def fnExactReadBeamUptoCard : Claim7 := { stood := { row := fnExactReadBeamUptoRow, standIns := [], harness := (true, "e6b36773b02a322ff90a73910602609b9d958ec04d3373b537291178bddb6fad"), looks := true }, kinds := [], alts := [], laidByText := true, laidKinds := [.data, .data, .data, .data, .sentinel, .sentinel, .pinned], laidTests := true, laidLooks := .later }
def FnExactReadBeamUptoCardSaid : Prop := Claim7.holds Tryd.pinned (.plain (OpenSpec.upto fnExactReadBeamSpec)) fnExactReadBeamUptoCard
end Rows
end Go.Proofs.YtobcjhbfkanakaaDoor
