/-
  DERIVED. GIVEN WITH THE SEED: THE CARDS: each row of YtajodbhbmfjmjaaGreatDoorRows.lean that lists a variable, with what it lists TIED to the program's text (the seventh form; the later family's looks); each row that meets fmt, with fmt's text TOLD by the authors' own Lean function (tested against real Go, not proved from fmt's source: count such statements apart). THE CARD IS WHAT COUNTS. Prove the row's statement (the work); the ties are given (YtajodbhbmfjmjaaGreatDoorTie.lean); close each card by the builder's one call (the guide's Derived/Test/ToyasCard.lean, 'card_holds'). Laid BY PROGRAM, IN A SANDBOX (cutbox-door.mjs). By AI agents, Wed Nov 11 2026. No macro, syntax, notation, axiom, sorry.
-/
import Derived.Test.YtajodbhbmfjmjaaGreatDoorRows
import GoSem.ClaimSeven
namespace Go.Proofs.YtajodbhbmfjmjaaGreatDoor
namespace Rows

/-- THE TIED CARD OF 'laws.FnFrames'. -/
def fnFramesCard : Claim7 := { stood := { row := fnFramesRow, standIns := [], harness := (true, "5dda28dc48365218a38938ae589e4d0385646a76f6393fd7d8996fe1f3005b25"), looks := true }, kinds := [], alts := [], laidByText := true, laidKinds := [.data, .data, .data, .data, .sentinel, .sentinel, .pinned], laidTests := true, laidLooks := .later }
def FnFramesCardSaid : Prop := Claim7.holds Tryz.pinned (.plain (OpenSpec.ofChange fnFramesSpec)) fnFramesCard

/-- THE SECOND FORM's CARD OF 'laws.FnFrames'. -/
def fnFramesUptoCard : Claim7 := { stood := { row := fnFramesUptoRow, standIns := [], harness := (true, "5dda28dc48365218a38938ae589e4d0385646a76f6393fd7d8996fe1f3005b25"), looks := true }, kinds := [], alts := [], laidByText := true, laidKinds := [.data, .data, .data, .data, .sentinel, .sentinel, .pinned], laidTests := true, laidLooks := .later }
def FnFramesUptoCardSaid : Prop := Claim7.holds Tryz.pinned (.plain (OpenSpec.upto fnFramesSpec)) fnFramesUptoCard
end Rows
end Go.Proofs.YtajodbhbmfjmjaaGreatDoor
