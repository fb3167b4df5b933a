/-
  DERIVED. GIVEN WITH THE SEED: THE CARDS: each row of YtphlejphkipbpaaDoorRows.lean that lists a variable, with what it lists TIED to the program's text (the seventh form; the later family's looks); each row that meets fmt, with fmt's text TOLD by the authors' own Lean function (tested against real Go, not proved from fmt's source: count such statements apart). THE CARD IS WHAT COUNTS. Prove the row's statement (the work); the ties are given (YtphlejphkipbpaaDoorTie.lean); close each card by the builder's one call (the guide's Derived/Test/ToyasCard.lean, 'card_holds'). Laid BY PROGRAM, IN A SANDBOX (cutbox-door.mjs). By AI agents, Wed Nov 11 2026. No macro, syntax, notation, axiom, sorry.
-/
import Derived.Test.YtphlejphkipbpaaDoorRows
import GoSem.ClaimSeven
namespace Go.Proofs.YtphlejphkipbpaaDoor
namespace Rows

/-- THE TIED CARD OF 'laws.FnExactClapperText'. -/
def fnExactClapperTextCard : Claim7 := { stood := { row := fnExactClapperTextRow, standIns := [], harness := (true, "38349a8a026b0d934ab3f1da0b826bef923502bee03780cf2ad849181583ec70"), looks := true }, kinds := [], alts := [], laidByText := true, laidKinds := [.data, .data, .data], laidTests := true, laidLooks := .later }
def FnExactClapperTextCardSaid : Prop := Claim7.holds Tryd.pinned (.plain (OpenSpec.ofChange fnExactClapperTextSpec)) fnExactClapperTextCard

/-- THE TIED CARD OF 'laws.FnExactSwingText'. -/
def fnExactSwingTextCard : Claim7 := { stood := { row := fnExactSwingTextRow, standIns := [], harness := (true, "38349a8a026b0d934ab3f1da0b826bef923502bee03780cf2ad849181583ec70"), looks := true }, kinds := [], alts := [], laidByText := true, laidKinds := [.data, .data, .data], laidTests := true, laidLooks := .later }
def FnExactSwingTextCardSaid : Prop := Claim7.holds Tryd.pinned (.plain (OpenSpec.ofChange fnExactSwingTextSpec)) fnExactSwingTextCard

/-- THE TIED CARD OF 'laws.FnExactTowerText'. -/
def fnExactTowerTextCard : Claim7 := { stood := { row := fnExactTowerTextRow, standIns := [], harness := (true, "38349a8a026b0d934ab3f1da0b826bef923502bee03780cf2ad849181583ec70"), looks := true }, kinds := [], alts := [], laidByText := true, laidKinds := [.data, .data, .data], laidTests := true, laidLooks := .later }
def FnExactTowerTextCardSaid : Prop := Claim7.holds Tryd.pinned (.plain (OpenSpec.ofChange fnExactTowerTextSpec)) fnExactTowerTextCard

/-- THE TIED CARD OF 'laws.FnExactPlaceText'. -/
def fnExactPlaceTextCard : Claim7 := { stood := { row := fnExactPlaceTextRow, standIns := [], harness := (true, "38349a8a026b0d934ab3f1da0b826bef923502bee03780cf2ad849181583ec70"), looks := true }, kinds := [], alts := [], laidByText := true, laidKinds := [.data, .data, .data], laidTests := true, laidLooks := .later }
def FnExactPlaceTextCardSaid : Prop := Claim7.holds Tryd.pinned (.plain (OpenSpec.ofChange fnExactPlaceTextSpec)) fnExactPlaceTextCard

/-- THE TIED CARD OF 'laws.FnExactBeamText'. -/
def fnExactBeamTextCard : Claim7 := { stood := { row := fnExactBeamTextRow, standIns := [], harness := (true, "38349a8a026b0d934ab3f1da0b826bef923502bee03780cf2ad849181583ec70"), looks := true }, kinds := [], alts := [], laidByText := true, laidKinds := [.data, .data, .data], laidTests := true, laidLooks := .later }
def FnExactBeamTextCardSaid : Prop := Claim7.holds Tryd.pinned (.plain (OpenSpec.ofChange fnExactBeamTextSpec)) fnExactBeamTextCard

/-- THE TIED CARD OF 'laws.FnExactReadClapper'. -/
def fnExactReadClapperCard : Claim7 := { stood := { row := fnExactReadClapperRow, standIns := [], harness := (true, "38349a8a026b0d934ab3f1da0b826bef923502bee03780cf2ad849181583ec70"), looks := true }, kinds := [], alts := [], laidByText := true, laidKinds := [.data, .data, .data, .data, .sentinel, .sentinel, .pinned], laidTests := true, laidLooks := .later }
def FnExactReadClapperCardSaid : Prop := Claim7.holds Tryd.pinned (.plain (OpenSpec.ofChange fnExactReadClapperSpec)) fnExactReadClapperCard

/-- THE TIED CARD OF 'laws.FnExactReadPlace'. -/
def fnExactReadPlaceCard : Claim7 := { stood := { row := fnExactReadPlaceRow, standIns := [], harness := (true, "38349a8a026b0d934ab3f1da0b826bef923502bee03780cf2ad849181583ec70"), looks := true }, kinds := [], alts := [], laidByText := true, laidKinds := [.data, .data, .data, .data, .sentinel, .sentinel, .pinned], laidTests := true, laidLooks := .later }
def FnExactReadPlaceCardSaid : Prop := Claim7.holds Tryd.pinned (.plain (OpenSpec.ofChange fnExactReadPlaceSpec)) fnExactReadPlaceCard

/-- THE TIED CARD OF 'laws.FnExactReadSwing'. -/
def fnExactReadSwingCard : Claim7 := { stood := { row := fnExactReadSwingRow, standIns := [], harness := (true, "38349a8a026b0d934ab3f1da0b826bef923502bee03780cf2ad849181583ec70"), looks := true }, kinds := [], alts := [], laidByText := true, laidKinds := [.data, .data, .data, .data, .sentinel, .sentinel, .pinned], laidTests := true, laidLooks := .later }
def FnExactReadSwingCardSaid : Prop := Claim7.holds Tryd.pinned (.plain (OpenSpec.ofChange fnExactReadSwingSpec)) fnExactReadSwingCard

/-- THE TIED CARD OF 'laws.FnExactReadTower'. -/
def fnExactReadTowerCard : Claim7 := { stood := { row := fnExactReadTowerRow, standIns := [], harness := (true, "38349a8a026b0d934ab3f1da0b826bef923502bee03780cf2ad849181583ec70"), looks := true }, kinds := [], alts := [], laidByText := true, laidKinds := [.data, .data, .data, .data, .sentinel, .sentinel, .pinned], laidTests := true, laidLooks := .later }
def FnExactReadTowerCardSaid : Prop := Claim7.holds Tryd.pinned (.plain (OpenSpec.ofChange fnExactReadTowerSpec)) fnExactReadTowerCard

/-- THE TIED CARD OF 'laws.FnExactReadBeam'. -/
def fnExactReadBeamCard : Claim7 := { stood := { row := fnExactReadBeamRow, standIns := [], harness := (true, "38349a8a026b0d934ab3f1da0b826bef923502bee03780cf2ad849181583ec70"), looks := true }, kinds := [], alts := [], laidByText := true, laidKinds := [.data, .data, .data, .data, .sentinel, .sentinel, .pinned], laidTests := true, laidLooks := .later }
def FnExactReadBeamCardSaid : Prop := Claim7.holds Tryd.pinned (.plain (OpenSpec.ofChange fnExactReadBeamSpec)) fnExactReadBeamCard

/-- THE TIED CARD OF 'laws.FnClappers'. -/
def fnClappersCard : Claim7 := { stood := { row := fnClappersRow, standIns := [], harness := (true, "38349a8a026b0d934ab3f1da0b826bef923502bee03780cf2ad849181583ec70"), looks := true }, kinds := [], alts := [], laidByText := true, laidKinds := [.data, .data, .data, .data, .sentinel, .sentinel, .pinned], laidTests := true, laidLooks := .later }
def FnClappersCardSaid : Prop := Claim7.holds Tryd.pinned (.plain (OpenSpec.ofChange fnClappersSpec)) fnClappersCard

/-- THE SECOND FORM's CARD OF 'laws.FnExactClapperText'. -/
def fnExactClapperTextUptoCard : Claim7 := { stood := { row := fnExactClapperTextUptoRow, standIns := [], harness := (true, "38349a8a026b0d934ab3f1da0b826bef923502bee03780cf2ad849181583ec70"), looks := true }, kinds := [], alts := [], laidByText := true, laidKinds := [.data, .data, .data], laidTests := true, laidLooks := .later }
def FnExactClapperTextUptoCardSaid : Prop := Claim7.holds Tryd.pinned (.plain (OpenSpec.upto fnExactClapperTextSpec)) fnExactClapperTextUptoCard

/-- THE SECOND FORM's CARD OF 'laws.FnExactSwingText'. -/
def fnExactSwingTextUptoCard : Claim7 := { stood := { row := fnExactSwingTextUptoRow, standIns := [], harness := (true, "38349a8a026b0d934ab3f1da0b826bef923502bee03780cf2ad849181583ec70"), looks := true }, kinds := [], alts := [], laidByText := true, laidKinds := [.data, .data, .data], laidTests := true, laidLooks := .later }
def FnExactSwingTextUptoCardSaid : Prop := Claim7.holds Tryd.pinned (.plain (OpenSpec.upto fnExactSwingTextSpec)) fnExactSwingTextUptoCard

/-- THE SECOND FORM's CARD OF 'laws.FnExactTowerText'. -/
def fnExactTowerTextUptoCard : Claim7 := { stood := { row := fnExactTowerTextUptoRow, standIns := [], harness := (true, "38349a8a026b0d934ab3f1da0b826bef923502bee03780cf2ad849181583ec70"), looks := true }, kinds := [], alts := [], laidByText := true, laidKinds := [.data, .data, .data], laidTests := true, laidLooks := .later }
def FnExactTowerTextUptoCardSaid : Prop := Claim7.holds Tryd.pinned (.plain (OpenSpec.upto fnExactTowerTextSpec)) fnExactTowerTextUptoCard

/-- THE SECOND FORM's CARD OF 'laws.FnExactPlaceText'. -/
def fnExactPlaceTextUptoCard : Claim7 := { stood := { row := fnExactPlaceTextUptoRow, standIns := [], harness := (true, "38349a8a026b0d934ab3f1da0b826bef923502bee03780cf2ad849181583ec70"), looks := true }, kinds := [], alts := [], laidByText := true, laidKinds := [.data, .data, .data], laidTests := true, laidLooks := .later }
def FnExactPlaceTextUptoCardSaid : Prop := Claim7.holds Tryd.pinned (.plain (OpenSpec.upto fnExactPlaceTextSpec)) fnExactPlaceTextUptoCard

/-- THE SECOND FORM's CARD OF 'laws.FnExactBeamText'. -/
def fnExactBeamTextUptoCard : Claim7 := { stood := { row := fnExactBeamTextUptoRow, standIns := [], harness := (true, "38349a8a026b0d934ab3f1da0b826bef923502bee03780cf2ad849181583ec70"), looks := true }, kinds := [], alts := [], laidByText := true, laidKinds := [.data, .data, .data], laidTests := true, laidLooks := .later }
def FnExactBeamTextUptoCardSaid : Prop := Claim7.holds Tryd.pinned (.plain (OpenSpec.upto fnExactBeamTextSpec)) fnExactBeamTextUptoCard

/-- THE SECOND FORM's CARD OF 'laws.FnExactReadClapper'. -/
def fnExactReadClapperUptoCard : Claim7 := { stood := { row := fnExactReadClapperUptoRow, standIns := [], harness := (true, "38349a8a026b0d934ab3f1da0b826bef923502bee03780cf2ad849181583ec70"), looks := true }, kinds := [], alts := [], laidByText := true, laidKinds := [.data, .data, .data, .data, .sentinel, .sentinel, .pinned], laidTests := true, laidLooks := .later }
def FnExactReadClapperUptoCardSaid : Prop := Claim7.holds Tryd.pinned (.plain (OpenSpec.upto fnExactReadClapperSpec)) fnExactReadClapperUptoCard

/-- THE SECOND FORM's CARD OF 'laws.FnExactReadPlace'. -/
def fnExactReadPlaceUptoCard : Claim7 := { stood := { row := fnExactReadPlaceUptoRow, standIns := [], harness := (true, "38349a8a026b0d934ab3f1da0b826bef923502bee03780cf2ad849181583ec70"), looks := true }, kinds := [], alts := [], laidByText := true, laidKinds := [.data, .data, .data, .data, .sentinel, .sentinel, .pinned], laidTests := true, laidLooks := .later }
def FnExactReadPlaceUptoCardSaid : Prop := Claim7.holds Tryd.pinned (.plain (OpenSpec.upto fnExactReadPlaceSpec)) fnExactReadPlaceUptoCard

/-- THE SECOND FORM's CARD OF 'laws.FnExactReadSwing'. -/
def fnExactReadSwingUptoCard : Claim7 := { stood := { row := fnExactReadSwingUptoRow, standIns := [], harness := (true, "38349a8a026b0d934ab3f1da0b826bef923502bee03780cf2ad849181583ec70"), looks := true }, kinds := [], alts := [], laidByText := true, laidKinds := [.data, .data, .data, .data, .sentinel, .sentinel, .pinned], laidTests := true, laidLooks := .later }
def FnExactReadSwingUptoCardSaid : Prop := Claim7.holds Tryd.pinned (.plain (OpenSpec.upto fnExactReadSwingSpec)) fnExactReadSwingUptoCard

/-- THE SECOND FORM's CARD OF 'laws.FnExactReadTower'. -/
def fnExactReadTowerUptoCard : Claim7 := { stood := { row := fnExactReadTowerUptoRow, standIns := [], harness := (true, "38349a8a026b0d934ab3f1da0b826bef923502bee03780cf2ad849181583ec70"), looks := true }, kinds := [], alts := [], laidByText := true, laidKinds := [.data, .data, .data, .data, .sentinel, .sentinel, .pinned], laidTests := true, laidLooks := .later }
def FnExactReadTowerUptoCardSaid : Prop := Claim7.holds Tryd.pinned (.plain (OpenSpec.upto fnExactReadTowerSpec)) fnExactReadTowerUptoCard

/-- THE SECOND FORM's CARD OF 'laws.FnExactReadBeam'. -/
def fnExactReadBeamUptoCard : Claim7 := { stood := { row := fnExactReadBeamUptoRow, standIns := [], harness := (true, "38349a8a026b0d934ab3f1da0b826bef923502bee03780cf2ad849181583ec70"), looks := true }, kinds := [], alts := [], laidByText := true, laidKinds := [.data, .data, .data, .data, .sentinel, .sentinel, .pinned], laidTests := true, laidLooks := .later }
def FnExactReadBeamUptoCardSaid : Prop := Claim7.holds Tryd.pinned (.plain (OpenSpec.upto fnExactReadBeamSpec)) fnExactReadBeamUptoCard

/-- THE SECOND FORM's CARD OF 'laws.FnClappers'. -/
def fnClappersUptoCard : Claim7 := { stood := { row := fnClappersUptoRow, standIns := [], harness := (true, "38349a8a026b0d934ab3f1da0b826bef923502bee03780cf2ad849181583ec70"), looks := true }, kinds := [], alts := [], laidByText := true, laidKinds := [.data, .data, .data, .data, .sentinel, .sentinel, .pinned], laidTests := true, laidLooks := .later }
def FnClappersUptoCardSaid : Prop := Claim7.holds Tryd.pinned (.plain (OpenSpec.upto fnClappersSpec)) fnClappersUptoCard
end Rows
end Go.Proofs.YtphlejphkipbpaaDoor
