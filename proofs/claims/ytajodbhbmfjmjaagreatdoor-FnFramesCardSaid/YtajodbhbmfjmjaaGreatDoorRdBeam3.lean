/- What reads a beam out of a text, reference: a part (printed by genrdbeam.py). Condition: the text is at most 2^20 bytes long. -/
import Derived.Test.YtajodbhbmfjmjaaGreatDoorRdBeam
import Derived.Deep.DeepCutAuto
namespace Go.Proofs.YtajodbhbmfjmjaaGreatDoor
open Go.RowKit Go.Lib

end Go.Proofs.YtajodbhbmfjmjaaGreatDoor
