/- The laws' counts and comparisons of slices; the laws of ValidSwings and ValidPlaces. -/
import Derived.Test.YtajodbhbmfjmjaaGreatDoorRows1
namespace Go.Proofs.YtajodbhbmfjmjaaGreatDoor
open Go.RowKit




end Go.Proofs.YtajodbhbmfjmjaaGreatDoor
