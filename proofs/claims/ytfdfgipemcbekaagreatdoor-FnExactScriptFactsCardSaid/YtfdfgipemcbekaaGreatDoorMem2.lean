/- More words for memory. -/
import Derived.Test.YtfdfgipemcbekaaGreatDoorMem
namespace Go.Proofs.YtfdfgipemcbekaaGreatDoor.Mm
open Go.RowKit
end Go.Proofs.YtfdfgipemcbekaaGreatDoor.Mm
