/- Walks: the law IsEarly's own walk. -/
import Derived.Test.YteofhfefbphjdaaGreatDoorEarly
import Derived.Deep.RegionHeld3
namespace Go.Proofs.YteofhfefbphjdaaGreatDoor
open Go.RowKit Go.WideShapes Go.ChangeShapes

end Go.Proofs.YteofhfefbphjdaaGreatDoor
