/- Walks: the law IsEarly's own walk. -/
import Derived.Test.YtpdcehmnegagmaaEarly
import Derived.Deep.RegionHeld3
namespace Go.Proofs.Ytpdcehmnegagmaa
open Go.RowKit Go.WideShapes Go.ChangeShapes

end Go.Proofs.Ytpdcehmnegagmaa
