/- Walks: the laws' own functions on Finish and slices of it (equal, mark, held, copy), for all arguments. No condition. -/
import Derived.Test.YteofhfefbphjdaaGreatDoorK
import Derived.Deep.Cut
namespace Go.Proofs.YteofhfefbphjdaaGreatDoor
open Go.RowKit Go.WideShapes Go.ChangeShapes
theorem infoFinish : (Tryz.prog.info? 38).map (fun i => (i.zero, i.size, i.bytes)) = some (some (.agg #[.int .i64 0, .int .i64 0, .int .i64 0]), 3, 24) := by kernel_rfl
end Go.Proofs.YteofhfefbphjdaaGreatDoor
