/- Walks: the laws' own functions on Fix and slices of it (equal, mark, held, copy), for all arguments. No condition. -/
import Derived.Test.YtkpdoikjfibflaaGreatDoorK
import Derived.Deep.Cut
namespace Go.Proofs.YtkpdoikjfibflaaGreatDoor
open Go.RowKit Go.WideShapes Go.ChangeShapes
theorem infoFix : (Tryz.prog.info? 69).map (fun i => (i.zero, i.size, i.bytes)) = some (some (.agg #[.int .i64 0, .int .i64 0, .int .i64 0]), 3, 24) := by kernel_rfl
end Go.Proofs.YtkpdoikjfibflaaGreatDoor
