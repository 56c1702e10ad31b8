/- Walks: the laws' own functions on Fix and slices of it (equal, mark, held, copy), for all arguments. No condition. -/
import Derived.Test.YtpdcehmnegagmaaEq
import Derived.Deep.Cut
namespace Go.Proofs.Ytpdcehmnegagmaa
open Go.RowKit Go.WideShapes Go.ChangeShapes
theorem infoFix : (Try.prog.info? 81).map (fun i => (i.zero, i.size, i.bytes)) = some (some (.agg #[.int .i64 0, .int .i64 0, .int .i64 0]), 3, 24) := by kernel_rfl
end Go.Proofs.Ytpdcehmnegagmaa
