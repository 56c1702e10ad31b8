/- Walks: the laws' own functions on Limits and slices of it (equal, mark, held, copy), for all arguments. No condition. -/
import Derived.Test.YtgdjgjkijcmkfaaDoorEq
import Derived.Deep.Cut
namespace Go.Proofs.YtgdjgjkijcmkfaaDoor
open Go.RowKit Go.WideShapes Go.ChangeShapes
set_option maxHeartbeats 1000000 in
theorem eqLimits_any (a0 a1 a2 b0 b1 b2 : Int) (w : World) : Calls Tryd.prog 46 #[.agg #[.int .i64 a0, .int .i64 a1, .int .i64 a2], .agg #[.int .i64 b0, .int .i64 b1, .int .i64 b2]] w fun e w' => e = .returned (.bool (decide (a0 = b0 ∧ a1 = b1 ∧ a2 = b2))) ∧ Q w w' := by
  go_enter Tryd.func46, Tryd.ntmps46
  go_wp2_with fail
  all_goals go_ret
  all_goals refine ⟨ret_bool ?_, ((Q.refl _).alloc _).alloc _⟩
  all_goals simp_all
end Go.Proofs.YtgdjgjkijcmkfaaDoor
