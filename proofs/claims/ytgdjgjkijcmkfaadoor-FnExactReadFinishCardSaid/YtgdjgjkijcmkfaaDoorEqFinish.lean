/- Walks: the laws' own functions on Finish and slices of it (equal, mark, held, copy), for all arguments. No condition. -/
import Derived.Test.YtgdjgjkijcmkfaaDoorEq
import Derived.Deep.Cut
namespace Go.Proofs.YtgdjgjkijcmkfaaDoor
open Go.RowKit Go.WideShapes Go.ChangeShapes
set_option maxHeartbeats 1000000 in
theorem eqFinish_any (a0 a1 a2 b0 b1 b2 : Int) (w : World) : Calls Tryd.prog 50 #[.agg #[.int .i64 a0, .int .i64 a1, .int .i64 a2], .agg #[.int .i64 b0, .int .i64 b1, .int .i64 b2]] w fun e w' => e = .returned (.bool (decide (a0 = b0 ∧ a1 = b1 ∧ a2 = b2))) ∧ Q w w' := by
  go_enter Tryd.func50, Tryd.ntmps50
  go_wp2_with fail
  all_goals go_ret
  all_goals refine ⟨ret_bool ?_, ((Q.refl _).alloc _).alloc _⟩
  all_goals simp_all
set_option maxHeartbeats 1000000 in
theorem toFinish_any (a0 a1 a2 : Int) (w : World) : Calls Tryd.prog 27 #[.agg #[.int .i64 a0, .int .i64 a1, .int .i64 a2]] w fun r w' => r = .returned (.agg #[.int .i64 a0, .int .i64 a1, .int .i64 a2]) ∧ Q w w' := by
  go_enter Tryd.func27, Tryd.ntmps27
  go_wp2
  exact bodyPost_ret (v := .agg #[.int .i64 a0, .int .i64 a1, .int .i64 a2]) (by simp [results, Tryd.results27, go_sem]) rfl ⟨rfl, (((Q.refl _).alloc _).alloc _).alloc _⟩
theorem infoFinish : (Tryd.prog.info? 44).map (fun i => (i.zero, i.size, i.bytes)) = some (some (.agg #[.int .i64 0, .int .i64 0, .int .i64 0]), 3, 24) := by kernel_rfl
end Go.Proofs.YtgdjgjkijcmkfaaDoor
