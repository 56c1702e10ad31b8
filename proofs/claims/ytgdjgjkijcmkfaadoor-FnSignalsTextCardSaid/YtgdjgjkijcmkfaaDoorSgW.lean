/- Walks: the words of the kinds of signals, as the program and the reference return them. No condition. -/
import Derived.Test.YtgdjgjkijcmkfaaDoorSgP
namespace Go.Proofs.YtgdjgjkijcmkfaaDoor
open Go.RowKit Go.WideShapes Go.ChangeShapes
set_option maxHeartbeats 2000000 in
theorem impl_signalWord (k : Int) (h : 1 ≤ k ∧ k ≤ 8) (w : World) : Calls Tryd.prog 55 #[.int .i64 k] w fun e w' => e = .returned (.string (wordS k)) ∧ Q w w' := by
  obtain rfl | rfl | rfl | rfl | rfl | rfl | rfl | rfl : k = 1 ∨ k = 2 ∨ k = 3 ∨ k = 4 ∨ k = 5 ∨ k = 6 ∨ k = 7 ∨ k = 8 := by omega
  all_goals
    go_enter Tryd.func55, Tryd.ntmps55
    go_wp2_with fail
    go_ret
    exact ⟨rfl, (Q.refl _).alloc _⟩
set_option maxHeartbeats 2000000 in
theorem spec_l13Word (k : Int) (h : 1 ≤ k ∧ k ≤ 8) (w : World) : Calls Tryd.prog 51 #[.int .i64 k] w fun e w' => e = .returned (.string (wordS k)) ∧ Q w w' := by
  obtain rfl | rfl | rfl | rfl | rfl | rfl | rfl | rfl : k = 1 ∨ k = 2 ∨ k = 3 ∨ k = 4 ∨ k = 5 ∨ k = 6 ∨ k = 7 ∨ k = 8 := by omega
  all_goals
    go_enter Tryd.func51, Tryd.ntmps51
    go_wp2_with fail
    go_ret
    exact ⟨rfl, (Q.refl _).alloc _⟩
end Go.Proofs.YtgdjgjkijcmkfaaDoor
