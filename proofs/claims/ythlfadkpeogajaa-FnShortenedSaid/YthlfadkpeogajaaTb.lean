/- Walks: what the functions of this claim return, for all arguments. No condition. -/
import Derived.Test.YthlfadkpeogajaaIn
namespace Go.Proofs.Ythlfadkpeogajaa
open Go.RowKit Go.WideShapes Go.ChangeShapes
def isLim (a b c : Int) : Bool := decide (1 ≤ a ∧ a ≤ b ∧ 1 ≤ b ∧ b ≤ 1000000000 ∧ 1 ≤ c ∧ c ≤ 1000000000)
theorem impl_IsLimits (a b c : Int) (w : World) : Calls Try.prog 15 #[.agg #[.int .i64 a, .int .i64 b, .int .i64 c]] w fun e w' => e = .returned (.bool (isLim a b c)) ∧ Q w w' := by
  go_enter Try.func15, Try.ntmps15
  go_wp2_with (go_at_call 60; refine (impl_in _ _ _ _).mono ?_; rintro e w' ⟨rfl, rfl⟩)
  all_goals go_ret
  all_goals refine ⟨ret_bool ?_, (Q.refl _).alloc _⟩
  all_goals (unfold isLim; rw [Bool.eq_iff_iff]; simp; omega)
theorem spec_IsLimits (a b c : Int) (w : World) : Calls Try.prog 63 #[.agg #[.int .i64 a, .int .i64 b, .int .i64 c]] w fun e w' => e = .returned (.bool (isLim a b c)) ∧ Q w w' := by
  go_enter Try.func63, Try.ntmps63
  go_wp2_with (go_at_call 64; refine (spec_in _ _ _ _).mono ?_; rintro e w' ⟨rfl, rfl⟩)
  all_goals go_ret
  all_goals refine ⟨ret_bool ?_, (Q.refl _).alloc _⟩
  all_goals (unfold isLim; rw [Bool.eq_iff_iff]; simp; omega)
end Go.Proofs.Ythlfadkpeogajaa
