/- Walks: what the functions of this claim return, for all arguments. No condition. -/
import Derived.Test.YtgdjgjkijcmkfaaDoorIn
namespace Go.Proofs.YtgdjgjkijcmkfaaDoor
open Go.RowKit Go.WideShapes Go.ChangeShapes
def isLim (a b c : Int) : Bool := decide (1 ≤ a ∧ a ≤ b ∧ 1 ≤ b ∧ b ≤ 1000000000 ∧ 1 ≤ c ∧ c ≤ 1000000000)
theorem impl_IsLimits (a b c : Int) (w : World) : Calls Tryd.prog 61 #[.agg #[.int .i64 a, .int .i64 b, .int .i64 c]] w fun e w' => e = .returned (.bool (isLim a b c)) ∧ Q w w' := by
  go_enter Tryd.func61, Tryd.ntmps61
  go_wp2_with (go_at_call 81; refine (impl_in _ _ _ _).mono ?_; rintro e w' ⟨rfl, rfl⟩)
  all_goals go_ret
  all_goals refine ⟨ret_bool ?_, (Q.refl _).alloc _⟩
  all_goals (unfold isLim; rw [Bool.eq_iff_iff]; simp; omega)
theorem spec_IsLimits (a b c : Int) (w : World) : Calls Tryd.prog 59 #[.agg #[.int .i64 a, .int .i64 b, .int .i64 c]] w fun e w' => e = .returned (.bool (isLim a b c)) ∧ Q w w' := by
  go_enter Tryd.func59, Tryd.ntmps59
  go_wp2_with (go_at_call 63; refine (spec_in _ _ _ _).mono ?_; rintro e w' ⟨rfl, rfl⟩)
  all_goals go_ret
  all_goals refine ⟨ret_bool ?_, (Q.refl _).alloc _⟩
  all_goals (unfold isLim; rw [Bool.eq_iff_iff]; simp; omega)
theorem toLimits_any (a b c : Int) (w : World) : Calls Tryd.prog 21 #[.agg #[.int .i64 a, .int .i64 b, .int .i64 c]] w fun e w' => e = .returned (.agg #[.int .i64 a, .int .i64 b, .int .i64 c]) ∧ Q w w' := by
  go_enter Tryd.func21, Tryd.ntmps21
  go_wp2
  exact bodyPost_ret (v := .agg #[.int .i64 a, .int .i64 b, .int .i64 c]) (by simp [results, Tryd.results21, go_sem]) rfl ⟨rfl, (((Q.refl _).alloc _).alloc _).alloc _⟩
end Go.Proofs.YtgdjgjkijcmkfaaDoor
