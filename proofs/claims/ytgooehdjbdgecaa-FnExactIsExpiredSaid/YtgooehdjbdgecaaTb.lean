/- Walks: what the functions of this claim return, for all arguments. No condition. -/
import Derived.Test.YtgooehdjbdgecaaIn
namespace Go.Proofs.Ytgooehdjbdgecaa
open Go.RowKit Go.WideShapes Go.ChangeShapes
def isLim (a b c : Int) : Bool := decide (1 ≤ a ∧ a ≤ b ∧ 1 ≤ b ∧ b ≤ 1000000000 ∧ 1 ≤ c ∧ c ≤ 1000000000)
theorem impl_IsLimits (a b c : Int) (w : World) : Calls Try.prog 19 #[.agg #[.int .i64 a, .int .i64 b, .int .i64 c]] w fun e w' => e = .returned (.bool (isLim a b c)) ∧ Q w w' := by
  go_enter Try.func19, Try.ntmps19
  go_wp2_with (go_at_call 52; refine (impl_in _ _ _ _).mono ?_; rintro e w' ⟨rfl, rfl⟩)
  all_goals go_ret
  all_goals refine ⟨ret_bool ?_, (Q.refl _).alloc _⟩
  all_goals (unfold isLim; rw [Bool.eq_iff_iff]; simp; omega)
theorem spec_IsLimits (a b c : Int) (w : World) : Calls Try.prog 17 #[.agg #[.int .i64 a, .int .i64 b, .int .i64 c]] w fun e w' => e = .returned (.bool (isLim a b c)) ∧ Q w w' := by
  go_enter Try.func17, Try.ntmps17
  go_wp2_with (go_at_call 51; refine (spec_in _ _ _ _).mono ?_; rintro e w' ⟨rfl, rfl⟩)
  all_goals go_ret
  all_goals refine ⟨ret_bool ?_, (Q.refl _).alloc _⟩
  all_goals (unfold isLim; rw [Bool.eq_iff_iff]; simp; omega)
theorem toLimits_any (a b c : Int) (w : World) : Calls Try.prog 18 #[.agg #[.int .i64 a, .int .i64 b, .int .i64 c]] w fun e w' => e = .returned (.agg #[.int .i64 a, .int .i64 b, .int .i64 c]) ∧ Q w w' := by
  go_enter Try.func18, Try.ntmps18
  go_wp2
  exact bodyPost_ret (v := .agg #[.int .i64 a, .int .i64 b, .int .i64 c]) (by simp [results, Try.results18, go_sem]) rfl ⟨rfl, (((Q.refl _).alloc _).alloc _).alloc _⟩
theorem law_FnExactIsLimits (a b c : Int) (_ : ∀ y ∈ [a, b, c], -9223372036854775808 ≤ y ∧ y ≤ 9223372036854775807) (w : World) : Calls Try.prog 4 #[.agg #[.int .i64 a, .int .i64 b, .int .i64 c]] w fun e w' => e = .returned (.bool true) ∧ Below w.heap.size w w' := by
  go_enter Try.func4, Try.ntmps4
  go_wp2_with fail
  have B0 := Blk.new w 25 #[.int .i64 a, .int .i64 b, .int .i64 c]
  refine (toLimits_any _ _ _ _).mono ?_
  rintro e w1 ⟨rfl, hq1⟩
  go_wp2_with fail
  refine (spec_IsLimits _ _ _ _).mono ?_
  rintro e w2 ⟨rfl, hq2⟩
  have B2 := (B0.q hq1).q hq2
  have c2 := B2.cell
  go_wp2_with fail
  refine (toLimits_any _ _ _ _).mono ?_
  rintro e w3 ⟨rfl, hq3⟩
  go_wp2_with fail
  refine (impl_IsLimits _ _ _ _).mono ?_
  rintro e w4 ⟨rfl, hq4⟩
  go_wp2_with fail
  go_ret
  exact ⟨rfl, ((((Q.refl _).alloc _).trans hq1).trans hq2).trans (hq3.trans hq4)⟩
end Go.Proofs.Ytgooehdjbdgecaa
