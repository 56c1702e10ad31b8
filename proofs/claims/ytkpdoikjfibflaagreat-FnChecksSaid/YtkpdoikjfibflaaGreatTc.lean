/- Walks: what the functions of this claim return, for all arguments. No condition. -/
import Derived.Test.YtkpdoikjfibflaaGreatIn
namespace Go.Proofs.YtkpdoikjfibflaaGreat
open Go.RowKit Go.WideShapes Go.ChangeShapes
-- Watch
def isWat (a b c d : Int) : Bool := decide (1 ≤ a ∧ a ≤ 1000 ∧ 0 ≤ b ∧ b ≤ 60000 ∧ 0 ≤ c ∧ c ≤ 10000 ∧ 1 ≤ d ∧ d ≤ 60000)
theorem impl_IsWatch (a b c d : Int) (w : World) : Calls Tryz.prog 22 #[.agg #[.int .i64 a, .int .i64 b, .int .i64 c, .int .i64 d]] w fun e w' => e = .returned (.bool (isWat a b c d)) ∧ Q w w' := by
  go_enter Tryz.func22, Tryz.ntmps22
  go_wp2_with (go_at_call 46; refine (impl_in _ _ _ _).mono ?_; rintro e w' ⟨rfl, rfl⟩)
  all_goals go_ret
  all_goals refine ⟨ret_bool ?_, (Q.refl _).alloc _⟩
  all_goals (unfold isWat; rw [Bool.eq_iff_iff]; simp; omega)
theorem spec_IsWatch (a b c d : Int) (w : World) : Calls Tryz.prog 47 #[.agg #[.int .i64 a, .int .i64 b, .int .i64 c, .int .i64 d]] w fun e w' => e = .returned (.bool (isWat a b c d)) ∧ Q w w' := by
  go_enter Tryz.func47, Tryz.ntmps47
  go_wp2_with (go_at_call 56; refine (spec_in _ _ _ _).mono ?_; rintro e w' ⟨rfl, rfl⟩)
  all_goals go_ret
  all_goals refine ⟨ret_bool ?_, (Q.refl _).alloc _⟩
  all_goals (unfold isWat; rw [Bool.eq_iff_iff]; simp; omega)
theorem toWatch_any (a b c d : Int) (w : World) : Calls Tryz.prog 9 #[.agg #[.int .i64 a, .int .i64 b, .int .i64 c, .int .i64 d]] w fun e w' => e = .returned (.agg #[.int .i64 a, .int .i64 b, .int .i64 c, .int .i64 d]) ∧ Q w w' := by
  go_enter Tryz.func9, Tryz.ntmps9
  go_wp2
  exact bodyPost_ret (v := .agg #[.int .i64 a, .int .i64 b, .int .i64 c, .int .i64 d]) (by simp [results, Tryz.results9, go_sem]) rfl ⟨rfl, (((Q.refl _).alloc _).alloc _).alloc _⟩
-- Finish
def isFin (a b c : Int) : Bool := decide (0 ≤ a ∧ a ≤ 15 ∧ 0 ≤ b ∧ b ≤ 9 ∧ (b = 0 → 1 ≤ c ∧ c ≤ 1000000000) ∧ (b ≠ 0 → c = 0))
theorem impl_isTime (n : Int) (w : World) : Calls Tryz.prog 65 #[.int .i64 n] w fun e w' => e = .returned (.bool (decide (0 ≤ n ∧ n ≤ 1000000000))) ∧ w = w' := by
  go_enter Tryz.func65, Tryz.ntmps65
  go_wp2_with (go_at_call 46; refine (impl_in _ _ _ _).mono ?_; rintro e w' ⟨rfl, rfl⟩)
  go_ret
  exact ⟨by simp, rfl⟩
-- Protest
def isPro (c d e f : Int) : Bool := decide (0 ≤ c ∧ c ≤ 1000000000 ∧ c ≤ d ∧ d ≤ 1000000000 ∧ c ≤ e ∧ e ≤ 1000000000 ∧ c ≤ f ∧ f ≤ 1000000000)
def proPast (c d e f : Int) (k : Nat) : Prop := (1 ≤ k → 0 ≤ c ∧ c ≤ 1000000000) ∧ (2 ≤ k → c ≤ d ∧ d ≤ 1000000000) ∧ (3 ≤ k → c ≤ e ∧ e ≤ 1000000000) ∧ (4 ≤ k → c ≤ f ∧ f ≤ 1000000000)
end Go.Proofs.YtkpdoikjfibflaaGreat
