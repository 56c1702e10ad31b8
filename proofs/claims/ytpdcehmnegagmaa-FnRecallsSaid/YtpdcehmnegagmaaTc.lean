/- Walks: what the functions of this claim return, for all arguments. No condition. -/
import Derived.Test.YtpdcehmnegagmaaIn
namespace Go.Proofs.Ytpdcehmnegagmaa
open Go.RowKit Go.WideShapes Go.ChangeShapes
-- Watch
def isWat (a b c d : Int) : Bool := decide (1 ≤ a ∧ a ≤ 1000 ∧ 0 ≤ b ∧ b ≤ 60000 ∧ 0 ≤ c ∧ c ≤ 10000 ∧ 1 ≤ d ∧ d ≤ 60000)
-- Finish
def isFin (a b c : Int) : Bool := decide (0 ≤ a ∧ a ≤ 15 ∧ 0 ≤ b ∧ b ≤ 9 ∧ (b = 0 → 1 ≤ c ∧ c ≤ 1000000000) ∧ (b ≠ 0 → c = 0))
theorem impl_isTime (n : Int) (w : World) : Calls Try.prog 37 #[.int .i64 n] w fun e w' => e = .returned (.bool (decide (0 ≤ n ∧ n ≤ 1000000000))) ∧ w = w' := by
  go_enter Try.func37, Try.ntmps37
  go_wp2_with (go_at_call 47; refine (impl_in _ _ _ _).mono ?_; rintro e w' ⟨rfl, rfl⟩)
  go_ret
  exact ⟨by simp, rfl⟩
-- Protest
def isPro (c d e f : Int) : Bool := decide (0 ≤ c ∧ c ≤ 1000000000 ∧ c ≤ d ∧ d ≤ 1000000000 ∧ c ≤ e ∧ e ≤ 1000000000 ∧ c ≤ f ∧ f ≤ 1000000000)
def proPast (c d e f : Int) (k : Nat) : Prop := (1 ≤ k → 0 ≤ c ∧ c ≤ 1000000000) ∧ (2 ≤ k → c ≤ d ∧ d ≤ 1000000000) ∧ (3 ≤ k → c ≤ e ∧ e ≤ 1000000000) ∧ (4 ≤ k → c ≤ f ∧ f ≤ 1000000000)
end Go.Proofs.Ytpdcehmnegagmaa
