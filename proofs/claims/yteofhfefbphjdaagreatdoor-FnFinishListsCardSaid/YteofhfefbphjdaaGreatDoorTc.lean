/- Walks: what the functions of this claim return, for all arguments. No condition. Walks: what the functions of this claim return, for all arguments. No condition. Walks: the names of the finish codes, as the program and the reference return them. No condition. -/
import Derived.Test.YteofhfefbphjdaaGreatDoorK
namespace Go.Proofs.YteofhfefbphjdaaGreatDoor
open Go.RowKit Go.WideShapes Go.ChangeShapes
-- Watch
def isWat (a b c d : Int) : Bool := decide (1 ≤ a ∧ a ≤ 1000 ∧ 0 ≤ b ∧ b ≤ 60000 ∧ 0 ≤ c ∧ c ≤ 10000 ∧ 1 ≤ d ∧ d ≤ 60000)
-- Finish
def isFin (a b c : Int) : Bool := decide (0 ≤ a ∧ a ≤ 15 ∧ 0 ≤ b ∧ b ≤ 9 ∧ (b = 0 → 1 ≤ c ∧ c ≤ 1000000000) ∧ (b ≠ 0 → c = 0))
theorem impl_isBoat (n : Int) (w : World) : Calls Tryz.prog 28 #[.int .i64 n] w fun e w' => e = .returned (.bool (decide (0 ≤ n ∧ n ≤ 15))) ∧ w = w' := by
  go_enter Tryz.func28, Tryz.ntmps28
  go_wp2_with (go_at_call 29; refine (impl_in _ _ _ _).mono ?_; rintro e w' ⟨rfl, rfl⟩)
  go_ret
  exact ⟨by simp, rfl⟩
theorem impl_isTime (n : Int) (w : World) : Calls Tryz.prog 52 #[.int .i64 n] w fun e w' => e = .returned (.bool (decide (0 ≤ n ∧ n ≤ 1000000000))) ∧ w = w' := by
  go_enter Tryz.func52, Tryz.ntmps52
  go_wp2_with (go_at_call 29; refine (impl_in _ _ _ _).mono ?_; rintro e w' ⟨rfl, rfl⟩)
  go_ret
  exact ⟨by simp, rfl⟩
theorem impl_IsFinish (a b c : Int) (w : World) : Calls Tryz.prog 14 #[.agg #[.int .i64 a, .int .i64 b, .int .i64 c]] w fun e w' => e = .returned (.bool (isFin a b c)) ∧ Q w w' := by
  go_enter Tryz.func14, Tryz.ntmps14
  go_wp2_with (first | (go_at_call 29; refine (impl_in _ _ _ _).mono ?_; rintro e w' ⟨rfl, rfl⟩) | (go_at_call 28; refine (impl_isBoat _ _).mono ?_; rintro e w' ⟨rfl, rfl⟩))
  all_goals go_ret
  all_goals refine ⟨ret_bool ?_, (Q.refl _).alloc _⟩
  all_goals (unfold isFin; rw [Bool.eq_iff_iff]; simp at *; omega)
-- Protest
def isPro (c d e f : Int) : Bool := decide (0 ≤ c ∧ c ≤ 1000000000 ∧ c ≤ d ∧ d ≤ 1000000000 ∧ c ≤ e ∧ e ≤ 1000000000 ∧ c ≤ f ∧ f ≤ 1000000000)
def proPast (c d e f : Int) (k : Nat) : Prop := (1 ≤ k → 0 ≤ c ∧ c ≤ 1000000000) ∧ (2 ≤ k → c ≤ d ∧ d ≤ 1000000000) ∧ (3 ≤ k → c ≤ e ∧ e ≤ 1000000000) ∧ (4 ≤ k → c ≤ f ∧ f ≤ 1000000000)
end Go.Proofs.YteofhfefbphjdaaGreatDoor
namespace Go.Proofs.YteofhfefbphjdaaGreatDoor
open Go.RowKit Go.WideShapes Go.ChangeShapes
def isLim (a b c : Int) : Bool := decide (1 ≤ a ∧ a ≤ b ∧ 1 ≤ b ∧ b ≤ 1000000000 ∧ 1 ≤ c ∧ c ≤ 1000000000)
end Go.Proofs.YteofhfefbphjdaaGreatDoor
namespace Go.Proofs.YteofhfefbphjdaaGreatDoor
open Go.RowKit Go.WideShapes Go.ChangeShapes
def codeName (n : Int) : ByteArray :=
  if n = 0 then ⟨#[70, 73, 78]⟩ else if n = 1 then ⟨#[68, 78, 67]⟩ else if n = 2 then ⟨#[68, 78, 83]⟩ else if n = 3 then ⟨#[79, 67, 83]⟩ else if n = 4 then ⟨#[68, 78, 70]⟩
  else if n = 5 then ⟨#[82, 69, 84]⟩ else if n = 6 then ⟨#[68, 83, 81]⟩ else if n = 7 then ⟨#[68, 78, 69]⟩ else if n = 8 then ⟨#[66, 70, 68]⟩ else if n = 9 then ⟨#[82, 68, 71]⟩ else ⟨#[]⟩
theorem codeName_out (n : Int) (h : ¬ (0 ≤ n ∧ n ≤ 9)) : codeName n = ⟨#[]⟩ := by
  unfold codeName
  repeat rw [if_neg (by omega)]
end Go.Proofs.YteofhfefbphjdaaGreatDoor
