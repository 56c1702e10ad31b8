/- Walks: the boats that a hearing penalizes, as the program and the reference return them, for all arguments. No condition. -/
import Derived.Test.YtcmnolcidflhmaaEq
import Derived.Test.YtcmnolcidflhmaaTc
import Derived.Outline
namespace Go.Proofs.Ytcmnolcidflhmaa
open Go.RowKit Go.WideShapes Go.ChangeShapes
theorem spec_Parties (b a : Int) (w : World) : Calls Try.prog 82 #[.int .i64 b, .int .i64 a] w fun e w' => e = .returned (.bool (decide (0 ≤ b ∧ b ≤ 15 ∧ 0 ≤ a ∧ a ≤ 15 ∧ b ≠ a))) ∧ w = w' := by
  go_enter Try.func82, Try.ntmps82
  go_wp2_with (go_at_call 67; refine (spec_in _ _ _ _).mono ?_; rintro e w' ⟨rfl, rfl⟩)
  all_goals go_ret
  all_goals refine ⟨ret_bool ?_, rfl⟩
  all_goals (rw [Bool.eq_iff_iff]; simp; omega)
theorem impl_areParties (b a : Int) (w : World) : Calls Try.prog 85 #[.int .i64 b, .int .i64 a] w fun e w' => e = .returned (.bool (decide (0 ≤ b ∧ b ≤ 15 ∧ 0 ≤ a ∧ a ≤ 15 ∧ b ≠ a))) ∧ w = w' := by
  go_enter Try.func85, Try.ntmps85
  go_wp2_with (go_at_call 102; refine (impl_isBoat _ _).mono ?_; rintro e w' ⟨rfl, rfl⟩)
  all_goals go_ret
  all_goals refine ⟨ret_bool ?_, rfl⟩
  all_goals (rw [Bool.eq_iff_iff]; simp; omega)
theorem impl_isOutcome (o : Int) (w : World) : Calls Try.prog 106 #[.int .i64 o] w fun e w' => e = .returned (.bool (decide (0 ≤ o ∧ o ≤ 3))) ∧ w = w' := by
  go_enter Try.func106, Try.ntmps106
  go_wp2_with (go_at_call 68; refine (impl_in _ _ _ _).mono ?_; rintro e w' ⟨rfl, rfl⟩)
  go_ret
  exact ⟨by simp, rfl⟩
def penOk (b a o : Int) : Bool := decide (0 ≤ b ∧ b ≤ 15 ∧ 0 ≤ a ∧ a ≤ 15 ∧ b ≠ a ∧ 0 ≤ o ∧ o ≤ 3)
def penL (b a o : Int) : List Int := if penOk b a o = false then [] else if o = 1 then [a] else if o = 2 then [b] else if o = 3 then [min b a, max b a] else []
def penC (b a o : Int) : Int := if penOk b a o then 0 else 2
theorem pen_no {b a o : Int} (h : penOk b a o = false) : penL b a o = [] ∧ penC b a o = 2 := by simp [penL, penC, h]
theorem pen_yes {b a o : Int} (h : penOk b a o = true) : penC b a o = 0 := by simp [penC, h]
theorem pen_len (b a o : Int) : (penL b a o).length ≤ 2 := by
  unfold penL
  repeat' split
  all_goals (simp only [List.length_cons, List.length_nil]; omega)
end Go.Proofs.Ytcmnolcidflhmaa
