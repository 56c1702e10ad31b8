/- Walks: what the functions of this claim return, for all arguments. No condition. -/
import Derived.Test.YthlfadkpeogajaaIn
namespace Go.Proofs.Ythlfadkpeogajaa
open Go.RowKit Go.WideShapes Go.ChangeShapes
def stName (n : Int) : ByteArray :=
  if n = 1 then ⟨#[108, 111, 100, 103, 101, 100]⟩ else if n = 2 then ⟨#[105, 110, 118, 97, 108, 105, 100]⟩ else if n = 3 then ⟨#[104, 101, 97, 114, 100]⟩ else if n = 4 then ⟨#[100, 101, 99, 105, 100, 101, 100]⟩ else if n = 5 then ⟨#[97, 112, 112, 101, 97, 108, 101, 100]⟩ else if n = 6 then ⟨#[119, 105, 116, 104, 100, 114, 97, 119, 110]⟩ else if n = 7 then ⟨#[99, 108, 111, 115, 101, 100]⟩ else ⟨#[]⟩
theorem stName_out (n : Int) (h : ¬ (1 ≤ n ∧ n ≤ 7)) : stName n = ⟨#[]⟩ := by
  unfold stName
  repeat rw [if_neg (by omega)]
theorem spec_State (n : Int) (w : World) : Calls Try.prog 69 #[.int .i64 n] w fun e w' => e = .returned (.bool (decide (1 ≤ n ∧ n ≤ 7))) ∧ w = w' := by
  go_enter Try.func69, Try.ntmps69
  go_wp2_with (go_at_call 64; refine (spec_in _ _ _ _).mono ?_; rintro e w' ⟨rfl, rfl⟩)
  go_ret
  exact ⟨by simp, rfl⟩
theorem impl_isState (n : Int) (w : World) : Calls Try.prog 67 #[.int .i64 n] w fun e w' => e = .returned (.bool (decide (1 ≤ n ∧ n ≤ 7))) ∧ w = w' := by
  go_enter Try.func67, Try.ntmps67
  go_wp2_with (go_at_call 60; refine (impl_in _ _ _ _).mono ?_; rintro e w' ⟨rfl, rfl⟩)
  go_ret
  exact ⟨by simp, rfl⟩
set_option maxHeartbeats 2000000 in
theorem spec_StateName (n : Int) (w : World) : Calls Try.prog 28 #[.int .i64 n] w fun e w' => e = .returned (.string (stName n)) ∧ Q w w' := by
  by_cases h : 1 ≤ n ∧ n ≤ 7
  · obtain rfl | rfl | rfl | rfl | rfl | rfl | rfl : n = 1 ∨ n = 2 ∨ n = 3 ∨ n = 4 ∨ n = 5 ∨ n = 6 ∨ n = 7 := by omega
    all_goals
      go_enter Try.func28, Try.ntmps28
      go_wp2_with (go_at_call 69; refine (spec_State _ _).mono ?_; rintro e w' ⟨rfl, rfl⟩)
      go_ret
      exact ⟨rfl, (Q.refl _).alloc _⟩
  · go_enter Try.func28, Try.ntmps28
    go_wp2_with (go_at_call 69; refine (spec_State _ _).mono ?_; rintro e w' ⟨rfl, rfl⟩)
    go_ret
    exact ⟨by rw [stName_out n h]; rfl, Q.refl _⟩
set_option maxHeartbeats 2000000 in
theorem impl_StateName (n : Int) (w : World) : Calls Try.prog 27 #[.int .i64 n] w fun e w' => e = .returned (.string (stName n)) ∧ Q w w' := by
  by_cases h : 1 ≤ n ∧ n ≤ 7
  · obtain rfl | rfl | rfl | rfl | rfl | rfl | rfl : n = 1 ∨ n = 2 ∨ n = 3 ∨ n = 4 ∨ n = 5 ∨ n = 6 ∨ n = 7 := by omega
    all_goals
      go_enter Try.func27, Try.ntmps27
      go_wp2_with (go_at_call 67; refine (impl_isState _ _).mono ?_; rintro e w' ⟨rfl, rfl⟩)
      go_ret
      exact ⟨rfl, (Q.refl _).alloc _⟩
  · go_enter Try.func27, Try.ntmps27
    go_wp2_with (go_at_call 67; refine (impl_isState _ _).mono ?_; rintro e w' ⟨rfl, rfl⟩)
    go_ret
    exact ⟨by rw [stName_out n h]; rfl, (Q.refl _).alloc _⟩
end Go.Proofs.Ythlfadkpeogajaa
