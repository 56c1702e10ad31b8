/- Walks: what the functions of this claim return, for all arguments. No condition. -/
import Derived.Test.YthlfadkpeogajaaIn
namespace Go.Proofs.Ythlfadkpeogajaa
open Go.RowKit Go.WideShapes Go.ChangeShapes
-- Watch
def isWat (a b c d : Int) : Bool := decide (1 ≤ a ∧ a ≤ 1000 ∧ 0 ≤ b ∧ b ≤ 60000 ∧ 0 ≤ c ∧ c ≤ 10000 ∧ 1 ≤ d ∧ d ≤ 60000)
-- Finish
def isFin (a b c : Int) : Bool := decide (0 ≤ a ∧ a ≤ 15 ∧ 0 ≤ b ∧ b ≤ 9 ∧ (b = 0 → 1 ≤ c ∧ c ≤ 1000000000) ∧ (b ≠ 0 → c = 0))
theorem impl_isBoat (n : Int) (w : World) : Calls Try.prog 103 #[.int .i64 n] w fun e w' => e = .returned (.bool (decide (0 ≤ n ∧ n ≤ 15))) ∧ w = w' := by
  go_enter Try.func103, Try.ntmps103
  go_wp2_with (go_at_call 60; refine (impl_in _ _ _ _).mono ?_; rintro e w' ⟨rfl, rfl⟩)
  go_ret
  exact ⟨by simp, rfl⟩
theorem impl_isTime (n : Int) (w : World) : Calls Try.prog 61 #[.int .i64 n] w fun e w' => e = .returned (.bool (decide (0 ≤ n ∧ n ≤ 1000000000))) ∧ w = w' := by
  go_enter Try.func61, Try.ntmps61
  go_wp2_with (go_at_call 60; refine (impl_in _ _ _ _).mono ?_; rintro e w' ⟨rfl, rfl⟩)
  go_ret
  exact ⟨by simp, rfl⟩
theorem impl_IsFinish (a b c : Int) (w : World) : Calls Try.prog 98 #[.agg #[.int .i64 a, .int .i64 b, .int .i64 c]] w fun e w' => e = .returned (.bool (isFin a b c)) ∧ Q w w' := by
  go_enter Try.func98, Try.ntmps98
  go_wp2_with (first | (go_at_call 60; refine (impl_in _ _ _ _).mono ?_; rintro e w' ⟨rfl, rfl⟩) | (go_at_call 103; refine (impl_isBoat _ _).mono ?_; rintro e w' ⟨rfl, rfl⟩))
  all_goals go_ret
  all_goals refine ⟨ret_bool ?_, (Q.refl _).alloc _⟩
  all_goals (unfold isFin; rw [Bool.eq_iff_iff]; simp at *; omega)
theorem spec_IsFinish (a b c : Int) (w : World) : Calls Try.prog 102 #[.agg #[.int .i64 a, .int .i64 b, .int .i64 c]] w fun e w' => e = .returned (.bool (isFin a b c)) ∧ Q w w' := by
  go_enter Try.func102, Try.ntmps102
  go_wp2_with (go_at_call 64; refine (spec_in _ _ _ _).mono ?_; rintro e w' ⟨rfl, rfl⟩)
  all_goals go_ret
  all_goals refine ⟨ret_bool ?_, (Q.refl _).alloc _⟩
  all_goals (unfold isFin; rw [Bool.eq_iff_iff]; simp at *; omega)
-- Protest
def isPro (c d e f : Int) : Bool := decide (0 ≤ c ∧ c ≤ 1000000000 ∧ c ≤ d ∧ d ≤ 1000000000 ∧ c ≤ e ∧ e ≤ 1000000000 ∧ c ≤ f ∧ f ≤ 1000000000)
def proPast (c d e f : Int) (k : Nat) : Prop := (1 ≤ k → 0 ≤ c ∧ c ≤ 1000000000) ∧ (2 ≤ k → c ≤ d ∧ d ≤ 1000000000) ∧ (3 ≤ k → c ≤ e ∧ e ≤ 1000000000) ∧ (4 ≤ k → c ≤ f ∧ f ≤ 1000000000)
theorem impl_IsProtest (a b c d e f : Int) (w : World) : Calls Try.prog 20 #[.agg #[.int .i64 a, .int .i64 b, .int .i64 c, .int .i64 d, .int .i64 e, .int .i64 f]] w fun r w' => r = .returned (.bool (isPro c d e f)) ∧ Q w w' := by
  go_enter Try.func20, Try.ntmps20
  go_wp2_with (first | (go_at_call 60; refine (impl_in _ _ _ _).mono ?_; rintro e w' ⟨rfl, rfl⟩) | (go_at_call 61; refine (impl_isTime _ _).mono ?_; rintro e w' ⟨rfl, rfl⟩))
  all_goals go_ret
  all_goals refine ⟨ret_bool ?_, (Q.refl _).alloc _⟩
  all_goals (unfold isPro; rw [Bool.eq_iff_iff]; simp; omega)
theorem spec_IsProtest (a b c d e f : Int) (w : World) : Calls Try.prog 21 #[.agg #[.int .i64 a, .int .i64 b, .int .i64 c, .int .i64 d, .int .i64 e, .int .i64 f]] w fun r w' => r = .returned (.bool (isPro c d e f)) ∧ Q w w' := by
  go_enter Try.func21, Try.ntmps21
  go_wp2_with (go_at_call 64; refine (spec_in _ _ _ _).mono ?_; rintro e w' ⟨rfl, rfl⟩)
  go_loopw [4] (fun i wr => ∃ k : Nat, k ≤ 4 ∧ i = .int .i64 k ∧ proPast c d e f k ∧ Q w wr ∧ Blk wr w.heap.size 32 #[.int .i64 a, .int .i64 b, .int .i64 c, .int .i64 d, .int .i64 e, .int .i64 f] ∧ Blk wr (w.heap.size + 1) 2 #[.int .i64 c, .int .i64 d, .int .i64 e, .int .i64 f]) (fun i _ => 4 - (intOf i).toNat)
  case atStart => exact ⟨0, by omega, rfl, by unfold proPast; omega, ((Q.refl _).alloc _).alloc _, (Blk.new _ _ _).alloc _, by simpa using Blk.new (w.alloc _) _ _⟩
  case round =>
    obtain ⟨k, hk, rfl, hp, hq, hB1, hB2⟩ := hrel
    have c1 := hB1.cell
    have c2 := hB2.cell
    obtain hk4 | hk4 : k = 4 ∨ k < 4 := by omega
    · subst hk4
      go_wp2_with fail
      go_ret
      refine ⟨ret_bool ?_, hq⟩
      unfold proPast at hp; unfold isPro; rw [Bool.eq_iff_iff]; simp; omega
    obtain rfl | rfl | rfl | rfl : k = 0 ∨ k = 1 ∨ k = 2 ∨ k = 3 := by omega
    all_goals
      go_wp2_with fail
      refine wp_region_quiet_lit (by kernel_rfl) (by kernel_rfl) ?_
      repeat (any_goals (first | go_big_quiet_step ( (go_at_call 64; exact Calls.quiet_of_same (spec_in' _ _ _ _))) | quiet_step ( (go_at_call 64; exact Calls.quiet_of_same (spec_in' _ _ _ _))) | (refine wpQuiet_step (fun K hK => ?_); go_simp; split <;> (refine hK _ ?_; clear hK K))))
      all_goals (refine wpQuiet_nil ?_; intro _ hw'; obtain ⟨nq, hw''⟩ := hw'; subst hw'')
      all_goals go_wp2
    all_goals first
      | (go_ret
         refine ⟨ret_bool ?_, hq.drewN _⟩
         unfold proPast at hp; unfold isPro; rw [Bool.eq_iff_iff]; simp; omega)
      | (go_roundw
         case rel => first | exact ⟨1, by omega, rfl, by unfold proPast at hp ⊢; omega, hq.drewN _, hB1.drewN _, hB2.drewN _⟩ | exact ⟨2, by omega, rfl, by unfold proPast at hp ⊢; omega, hq.drewN _, hB1.drewN _, hB2.drewN _⟩ | exact ⟨3, by omega, rfl, by unfold proPast at hp ⊢; omega, hq.drewN _, hB1.drewN _, hB2.drewN _⟩ | exact ⟨4, by omega, rfl, by unfold proPast at hp ⊢; omega, hq.drewN _, hB1.drewN _, hB2.drewN _⟩
         case measure => simp [intOf])
end Go.Proofs.Ythlfadkpeogajaa
