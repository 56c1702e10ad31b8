/- Walks: what the functions of this claim return, for all arguments. No condition. -/
import Derived.Test.YtgooehdjbdgecaaIn
namespace Go.Proofs.Ytgooehdjbdgecaa
open Go.RowKit Go.WideShapes Go.ChangeShapes
-- Watch
def isWat (a b c d : Int) : Bool := decide (1 ≤ a ∧ a ≤ 1000 ∧ 0 ≤ b ∧ b ≤ 60000 ∧ 0 ≤ c ∧ c ≤ 10000 ∧ 1 ≤ d ∧ d ≤ 60000)
theorem impl_IsWatch (a b c d : Int) (w : World) : Calls Try.prog 22 #[.agg #[.int .i64 a, .int .i64 b, .int .i64 c, .int .i64 d]] w fun e w' => e = .returned (.bool (isWat a b c d)) ∧ Q w w' := by
  go_enter Try.func22, Try.ntmps22
  go_wp2_with (go_at_call 52; refine (impl_in _ _ _ _).mono ?_; rintro e w' ⟨rfl, rfl⟩)
  all_goals go_ret
  all_goals refine ⟨ret_bool ?_, (Q.refl _).alloc _⟩
  all_goals (unfold isWat; rw [Bool.eq_iff_iff]; simp; omega)
theorem spec_IsWatch (a b c d : Int) (w : World) : Calls Try.prog 20 #[.agg #[.int .i64 a, .int .i64 b, .int .i64 c, .int .i64 d]] w fun e w' => e = .returned (.bool (isWat a b c d)) ∧ Q w w' := by
  go_enter Try.func20, Try.ntmps20
  go_wp2_with (go_at_call 51; refine (spec_in _ _ _ _).mono ?_; rintro e w' ⟨rfl, rfl⟩)
  all_goals go_ret
  all_goals refine ⟨ret_bool ?_, (Q.refl _).alloc _⟩
  all_goals (unfold isWat; rw [Bool.eq_iff_iff]; simp; omega)
theorem toWatch_any (a b c d : Int) (w : World) : Calls Try.prog 21 #[.agg #[.int .i64 a, .int .i64 b, .int .i64 c, .int .i64 d]] w fun e w' => e = .returned (.agg #[.int .i64 a, .int .i64 b, .int .i64 c, .int .i64 d]) ∧ Q w w' := by
  go_enter Try.func21, Try.ntmps21
  go_wp2
  exact bodyPost_ret (v := .agg #[.int .i64 a, .int .i64 b, .int .i64 c, .int .i64 d]) (by simp [results, Try.results21, go_sem]) rfl ⟨rfl, (((Q.refl _).alloc _).alloc _).alloc _⟩
theorem law_FnExactIsWatch (a b c d : Int) (_ : ∀ y ∈ [a, b, c, d], -9223372036854775808 ≤ y ∧ y ≤ 9223372036854775807) (w : World) : Calls Try.prog 5 #[.agg #[.int .i64 a, .int .i64 b, .int .i64 c, .int .i64 d]] w fun e w' => e = .returned (.bool true) ∧ Below w.heap.size w w' := by
  go_enter Try.func5, Try.ntmps5
  go_wp2_with fail
  have B0 := Blk.new w 31 #[.int .i64 a, .int .i64 b, .int .i64 c, .int .i64 d]
  refine (toWatch_any _ _ _ _ _).mono ?_
  rintro e w1 ⟨rfl, hq1⟩
  go_wp2_with fail
  refine (spec_IsWatch _ _ _ _ _).mono ?_
  rintro e w2 ⟨rfl, hq2⟩
  have B2 := (B0.q hq1).q hq2
  have c2 := B2.cell
  go_wp2_with fail
  refine (toWatch_any _ _ _ _ _).mono ?_
  rintro e w3 ⟨rfl, hq3⟩
  go_wp2_with fail
  refine (impl_IsWatch _ _ _ _ _).mono ?_
  rintro e w4 ⟨rfl, hq4⟩
  go_wp2_with fail
  go_ret
  exact ⟨rfl, ((((Q.refl _).alloc _).trans hq1).trans hq2).trans (hq3.trans hq4)⟩
-- Finish
def isFin (a b c : Int) : Bool := decide (0 ≤ a ∧ a ≤ 15 ∧ 0 ≤ b ∧ b ≤ 9 ∧ (b = 0 → 1 ≤ c ∧ c ≤ 1000000000) ∧ (b ≠ 0 → c = 0))
theorem impl_isBoat (n : Int) (w : World) : Calls Try.prog 55 #[.int .i64 n] w fun e w' => e = .returned (.bool (decide (0 ≤ n ∧ n ≤ 15))) ∧ w = w' := by
  go_enter Try.func55, Try.ntmps55
  go_wp2_with (go_at_call 52; refine (impl_in _ _ _ _).mono ?_; rintro e w' ⟨rfl, rfl⟩)
  go_ret
  exact ⟨by simp, rfl⟩
theorem impl_isTime (n : Int) (w : World) : Calls Try.prog 56 #[.int .i64 n] w fun e w' => e = .returned (.bool (decide (0 ≤ n ∧ n ≤ 1000000000))) ∧ w = w' := by
  go_enter Try.func56, Try.ntmps56
  go_wp2_with (go_at_call 52; refine (impl_in _ _ _ _).mono ?_; rintro e w' ⟨rfl, rfl⟩)
  go_ret
  exact ⟨by simp, rfl⟩
theorem impl_IsFinish (a b c : Int) (w : World) : Calls Try.prog 27 #[.agg #[.int .i64 a, .int .i64 b, .int .i64 c]] w fun e w' => e = .returned (.bool (isFin a b c)) ∧ Q w w' := by
  go_enter Try.func27, Try.ntmps27
  go_wp2_with (first | (go_at_call 52; refine (impl_in _ _ _ _).mono ?_; rintro e w' ⟨rfl, rfl⟩) | (go_at_call 55; refine (impl_isBoat _ _).mono ?_; rintro e w' ⟨rfl, rfl⟩))
  all_goals go_ret
  all_goals refine ⟨ret_bool ?_, (Q.refl _).alloc _⟩
  all_goals (unfold isFin; rw [Bool.eq_iff_iff]; simp at *; omega)
theorem spec_IsFinish (a b c : Int) (w : World) : Calls Try.prog 25 #[.agg #[.int .i64 a, .int .i64 b, .int .i64 c]] w fun e w' => e = .returned (.bool (isFin a b c)) ∧ Q w w' := by
  go_enter Try.func25, Try.ntmps25
  go_wp2_with (go_at_call 51; refine (spec_in _ _ _ _).mono ?_; rintro e w' ⟨rfl, rfl⟩)
  all_goals go_ret
  all_goals refine ⟨ret_bool ?_, (Q.refl _).alloc _⟩
  all_goals (unfold isFin; rw [Bool.eq_iff_iff]; simp at *; omega)
theorem toFinish_any (a b c : Int) (w : World) : Calls Try.prog 26 #[.agg #[.int .i64 a, .int .i64 b, .int .i64 c]] w fun e w' => e = .returned (.agg #[.int .i64 a, .int .i64 b, .int .i64 c]) ∧ Q w w' := by
  go_enter Try.func26, Try.ntmps26
  go_wp2
  exact bodyPost_ret (v := .agg #[.int .i64 a, .int .i64 b, .int .i64 c]) (by simp [results, Try.results26, go_sem]) rfl ⟨rfl, (((Q.refl _).alloc _).alloc _).alloc _⟩
theorem law_FnExactIsFinish (a b c : Int) (_ : ∀ y ∈ [a, b, c], -9223372036854775808 ≤ y ∧ y ≤ 9223372036854775807) (w : World) : Calls Try.prog 7 #[.agg #[.int .i64 a, .int .i64 b, .int .i64 c]] w fun e w' => e = .returned (.bool true) ∧ Below w.heap.size w w' := by
  go_enter Try.func7, Try.ntmps7
  go_wp2_with fail
  have B0 := Blk.new w 37 #[.int .i64 a, .int .i64 b, .int .i64 c]
  refine (toFinish_any _ _ _ _).mono ?_
  rintro e w1 ⟨rfl, hq1⟩
  go_wp2_with fail
  refine (spec_IsFinish _ _ _ _).mono ?_
  rintro e w2 ⟨rfl, hq2⟩
  have B2 := (B0.q hq1).q hq2
  have c2 := B2.cell
  go_wp2_with fail
  refine (toFinish_any _ _ _ _).mono ?_
  rintro e w3 ⟨rfl, hq3⟩
  go_wp2_with fail
  refine (impl_IsFinish _ _ _ _).mono ?_
  rintro e w4 ⟨rfl, hq4⟩
  go_wp2_with fail
  go_ret
  exact ⟨rfl, ((((Q.refl _).alloc _).trans hq1).trans hq2).trans (hq3.trans hq4)⟩
-- Protest
def isPro (c d e f : Int) : Bool := decide (0 ≤ c ∧ c ≤ 1000000000 ∧ c ≤ d ∧ d ≤ 1000000000 ∧ c ≤ e ∧ e ≤ 1000000000 ∧ c ≤ f ∧ f ≤ 1000000000)
def proPast (c d e f : Int) (k : Nat) : Prop := (1 ≤ k → 0 ≤ c ∧ c ≤ 1000000000) ∧ (2 ≤ k → c ≤ d ∧ d ≤ 1000000000) ∧ (3 ≤ k → c ≤ e ∧ e ≤ 1000000000) ∧ (4 ≤ k → c ≤ f ∧ f ≤ 1000000000)
theorem impl_IsProtest (a b c d e f : Int) (w : World) : Calls Try.prog 30 #[.agg #[.int .i64 a, .int .i64 b, .int .i64 c, .int .i64 d, .int .i64 e, .int .i64 f]] w fun r w' => r = .returned (.bool (isPro c d e f)) ∧ Q w w' := by
  go_enter Try.func30, Try.ntmps30
  go_wp2_with (first | (go_at_call 52; refine (impl_in _ _ _ _).mono ?_; rintro e w' ⟨rfl, rfl⟩) | (go_at_call 56; refine (impl_isTime _ _).mono ?_; rintro e w' ⟨rfl, rfl⟩))
  all_goals go_ret
  all_goals refine ⟨ret_bool ?_, (Q.refl _).alloc _⟩
  all_goals (unfold isPro; rw [Bool.eq_iff_iff]; simp; omega)
theorem spec_IsProtest (a b c d e f : Int) (w : World) : Calls Try.prog 28 #[.agg #[.int .i64 a, .int .i64 b, .int .i64 c, .int .i64 d, .int .i64 e, .int .i64 f]] w fun r w' => r = .returned (.bool (isPro c d e f)) ∧ Q w w' := by
  go_enter Try.func28, Try.ntmps28
  go_wp2_with (go_at_call 51; refine (spec_in _ _ _ _).mono ?_; rintro e w' ⟨rfl, rfl⟩)
  go_loopw [4] (fun i wr => ∃ k : Nat, k ≤ 4 ∧ i = .int .i64 k ∧ proPast c d e f k ∧ Q w wr ∧ Blk wr w.heap.size 45 #[.int .i64 a, .int .i64 b, .int .i64 c, .int .i64 d, .int .i64 e, .int .i64 f] ∧ Blk wr (w.heap.size + 1) 2 #[.int .i64 c, .int .i64 d, .int .i64 e, .int .i64 f]) (fun i _ => 4 - (intOf i).toNat)
  case atStart => exact ⟨0, by omega, rfl, by unfold proPast; omega, ((Q.refl _).alloc _).alloc _, (Blk.new _ _ _).alloc _, by simpa using Blk.new (w.alloc _) _ _⟩
  case round =>
    obtain ⟨k, hk, rfl, hp, hq, hB1, hB2⟩ := hrel
    have c1 := hB1.cell
    have c2 := hB2.cell
    obtain hk4 | hk4 : k = 4 ∨ k < 4 := by omega
    · subst hk4
      go_wp2_with fail
      go_ret
      refine ⟨ret_bool ?_, hq⟩
      unfold proPast at hp; unfold isPro; rw [Bool.eq_iff_iff]; simp; omega
    obtain rfl | rfl | rfl | rfl : k = 0 ∨ k = 1 ∨ k = 2 ∨ k = 3 := by omega
    all_goals
      go_wp2_with fail
      refine wp_region_quiet_lit (by kernel_rfl) (by kernel_rfl) ?_
      repeat (any_goals (first | go_big_quiet_step ( (go_at_call 51; exact Calls.quiet_of_same (spec_in' _ _ _ _))) | quiet_step ( (go_at_call 51; exact Calls.quiet_of_same (spec_in' _ _ _ _))) | (refine wpQuiet_step (fun K hK => ?_); go_simp; split <;> (refine hK _ ?_; clear hK K))))
      all_goals (refine wpQuiet_nil ?_; intro _ hw'; obtain ⟨nq, hw''⟩ := hw'; subst hw'')
      all_goals go_wp2
    all_goals first
      | (go_ret
         refine ⟨ret_bool ?_, hq.drewN _⟩
         unfold proPast at hp; unfold isPro; rw [Bool.eq_iff_iff]; simp; omega)
      | (go_roundw
         case rel => first | exact ⟨1, by omega, rfl, by unfold proPast at hp ⊢; omega, hq.drewN _, hB1.drewN _, hB2.drewN _⟩ | exact ⟨2, by omega, rfl, by unfold proPast at hp ⊢; omega, hq.drewN _, hB1.drewN _, hB2.drewN _⟩ | exact ⟨3, by omega, rfl, by unfold proPast at hp ⊢; omega, hq.drewN _, hB1.drewN _, hB2.drewN _⟩ | exact ⟨4, by omega, rfl, by unfold proPast at hp ⊢; omega, hq.drewN _, hB1.drewN _, hB2.drewN _⟩
         case measure => simp [intOf])
theorem toProtest_any (a b c d e f : Int) (w : World) : Calls Try.prog 29 #[.agg #[.int .i64 a, .int .i64 b, .int .i64 c, .int .i64 d, .int .i64 e, .int .i64 f]] w fun r w' => r = .returned (.agg #[.int .i64 a, .int .i64 b, .int .i64 c, .int .i64 d, .int .i64 e, .int .i64 f]) ∧ Q w w' := by
  go_enter Try.func29, Try.ntmps29
  go_wp2
  exact bodyPost_ret (v := .agg #[.int .i64 a, .int .i64 b, .int .i64 c, .int .i64 d, .int .i64 e, .int .i64 f]) (by simp [results, Try.results29, go_sem]) rfl ⟨rfl, (((Q.refl _).alloc _).alloc _).alloc _⟩
theorem law_FnExactIsProtest (a b c d e f : Int) (_ : ∀ y ∈ [a, b, c, d, e, f], -9223372036854775808 ≤ y ∧ y ≤ 9223372036854775807) (w : World) : Calls Try.prog 8 #[.agg #[.int .i64 a, .int .i64 b, .int .i64 c, .int .i64 d, .int .i64 e, .int .i64 f]] w fun e w' => e = .returned (.bool true) ∧ Below w.heap.size w w' := by
  go_enter Try.func8, Try.ntmps8
  go_wp2_with fail
  have B0 := Blk.new w 43 #[.int .i64 a, .int .i64 b, .int .i64 c, .int .i64 d, .int .i64 e, .int .i64 f]
  refine (toProtest_any _ _ _ _ _ _ _).mono ?_
  rintro e w1 ⟨rfl, hq1⟩
  go_wp2_with fail
  refine (spec_IsProtest _ _ _ _ _ _ _).mono ?_
  rintro e w2 ⟨rfl, hq2⟩
  have B2 := (B0.q hq1).q hq2
  have c2 := B2.cell
  go_wp2_with fail
  refine (toProtest_any _ _ _ _ _ _ _).mono ?_
  rintro e w3 ⟨rfl, hq3⟩
  go_wp2_with fail
  refine (impl_IsProtest _ _ _ _ _ _ _).mono ?_
  rintro e w4 ⟨rfl, hq4⟩
  go_wp2_with fail
  go_ret
  exact ⟨rfl, ((((Q.refl _).alloc _).trans hq1).trans hq2).trans (hq3.trans hq4)⟩
end Go.Proofs.Ytgooehdjbdgecaa
