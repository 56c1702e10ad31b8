/- Walks: what the functions of this claim return, for all arguments. No condition. -/
import Derived.Test.YthlfadkpeogajaaTe
namespace Go.Proofs.Ythlfadkpeogajaa
open Go.RowKit Go.WideShapes Go.ChangeShapes
/-- The state after an action, or 0. -/
def nextSt (s a : Int) : Int :=
  if 10 * s + a = 11 then 3 else if 10 * s + a = 46 then 3 else if 10 * s + a = 56 then 3 else if 10 * s + a = 12 then 2 else if 10 * s + a = 17 then 6 else if 10 * s + a = 37 then 6 else if 10 * s + a = 26 then 1
  else if 10 * s + a = 33 then 4 else if 10 * s + a = 55 then 4 else if 10 * s + a = 44 then 5 else if 10 * s + a = 28 then 7 else if 10 * s + a = 48 then 7 else if 10 * s + a = 68 then 7 else 0
set_option maxHeartbeats 1000000 in
theorem impl_stateAfter (s a : Int) (w : World) (hs : 1 ≤ s ∧ s ≤ 7) (ha : 1 ≤ a ∧ a ≤ 8) : Calls Try.prog 68 #[.int .i64 s, .int .i64 a] w fun e w' => e = .returned (.int .i64 (nextSt s a)) ∧ w = w' := by
  go_enter Try.func68, Try.ntmps68
  go_wp2
  all_goals go_ret
  all_goals (refine ⟨ret_int ?_, rfl⟩; simp only [beq_iff_eq, beq_eq_false_iff_ne, ne_eq] at *; unfold nextSt)
  all_goals (repeat (first | rw [if_pos (by omega)] | rw [if_neg (by omega)]))
def TabFact (w w' : World) : Prop := (∀ s : Nat, 1 ≤ s → s ≤ 7 → w'.cell? ⟨w.heap.size + 8, s, none⟩ = some (.slice (some ⟨w.heap.size + s, 0, none⟩) 9 9)) ∧
  ∀ s a : Nat, 1 ≤ s → s ≤ 7 → a ≤ 8 → w'.cell? ⟨w.heap.size + s, a, none⟩ = some (.int .i64 (nextSt s a))
set_option maxHeartbeats 2000000 in
theorem spec_Table (w : World) : Calls Try.prog 70 #[] w fun e w' => e = .returned (.slice (some ⟨w.heap.size + 8, 0, none⟩) 8 8) ∧ Q w w' ∧ TabFact w w' := by
  go_enter Try.func70, Try.ntmps70
  go_wp2
  go_ret
  refine ⟨rfl, by repeat (first | exact Q.refl _ | apply Q.alloc), fun s h1 h2 => ?_, fun s a h1 h2 h3 => ?_⟩
  · obtain rfl | rfl | rfl | rfl | rfl | rfl | rfl : s = 1 ∨ s = 2 ∨ s = 3 ∨ s = 4 ∨ s = 5 ∨ s = 6 ∨ s = 7 := by omega
    all_goals go_simp
  · obtain rfl | rfl | rfl | rfl | rfl | rfl | rfl : s = 1 ∨ s = 2 ∨ s = 3 ∨ s = 4 ∨ s = 5 ∨ s = 6 ∨ s = 7 := by omega
    all_goals (obtain rfl | rfl | rfl | rfl | rfl | rfl | rfl | rfl | rfl : a = 0 ∨ a = 1 ∨ a = 2 ∨ a = 3 ∨ a = 4 ∨ a = 5 ∨ a = 6 ∨ a = 7 ∨ a = 8 := by omega)
    all_goals go_simp
    all_goals rfl
def nextC (s a : Int) : Int := if ¬ (1 ≤ s ∧ s ≤ 7 ∧ 1 ≤ a ∧ a ≤ 8) then 2 else if nextSt s a = 0 then 5 else 0
def nextV (s a : Int) : Int := if ¬ (1 ≤ s ∧ s ≤ 7 ∧ 1 ≤ a ∧ a ≤ 8) then 0 else nextSt s a
theorem next_out {s a : Int} (h : ¬ (1 ≤ s ∧ s ≤ 7 ∧ 1 ≤ a ∧ a ≤ 8)) : nextV s a = 0 ∧ nextC s a = 2 := by simp [nextV, nextC, h]
theorem next_zero {s a : Int} (h : 1 ≤ s ∧ s ≤ 7 ∧ 1 ≤ a ∧ a ≤ 8) (h0 : nextSt s a = 0) : nextV s a = 0 ∧ nextC s a = 5 := by simp [nextV, nextC, h, h0]
theorem next_some {s a : Int} (h : 1 ≤ s ∧ s ≤ 7 ∧ 1 ≤ a ∧ a ≤ 8) (h0 : nextSt s a ≠ 0) : nextV s a = nextSt s a ∧ nextC s a = 0 := by simp [nextV, nextC, h, h0]
theorem spec_NextState (s a : Int) (w : World) : Calls Try.prog 25 #[.int .i64 s, .int .i64 a] w fun e w' => e = .returned (.tuple #[.int .i64 (nextV s a), .int .i64 (nextC s a)]) ∧ Q w w' := by
  by_cases h : 1 ≤ s ∧ s ≤ 7 ∧ 1 ≤ a ∧ a ≤ 8
  · obtain ⟨m, rfl⟩ := Int.eq_ofNat_of_zero_le (show 0 ≤ s by omega)
    obtain ⟨n, rfl⟩ := Int.eq_ofNat_of_zero_le (show 0 ≤ a by omega)
    go_enter Try.func25, Try.ntmps25
    go_wp2_with (first | (go_at_call 64; refine (spec_in _ _ _ _).mono ?_; rintro e w' ⟨rfl, rfl⟩) | (go_at_call 69; refine (spec_State _ _).mono ?_; rintro e w' ⟨rfl, rfl⟩) | fail)
    refine (spec_Table _).mono ?_
    rintro e w1 ⟨rfl, hq1, hT⟩
    have t1 := hT.1 m (by omega) (by omega)
    have t2 := hT.2 m n (by omega) (by omega) (by omega)
    go_wp2_with fail
    all_goals go_ret2
    all_goals (try simp only [beq_iff_eq, beq_eq_false_iff_ne, ne_eq] at *)
    all_goals first | exact ⟨by rw [(next_zero h (by assumption)).1, (next_zero h (by assumption)).2]; rfl, hq1⟩ | exact ⟨by rw [(next_some h (by assumption)).1, (next_some h (by assumption)).2]; rfl, hq1⟩
  · have H := next_out h
    by_cases hs : 1 ≤ s ∧ s ≤ 7
    · have ha : ¬ (1 ≤ a ∧ a ≤ 8) := by omega
      have HH := Lib.hid H
      clear h H
      go_enter Try.func25, Try.ntmps25
      go_wp2_with (first | (go_at_call 64; refine (spec_in _ _ _ _).mono ?_; rintro e w' ⟨rfl, rfl⟩) | (go_at_call 69; refine (spec_State _ _).mono ?_; rintro e w' ⟨rfl, rfl⟩))
      all_goals go_ret2
      all_goals exact ⟨by rw [HH.out.1, HH.out.2]; rfl, Q.refl _⟩
    · have HH := Lib.hid H
      clear h H
      go_enter Try.func25, Try.ntmps25
      go_wp2_with (first | (go_at_call 64; refine (spec_in _ _ _ _).mono ?_; rintro e w' ⟨rfl, rfl⟩) | (go_at_call 69; refine (spec_State _ _).mono ?_; rintro e w' ⟨rfl, rfl⟩))
      all_goals go_ret2
      all_goals exact ⟨by rw [HH.out.1, HH.out.2]; rfl, Q.refl _⟩
theorem impl_NextState (s a : Int) (w : World) : Calls Try.prog 24 #[.int .i64 s, .int .i64 a] w fun e w' => e = .returned (.tuple #[.int .i64 (nextV s a), .int .i64 (nextC s a)]) ∧ Q w w' := by
  by_cases h : 1 ≤ s ∧ s ≤ 7 ∧ 1 ≤ a ∧ a ≤ 8
  · go_enter Try.func24, Try.ntmps24
    go_wp2_with (first | (go_at_call 60; refine (impl_in _ _ _ _).mono ?_; rintro e w' ⟨rfl, rfl⟩) | (go_at_call 67; refine (impl_isState _ _).mono ?_; rintro e w' ⟨rfl, rfl⟩) | (go_at_call 68; refine (impl_stateAfter _ _ _ (by omega) (by omega)).mono ?_; rintro e w' ⟨rfl, rfl⟩))
    all_goals go_ret2
    all_goals (try simp only [beq_iff_eq, beq_eq_false_iff_ne, ne_eq] at *)
    all_goals first | exact ⟨by rw [(next_zero h (by assumption)).1, (next_zero h (by assumption)).2]; rfl, Q.refl _⟩ | exact ⟨by rw [(next_some h (by assumption)).1, (next_some h (by assumption)).2]; rfl, Q.refl _⟩
  · have H := next_out h
    by_cases hs : 1 ≤ s ∧ s ≤ 7
    · have ha : ¬ (1 ≤ a ∧ a ≤ 8) := by omega
      have HH := Lib.hid H
      clear h H
      go_enter Try.func24, Try.ntmps24
      go_wp2_with (first | (go_at_call 60; refine (impl_in _ _ _ _).mono ?_; rintro e w' ⟨rfl, rfl⟩) | (go_at_call 67; refine (impl_isState _ _).mono ?_; rintro e w' ⟨rfl, rfl⟩))
      all_goals go_ret2
      all_goals exact ⟨by rw [HH.out.1, HH.out.2]; rfl, Q.refl _⟩
    · have HH := Lib.hid H
      clear h H
      go_enter Try.func24, Try.ntmps24
      go_wp2_with (first | (go_at_call 60; refine (impl_in _ _ _ _).mono ?_; rintro e w' ⟨rfl, rfl⟩) | (go_at_call 67; refine (impl_isState _ _).mono ?_; rintro e w' ⟨rfl, rfl⟩))
      all_goals go_ret2
      all_goals exact ⟨by rw [HH.out.1, HH.out.2]; rfl, Q.refl _⟩
end Go.Proofs.Ythlfadkpeogajaa
