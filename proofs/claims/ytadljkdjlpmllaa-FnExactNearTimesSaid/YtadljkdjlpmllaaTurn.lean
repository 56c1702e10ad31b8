/- Walks: the turn of three points, as the program and the reference compute it, for points of the sheet. -/
import Derived.Test.YtadljkdjlpmllaaAt
namespace Go.Proofs.Ytadljkdjlpmllaa
open Go.RowKit Go.WideShapes Go.ChangeShapes
theorem mul_2M {a b : Int} (ha : -2000000 ≤ a ∧ a ≤ 2000000) (hb : -2000000 ≤ b ∧ b ≤ 2000000) : -4000000000000 ≤ a * b ∧ a * b ≤ 4000000000000 := by
  rcases Int.le_total 0 b with h | h
  · have h1 : a * b ≤ 2000000 * b := Int.mul_le_mul_of_nonneg_right ha.2 h
    have h2 : (-2000000) * b ≤ a * b := Int.mul_le_mul_of_nonneg_right ha.1 h
    omega
  · have h1 : a * (-b) ≤ 2000000 * (-b) := Int.mul_le_mul_of_nonneg_right ha.2 (by omega)
    have h2 : (-2000000) * (-b) ≤ a * (-b) := Int.mul_le_mul_of_nonneg_right ha.1 (by omega)
    have e1 : a * (-b) = -(a * b) := Int.mul_neg a b
    rw [e1] at h1 h2
    omega
def crossV (a b c d e f : Int) : Int := (c - a) * (f - b) - (d - b) * (e - a)
def sgn (n : Int) : Int := if 0 < n then 1 else if n < 0 then -1 else 0
def pt (x y : Int) : Prop := (-1000000 ≤ x ∧ x ≤ 1000000) ∧ (-1000000 ≤ y ∧ y ≤ 1000000)
theorem impl_sign (n : Int) (w : World) : Calls Try.prog 98 #[.int .i64 n] w fun e w' => e = .returned (.int .i64 (sgn n)) ∧ w = w' := by
  rcases Int.lt_trichotomy n 0 with h | h | h
  · have HE := Lib.hid (show sgn n = -1 by unfold sgn; rw [if_neg (by omega), if_pos h])
    have HM := Lib.hid h
    go_enter Try.func98, Try.ntmps98
    go_wp2_with fail
    go_ret
    exact ⟨ret_int (by rw [HE.out]), rfl⟩
  · subst h
    go_enter Try.func98, Try.ntmps98
    go_wp2_with fail
    go_ret
    exact ⟨ret_int (by simp [sgn]), rfl⟩
  · have HE := Lib.hid (show sgn n = 1 by unfold sgn; rw [if_pos h])
    have HM := Lib.hid h
    go_enter Try.func98, Try.ntmps98
    go_wp2_with fail
    go_ret
    exact ⟨ret_int (by rw [HE.out]), rfl⟩
theorem spec_Sign (n : Int) (w : World) : Calls Try.prog 95 #[.int .i64 n] w fun e w' => e = .returned (.int .i64 (sgn n)) ∧ w = w' := by
  rcases Int.lt_trichotomy n 0 with h | h | h
  · have HE := Lib.hid (show sgn n = -1 by unfold sgn; rw [if_neg (by omega), if_pos h])
    have h0 : ¬ 0 < n := by omega
    go_enter Try.func95, Try.ntmps95
    go_wp2_with fail
    go_ret
    exact ⟨ret_int HE.out.symm, rfl⟩
  · subst h
    go_enter Try.func95, Try.ntmps95
    go_wp2_with fail
    go_ret
    exact ⟨ret_int (by simp [sgn]), rfl⟩
  · have HE := Lib.hid (show sgn n = 1 by unfold sgn; rw [if_pos h])
    go_enter Try.func95, Try.ntmps95
    go_wp2_with fail
    go_ret
    exact ⟨ret_int HE.out.symm, rfl⟩
set_option maxHeartbeats 2000000 in
theorem impl_cross (a b c d e f : Int) (w : World) (hp : pt a b) (hq : pt c d) (hr : pt e f) :
    Calls Try.prog 93 #[.agg #[.int .i64 a, .int .i64 b], .agg #[.int .i64 c, .int .i64 d], .agg #[.int .i64 e, .int .i64 f]] w fun r w' => r = .returned (.int .i64 (crossV a b c d e f)) ∧ Q w w' := by
  obtain ⟨h1, h2⟩ := hp
  obtain ⟨h3, h4⟩ := hq
  obtain ⟨h5, h6⟩ := hr
  have m1 := mul_2M (a := c - a) (b := f - b) (by omega) (by omega)
  have m2 := mul_2M (a := d - b) (b := e - a) (by omega) (by omega)
  go_enter Try.func93, Try.ntmps93
  go_wp2_with fail
  go_ret
  exact ⟨ret_int (by rfl), by (repeat (first | assumption | exact Q.refl _ | refine Q.alloc ?_ _ | refine Q.drewN ?_ _ | refine Q.drew ?_))⟩
theorem spec_Minus (a b c d : Int) (w : World) (hp : pt a b) (hq : pt c d) :
    Calls Try.prog 69 #[.agg #[.int .i64 a, .int .i64 b], .agg #[.int .i64 c, .int .i64 d]] w fun r w' => r = .returned (.agg #[.int .i64 (a - c), .int .i64 (b - d)]) ∧ Q w w' := by
  obtain ⟨h1, h2⟩ := hp
  obtain ⟨h3, h4⟩ := hq
  go_enter Try.func69, Try.ntmps69
  go_wp2_with fail
  exact bodyPost_ret (v := .agg #[.int .i64 (a - c), .int .i64 (b - d)]) (by simp [results, Try.results69, go_sem]) rfl ⟨rfl, by (repeat (first | assumption | exact Q.refl _ | refine Q.alloc ?_ _ | refine Q.drewN ?_ _ | refine Q.drew ?_))⟩
theorem spec_Cross (a b c d : Int) (w : World) (hp : (-2000000 ≤ a ∧ a ≤ 2000000) ∧ (-2000000 ≤ b ∧ b ≤ 2000000)) (hq : (-2000000 ≤ c ∧ c ≤ 2000000) ∧ (-2000000 ≤ d ∧ d ≤ 2000000)) :
    Calls Try.prog 72 #[.agg #[.int .i64 a, .int .i64 b], .agg #[.int .i64 c, .int .i64 d]] w fun r w' => r = .returned (.int .i64 (a * d - b * c)) ∧ Q w w' := by
  have m1 := mul_2M hp.1 hq.2
  have m2 := mul_2M hp.2 hq.1
  go_enter Try.func72, Try.ntmps72
  go_wp2_with fail
  go_ret
  exact ⟨ret_int (by rfl), by (repeat (first | assumption | exact Q.refl _ | refine Q.alloc ?_ _ | refine Q.drewN ?_ _ | refine Q.drew ?_))⟩
theorem impl_turn (a b c d e f : Int) (w : World) (hp : pt a b) (hq : pt c d) (hr : pt e f) :
    Calls Try.prog 90 #[.agg #[.int .i64 a, .int .i64 b], .agg #[.int .i64 c, .int .i64 d], .agg #[.int .i64 e, .int .i64 f]] w fun r w' => r = .returned (.int .i64 (sgn (crossV a b c d e f))) ∧ Q w w' := by
  go_enter Try.func90, Try.ntmps90
  go_wp2_with (first | (go_at_call 93; refine (impl_cross _ _ _ _ _ _ _ hp hq hr).mono ?_; rintro r w1 ⟨rfl, q1⟩) | (go_at_call 98; refine (impl_sign _ _).mono ?_; rintro r w' ⟨rfl, rfl⟩))
  go_ret
  exact ⟨rfl, Q.trans (by (repeat (first | assumption | exact Q.refl _ | refine Q.alloc ?_ _ | refine Q.drewN ?_ _ | refine Q.drew ?_))) q1⟩
theorem spec_Turn (a b c d e f : Int) (w : World) (hp : pt a b) (hq : pt c d) (hr : pt e f) :
    Calls Try.prog 85 #[.agg #[.int .i64 a, .int .i64 b], .agg #[.int .i64 c, .int .i64 d], .agg #[.int .i64 e, .int .i64 f]] w fun r w' => r = .returned (.int .i64 (sgn (crossV a b c d e f))) ∧ Q w w' := by
  have h1 : (-2000000 ≤ c - a ∧ c - a ≤ 2000000) ∧ (-2000000 ≤ d - b ∧ d - b ≤ 2000000) := by obtain ⟨⟨_, _⟩, _, _⟩ := hp; obtain ⟨⟨_, _⟩, _, _⟩ := hq; omega
  have h2 : (-2000000 ≤ e - a ∧ e - a ≤ 2000000) ∧ (-2000000 ≤ f - b ∧ f - b ≤ 2000000) := by obtain ⟨⟨_, _⟩, _, _⟩ := hp; obtain ⟨⟨_, _⟩, _, _⟩ := hr; omega
  obtain ⟨W, hW⟩ : ∃ W, W = ((w.alloc (.cells #[.int .i64 a, .int .i64 b] 54)).alloc (.cells #[.int .i64 c, .int .i64 d] 54)).alloc (.cells #[.int .i64 e, .int .i64 f] 54) := ⟨_, rfl⟩
  have B1 : Blk W w.heap.size 54 #[.int .i64 a, .int .i64 b] := by rw [hW]; exact ((Blk.new _ _ _).alloc _).alloc _
  have B2 : Blk W (w.heap.size + 1) 54 #[.int .i64 c, .int .i64 d] := by rw [hW]; exact Blk.alloc (by simpa using Blk.new (w.alloc (.cells #[.int .i64 a, .int .i64 b] 54)) 54 #[.int .i64 c, .int .i64 d]) _
  have B3 : Blk W (w.heap.size + 2) 54 #[.int .i64 e, .int .i64 f] := by rw [hW]; exact (by simpa using Blk.new ((w.alloc (.cells #[.int .i64 a, .int .i64 b] 54)).alloc (.cells #[.int .i64 c, .int .i64 d] 54)) 54 #[.int .i64 e, .int .i64 f])
  have L1 := later_cells B1.cell B1.lt
  have L2 := later_cells B2.cell B2.lt
  have L3 := later_cells B3.cell B3.lt
  clear B1 B2 B3
  subst hW
  go_enter Try.func85, Try.ntmps85
  go_wp2_with fail
  refine wp_region_later_lit (by kernel_rfl) (by kernel_rfl) ?_
  repeat (any_goals (first | go_big_quiet_step (((first | (go_at_call 69; exact later_call (spec_Minus _ _ _ _ _ hq hp)) | (go_at_call 69; exact later_call (spec_Minus _ _ _ _ _ hr hp)) | (go_at_call 72; exact later_call (spec_Cross _ _ _ _ _ h1 h2)) | (go_at_call 95; exact later_same (spec_Sign _ _))))) | quiet_step (((first | (go_at_call 69; exact later_call (spec_Minus _ _ _ _ _ hq hp)) | (go_at_call 69; exact later_call (spec_Minus _ _ _ _ _ hr hp)) | (go_at_call 72; exact later_call (spec_Cross _ _ _ _ _ h1 h2)) | (go_at_call 95; exact later_same (spec_Sign _ _))))) | (refine wpQuiet_step (fun K hK => ?_); go_simp; split <;> (refine hK _ ?_; clear hK K))))
  all_goals (refine wpQuiet_nil ?_; rintro _ ⟨⟨w2, q2⟩, rfl⟩; try dsimp only)
  all_goals go_wp2_with fail
  go_ret
  exact ⟨rfl, Q.trans (by (repeat (first | assumption | exact Q.refl _ | refine Q.alloc ?_ _ | refine Q.drewN ?_ _ | refine Q.drew ?_))) q2⟩
end Go.Proofs.Ytadljkdjlpmllaa
