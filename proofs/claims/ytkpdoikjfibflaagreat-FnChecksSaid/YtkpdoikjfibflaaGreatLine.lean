/- Walks: the turn of three points, as the program and the reference compute it, for points of the sheet. Walks: the lines and the sides of a line, as the program and the reference compute them. -/
import Derived.Test.YtkpdoikjfibflaaGreatAt
namespace Go.Proofs.YtkpdoikjfibflaaGreat
open Go.RowKit Go.WideShapes Go.ChangeShapes
theorem mul_2M {a b : Int} (ha : -2000000 ≤ a ∧ a ≤ 2000000) (hb : -2000000 ≤ b ∧ b ≤ 2000000) : -4000000000000 ≤ a * b ∧ a * b ≤ 4000000000000 := by
  rcases Int.le_total 0 b with h | h
  · have h1 : a * b ≤ 2000000 * b := Int.mul_le_mul_of_nonneg_right ha.2 h
    have h2 : (-2000000) * b ≤ a * b := Int.mul_le_mul_of_nonneg_right ha.1 h
    omega
  · have h1 : a * (-b) ≤ 2000000 * (-b) := Int.mul_le_mul_of_nonneg_right ha.2 (by omega)
    have h2 : (-2000000) * (-b) ≤ a * (-b) := Int.mul_le_mul_of_nonneg_right ha.1 (by omega)
    have e1 : a * (-b) = -(a * b) := Int.mul_neg a b
    rw [e1] at h1 h2
    omega
def crossV (a b c d e f : Int) : Int := (c - a) * (f - b) - (d - b) * (e - a)
def sgn (n : Int) : Int := if 0 < n then 1 else if n < 0 then -1 else 0
def pt (x y : Int) : Prop := (-1000000 ≤ x ∧ x ≤ 1000000) ∧ (-1000000 ≤ y ∧ y ≤ 1000000)
theorem impl_sign (n : Int) (w : World) : Calls Tryz.prog 158 #[.int .i64 n] w fun e w' => e = .returned (.int .i64 (sgn n)) ∧ w = w' := by
  rcases Int.lt_trichotomy n 0 with h | h | h
  · have HE := Lib.hid (show sgn n = -1 by unfold sgn; rw [if_neg (by omega), if_pos h])
    have HM := Lib.hid h
    go_enter Tryz.func158, Tryz.ntmps158
    go_wp2_with fail
    go_ret
    exact ⟨ret_int (by rw [HE.out]), rfl⟩
  · subst h
    go_enter Tryz.func158, Tryz.ntmps158
    go_wp2_with fail
    go_ret
    exact ⟨ret_int (by simp [sgn]), rfl⟩
  · have HE := Lib.hid (show sgn n = 1 by unfold sgn; rw [if_pos h])
    have HM := Lib.hid h
    go_enter Tryz.func158, Tryz.ntmps158
    go_wp2_with fail
    go_ret
    exact ⟨ret_int (by rw [HE.out]), rfl⟩
theorem spec_Sign (n : Int) (w : World) : Calls Tryz.prog 137 #[.int .i64 n] w fun e w' => e = .returned (.int .i64 (sgn n)) ∧ w = w' := by
  rcases Int.lt_trichotomy n 0 with h | h | h
  · have HE := Lib.hid (show sgn n = -1 by unfold sgn; rw [if_neg (by omega), if_pos h])
    have h0 : ¬ 0 < n := by omega
    go_enter Tryz.func137, Tryz.ntmps137
    go_wp2_with fail
    go_ret
    exact ⟨ret_int HE.out.symm, rfl⟩
  · subst h
    go_enter Tryz.func137, Tryz.ntmps137
    go_wp2_with fail
    go_ret
    exact ⟨ret_int (by simp [sgn]), rfl⟩
  · have HE := Lib.hid (show sgn n = 1 by unfold sgn; rw [if_pos h])
    go_enter Tryz.func137, Tryz.ntmps137
    go_wp2_with fail
    go_ret
    exact ⟨ret_int HE.out.symm, rfl⟩
set_option maxHeartbeats 2000000 in
theorem impl_cross (a b c d e f : Int) (w : World) (hp : pt a b) (hq : pt c d) (hr : pt e f) :
    Calls Tryz.prog 146 #[.agg #[.int .i64 a, .int .i64 b], .agg #[.int .i64 c, .int .i64 d], .agg #[.int .i64 e, .int .i64 f]] w fun r w' => r = .returned (.int .i64 (crossV a b c d e f)) ∧ Q w w' := by
  obtain ⟨h1, h2⟩ := hp
  obtain ⟨h3, h4⟩ := hq
  obtain ⟨h5, h6⟩ := hr
  have m1 := mul_2M (a := c - a) (b := f - b) (by omega) (by omega)
  have m2 := mul_2M (a := d - b) (b := e - a) (by omega) (by omega)
  go_enter Tryz.func146, Tryz.ntmps146
  go_wp2_with fail
  go_ret
  exact ⟨ret_int (by rfl), by (repeat (first | assumption | exact Q.refl _ | refine Q.alloc ?_ _ | refine Q.drewN ?_ _ | refine Q.drew ?_))⟩
theorem spec_Minus (a b c d : Int) (w : World) (hp : pt a b) (hq : pt c d) :
    Calls Tryz.prog 130 #[.agg #[.int .i64 a, .int .i64 b], .agg #[.int .i64 c, .int .i64 d]] w fun r w' => r = .returned (.agg #[.int .i64 (a - c), .int .i64 (b - d)]) ∧ Q w w' := by
  obtain ⟨h1, h2⟩ := hp
  obtain ⟨h3, h4⟩ := hq
  go_enter Tryz.func130, Tryz.ntmps130
  go_wp2_with fail
  exact bodyPost_ret (v := .agg #[.int .i64 (a - c), .int .i64 (b - d)]) (by simp [results, Tryz.results130, go_sem]) rfl ⟨rfl, by (repeat (first | assumption | exact Q.refl _ | refine Q.alloc ?_ _ | refine Q.drewN ?_ _ | refine Q.drew ?_))⟩
theorem spec_Cross (a b c d : Int) (w : World) (hp : (-2000000 ≤ a ∧ a ≤ 2000000) ∧ (-2000000 ≤ b ∧ b ≤ 2000000)) (hq : (-2000000 ≤ c ∧ c ≤ 2000000) ∧ (-2000000 ≤ d ∧ d ≤ 2000000)) :
    Calls Tryz.prog 133 #[.agg #[.int .i64 a, .int .i64 b], .agg #[.int .i64 c, .int .i64 d]] w fun r w' => r = .returned (.int .i64 (a * d - b * c)) ∧ Q w w' := by
  have m1 := mul_2M hp.1 hq.2
  have m2 := mul_2M hp.2 hq.1
  go_enter Tryz.func133, Tryz.ntmps133
  go_wp2_with fail
  go_ret
  exact ⟨ret_int (by rfl), by (repeat (first | assumption | exact Q.refl _ | refine Q.alloc ?_ _ | refine Q.drewN ?_ _ | refine Q.drew ?_))⟩
theorem impl_turn (a b c d e f : Int) (w : World) (hp : pt a b) (hq : pt c d) (hr : pt e f) :
    Calls Tryz.prog 143 #[.agg #[.int .i64 a, .int .i64 b], .agg #[.int .i64 c, .int .i64 d], .agg #[.int .i64 e, .int .i64 f]] w fun r w' => r = .returned (.int .i64 (sgn (crossV a b c d e f))) ∧ Q w w' := by
  go_enter Tryz.func143, Tryz.ntmps143
  go_wp2_with (first | (go_at_call 146; refine (impl_cross _ _ _ _ _ _ _ hp hq hr).mono ?_; rintro r w1 ⟨rfl, q1⟩) | (go_at_call 158; refine (impl_sign _ _).mono ?_; rintro r w' ⟨rfl, rfl⟩))
  go_ret
  exact ⟨rfl, Q.trans (by (repeat (first | assumption | exact Q.refl _ | refine Q.alloc ?_ _ | refine Q.drewN ?_ _ | refine Q.drew ?_))) q1⟩
theorem spec_Turn (a b c d e f : Int) (w : World) (hp : pt a b) (hq : pt c d) (hr : pt e f) :
    Calls Tryz.prog 153 #[.agg #[.int .i64 a, .int .i64 b], .agg #[.int .i64 c, .int .i64 d], .agg #[.int .i64 e, .int .i64 f]] w fun r w' => r = .returned (.int .i64 (sgn (crossV a b c d e f))) ∧ Q w w' := by
  have h1 : (-2000000 ≤ c - a ∧ c - a ≤ 2000000) ∧ (-2000000 ≤ d - b ∧ d - b ≤ 2000000) := by obtain ⟨⟨_, _⟩, _, _⟩ := hp; obtain ⟨⟨_, _⟩, _, _⟩ := hq; omega
  have h2 : (-2000000 ≤ e - a ∧ e - a ≤ 2000000) ∧ (-2000000 ≤ f - b ∧ f - b ≤ 2000000) := by obtain ⟨⟨_, _⟩, _, _⟩ := hp; obtain ⟨⟨_, _⟩, _, _⟩ := hr; omega
  obtain ⟨W, hW⟩ : ∃ W, W = ((w.alloc (.cells #[.int .i64 a, .int .i64 b] 104)).alloc (.cells #[.int .i64 c, .int .i64 d] 104)).alloc (.cells #[.int .i64 e, .int .i64 f] 104) := ⟨_, rfl⟩
  have B1 : Blk W w.heap.size 104 #[.int .i64 a, .int .i64 b] := by rw [hW]; exact ((Blk.new _ _ _).alloc _).alloc _
  have B2 : Blk W (w.heap.size + 1) 104 #[.int .i64 c, .int .i64 d] := by rw [hW]; exact Blk.alloc (by simpa using Blk.new (w.alloc (.cells #[.int .i64 a, .int .i64 b] 104)) 104 #[.int .i64 c, .int .i64 d]) _
  have B3 : Blk W (w.heap.size + 2) 104 #[.int .i64 e, .int .i64 f] := by rw [hW]; exact (by simpa using Blk.new ((w.alloc (.cells #[.int .i64 a, .int .i64 b] 104)).alloc (.cells #[.int .i64 c, .int .i64 d] 104)) 104 #[.int .i64 e, .int .i64 f])
  have L1 := later_cells B1.cell B1.lt
  have L2 := later_cells B2.cell B2.lt
  have L3 := later_cells B3.cell B3.lt
  clear B1 B2 B3
  subst hW
  go_enter Tryz.func153, Tryz.ntmps153
  go_wp2_with fail
  refine wp_region_later_lit (by kernel_rfl) (by kernel_rfl) ?_
  repeat (any_goals (first | go_big_quiet_step (((first | (go_at_call 130; exact later_call (spec_Minus _ _ _ _ _ hq hp)) | (go_at_call 130; exact later_call (spec_Minus _ _ _ _ _ hr hp)) | (go_at_call 133; exact later_call (spec_Cross _ _ _ _ _ h1 h2)) | (go_at_call 137; exact later_same (spec_Sign _ _))))) | quiet_step (((first | (go_at_call 130; exact later_call (spec_Minus _ _ _ _ _ hq hp)) | (go_at_call 130; exact later_call (spec_Minus _ _ _ _ _ hr hp)) | (go_at_call 133; exact later_call (spec_Cross _ _ _ _ _ h1 h2)) | (go_at_call 137; exact later_same (spec_Sign _ _))))) | (refine wpQuiet_step (fun K hK => ?_); go_simp; split <;> (refine hK _ ?_; clear hK K))))
  all_goals (refine wpQuiet_nil ?_; rintro _ ⟨⟨w2, q2⟩, rfl⟩; try dsimp only)
  all_goals go_wp2_with fail
  go_ret
  exact ⟨rfl, Q.trans (by (repeat (first | assumption | exact Q.refl _ | refine Q.alloc ?_ _ | refine Q.drewN ?_ _ | refine Q.drew ?_))) q2⟩
end Go.Proofs.YtkpdoikjfibflaaGreat
namespace Go.Proofs.YtkpdoikjfibflaaGreat
open Go.RowKit Go.WideShapes Go.ChangeShapes
def lnB (a b c d : Int) : Bool := ptB a b && ptB c d && !(decide (a = c) && decide (b = d))
theorem pt_of {x y : Int} (h : ptB x y = true) : pt x y := by
  have h := of_decide_eq_true h
  exact ⟨⟨h.1, h.2.1⟩, h.2.2.1, h.2.2.2⟩
theorem lnB_pts {a b c d : Int} (h : lnB a b c d = true) : pt a b ∧ pt c d := by
  unfold lnB at h
  simp only [Bool.and_eq_true] at h
  exact ⟨pt_of h.1.1, pt_of h.1.2⟩
set_option maxHeartbeats 1000000 in
theorem impl_IsSegment (a b c d : Int) (w : World) : Calls Tryz.prog 87 #[.agg #[.int .i64 a, .int .i64 b, .int .i64 c, .int .i64 d]] w fun e w' => e = .returned (.bool (lnB a b c d)) ∧ Q w w' := by
  have K1 := Lib.hid (impl_IsPoint a b)
  have K2 := Lib.hid (impl_IsPoint c d)
  unfold lnB
  generalize ptB a b = p1 at *
  generalize ptB c d = p2 at *
  cases p1
  · go_enter Tryz.func87, Tryz.ntmps87
    go_wp2_with (go_at_call 66; refine (K1.out _).mono ?_; rintro e w1 ⟨rfl, q1⟩; have bx := q1.box)
    go_ret
    exact ⟨rfl, Q.trans (by (repeat (first | assumption | exact Q.refl _ | refine Q.alloc ?_ _ | refine Q.drewN ?_ _ | refine Q.drew ?_))) q1⟩
  · cases p2
    · go_enter Tryz.func87, Tryz.ntmps87
      go_wp2_with (first | (have q0 := q1; go_at_call 66; refine (K2.out _).mono ?_; rintro e w2 ⟨rfl, q2⟩; have Q2 := q0.trans q2; have bx2 := Q2.box) | (go_at_call 66; refine (K1.out _).mono ?_; rintro e w1 ⟨rfl, q1⟩; have bx := q1.box))
      go_ret
      exact ⟨rfl, Q.trans ((Q.refl w).alloc _) Q2⟩
    · by_cases h1 : a = c
      · by_cases h2 : b = d
        · subst h1 h2
          go_enter Tryz.func87, Tryz.ntmps87
          go_wp2_with (first | (have q0 := q1; go_at_call 66; refine (K2.out _).mono ?_; rintro e w2 ⟨rfl, q2⟩; have Q2 := q0.trans q2; have bx2 := Q2.box) | (go_at_call 66; refine (K1.out _).mono ?_; rintro e w1 ⟨rfl, q1⟩; have bx := q1.box))
          go_ret
          exact ⟨ret_bool (by simp), Q.trans ((Q.refl w).alloc _) Q2⟩
        · subst h1
          have e2 : (b == d) = false := by simpa using h2
          go_enter Tryz.func87, Tryz.ntmps87
          go_wp2_with (first | (have q0 := q1; go_at_call 66; refine (K2.out _).mono ?_; rintro e w2 ⟨rfl, q2⟩; have Q2 := q0.trans q2; have bx2 := Q2.box) | (go_at_call 66; refine (K1.out _).mono ?_; rintro e w1 ⟨rfl, q1⟩; have bx := q1.box))
          go_ret
          exact ⟨ret_bool (by simp [h2]), Q.trans ((Q.refl w).alloc _) Q2⟩
      · have e1 : (a == c) = false := by simpa using h1
        go_enter Tryz.func87, Tryz.ntmps87
        go_wp2_with (first | (have q0 := q1; go_at_call 66; refine (K2.out _).mono ?_; rintro e w2 ⟨rfl, q2⟩; have Q2 := q0.trans q2; have bx2 := Q2.box) | (go_at_call 66; refine (K1.out _).mono ?_; rintro e w1 ⟨rfl, q1⟩; have bx := q1.box))
        go_ret
        exact ⟨ret_bool (by simp [h1]), Q.trans ((Q.refl w).alloc _) Q2⟩
end Go.Proofs.YtkpdoikjfibflaaGreat
