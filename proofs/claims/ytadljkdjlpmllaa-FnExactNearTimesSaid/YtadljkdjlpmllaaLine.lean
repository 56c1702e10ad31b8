/- Walks: the lines and the sides of a line, as the program and the reference compute them. -/
import Derived.Test.YtadljkdjlpmllaaTurn
namespace Go.Proofs.Ytadljkdjlpmllaa
open Go.RowKit Go.WideShapes Go.ChangeShapes
def lnB (a b c d : Int) : Bool := ptB a b && ptB c d && !(decide (a = c) && decide (b = d))
theorem pt_of {x y : Int} (h : ptB x y = true) : pt x y := by
  have h := of_decide_eq_true h
  exact ⟨⟨h.1, h.2.1⟩, h.2.2.1, h.2.2.2⟩
theorem lnB_pts {a b c d : Int} (h : lnB a b c d = true) : pt a b ∧ pt c d := by
  unfold lnB at h
  simp only [Bool.and_eq_true] at h
  exact ⟨pt_of h.1.1, pt_of h.1.2⟩
set_option maxHeartbeats 1000000 in
theorem impl_IsSegment (a b c d : Int) (w : World) : Calls Try.prog 56 #[.agg #[.int .i64 a, .int .i64 b, .int .i64 c, .int .i64 d]] w fun e w' => e = .returned (.bool (lnB a b c d)) ∧ Q w w' := by
  have K1 := Lib.hid (impl_IsPoint a b)
  have K2 := Lib.hid (impl_IsPoint c d)
  unfold lnB
  generalize ptB a b = p1 at *
  generalize ptB c d = p2 at *
  cases p1
  · go_enter Try.func56, Try.ntmps56
    go_wp2_with (go_at_call 49; refine (K1.out _).mono ?_; rintro e w1 ⟨rfl, q1⟩; have bx := q1.box)
    go_ret
    exact ⟨rfl, Q.trans (by (repeat (first | assumption | exact Q.refl _ | refine Q.alloc ?_ _ | refine Q.drewN ?_ _ | refine Q.drew ?_))) q1⟩
  · cases p2
    · go_enter Try.func56, Try.ntmps56
      go_wp2_with (first | (have q0 := q1; go_at_call 49; refine (K2.out _).mono ?_; rintro e w2 ⟨rfl, q2⟩; have Q2 := q0.trans q2; have bx2 := Q2.box) | (go_at_call 49; refine (K1.out _).mono ?_; rintro e w1 ⟨rfl, q1⟩; have bx := q1.box))
      go_ret
      exact ⟨rfl, Q.trans ((Q.refl w).alloc _) Q2⟩
    · by_cases h1 : a = c
      · by_cases h2 : b = d
        · subst h1 h2
          go_enter Try.func56, Try.ntmps56
          go_wp2_with (first | (have q0 := q1; go_at_call 49; refine (K2.out _).mono ?_; rintro e w2 ⟨rfl, q2⟩; have Q2 := q0.trans q2; have bx2 := Q2.box) | (go_at_call 49; refine (K1.out _).mono ?_; rintro e w1 ⟨rfl, q1⟩; have bx := q1.box))
          go_ret
          exact ⟨ret_bool (by simp), Q.trans ((Q.refl w).alloc _) Q2⟩
        · subst h1
          have e2 : (b == d) = false := by simpa using h2
          go_enter Try.func56, Try.ntmps56
          go_wp2_with (first | (have q0 := q1; go_at_call 49; refine (K2.out _).mono ?_; rintro e w2 ⟨rfl, q2⟩; have Q2 := q0.trans q2; have bx2 := Q2.box) | (go_at_call 49; refine (K1.out _).mono ?_; rintro e w1 ⟨rfl, q1⟩; have bx := q1.box))
          go_ret
          exact ⟨ret_bool (by simp [h2]), Q.trans ((Q.refl w).alloc _) Q2⟩
      · have e1 : (a == c) = false := by simpa using h1
        go_enter Try.func56, Try.ntmps56
        go_wp2_with (first | (have q0 := q1; go_at_call 49; refine (K2.out _).mono ?_; rintro e w2 ⟨rfl, q2⟩; have Q2 := q0.trans q2; have bx2 := Q2.box) | (go_at_call 49; refine (K1.out _).mono ?_; rintro e w1 ⟨rfl, q1⟩; have bx := q1.box))
        go_ret
        exact ⟨ret_bool (by simp [h1]), Q.trans ((Q.refl w).alloc _) Q2⟩
end Go.Proofs.Ytadljkdjlpmllaa
