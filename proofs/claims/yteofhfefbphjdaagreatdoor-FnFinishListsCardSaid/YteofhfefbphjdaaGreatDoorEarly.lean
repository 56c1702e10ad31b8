/- Walks: the turn of three points, as the program and the reference compute it, for points of the sheet. Walks: the lines and the sides of a line, as the program and the reference compute them. Walks: whether a track is early, as the program and the reference compute it. Walks: the codes of a start, as the program and the reference compute them. Walks: whether a track is early, with its code, as the reference computes it. Words: slices of tracks; and the walk of the program's areTracks over any such slice. Walks: the program's startCode, and its IsEarly. Walks: the program's IsEarly, for all arguments; and the law's own walk. -/
import Derived.Test.YteofhfefbphjdaaGreatDoorAt
namespace Go.Proofs.YteofhfefbphjdaaGreatDoor
open Go.RowKit Go.WideShapes Go.ChangeShapes
theorem mul_2M {a b : Int} (ha : -2000000 ≤ a ∧ a ≤ 2000000) (hb : -2000000 ≤ b ∧ b ≤ 2000000) : -4000000000000 ≤ a * b ∧ a * b ≤ 4000000000000 := by
  rcases Int.le_total 0 b with h | h
  · have h1 : a * b ≤ 2000000 * b := Int.mul_le_mul_of_nonneg_right ha.2 h
    have h2 : (-2000000) * b ≤ a * b := Int.mul_le_mul_of_nonneg_right ha.1 h
    omega
  · have h1 : a * (-b) ≤ 2000000 * (-b) := Int.mul_le_mul_of_nonneg_right ha.2 (by omega)
    have h2 : (-2000000) * (-b) ≤ a * (-b) := Int.mul_le_mul_of_nonneg_right ha.1 (by omega)
    have e1 : a * (-b) = -(a * b) := Int.mul_neg a b
    rw [e1] at h1 h2
    omega
def crossV (a b c d e f : Int) : Int := (c - a) * (f - b) - (d - b) * (e - a)
def sgn (n : Int) : Int := if 0 < n then 1 else if n < 0 then -1 else 0
def pt (x y : Int) : Prop := (-1000000 ≤ x ∧ x ≤ 1000000) ∧ (-1000000 ≤ y ∧ y ≤ 1000000)
theorem impl_sign (n : Int) (w : World) : Calls Tryz.prog 126 #[.int .i64 n] w fun e w' => e = .returned (.int .i64 (sgn n)) ∧ w = w' := by
  rcases Int.lt_trichotomy n 0 with h | h | h
  · have HE := Lib.hid (show sgn n = -1 by unfold sgn; rw [if_neg (by omega), if_pos h])
    have HM := Lib.hid h
    go_enter Tryz.func126, Tryz.ntmps126
    go_wp2_with fail
    go_ret
    exact ⟨ret_int (by rw [HE.out]), rfl⟩
  · subst h
    go_enter Tryz.func126, Tryz.ntmps126
    go_wp2_with fail
    go_ret
    exact ⟨ret_int (by simp [sgn]), rfl⟩
  · have HE := Lib.hid (show sgn n = 1 by unfold sgn; rw [if_pos h])
    have HM := Lib.hid h
    go_enter Tryz.func126, Tryz.ntmps126
    go_wp2_with fail
    go_ret
    exact ⟨ret_int (by rw [HE.out]), rfl⟩
theorem spec_Sign (n : Int) (w : World) : Calls Tryz.prog 102 #[.int .i64 n] w fun e w' => e = .returned (.int .i64 (sgn n)) ∧ w = w' := by
  rcases Int.lt_trichotomy n 0 with h | h | h
  · have HE := Lib.hid (show sgn n = -1 by unfold sgn; rw [if_neg (by omega), if_pos h])
    have h0 : ¬ 0 < n := by omega
    go_enter Tryz.func102, Tryz.ntmps102
    go_wp2_with fail
    go_ret
    exact ⟨ret_int HE.out.symm, rfl⟩
  · subst h
    go_enter Tryz.func102, Tryz.ntmps102
    go_wp2_with fail
    go_ret
    exact ⟨ret_int (by simp [sgn]), rfl⟩
  · have HE := Lib.hid (show sgn n = 1 by unfold sgn; rw [if_pos h])
    go_enter Tryz.func102, Tryz.ntmps102
    go_wp2_with fail
    go_ret
    exact ⟨ret_int HE.out.symm, rfl⟩
set_option maxHeartbeats 2000000 in
theorem impl_cross (a b c d e f : Int) (w : World) (hp : pt a b) (hq : pt c d) (hr : pt e f) :
    Calls Tryz.prog 127 #[.agg #[.int .i64 a, .int .i64 b], .agg #[.int .i64 c, .int .i64 d], .agg #[.int .i64 e, .int .i64 f]] w fun r w' => r = .returned (.int .i64 (crossV a b c d e f)) ∧ Q w w' := by
  obtain ⟨h1, h2⟩ := hp
  obtain ⟨h3, h4⟩ := hq
  obtain ⟨h5, h6⟩ := hr
  have m1 := mul_2M (a := c - a) (b := f - b) (by omega) (by omega)
  have m2 := mul_2M (a := d - b) (b := e - a) (by omega) (by omega)
  go_enter Tryz.func127, Tryz.ntmps127
  go_wp2_with fail
  go_ret
  exact ⟨ret_int (by rfl), by (repeat (first | assumption | exact Q.refl _ | refine Q.alloc ?_ _ | refine Q.drewN ?_ _ | refine Q.drew ?_))⟩
theorem spec_Minus (a b c d : Int) (w : World) (hp : pt a b) (hq : pt c d) :
    Calls Tryz.prog 41 #[.agg #[.int .i64 a, .int .i64 b], .agg #[.int .i64 c, .int .i64 d]] w fun r w' => r = .returned (.agg #[.int .i64 (a - c), .int .i64 (b - d)]) ∧ Q w w' := by
  obtain ⟨h1, h2⟩ := hp
  obtain ⟨h3, h4⟩ := hq
  go_enter Tryz.func41, Tryz.ntmps41
  go_wp2_with fail
  exact bodyPost_ret (v := .agg #[.int .i64 (a - c), .int .i64 (b - d)]) (by simp [results, Tryz.results41, go_sem]) rfl ⟨rfl, by (repeat (first | assumption | exact Q.refl _ | refine Q.alloc ?_ _ | refine Q.drewN ?_ _ | refine Q.drew ?_))⟩
theorem spec_Cross (a b c d : Int) (w : World) (hp : (-2000000 ≤ a ∧ a ≤ 2000000) ∧ (-2000000 ≤ b ∧ b ≤ 2000000)) (hq : (-2000000 ≤ c ∧ c ≤ 2000000) ∧ (-2000000 ≤ d ∧ d ≤ 2000000)) :
    Calls Tryz.prog 101 #[.agg #[.int .i64 a, .int .i64 b], .agg #[.int .i64 c, .int .i64 d]] w fun r w' => r = .returned (.int .i64 (a * d - b * c)) ∧ Q w w' := by
  have m1 := mul_2M hp.1 hq.2
  have m2 := mul_2M hp.2 hq.1
  go_enter Tryz.func101, Tryz.ntmps101
  go_wp2_with fail
  go_ret
  exact ⟨ret_int (by rfl), by (repeat (first | assumption | exact Q.refl _ | refine Q.alloc ?_ _ | refine Q.drewN ?_ _ | refine Q.drew ?_))⟩
theorem impl_turn (a b c d e f : Int) (w : World) (hp : pt a b) (hq : pt c d) (hr : pt e f) :
    Calls Tryz.prog 111 #[.agg #[.int .i64 a, .int .i64 b], .agg #[.int .i64 c, .int .i64 d], .agg #[.int .i64 e, .int .i64 f]] w fun r w' => r = .returned (.int .i64 (sgn (crossV a b c d e f))) ∧ Q w w' := by
  go_enter Tryz.func111, Tryz.ntmps111
  go_wp2_with (first | (go_at_call 127; refine (impl_cross _ _ _ _ _ _ _ hp hq hr).mono ?_; rintro r w1 ⟨rfl, q1⟩) | (go_at_call 126; refine (impl_sign _ _).mono ?_; rintro r w' ⟨rfl, rfl⟩))
  go_ret
  exact ⟨rfl, Q.trans (by (repeat (first | assumption | exact Q.refl _ | refine Q.alloc ?_ _ | refine Q.drewN ?_ _ | refine Q.drew ?_))) q1⟩
theorem spec_Turn (a b c d e f : Int) (w : World) (hp : pt a b) (hq : pt c d) (hr : pt e f) :
    Calls Tryz.prog 100 #[.agg #[.int .i64 a, .int .i64 b], .agg #[.int .i64 c, .int .i64 d], .agg #[.int .i64 e, .int .i64 f]] w fun r w' => r = .returned (.int .i64 (sgn (crossV a b c d e f))) ∧ Q w w' := by
  have h1 : (-2000000 ≤ c - a ∧ c - a ≤ 2000000) ∧ (-2000000 ≤ d - b ∧ d - b ≤ 2000000) := by obtain ⟨⟨_, _⟩, _, _⟩ := hp; obtain ⟨⟨_, _⟩, _, _⟩ := hq; omega
  have h2 : (-2000000 ≤ e - a ∧ e - a ≤ 2000000) ∧ (-2000000 ≤ f - b ∧ f - b ≤ 2000000) := by obtain ⟨⟨_, _⟩, _, _⟩ := hp; obtain ⟨⟨_, _⟩, _, _⟩ := hr; omega
  obtain ⟨W, hW⟩ : ∃ W, W = ((w.alloc (.cells #[.int .i64 a, .int .i64 b] 25)).alloc (.cells #[.int .i64 c, .int .i64 d] 25)).alloc (.cells #[.int .i64 e, .int .i64 f] 25) := ⟨_, rfl⟩
  have B1 : Blk W w.heap.size 25 #[.int .i64 a, .int .i64 b] := by rw [hW]; exact ((Blk.new _ _ _).alloc _).alloc _
  have B2 : Blk W (w.heap.size + 1) 25 #[.int .i64 c, .int .i64 d] := by rw [hW]; exact Blk.alloc (by simpa using Blk.new (w.alloc (.cells #[.int .i64 a, .int .i64 b] 25)) 25 #[.int .i64 c, .int .i64 d]) _
  have B3 : Blk W (w.heap.size + 2) 25 #[.int .i64 e, .int .i64 f] := by rw [hW]; exact (by simpa using Blk.new ((w.alloc (.cells #[.int .i64 a, .int .i64 b] 25)).alloc (.cells #[.int .i64 c, .int .i64 d] 25)) 25 #[.int .i64 e, .int .i64 f])
  have L1 := later_cells B1.cell B1.lt
  have L2 := later_cells B2.cell B2.lt
  have L3 := later_cells B3.cell B3.lt
  clear B1 B2 B3
  subst hW
  go_enter Tryz.func100, Tryz.ntmps100
  go_wp2_with fail
  refine wp_region_later_lit (by kernel_rfl) (by kernel_rfl) ?_
  repeat (any_goals (first | go_big_quiet_step (((first | (go_at_call 41; exact later_call (spec_Minus _ _ _ _ _ hq hp)) | (go_at_call 41; exact later_call (spec_Minus _ _ _ _ _ hr hp)) | (go_at_call 101; exact later_call (spec_Cross _ _ _ _ _ h1 h2)) | (go_at_call 102; exact later_same (spec_Sign _ _))))) | quiet_step (((first | (go_at_call 41; exact later_call (spec_Minus _ _ _ _ _ hq hp)) | (go_at_call 41; exact later_call (spec_Minus _ _ _ _ _ hr hp)) | (go_at_call 101; exact later_call (spec_Cross _ _ _ _ _ h1 h2)) | (go_at_call 102; exact later_same (spec_Sign _ _))))) | (refine wpQuiet_step (fun K hK => ?_); go_simp; split <;> (refine hK _ ?_; clear hK K))))
  all_goals (refine wpQuiet_nil ?_; rintro _ ⟨⟨w2, q2⟩, rfl⟩; try dsimp only)
  all_goals go_wp2_with fail
  go_ret
  exact ⟨rfl, Q.trans (by (repeat (first | assumption | exact Q.refl _ | refine Q.alloc ?_ _ | refine Q.drewN ?_ _ | refine Q.drew ?_))) q2⟩
end Go.Proofs.YteofhfefbphjdaaGreatDoor
namespace Go.Proofs.YteofhfefbphjdaaGreatDoor
open Go.RowKit Go.WideShapes Go.ChangeShapes
def lnB (a b c d : Int) : Bool := ptB a b && ptB c d && !(decide (a = c) && decide (b = d))
theorem pt_of {x y : Int} (h : ptB x y = true) : pt x y := by
  have h := of_decide_eq_true h
  exact ⟨⟨h.1, h.2.1⟩, h.2.2.1, h.2.2.2⟩
theorem lnB_pts {a b c d : Int} (h : lnB a b c d = true) : pt a b ∧ pt c d := by
  unfold lnB at h
  simp only [Bool.and_eq_true] at h
  exact ⟨pt_of h.1.1, pt_of h.1.2⟩
set_option maxHeartbeats 1000000 in
theorem impl_IsSegment (a b c d : Int) (w : World) : Calls Tryz.prog 76 #[.agg #[.int .i64 a, .int .i64 b, .int .i64 c, .int .i64 d]] w fun e w' => e = .returned (.bool (lnB a b c d)) ∧ Q w w' := by
  have K1 := Lib.hid (impl_IsPoint a b)
  have K2 := Lib.hid (impl_IsPoint c d)
  unfold lnB
  generalize ptB a b = p1 at *
  generalize ptB c d = p2 at *
  cases p1
  · go_enter Tryz.func76, Tryz.ntmps76
    go_wp2_with (go_at_call 78; refine (K1.out _).mono ?_; rintro e w1 ⟨rfl, q1⟩; have bx := q1.box)
    go_ret
    exact ⟨rfl, Q.trans (by (repeat (first | assumption | exact Q.refl _ | refine Q.alloc ?_ _ | refine Q.drewN ?_ _ | refine Q.drew ?_))) q1⟩
  · cases p2
    · go_enter Tryz.func76, Tryz.ntmps76
      go_wp2_with (first | (have q0 := q1; go_at_call 78; refine (K2.out _).mono ?_; rintro e w2 ⟨rfl, q2⟩; have Q2 := q0.trans q2; have bx2 := Q2.box) | (go_at_call 78; refine (K1.out _).mono ?_; rintro e w1 ⟨rfl, q1⟩; have bx := q1.box))
      go_ret
      exact ⟨rfl, Q.trans ((Q.refl w).alloc _) Q2⟩
    · by_cases h1 : a = c
      · by_cases h2 : b = d
        · subst h1 h2
          go_enter Tryz.func76, Tryz.ntmps76
          go_wp2_with (first | (have q0 := q1; go_at_call 78; refine (K2.out _).mono ?_; rintro e w2 ⟨rfl, q2⟩; have Q2 := q0.trans q2; have bx2 := Q2.box) | (go_at_call 78; refine (K1.out _).mono ?_; rintro e w1 ⟨rfl, q1⟩; have bx := q1.box))
          go_ret
          exact ⟨ret_bool (by simp), Q.trans ((Q.refl w).alloc _) Q2⟩
        · subst h1
          have e2 : (b == d) = false := by simpa using h2
          go_enter Tryz.func76, Tryz.ntmps76
          go_wp2_with (first | (have q0 := q1; go_at_call 78; refine (K2.out _).mono ?_; rintro e w2 ⟨rfl, q2⟩; have Q2 := q0.trans q2; have bx2 := Q2.box) | (go_at_call 78; refine (K1.out _).mono ?_; rintro e w1 ⟨rfl, q1⟩; have bx := q1.box))
          go_ret
          exact ⟨ret_bool (by simp [h2]), Q.trans ((Q.refl w).alloc _) Q2⟩
      · have e1 : (a == c) = false := by simpa using h1
        go_enter Tryz.func76, Tryz.ntmps76
        go_wp2_with (first | (have q0 := q1; go_at_call 78; refine (K2.out _).mono ?_; rintro e w2 ⟨rfl, q2⟩; have Q2 := q0.trans q2; have bx2 := Q2.box) | (go_at_call 78; refine (K1.out _).mono ?_; rintro e w1 ⟨rfl, q1⟩; have bx := q1.box))
        go_ret
        exact ⟨ret_bool (by simp [h1]), Q.trans ((Q.refl w).alloc _) Q2⟩
theorem impl_IsLine (a b c d : Int) (w : World) : Calls Tryz.prog 46 #[.agg #[.int .i64 a, .int .i64 b, .int .i64 c, .int .i64 d]] w fun e w' => e = .returned (.bool (lnB a b c d)) ∧ Q w w' := by
  go_enter Tryz.func46, Tryz.ntmps46
  go_wp2_with (go_at_call 76; refine (impl_IsSegment a b c d _).mono ?_; rintro e w1 ⟨rfl, q1⟩)
  go_ret
  exact ⟨rfl, Q.trans (by (repeat (first | assumption | exact Q.refl _ | refine Q.alloc ?_ _ | refine Q.drewN ?_ _ | refine Q.drew ?_))) q1⟩
set_option maxHeartbeats 1000000 in
theorem spec_IsLine (a b c d : Int) (w : World) : Calls Tryz.prog 34 #[.agg #[.int .i64 a, .int .i64 b, .int .i64 c, .int .i64 d]] w fun e w' => e = .returned (.bool (lnB a b c d)) ∧ Q w w' := by
  have K1 := Lib.hid (spec_IsPoint a b)
  have K2 := Lib.hid (spec_IsPoint c d)
  unfold lnB
  generalize ptB a b = p1 at *
  generalize ptB c d = p2 at *
  cases p1
  · go_enter Tryz.func34, Tryz.ntmps34
    go_wp2_with (go_at_call 45; refine (K1.out _).mono ?_; rintro e w1 ⟨rfl, q1⟩; have bx := q1.box)
    go_ret
    exact ⟨rfl, Q.trans (by (repeat (first | assumption | exact Q.refl _ | refine Q.alloc ?_ _ | refine Q.drewN ?_ _ | refine Q.drew ?_))) q1⟩
  · cases p2
    · go_enter Tryz.func34, Tryz.ntmps34
      go_wp2_with (first | (have q0 := q1; go_at_call 45; refine (K2.out _).mono ?_; rintro e w2 ⟨rfl, q2⟩; have Q2 := q0.trans q2; have bx2 := Q2.box) | (go_at_call 45; refine (K1.out _).mono ?_; rintro e w1 ⟨rfl, q1⟩; have bx := q1.box))
      go_ret
      exact ⟨rfl, Q.trans ((Q.refl w).alloc _) Q2⟩
    · by_cases h1 : a = c
      · by_cases h2 : b = d
        · subst h1 h2
          go_enter Tryz.func34, Tryz.ntmps34
          go_wp2_with (first | (have q0 := q1; go_at_call 45; refine (K2.out _).mono ?_; rintro e w2 ⟨rfl, q2⟩; have Q2 := q0.trans q2; have bx2 := Q2.box) | (go_at_call 45; refine (K1.out _).mono ?_; rintro e w1 ⟨rfl, q1⟩; have bx := q1.box))
          go_ret
          exact ⟨ret_bool (by simp), Q.trans ((Q.refl w).alloc _) Q2⟩
        · subst h1
          have e2 : (b == d) = false := by simpa using h2
          go_enter Tryz.func34, Tryz.ntmps34
          go_wp2_with (first | (have q0 := q1; go_at_call 45; refine (K2.out _).mono ?_; rintro e w2 ⟨rfl, q2⟩; have Q2 := q0.trans q2; have bx2 := Q2.box) | (go_at_call 45; refine (K1.out _).mono ?_; rintro e w1 ⟨rfl, q1⟩; have bx := q1.box))
          go_ret
          exact ⟨ret_bool (by simp [h2]), Q.trans ((Q.refl w).alloc _) Q2⟩
      · have e1 : (a == c) = false := by simpa using h1
        go_enter Tryz.func34, Tryz.ntmps34
        go_wp2_with (first | (have q0 := q1; go_at_call 45; refine (K2.out _).mono ?_; rintro e w2 ⟨rfl, q2⟩; have Q2 := q0.trans q2; have bx2 := Q2.box) | (go_at_call 45; refine (K1.out _).mono ?_; rintro e w1 ⟨rfl, q1⟩; have bx := q1.box))
        go_ret
        exact ⟨ret_bool (by simp [h1]), Q.trans ((Q.refl w).alloc _) Q2⟩
theorem impl_sideOf (a b c d e f : Int) (w : World) (hp : pt a b) (hq : pt c d) (hr : pt e f) :
    Calls Tryz.prog 94 #[.agg #[.int .i64 a, .int .i64 b, .int .i64 c, .int .i64 d], .agg #[.int .i64 e, .int .i64 f]] w fun r w' => r = .returned (.int .i64 (sgn (crossV a b c d e f))) ∧ Q w w' := by
  go_enter Tryz.func94, Tryz.ntmps94
  go_wp2_with (go_at_call 111; refine (impl_turn _ _ _ _ _ _ _ hp hq hr).mono ?_; rintro r w1 ⟨rfl, q1⟩)
  go_ret
  exact ⟨rfl, Q.trans (by (repeat (first | assumption | exact Q.refl _ | refine Q.alloc ?_ _ | refine Q.drewN ?_ _ | refine Q.drew ?_))) q1⟩
theorem spec_l04Before (a b c d e f : Int) (w : World) (hp : pt a b) (hq : pt c d) (hr : pt e f) :
    Calls Tryz.prog 108 #[.agg #[.int .i64 a, .int .i64 b, .int .i64 c, .int .i64 d], .agg #[.int .i64 e, .int .i64 f]] w fun r w' => r = .returned (.int .i64 (sgn (crossV a b c d e f))) ∧ Q w w' := by
  go_enter Tryz.func108, Tryz.ntmps108
  go_wp2_with (go_at_call 100; refine (spec_Turn _ _ _ _ _ _ _ hp hq hr).mono ?_; rintro r w1 ⟨rfl, q1⟩)
  go_ret
  exact ⟨rfl, Q.trans (by (repeat (first | assumption | exact Q.refl _ | refine Q.alloc ?_ _ | refine Q.drewN ?_ _ | refine Q.drew ?_))) q1⟩
end Go.Proofs.YteofhfefbphjdaaGreatDoor
namespace Go.Proofs.YteofhfefbphjdaaGreatDoor
open Go.RowKit Go.WideShapes Go.ChangeShapes
theorem posC_in {a b g d : Int} (hg : 0 ≤ g ∧ g ≤ d) (hd : 0 < d) (ha : -1000000 ≤ a ∧ a ≤ 1000000) (hb : -1000000 ≤ b ∧ b ≤ 1000000) : -1000000 ≤ posC a b g d ∧ posC a b g d ≤ 1000000 := by
  unfold posC
  rcases Int.le_total 0 (b - a) with h | h
  · have h1 := posC_bd (a := a) (b := b) (V := b - a) hg hd (by omega)
    have h2 : 0 ≤ (b - a) * g / d := Int.ediv_nonneg (Int.mul_nonneg h hg.1) (by omega)
    omega
  · have h1 := posC_bd (a := a) (b := b) (V := a - b) hg hd (by omega)
    have h2 : (b - a) * g ≤ 0 := Int.mul_nonpos_of_nonpos_of_nonneg h hg.1
    have h3 : (b - a) * g / d ≤ 0 := by
      have := Int.ediv_le_ediv hd h2
      rwa [Int.zero_ediv] at this
    omega
theorem pos_pt {xs : List Int} {n : Nat} {t : Int} (hT : isTrk xs n = true) (hl : lastsB xs n t = true) : pt (atX xs n t) (atY xs n t) := by
  obtain ⟨hk, ht1, ht2⟩ := leg_facts hT hl
  obtain ⟨⟨f1, f2, f3⟩, f4, f5, f6, f7⟩ := trk_two hT hk
  unfold atX atY
  exact ⟨posC_in (by omega) (by omega) f4 f6, posC_in (by omega) (by omega) f5 f7⟩
theorem impl_behindAt (a b c d : Int) (A : Option Addr) (n cc : Nat) (xs : List Int) (t : Int) (w : World) (hp : pt a b) (hq : pt c d) (ha : Rd w A xs) (hn : xs.length = n * 3) (hT : isTrk xs n = true) (hl : lastsB xs n t = true) :
    Calls Tryz.prog 96 #[.agg #[.int .i64 a, .int .i64 b, .int .i64 c, .int .i64 d], .agg #[.slice A n cc], .int .i64 t] w fun e w' => e = .returned (.bool (sgn (crossV a b c d (atX xs n t) (atY xs n t)) == 1)) ∧ Q w w' := by
  have hr := pos_pt hT hl
  have K1 := Lib.hid (fun wv (h : Rd wv A xs) => impl_positionAt A n cc xs t wv h hn hT hl)
  generalize atX xs n t = X at *
  generalize atY xs n t = Y at *
  have K2 := Lib.hid (fun wv => impl_sideOf a b c d X Y wv hp hq hr)
  generalize sgn (crossV a b c d X Y) = S at *
  clear hp hq hr hT hl hn
  obtain ⟨W, hW⟩ : ∃ W, W = (w.alloc (.cells #[.int .i64 a, .int .i64 b, .int .i64 c, .int .i64 d] 27)).alloc (.cells #[.slice A n cc] 43) := ⟨_, rfl⟩
  have B1 : Blk W w.heap.size 27 #[.int .i64 a, .int .i64 b, .int .i64 c, .int .i64 d] := by rw [hW]; exact (Blk.new _ _ _).alloc _
  have B2 : Blk W (w.heap.size + 1) 43 #[.slice A n cc] := by rw [hW]; exact (by simpa using Blk.new (w.alloc (.cells #[.int .i64 a, .int .i64 b, .int .i64 c, .int .i64 d] 27)) 43 #[.slice A n cc])
  have hRW : Rd W A xs := by rw [hW]; exact ha.q (by (repeat (first | assumption | exact Q.refl _ | refine Q.alloc ?_ _ | refine Q.drewN ?_ _ | refine Q.drew ?_)))
  have L1 := later_cells B1.cell B1.lt
  have L2 := later_cells B2.cell B2.lt
  clear B1 B2 ha
  subst hW
  go_enter Tryz.func96, Tryz.ntmps96
  go_wp2_with fail
  refine wp_region_later_lit (by kernel_rfl) (by kernel_rfl) ?_
  repeat (any_goals (first | go_big_quiet_step (((first | (go_at_call 86; exact later_call (K1.out _ (hRW.q (Later.q _)))) | (go_at_call 94; exact later_call (K2.out _))))) | quiet_step (((first | (go_at_call 86; exact later_call (K1.out _ (hRW.q (Later.q _)))) | (go_at_call 94; exact later_call (K2.out _))))) | (refine wpQuiet_step (fun K hK => ?_); go_simp; split <;> (refine hK _ ?_; clear hK K))))
  all_goals (refine wpQuiet_nil ?_; rintro _ ⟨⟨w2, q2⟩, rfl⟩; try dsimp only)
  all_goals go_wp2_with fail
  go_ret
  exact ⟨rfl, Q.trans (by (repeat (first | assumption | exact Q.refl _ | refine Q.alloc ?_ _ | refine Q.drewN ?_ _ | refine Q.drew ?_))) q2⟩
def sideV (a b c d : Int) (xs : List Int) (n : Nat) (t : Int) : Int := if lastsB xs n t = true then sgn (crossV a b c d (atX xs n t) (atY xs n t)) else 0
theorem impl_isEarly (a b c d : Int) (A : Option Addr) (n cc : Nat) (xs : List Int) (t : Int) (w : World) (hp : pt a b) (hq : pt c d) (ha : Rd w A xs) (hn : xs.length = n * 3) (hT : isTrk xs n = true) :
    Calls Tryz.prog 64 #[.agg #[.int .i64 a, .int .i64 b, .int .i64 c, .int .i64 d], .agg #[.slice A n cc], .int .i64 t] w fun e w' => e = .returned (.bool (sideV a b c d xs n t == 1)) ∧ Q w w' := by
  have K1 := (fun wv (h : Rd wv A xs) => impl_lasts A n cc xs t wv h hn hT)
  cases hl : lastsB xs n t
  · rw [hl] at K1
    have K1 := Lib.hid K1
    have HS := Lib.hid (show (sideV a b c d xs n t == 1) = false by simp [sideV, hl])
    clear hl
    go_enter Tryz.func64, Tryz.ntmps64
    go_wp2_with (go_at_call 85; refine (K1.out _ (ha.q (by (repeat (first | assumption | exact Q.refl _ | refine Q.alloc ?_ _ | refine Q.drewN ?_ _ | refine Q.drew ?_))))).mono ?_; rintro e w1 ⟨rfl, q1⟩)
    go_ret
    exact ⟨ret_bool (by rw [HS.out]), Q.trans (by (repeat (first | assumption | exact Q.refl _ | refine Q.alloc ?_ _ | refine Q.drewN ?_ _ | refine Q.drew ?_))) q1⟩
  · rw [hl] at K1
    have K1 := Lib.hid K1
    have K2 := Lib.hid (fun wv (h : Rd wv A xs) => impl_behindAt a b c d A n cc xs t wv hp hq h hn hT hl)
    rw [show sideV a b c d xs n t = sgn (crossV a b c d (atX xs n t) (atY xs n t)) by simp [sideV, hl]]
    generalize (sgn (crossV a b c d (atX xs n t) (atY xs n t)) == 1) = S at *
    clear hl hp hq hn hT
    go_enter Tryz.func64, Tryz.ntmps64
    go_wp2_with (first | (have q0 := q1; go_at_call 96; refine (K2.out _ (ha.q (Q.trans (by (repeat (first | assumption | exact Q.refl _ | refine Q.alloc ?_ _ | refine Q.drewN ?_ _ | refine Q.drew ?_))) q0))).mono ?_; rintro e w2 ⟨rfl, q2⟩; have Q2 := q0.trans q2) | (go_at_call 85; refine (K1.out _ (ha.q (by (repeat (first | assumption | exact Q.refl _ | refine Q.alloc ?_ _ | refine Q.drewN ?_ _ | refine Q.drew ?_))))).mono ?_; rintro e w1 ⟨rfl, q1⟩; have bx := q1.box2; have bx1 : ∀ i, w1.cell? ⟨w.heap.size + 1, i, none⟩ = #[Value.slice A n cc][i]? := (by simpa using q1.box)))
    go_ret
    exact ⟨ret_bool (by simp), Q.trans (by (repeat (first | assumption | exact Q.refl _ | refine Q.alloc ?_ _ | refine Q.drewN ?_ _ | refine Q.drew ?_))) Q2⟩
theorem spec_l14Side (a b c d : Int) (A : Option Addr) (n cc : Nat) (xs : List Int) (t : Int) (w : World) (hp : pt a b) (hq : pt c d) (ha : Rd w A xs) (hn : xs.length = n * 3) (hT : isTrk xs n = true) :
    Calls Tryz.prog 88 #[.agg #[.int .i64 a, .int .i64 b, .int .i64 c, .int .i64 d], .agg #[.slice A n cc], .int .i64 t] w fun e w' => e = .returned (.int .i64 (sideV a b c d xs n t)) ∧ Q w w' := by
  have K1 := (fun wv (h : Rd wv A xs) => spec_l03Lasts A n cc xs t wv h hn hT)
  cases hl : lastsB xs n t
  · rw [hl] at K1
    have K1 := Lib.hid K1
    have HS := Lib.hid (show sideV a b c d xs n t = 0 by simp [sideV, hl])
    clear hl
    go_enter Tryz.func88, Tryz.ntmps88
    go_wp2_with (go_at_call 90; refine (K1.out _ (ha.q (by (repeat (first | assumption | exact Q.refl _ | refine Q.alloc ?_ _ | refine Q.drewN ?_ _ | refine Q.drew ?_))))).mono ?_; rintro e w1 ⟨rfl, q1⟩)
    go_ret
    exact ⟨ret_int (by rw [HS.out]), Q.trans (by (repeat (first | assumption | exact Q.refl _ | refine Q.alloc ?_ _ | refine Q.drewN ?_ _ | refine Q.drew ?_))) q1⟩
  · rw [hl] at K1
    have K1 := Lib.hid K1
    have hr := pos_pt hT hl
    rw [show sideV a b c d xs n t = sgn (crossV a b c d (atX xs n t) (atY xs n t)) by simp [sideV, hl]]
    have K3 := Lib.hid (fun wv (h : Rd wv A xs) => spec_l03At A n cc xs t wv h hn hT hl)
    generalize atX xs n t = X at *
    generalize atY xs n t = Y at *
    have K2 := Lib.hid (fun wv => spec_l04Before a b c d X Y wv hp hq hr)
    generalize sgn (crossV a b c d X Y) = S at *
    clear hp hq hr hT hl hn
    go_enter Tryz.func88, Tryz.ntmps88
    go_wp2_with (go_at_call 90; refine (K1.out _ (ha.q (by (repeat (first | assumption | exact Q.refl _ | refine Q.alloc ?_ _ | refine Q.drewN ?_ _ | refine Q.drew ?_))))).mono ?_; rintro e w1 ⟨rfl, q1⟩; have L1 := later_cells q1.boxB2.cell q1.boxB2.lt; have B2 : Blk w1 (w.heap.size + 1) 43 #[.slice A n cc] := (by simpa using q1.boxB); have L2 := later_cells B2.cell B2.lt; have hRW : Rd w1 A xs := ha.q (Q.trans (by (repeat (first | assumption | exact Q.refl _ | refine Q.alloc ?_ _ | refine Q.drewN ?_ _ | refine Q.drew ?_))) q1))
    refine wp_region_later_lit (by kernel_rfl) (by kernel_rfl) ?_
    repeat (any_goals (first | go_big_quiet_step (((first | (go_at_call 91; exact later_call (K3.out _ (hRW.q (Later.q _)))) | (go_at_call 108; exact later_call (K2.out _))))) | quiet_step (((first | (go_at_call 91; exact later_call (K3.out _ (hRW.q (Later.q _)))) | (go_at_call 108; exact later_call (K2.out _))))) | (refine wpQuiet_step (fun K hK => ?_); go_simp; split <;> (refine hK _ ?_; clear hK K))))
    all_goals (refine wpQuiet_nil ?_; rintro _ ⟨⟨w2, q2⟩, rfl⟩; try dsimp only)
    all_goals go_wp2_with fail
    go_ret
    exact ⟨rfl, Q.trans (Q.trans (by (repeat (first | assumption | exact Q.refl _ | refine Q.alloc ?_ _ | refine Q.drewN ?_ _ | refine Q.drew ?_))) q1) q2⟩
end Go.Proofs.YteofhfefbphjdaaGreatDoor
namespace Go.Proofs.YteofhfefbphjdaaGreatDoor
open Go.RowKit Go.WideShapes Go.ChangeShapes
def stC (a b c d : Int) (xs : List Int) (n : Nat) (t : Int) : Int := if lnB a b c d = true ∧ isTrk xs n = true then (if 0 ≤ t ∧ t ≤ 1000000000 then 0 else 2) else 1
end Go.Proofs.YteofhfefbphjdaaGreatDoor
namespace Go.Proofs.YteofhfefbphjdaaGreatDoor
open Go.RowKit Go.WideShapes Go.ChangeShapes
def earB (a b c d : Int) (xs : List Int) (n : Nat) (t : Int) : Bool := decide (stC a b c d xs n t = 0) && (sideV a b c d xs n t == 1)
theorem stC_0 {a b c d : Int} {xs : List Int} {n : Nat} {t : Int} (h : stC a b c d xs n t = 0) : lnB a b c d = true ∧ isTrk xs n = true := by
  unfold stC at h
  split at h
  · assumption
  · cases h
end Go.Proofs.YteofhfefbphjdaaGreatDoor
namespace Go.Proofs.YteofhfefbphjdaaGreatDoor
open Go.RowKit Go.WideShapes Go.ChangeShapes
/-- A track as it lies in memory: its slice, and the numbers of its fixes. -/
structure Tk where
  A : Option Addr
  n : Nat
  c : Nat
  xs : List Int
def Tk.ok (w : World) (T : Tk) : Prop := Rd w T.A T.xs ∧ T.xs.length = T.n * 3 ∧ T.n ≤ 9223372036854775807
def Tk.trk (T : Tk) : Bool := isTrk T.xs T.n
def RdT (w : World) (A : Option Addr) (ts : List Tk) : Prop := ∃ b o, (0 < ts.length → A = some ⟨b, o, none⟩) ∧ ∀ j (h : j < ts.length), w.cell? ⟨b, o + j, none⟩ = some (.slice ts[j].A ts[j].n ts[j].c) ∧ ts[j].ok w
theorem RdT.q {w w' : World} {A : Option Addr} {ts : List Tk} (h : RdT w A ts) (hq : Q w w') : RdT w' A ts := by
  obtain ⟨b, o, hA, hc⟩ := h
  exact ⟨b, o, hA, fun j hj => ⟨hq.cell (hc j hj).1, (hc j hj).2.1.q hq, (hc j hj).2.2⟩⟩
theorem RdT.at_ {w : World} {A : Option Addr} {ts : List Tk} {m k : Nat} (h : RdT w A ts) (hm : ts.length = m) (hk : k < m) : ∃ b o T, A = some ⟨b, o, none⟩ ∧ ts[k]? = some T ∧ w.cell? ⟨b, o + k, none⟩ = some (.slice T.A T.n T.c) ∧ T.ok w := by
  subst hm
  obtain ⟨b, o, hA, hc⟩ := h
  exact ⟨b, o, ts[k], hA (by omega), List.getElem?_eq_getElem hk, (hc k hk).1, (hc k hk).2⟩
theorem all_take {ts : List Tk} {k : Nat} {T : Tk} (h : ts[k]? = some T) : (ts.take (k + 1)).all Tk.trk = ((ts.take k).all Tk.trk && T.trk) := by
  rw [List.take_add_one, h, List.all_append]
  simp
theorem all_no {ts : List Tk} {k : Nat} {T : Tk} (h : ts[k]? = some T) (hT : T.trk = false) : ts.all Tk.trk = false := by
  rw [List.all_eq_false]
  exact ⟨T, List.mem_of_getElem? h, by simp [hT]⟩
set_option maxHeartbeats 1000000 in
theorem impl_areTracks (A : Option Addr) (m c : Nat) (ts : List Tk) (w : World) (ha : RdT w A ts) (hm : ts.length = m) (hm2 : m ≤ 9223372036854775807) :
    Calls Tryz.prog 51 #[.slice A m c] w fun e w' => e = .returned (.bool (ts.all Tk.trk)) ∧ Q w w' := by
  have HM := Lib.hid hm
  go_enter Tryz.func51, Tryz.ntmps51
  go_wp2_with fail
  go_loopw [7] (fun i wr => ∃ k : Nat, k ≤ m ∧ i = .int .i64 k ∧ Hid ((ts.take k).all Tk.trk = true) ∧ Q w wr) (fun i _ => m - (intOf i).toNat)
  case atStart => exact ⟨0, Nat.zero_le _, rfl, Lib.hid rfl, Q.refl _⟩
  case round =>
    obtain ⟨k, hk, rfl, HT, hq⟩ := hrel
    by_cases hlt : k < m
    · have hltI : (k : Int) < (m : Int) := by omega
      obtain ⟨b, o, T, rfl, hT, g0, hok⟩ := (ha.q hq).at_ HM.out hlt
      have K1 := (fun wv (h : Rd wv T.A T.xs) => impl_IsTrack T.A T.n T.c T.xs wv h hok.2.1 hok.2.2)
      have hR := hok.1
      obtain ⟨B, hB⟩ : ∃ B, B = T.trk := ⟨_, rfl⟩
      rw [show isTrk T.xs T.n = B from hB.symm] at K1
      have K1 := Lib.hid K1
      have HB := Lib.hid hB
      have HX := Lib.hid hT
      clear hB hT hok hm
      cases B
      · go_wp2_with (go_at_call 82; refine (K1.out _ (hR.q (by (repeat (first | assumption | exact Q.refl _ | refine Q.alloc ?_ _ | refine Q.drewN ?_ _ | refine Q.drew ?_))))).mono ?_; rintro e w1 ⟨rfl, q1⟩)
        go_ret
        exact ⟨ret_bool (by rw [all_no HX.out HB.out.symm]), hq.trans (Q.trans (by (repeat (first | assumption | exact Q.refl _ | refine Q.alloc ?_ _ | refine Q.drewN ?_ _ | refine Q.drew ?_))) q1)⟩
      · go_wp2_with (go_at_call 82; refine (K1.out _ (hR.q (by (repeat (first | assumption | exact Q.refl _ | refine Q.alloc ?_ _ | refine Q.drewN ?_ _ | refine Q.drew ?_))))).mono ?_; rintro e w1 ⟨rfl, q1⟩)
        go_roundw
        case rel => exact ⟨k + 1, by omega, by go_num, Lib.hid (by rw [all_take HX.out, HT.out, ← HB.out]; rfl), hq.trans (Q.trans (by (repeat (first | assumption | exact Q.refl _ | refine Q.alloc ?_ _ | refine Q.drewN ?_ _ | refine Q.drew ?_))) q1)⟩
        case measure => simp [intOf]; omega
    · obtain rfl : k = m := by omega
      go_wp2_with fail
      go_ret
      exact ⟨ret_bool (by have := HT.out; rw [List.take_of_length_le (by rw [HM.out]; omega)] at this; exact this.symm), hq⟩
end Go.Proofs.YteofhfefbphjdaaGreatDoor
namespace Go.Proofs.YteofhfefbphjdaaGreatDoor
open Go.RowKit Go.WideShapes Go.ChangeShapes
theorem impl_isFlag (n : Int) (w : World) : Calls Tryz.prog 53 #[.int .i64 n] w fun e w' => e = .returned (.bool (inR n 0 3)) ∧ w = w' := by
  have K := Lib.hid (fun wv => impl_inR n 0 3 wv)
  generalize inR n 0 3 = B at *
  go_enter Tryz.func53, Tryz.ntmps53
  go_wp2_with (go_at_call 29; refine (K.out _).mono ?_; rintro e w' ⟨rfl, rfl⟩)
  go_ret
  exact ⟨rfl, rfl⟩
def scC (a b c d : Int) (ts : List Tk) (t fl : Int) : Int := if lnB a b c d = true ∧ ts.all Tk.trk = true then (if inR t 0 1000000000 = true ∧ inR fl 0 3 = true then 0 else 2) else 1
set_option maxHeartbeats 2000000 in
theorem impl_startCode (a b c d : Int) (A : Option Addr) (m cc : Nat) (ts : List Tk) (t fl : Int) (w : World) (ha : RdT w A ts) (hm : ts.length = m) (hm2 : m ≤ 9223372036854775807) :
    Calls Tryz.prog 21 #[.agg #[.int .i64 a, .int .i64 b, .int .i64 c, .int .i64 d], .slice A m cc, .int .i64 t, .int .i64 fl] w fun e w' => e = .returned (.int .i64 (scC a b c d ts t fl)) ∧ Q w w' := by
  have K1 := (fun wv => impl_IsLine a b c d wv)
  have K2 := (fun wv (h : RdT wv A ts) => impl_areTracks A m cc ts wv h hm hm2)
  have K3 := (fun wv => (show Calls Tryz.prog 52 #[.int .i64 t] wv fun e w' => e = .returned (.bool (inR t 0 1000000000)) ∧ wv = w' from impl_isTime t wv))
  have K4 := (fun wv => impl_isFlag fl wv)
  have HS := Lib.hid (show scC a b c d ts t fl = if lnB a b c d = true ∧ ts.all Tk.trk = true then (if inR t 0 1000000000 = true ∧ inR fl 0 3 = true then 0 else 2) else 1 from rfl)
  generalize scC a b c d ts t fl = C at *
  generalize lnB a b c d = p1 at *
  generalize ts.all Tk.trk = p2 at *
  generalize inR t 0 1000000000 = p3 at *
  generalize inR fl 0 3 = p4 at *
  cases p1 <;> cases p2 <;> cases p3 <;> cases p4
  all_goals (have K1 := Lib.hid K1; have K2 := Lib.hid K2; have K3 := Lib.hid K3; have K4 := Lib.hid K4)
  all_goals go_enter Tryz.func21, Tryz.ntmps21
  all_goals go_wp2_with (first | (have q0 := q1; go_at_call 51; refine (K2.out _ (ha.q (Q.trans (by (repeat (first | assumption | exact Q.refl _ | refine Q.alloc ?_ _ | refine Q.drewN ?_ _ | refine Q.drew ?_))) q0))).mono ?_; rintro e w2 ⟨rfl, q2⟩) | (go_at_call 52; refine (K3.out _).mono ?_; rintro e w' ⟨rfl, rfl⟩) | (go_at_call 53; refine (K4.out _).mono ?_; rintro e w' ⟨rfl, rfl⟩) | (go_at_call 46; refine (K1.out _).mono ?_; rintro e w1 ⟨rfl, q1⟩))
  all_goals go_ret
  all_goals first
    | exact ⟨ret_int (by rw [HS.out]; simp), Q.trans (Q.trans (by (repeat (first | assumption | exact Q.refl _ | refine Q.alloc ?_ _ | refine Q.drewN ?_ _ | refine Q.drew ?_))) q1) q2⟩
    | exact ⟨ret_int (by rw [HS.out]; simp), Q.trans (by (repeat (first | assumption | exact Q.refl _ | refine Q.alloc ?_ _ | refine Q.drewN ?_ _ | refine Q.drew ?_))) q1⟩
end Go.Proofs.YteofhfefbphjdaaGreatDoor
namespace Go.Proofs.YteofhfefbphjdaaGreatDoor
open Go.RowKit Go.WideShapes Go.ChangeShapes
theorem scC_one (a b c d : Int) (A : Option Addr) (n cc : Nat) (xs : List Int) (t : Int) : scC a b c d [⟨A, n, cc, xs⟩] t 0 = stC a b c d xs n t := by
  simp [scC, stC, inR, Tk.trk]
theorem rdT_one {w : World} {A : Option Addr} {n cc : Nat} {xs : List Int} (T : TypeId) (ha : Rd w A xs) (hn : xs.length = n * 3) (hn2 : n ≤ 9223372036854775807) : RdT (w.alloc (.cells #[.slice A n cc] T)) (some ⟨w.heap.size, 0, none⟩) [⟨A, n, cc, xs⟩] := by
  refine ⟨_, _, fun _ => rfl, fun j hj => ?_⟩
  obtain rfl : j = 0 := by simp at hj; omega
  exact ⟨(Blk.new w T #[.slice A n cc]).cell 0, ha.q ((Q.refl w).alloc _), hn, hn2⟩
end Go.Proofs.YteofhfefbphjdaaGreatDoor
