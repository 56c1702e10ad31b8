/- Walks: squares of distances, points on a segment, segments that meet, as the reference tells them. No condition. -/
import Derived.Test.YtadljkdjlpmllaaNrQ
import Derived.Test.YtadljkdjlpmllaaRoot
namespace Go.Proofs.Ytadljkdjlpmllaa
open Go.RowKit Go.WideShapes Go.ChangeShapes
theorem pt_diff {a b c d : Int} (hp : pt a b) (hq : pt c d) : (-2000000 ≤ a - c ∧ a - c ≤ 2000000) ∧ (-2000000 ≤ b - d ∧ b - d ≤ 2000000) := by
  obtain ⟨⟨_, _⟩, _, _⟩ := hp
  obtain ⟨⟨_, _⟩, _, _⟩ := hq
  omega
theorem spec_DotV (a b c d : Int) (w : World) (h1 : (-2000000 ≤ a ∧ a ≤ 2000000) ∧ (-2000000 ≤ b ∧ b ≤ 2000000)) (h2 : (-2000000 ≤ c ∧ c ≤ 2000000) ∧ (-2000000 ≤ d ∧ d ≤ 2000000)) :
    Calls Try.prog 70 #[.agg #[.int .i64 a, .int .i64 b], .agg #[.int .i64 c, .int .i64 d]] w fun e w' => e = .returned (.int .i64 (a * c + b * d)) ∧ Q w w' := by
  have m1 := mul_2M h1.1 h2.1
  have m2 := mul_2M h1.2 h2.2
  go_enter Try.func70, Try.ntmps70
  go_wp2_with fail
  go_ret
  exact ⟨ret_int (by rfl), by (repeat (first | assumption | exact Q.refl _ | refine Q.alloc ?_ _ | refine Q.drewN ?_ _ | refine Q.drew ?_))⟩
theorem bx2 (w : World) (a b c d : Int) : Blk ((w.alloc (.cells #[.int .i64 a, .int .i64 b] 54)).alloc (.cells #[.int .i64 c, .int .i64 d] 54)) w.heap.size 54 #[.int .i64 a, .int .i64 b] ∧ Blk ((w.alloc (.cells #[.int .i64 a, .int .i64 b] 54)).alloc (.cells #[.int .i64 c, .int .i64 d] 54)) (w.heap.size + 1) 54 #[.int .i64 c, .int .i64 d] :=
  ⟨(Blk.new _ _ _).alloc _, by simpa using Blk.new (w.alloc (.cells #[.int .i64 a, .int .i64 b] 54)) 54 #[.int .i64 c, .int .i64 d]⟩
theorem spec_Square (a b c d : Int) (w : World) (hp : pt a b) (hq : pt c d) :
    Calls Try.prog 68 #[.agg #[.int .i64 a, .int .i64 b], .agg #[.int .i64 c, .int .i64 d]] w fun e w' => e = .returned (.int .i64 (sqD a b c d)) ∧ Q w w' := by
  have h1 := pt_diff hp hq
  obtain ⟨B1, B2⟩ := bx2 w a b c d
  have L1 := later_cells B1.cell B1.lt
  have L2 := later_cells B2.cell B2.lt
  clear B1 B2
  go_enter Try.func68, Try.ntmps68
  go_wp2_with fail
  refine wp_region_later_lit (by kernel_rfl) (by kernel_rfl) ?_
  repeat (any_goals (first | go_big_quiet_step (((first | (go_at_call 69; exact later_call (spec_Minus _ _ _ _ _ hp hq)) | (go_at_call 70; exact later_call (spec_DotV _ _ _ _ _ h1 h1))))) | quiet_step (((first | (go_at_call 69; exact later_call (spec_Minus _ _ _ _ _ hp hq)) | (go_at_call 70; exact later_call (spec_DotV _ _ _ _ _ h1 h1))))) | (refine wpQuiet_step (fun K hK => ?_); go_simp; split <;> (refine hK _ ?_; clear hK K))))
  all_goals (refine wpQuiet_nil ?_; rintro _ ⟨⟨w2, q2⟩, rfl⟩; try dsimp only)
  all_goals go_wp2_with fail
  go_ret
  exact ⟨rfl, Q.trans (by (repeat (first | assumption | exact Q.refl _ | refine Q.alloc ?_ _ | refine Q.drewN ?_ _ | refine Q.drew ?_))) q2⟩
theorem bx42 (w : World) (a b c d e f : Int) : Blk ((w.alloc (.cells #[.int .i64 a, .int .i64 b, .int .i64 c, .int .i64 d] 76)).alloc (.cells #[.int .i64 e, .int .i64 f] 54)) w.heap.size 76 #[.int .i64 a, .int .i64 b, .int .i64 c, .int .i64 d] ∧ Blk ((w.alloc (.cells #[.int .i64 a, .int .i64 b, .int .i64 c, .int .i64 d] 76)).alloc (.cells #[.int .i64 e, .int .i64 f] 54)) (w.heap.size + 1) 54 #[.int .i64 e, .int .i64 f] :=
  ⟨(Blk.new _ _ _).alloc _, by simpa using Blk.new (w.alloc (.cells #[.int .i64 a, .int .i64 b, .int .i64 c, .int .i64 d] 76)) 54 #[.int .i64 e, .int .i64 f]⟩
theorem bx44 (w : World) (a b c d e f g h : Int) : Blk ((w.alloc (.cells #[.int .i64 a, .int .i64 b, .int .i64 c, .int .i64 d] 76)).alloc (.cells #[.int .i64 e, .int .i64 f, .int .i64 g, .int .i64 h] 76)) w.heap.size 76 #[.int .i64 a, .int .i64 b, .int .i64 c, .int .i64 d] ∧ Blk ((w.alloc (.cells #[.int .i64 a, .int .i64 b, .int .i64 c, .int .i64 d] 76)).alloc (.cells #[.int .i64 e, .int .i64 f, .int .i64 g, .int .i64 h] 76)) (w.heap.size + 1) 76 #[.int .i64 e, .int .i64 f, .int .i64 g, .int .i64 h] :=
  ⟨(Blk.new _ _ _).alloc _, by simpa using Blk.new (w.alloc (.cells #[.int .i64 a, .int .i64 b, .int .i64 c, .int .i64 d] 76)) 76 #[.int .i64 e, .int .i64 f, .int .i64 g, .int .i64 h]⟩
/-- A point on a segment. -/
theorem spec_l02On (a b c d e f : Int) (w : World) (hp : pt a b) (hq : pt c d) (hr : pt e f) :
    Calls Try.prog 67 #[.agg #[.int .i64 a, .int .i64 b, .int .i64 c, .int .i64 d], .agg #[.int .i64 e, .int .i64 f]] w fun r w' => r = .returned (.bool (onS a b c d e f)) ∧ Q w w' := by
  have h1 := pt_diff hr hp
  have h2 := pt_diff hr hq
  have KT := Lib.hid (fun wv => spec_Turn a b c d e f wv hp hq hr)
  have HO := Lib.hid (show onS a b c d e f = ((sgn (crossV a b c d e f) == 0) && decide ((e - a) * (e - c) + (f - b) * (f - d) ≤ 0)) from rfl)
  generalize onS a b c d e f = O at *
  generalize sgn (crossV a b c d e f) = S at *
  obtain ⟨B1, B2⟩ := bx42 w a b c d e f
  have L1 := later_cells B1.cell B1.lt
  have L2 := later_cells B2.cell B2.lt
  clear B1 B2
  by_cases hS : S = 0
  · subst hS
    go_enter Try.func67, Try.ntmps67
    go_wp2_with fail
    refine wp_region_later_lit (by kernel_rfl) (by kernel_rfl) ?_
    repeat (any_goals (first | go_big_quiet_step (((first | (go_at_call 85; exact later_call (KT.out _)) | (go_at_call 69; exact later_call (spec_Minus _ _ _ _ _ hr hp)) | (go_at_call 69; exact later_call (spec_Minus _ _ _ _ _ hr hq)) | (go_at_call 70; exact later_call (spec_DotV _ _ _ _ _ h1 h2))))) | quiet_step (((first | (go_at_call 85; exact later_call (KT.out _)) | (go_at_call 69; exact later_call (spec_Minus _ _ _ _ _ hr hp)) | (go_at_call 69; exact later_call (spec_Minus _ _ _ _ _ hr hq)) | (go_at_call 70; exact later_call (spec_DotV _ _ _ _ _ h1 h2))))) | (refine wpQuiet_step (fun K hK => ?_); go_simp; split <;> (refine hK _ ?_; clear hK K))))
    all_goals (refine wpQuiet_nil ?_; rintro _ ⟨⟨w2, q2⟩, rfl⟩; try dsimp only)
    all_goals go_wp2_with fail
    go_ret
    exact ⟨by rw [HO.out]; simp, Q.trans (by (repeat (first | assumption | exact Q.refl _ | refine Q.alloc ?_ _ | refine Q.drewN ?_ _ | refine Q.drew ?_))) q2⟩
  · have hSb : (S == 0) = false := by simpa using hS
    go_enter Try.func67, Try.ntmps67
    go_wp2_with fail
    refine wp_region_later_lit (by kernel_rfl) (by kernel_rfl) ?_
    repeat (any_goals (first | go_big_quiet_step (((go_at_call 85; exact later_call (KT.out _)))) | quiet_step (((go_at_call 85; exact later_call (KT.out _)))) | (refine wpQuiet_step (fun K hK => ?_); go_simp; split <;> (refine hK _ ?_; clear hK K))))
    all_goals (refine wpQuiet_nil ?_; rintro _ ⟨⟨w2, q2⟩, rfl⟩; try dsimp only)
    all_goals go_wp2_with fail
    go_ret
    exact ⟨by rw [HO.out, hSb]; rfl, Q.trans (by (repeat (first | assumption | exact Q.refl _ | refine Q.alloc ?_ _ | refine Q.drewN ?_ _ | refine Q.drew ?_))) q2⟩
theorem sgn_bd (n : Int) : -1 ≤ sgn n ∧ sgn n ≤ 1 := by unfold sgn; split <;> (try split) <;> omega
theorem sgn2_bd (m n : Int) : -1 ≤ sgn m * sgn n ∧ sgn m * sgn n ≤ 1 := by
  have h1 := sgn_bd m
  have h2 := sgn_bd n
  generalize sgn m = x at *
  generalize sgn n = y at *
  have hx : x = -1 ∨ x = 0 ∨ x = 1 := by omega
  rcases hx with rfl | rfl | rfl <;> omega
def crossB (a b c d e f g h : Int) : Bool := decide (sgn (crossV a b c d e f) * sgn (crossV a b c d g h) < 0) && decide (sgn (crossV e f g h a b) * sgn (crossV e f g h c d) < 0)
/-- Two segments cross. -/
theorem spec_l02Cross (a b c d e f g h : Int) (w : World) (hp : pt a b) (hq : pt c d) (hr : pt e f) (hs : pt g h) :
    Calls Try.prog 66 #[.agg #[.int .i64 a, .int .i64 b, .int .i64 c, .int .i64 d], .agg #[.int .i64 e, .int .i64 f, .int .i64 g, .int .i64 h]] w fun r w' => r = .returned (.bool (crossB a b c d e f g h)) ∧ Q w w' := by
  have m1 := sgn2_bd (crossV a b c d e f) (crossV a b c d g h)
  have m2 := sgn2_bd (crossV e f g h a b) (crossV e f g h c d)
  have K1 := Lib.hid (fun wv => spec_Turn a b c d e f wv hp hq hr)
  have K2 := Lib.hid (fun wv => spec_Turn a b c d g h wv hp hq hs)
  have K3 := Lib.hid (fun wv => spec_Turn e f g h a b wv hr hs hp)
  have K4 := Lib.hid (fun wv => spec_Turn e f g h c d wv hr hs hq)
  have HO := Lib.hid (show crossB a b c d e f g h = (decide (sgn (crossV a b c d e f) * sgn (crossV a b c d g h) < 0) && decide (sgn (crossV e f g h a b) * sgn (crossV e f g h c d) < 0)) from rfl)
  generalize crossB a b c d e f g h = O at *
  generalize sgn (crossV a b c d e f) = S1 at *
  generalize sgn (crossV a b c d g h) = S2 at *
  generalize sgn (crossV e f g h a b) = S3 at *
  generalize sgn (crossV e f g h c d) = S4 at *
  obtain ⟨B1, B2⟩ := bx44 w a b c d e f g h
  have L1 := later_cells B1.cell B1.lt
  have L2 := later_cells B2.cell B2.lt
  clear B1 B2 hp hq hr hs
  by_cases hc : S1 * S2 < 0
  · go_enter Try.func66, Try.ntmps66
    go_wp2_with fail
    refine wp_region_later_lit (by kernel_rfl) (by kernel_rfl) ?_
    repeat (any_goals (first | go_big_quiet_step (((first | (go_at_call 85; first | with_reducible exact later_call (K1.out _) | with_reducible exact later_call (K2.out _) | with_reducible exact later_call (K3.out _) | with_reducible exact later_call (K4.out _))))) | quiet_step (((first | (go_at_call 85; first | with_reducible exact later_call (K1.out _) | with_reducible exact later_call (K2.out _) | with_reducible exact later_call (K3.out _) | with_reducible exact later_call (K4.out _))))) | (refine wpQuiet_step (fun K hK => ?_); go_simp; split <;> (refine hK _ ?_; clear hK K))))
    all_goals (refine wpQuiet_nil ?_; rintro _ ⟨⟨w2, q2⟩, rfl⟩; try dsimp only)
    all_goals go_wp2_with fail
    go_ret
    exact ⟨by rw [HO.out, decide_eq_true hc]; rfl, Q.trans (by (repeat (first | assumption | exact Q.refl _ | refine Q.alloc ?_ _ | refine Q.drewN ?_ _ | refine Q.drew ?_))) q2⟩
  · have hcb : decide (S1 * S2 < 0) = false := by simpa using hc
    go_enter Try.func66, Try.ntmps66
    go_wp2_with fail
    refine wp_region_later_lit (by kernel_rfl) (by kernel_rfl) ?_
    repeat (any_goals (first | go_big_quiet_step (((first | (go_at_call 85; first | with_reducible exact later_call (K1.out _) | with_reducible exact later_call (K2.out _))))) | quiet_step (((first | (go_at_call 85; first | with_reducible exact later_call (K1.out _) | with_reducible exact later_call (K2.out _))))) | (refine wpQuiet_step (fun K hK => ?_); go_simp; split <;> (refine hK _ ?_; clear hK K))))
    all_goals (refine wpQuiet_nil ?_; rintro _ ⟨⟨w2, q2⟩, rfl⟩; try dsimp only)
    all_goals go_wp2_with fail
    go_ret
    exact ⟨by rw [HO.out, hcb]; rfl, Q.trans (by (repeat (first | assumption | exact Q.refl _ | refine Q.alloc ?_ _ | refine Q.drewN ?_ _ | refine Q.drew ?_))) q2⟩
/-- Two segments have a common point. -/
theorem spec_l02Meet (a b c d e f g h : Int) (w : World) (hp : pt a b) (hq : pt c d) (hr : pt e f) (hs : pt g h) :
    Calls Try.prog 45 #[.agg #[.int .i64 a, .int .i64 b, .int .i64 c, .int .i64 d], .agg #[.int .i64 e, .int .i64 f, .int .i64 g, .int .i64 h]] w fun r w' => r = .returned (.bool (meetV a b c d e f g h)) ∧ Q w w' := by
  have K0 := Lib.hid (fun wv => spec_l02Cross a b c d e f g h wv hp hq hr hs)
  have K1 := Lib.hid (fun wv => spec_l02On a b c d e f wv hp hq hr)
  have K2 := Lib.hid (fun wv => spec_l02On a b c d g h wv hp hq hs)
  have K3 := Lib.hid (fun wv => spec_l02On e f g h a b wv hr hs hp)
  have K4 := Lib.hid (fun wv => spec_l02On e f g h c d wv hr hs hq)
  have HO := Lib.hid (show meetV a b c d e f g h = (crossB a b c d e f g h || onS a b c d e f || onS a b c d g h || onS e f g h a b || onS e f g h c d) from rfl)
  generalize meetV a b c d e f g h = O at *
  generalize crossB a b c d e f g h = X at *
  generalize onS a b c d e f = O1 at *
  generalize onS a b c d g h = O2 at *
  generalize onS e f g h a b = O3 at *
  generalize onS e f g h c d = O4 at *
  obtain ⟨B1, B2⟩ := bx44 w a b c d e f g h
  have Q0 : Q w ((w.alloc (.cells #[.int .i64 a, .int .i64 b, .int .i64 c, .int .i64 d] 76)).alloc (.cells #[.int .i64 e, .int .i64 f, .int .i64 g, .int .i64 h] 76)) := by (repeat (first | assumption | exact Q.refl _ | refine Q.alloc ?_ _ | refine Q.drewN ?_ _ | refine Q.drew ?_))
  clear hp hq hr hs
  go_enter Try.func45, Try.ntmps45
  go_wp2_with fail
  refine (K0.out _).mono ?_
  rintro e1 w1 ⟨rfl, q1⟩
  replace B1 := B1.q q1
  replace B2 := B2.q q1
  replace Q0 := Q0.trans q1
  clear q1
  have c1 := B1.cell
  have c2 := B2.cell
  have l1 := B1.lt
  have l2 := B2.lt
  cases X with
  | true =>
    go_wp2_with fail
    go_ret
    exact ⟨by rw [HO.out]; simp, Q0⟩
  | false =>
    go_wp2_with fail
    clear c1 c2 l1 l2
    refine (K1.out _).mono ?_
    rintro e1 w1 ⟨rfl, q1⟩
    replace B1 := B1.q q1
    replace B2 := B2.q q1
    replace Q0 := Q0.trans q1
    clear q1
    have c1 := B1.cell
    have c2 := B2.cell
    have l1 := B1.lt
    have l2 := B2.lt
    cases O1 with
    | true =>
      go_wp2_with fail
      go_ret
      exact ⟨by rw [HO.out]; simp, Q0⟩
    | false =>
      go_wp2_with fail
      clear c1 c2 l1 l2
      refine (K2.out _).mono ?_
      rintro e1 w1 ⟨rfl, q1⟩
      replace B1 := B1.q q1
      replace B2 := B2.q q1
      replace Q0 := Q0.trans q1
      clear q1
      have c1 := B1.cell
      have c2 := B2.cell
      have l1 := B1.lt
      have l2 := B2.lt
      cases O2 with
      | true =>
        go_wp2_with fail
        go_ret
        exact ⟨by rw [HO.out]; simp, Q0⟩
      | false =>
        go_wp2_with fail
        clear c1 c2 l1 l2
        refine (K3.out _).mono ?_
        rintro e1 w1 ⟨rfl, q1⟩
        replace B1 := B1.q q1
        replace B2 := B2.q q1
        replace Q0 := Q0.trans q1
        clear q1
        have c1 := B1.cell
        have c2 := B2.cell
        have l1 := B1.lt
        have l2 := B2.lt
        cases O3 with
        | true =>
          go_wp2_with fail
          go_ret
          exact ⟨by rw [HO.out]; simp, Q0⟩
        | false =>
          go_wp2_with fail
          clear c1 c2 l1 l2
          refine (K4.out _).mono ?_
          rintro e1 w1 ⟨rfl, q1⟩
          replace B1 := B1.q q1
          replace B2 := B2.q q1
          replace Q0 := Q0.trans q1
          clear q1
          go_wp2_with fail
          go_ret
          exact ⟨by rw [HO.out]; simp, Q0⟩
end Go.Proofs.Ytadljkdjlpmllaa
