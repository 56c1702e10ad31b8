/- Walks: squares of distances, points on a segment, segments that meet, as the reference tells them. No condition. Walks: the root of a product and nearness to a segment, as the reference tells them. No condition. Walks: squares of distances, points on a segment, segments that meet, nearness, as the program tells them. No condition. Walks: points on a segment and near it, as the program tells them. No condition. -/
import Derived.Test.YtkpdoikjfibflaaGreatDoorNrQ
import Derived.Test.YtkpdoikjfibflaaGreatDoorRoot
import Derived.Test.YtkpdoikjfibflaaGreatDoorCmp
namespace Go.Proofs.YtkpdoikjfibflaaGreatDoor
open Go.RowKit Go.WideShapes Go.ChangeShapes
theorem pt_diff {a b c d : Int} (hp : pt a b) (hq : pt c d) : (-2000000 ≤ a - c ∧ a - c ≤ 2000000) ∧ (-2000000 ≤ b - d ∧ b - d ≤ 2000000) := by
  obtain ⟨⟨_, _⟩, _, _⟩ := hp
  obtain ⟨⟨_, _⟩, _, _⟩ := hq
  omega
theorem spec_DotV (a b c d : Int) (w : World) (h1 : (-2000000 ≤ a ∧ a ≤ 2000000) ∧ (-2000000 ≤ b ∧ b ≤ 2000000)) (h2 : (-2000000 ≤ c ∧ c ≤ 2000000) ∧ (-2000000 ≤ d ∧ d ≤ 2000000)) :
    Calls Tryz.prog 126 #[.agg #[.int .i64 a, .int .i64 b], .agg #[.int .i64 c, .int .i64 d]] w fun e w' => e = .returned (.int .i64 (a * c + b * d)) ∧ Q w w' := by
  have m1 := mul_2M h1.1 h2.1
  have m2 := mul_2M h1.2 h2.2
  go_enter Tryz.func126, Tryz.ntmps126
  go_wp2_with fail
  go_ret
  exact ⟨ret_int (by rfl), by (repeat (first | assumption | exact Q.refl _ | refine Q.alloc ?_ _ | refine Q.drewN ?_ _ | refine Q.drew ?_))⟩
theorem bx2 (w : World) (a b c d : Int) : Blk ((w.alloc (.cells #[.int .i64 a, .int .i64 b] 78)).alloc (.cells #[.int .i64 c, .int .i64 d] 78)) w.heap.size 78 #[.int .i64 a, .int .i64 b] ∧ Blk ((w.alloc (.cells #[.int .i64 a, .int .i64 b] 78)).alloc (.cells #[.int .i64 c, .int .i64 d] 78)) (w.heap.size + 1) 78 #[.int .i64 c, .int .i64 d] :=
  ⟨(Blk.new _ _ _).alloc _, by simpa using Blk.new (w.alloc (.cells #[.int .i64 a, .int .i64 b] 78)) 78 #[.int .i64 c, .int .i64 d]⟩
theorem spec_Square (a b c d : Int) (w : World) (hp : pt a b) (hq : pt c d) :
    Calls Tryz.prog 124 #[.agg #[.int .i64 a, .int .i64 b], .agg #[.int .i64 c, .int .i64 d]] w fun e w' => e = .returned (.int .i64 (sqD a b c d)) ∧ Q w w' := by
  have h1 := pt_diff hp hq
  obtain ⟨B1, B2⟩ := bx2 w a b c d
  have L1 := later_cells B1.cell B1.lt
  have L2 := later_cells B2.cell B2.lt
  clear B1 B2
  go_enter Tryz.func124, Tryz.ntmps124
  go_wp2_with fail
  refine wp_region_later_lit (by kernel_rfl) (by kernel_rfl) ?_
  repeat (any_goals (first | go_big_quiet_step (((first | (go_at_call 125; exact later_call (spec_Minus _ _ _ _ _ hp hq)) | (go_at_call 126; exact later_call (spec_DotV _ _ _ _ _ h1 h1))))) | quiet_step (((first | (go_at_call 125; exact later_call (spec_Minus _ _ _ _ _ hp hq)) | (go_at_call 126; exact later_call (spec_DotV _ _ _ _ _ h1 h1))))) | (refine wpQuiet_step (fun K hK => ?_); go_simp; split <;> (refine hK _ ?_; clear hK K))))
  all_goals (refine wpQuiet_nil ?_; rintro _ ⟨⟨w2, q2⟩, rfl⟩; try dsimp only)
  all_goals go_wp2_with fail
  go_ret
  exact ⟨rfl, Q.trans (by (repeat (first | assumption | exact Q.refl _ | refine Q.alloc ?_ _ | refine Q.drewN ?_ _ | refine Q.drew ?_))) q2⟩
theorem bx42 (w : World) (a b c d e f : Int) : Blk ((w.alloc (.cells #[.int .i64 a, .int .i64 b, .int .i64 c, .int .i64 d] 106)).alloc (.cells #[.int .i64 e, .int .i64 f] 78)) w.heap.size 106 #[.int .i64 a, .int .i64 b, .int .i64 c, .int .i64 d] ∧ Blk ((w.alloc (.cells #[.int .i64 a, .int .i64 b, .int .i64 c, .int .i64 d] 106)).alloc (.cells #[.int .i64 e, .int .i64 f] 78)) (w.heap.size + 1) 78 #[.int .i64 e, .int .i64 f] :=
  ⟨(Blk.new _ _ _).alloc _, by simpa using Blk.new (w.alloc (.cells #[.int .i64 a, .int .i64 b, .int .i64 c, .int .i64 d] 106)) 78 #[.int .i64 e, .int .i64 f]⟩
theorem bx44 (w : World) (a b c d e f g h : Int) : Blk ((w.alloc (.cells #[.int .i64 a, .int .i64 b, .int .i64 c, .int .i64 d] 106)).alloc (.cells #[.int .i64 e, .int .i64 f, .int .i64 g, .int .i64 h] 106)) w.heap.size 106 #[.int .i64 a, .int .i64 b, .int .i64 c, .int .i64 d] ∧ Blk ((w.alloc (.cells #[.int .i64 a, .int .i64 b, .int .i64 c, .int .i64 d] 106)).alloc (.cells #[.int .i64 e, .int .i64 f, .int .i64 g, .int .i64 h] 106)) (w.heap.size + 1) 106 #[.int .i64 e, .int .i64 f, .int .i64 g, .int .i64 h] :=
  ⟨(Blk.new _ _ _).alloc _, by simpa using Blk.new (w.alloc (.cells #[.int .i64 a, .int .i64 b, .int .i64 c, .int .i64 d] 106)) 106 #[.int .i64 e, .int .i64 f, .int .i64 g, .int .i64 h]⟩
/-- A point on a segment. -/
theorem spec_l02On (a b c d e f : Int) (w : World) (hp : pt a b) (hq : pt c d) (hr : pt e f) :
    Calls Tryz.prog 123 #[.agg #[.int .i64 a, .int .i64 b, .int .i64 c, .int .i64 d], .agg #[.int .i64 e, .int .i64 f]] w fun r w' => r = .returned (.bool (onS a b c d e f)) ∧ Q w w' := by
  have h1 := pt_diff hr hp
  have h2 := pt_diff hr hq
  have KT := Lib.hid (fun wv => spec_Turn a b c d e f wv hp hq hr)
  have HO := Lib.hid (show onS a b c d e f = ((sgn (crossV a b c d e f) == 0) && decide ((e - a) * (e - c) + (f - b) * (f - d) ≤ 0)) from rfl)
  generalize onS a b c d e f = O at *
  generalize sgn (crossV a b c d e f) = S at *
  obtain ⟨B1, B2⟩ := bx42 w a b c d e f
  have L1 := later_cells B1.cell B1.lt
  have L2 := later_cells B2.cell B2.lt
  clear B1 B2
  by_cases hS : S = 0
  · subst hS
    go_enter Tryz.func123, Tryz.ntmps123
    go_wp2_with fail
    refine wp_region_later_lit (by kernel_rfl) (by kernel_rfl) ?_
    repeat (any_goals (first | go_big_quiet_step (((first | (go_at_call 155; exact later_call (KT.out _)) | (go_at_call 125; exact later_call (spec_Minus _ _ _ _ _ hr hp)) | (go_at_call 125; exact later_call (spec_Minus _ _ _ _ _ hr hq)) | (go_at_call 126; exact later_call (spec_DotV _ _ _ _ _ h1 h2))))) | quiet_step (((first | (go_at_call 155; exact later_call (KT.out _)) | (go_at_call 125; exact later_call (spec_Minus _ _ _ _ _ hr hp)) | (go_at_call 125; exact later_call (spec_Minus _ _ _ _ _ hr hq)) | (go_at_call 126; exact later_call (spec_DotV _ _ _ _ _ h1 h2))))) | (refine wpQuiet_step (fun K hK => ?_); go_simp; split <;> (refine hK _ ?_; clear hK K))))
    all_goals (refine wpQuiet_nil ?_; rintro _ ⟨⟨w2, q2⟩, rfl⟩; try dsimp only)
    all_goals go_wp2_with fail
    go_ret
    exact ⟨by rw [HO.out]; simp, Q.trans (by (repeat (first | assumption | exact Q.refl _ | refine Q.alloc ?_ _ | refine Q.drewN ?_ _ | refine Q.drew ?_))) q2⟩
  · have hSb : (S == 0) = false := by simpa using hS
    go_enter Tryz.func123, Tryz.ntmps123
    go_wp2_with fail
    refine wp_region_later_lit (by kernel_rfl) (by kernel_rfl) ?_
    repeat (any_goals (first | go_big_quiet_step (((go_at_call 155; exact later_call (KT.out _)))) | quiet_step (((go_at_call 155; exact later_call (KT.out _)))) | (refine wpQuiet_step (fun K hK => ?_); go_simp; split <;> (refine hK _ ?_; clear hK K))))
    all_goals (refine wpQuiet_nil ?_; rintro _ ⟨⟨w2, q2⟩, rfl⟩; try dsimp only)
    all_goals go_wp2_with fail
    go_ret
    exact ⟨by rw [HO.out, hSb]; rfl, Q.trans (by (repeat (first | assumption | exact Q.refl _ | refine Q.alloc ?_ _ | refine Q.drewN ?_ _ | refine Q.drew ?_))) q2⟩
theorem sgn_bd (n : Int) : -1 ≤ sgn n ∧ sgn n ≤ 1 := by unfold sgn; split <;> (try split) <;> omega
theorem sgn2_bd (m n : Int) : -1 ≤ sgn m * sgn n ∧ sgn m * sgn n ≤ 1 := by
  have h1 := sgn_bd m
  have h2 := sgn_bd n
  generalize sgn m = x at *
  generalize sgn n = y at *
  have hx : x = -1 ∨ x = 0 ∨ x = 1 := by omega
  rcases hx with rfl | rfl | rfl <;> omega
def crossB (a b c d e f g h : Int) : Bool := decide (sgn (crossV a b c d e f) * sgn (crossV a b c d g h) < 0) && decide (sgn (crossV e f g h a b) * sgn (crossV e f g h c d) < 0)
/-- Two segments cross. -/
theorem spec_l02Cross (a b c d e f g h : Int) (w : World) (hp : pt a b) (hq : pt c d) (hr : pt e f) (hs : pt g h) :
    Calls Tryz.prog 122 #[.agg #[.int .i64 a, .int .i64 b, .int .i64 c, .int .i64 d], .agg #[.int .i64 e, .int .i64 f, .int .i64 g, .int .i64 h]] w fun r w' => r = .returned (.bool (crossB a b c d e f g h)) ∧ Q w w' := by
  have m1 := sgn2_bd (crossV a b c d e f) (crossV a b c d g h)
  have m2 := sgn2_bd (crossV e f g h a b) (crossV e f g h c d)
  have K1 := Lib.hid (fun wv => spec_Turn a b c d e f wv hp hq hr)
  have K2 := Lib.hid (fun wv => spec_Turn a b c d g h wv hp hq hs)
  have K3 := Lib.hid (fun wv => spec_Turn e f g h a b wv hr hs hp)
  have K4 := Lib.hid (fun wv => spec_Turn e f g h c d wv hr hs hq)
  have HO := Lib.hid (show crossB a b c d e f g h = (decide (sgn (crossV a b c d e f) * sgn (crossV a b c d g h) < 0) && decide (sgn (crossV e f g h a b) * sgn (crossV e f g h c d) < 0)) from rfl)
  generalize crossB a b c d e f g h = O at *
  generalize sgn (crossV a b c d e f) = S1 at *
  generalize sgn (crossV a b c d g h) = S2 at *
  generalize sgn (crossV e f g h a b) = S3 at *
  generalize sgn (crossV e f g h c d) = S4 at *
  obtain ⟨B1, B2⟩ := bx44 w a b c d e f g h
  have L1 := later_cells B1.cell B1.lt
  have L2 := later_cells B2.cell B2.lt
  clear B1 B2 hp hq hr hs
  by_cases hc : S1 * S2 < 0
  · go_enter Tryz.func122, Tryz.ntmps122
    go_wp2_with fail
    refine wp_region_later_lit (by kernel_rfl) (by kernel_rfl) ?_
    repeat (any_goals (first | go_big_quiet_step (((first | (go_at_call 155; first | with_reducible exact later_call (K1.out _) | with_reducible exact later_call (K2.out _) | with_reducible exact later_call (K3.out _) | with_reducible exact later_call (K4.out _))))) | quiet_step (((first | (go_at_call 155; first | with_reducible exact later_call (K1.out _) | with_reducible exact later_call (K2.out _) | with_reducible exact later_call (K3.out _) | with_reducible exact later_call (K4.out _))))) | (refine wpQuiet_step (fun K hK => ?_); go_simp; split <;> (refine hK _ ?_; clear hK K))))
    all_goals (refine wpQuiet_nil ?_; rintro _ ⟨⟨w2, q2⟩, rfl⟩; try dsimp only)
    all_goals go_wp2_with fail
    go_ret
    exact ⟨by rw [HO.out, decide_eq_true hc]; rfl, Q.trans (by (repeat (first | assumption | exact Q.refl _ | refine Q.alloc ?_ _ | refine Q.drewN ?_ _ | refine Q.drew ?_))) q2⟩
  · have hcb : decide (S1 * S2 < 0) = false := by simpa using hc
    go_enter Tryz.func122, Tryz.ntmps122
    go_wp2_with fail
    refine wp_region_later_lit (by kernel_rfl) (by kernel_rfl) ?_
    repeat (any_goals (first | go_big_quiet_step (((first | (go_at_call 155; first | with_reducible exact later_call (K1.out _) | with_reducible exact later_call (K2.out _))))) | quiet_step (((first | (go_at_call 155; first | with_reducible exact later_call (K1.out _) | with_reducible exact later_call (K2.out _))))) | (refine wpQuiet_step (fun K hK => ?_); go_simp; split <;> (refine hK _ ?_; clear hK K))))
    all_goals (refine wpQuiet_nil ?_; rintro _ ⟨⟨w2, q2⟩, rfl⟩; try dsimp only)
    all_goals go_wp2_with fail
    go_ret
    exact ⟨by rw [HO.out, hcb]; rfl, Q.trans (by (repeat (first | assumption | exact Q.refl _ | refine Q.alloc ?_ _ | refine Q.drewN ?_ _ | refine Q.drew ?_))) q2⟩
/-- Two segments have a common point. -/
theorem spec_l02Meet (a b c d e f g h : Int) (w : World) (hp : pt a b) (hq : pt c d) (hr : pt e f) (hs : pt g h) :
    Calls Tryz.prog 85 #[.agg #[.int .i64 a, .int .i64 b, .int .i64 c, .int .i64 d], .agg #[.int .i64 e, .int .i64 f, .int .i64 g, .int .i64 h]] w fun r w' => r = .returned (.bool (meetV a b c d e f g h)) ∧ Q w w' := by
  have K0 := Lib.hid (fun wv => spec_l02Cross a b c d e f g h wv hp hq hr hs)
  have K1 := Lib.hid (fun wv => spec_l02On a b c d e f wv hp hq hr)
  have K2 := Lib.hid (fun wv => spec_l02On a b c d g h wv hp hq hs)
  have K3 := Lib.hid (fun wv => spec_l02On e f g h a b wv hr hs hp)
  have K4 := Lib.hid (fun wv => spec_l02On e f g h c d wv hr hs hq)
  have HO := Lib.hid (show meetV a b c d e f g h = (crossB a b c d e f g h || onS a b c d e f || onS a b c d g h || onS e f g h a b || onS e f g h c d) from rfl)
  generalize meetV a b c d e f g h = O at *
  generalize crossB a b c d e f g h = X at *
  generalize onS a b c d e f = O1 at *
  generalize onS a b c d g h = O2 at *
  generalize onS e f g h a b = O3 at *
  generalize onS e f g h c d = O4 at *
  obtain ⟨B1, B2⟩ := bx44 w a b c d e f g h
  have Q0 : Q w ((w.alloc (.cells #[.int .i64 a, .int .i64 b, .int .i64 c, .int .i64 d] 106)).alloc (.cells #[.int .i64 e, .int .i64 f, .int .i64 g, .int .i64 h] 106)) := by (repeat (first | assumption | exact Q.refl _ | refine Q.alloc ?_ _ | refine Q.drewN ?_ _ | refine Q.drew ?_))
  clear hp hq hr hs
  go_enter Tryz.func85, Tryz.ntmps85
  go_wp2_with fail
  refine (K0.out _).mono ?_
  rintro e1 w1 ⟨rfl, q1⟩
  replace B1 := B1.q q1
  replace B2 := B2.q q1
  replace Q0 := Q0.trans q1
  clear q1
  have c1 := B1.cell
  have c2 := B2.cell
  have l1 := B1.lt
  have l2 := B2.lt
  cases X with
  | true =>
    go_wp2_with fail
    go_ret
    exact ⟨by rw [HO.out]; simp, Q0⟩
  | false =>
    go_wp2_with fail
    clear c1 c2 l1 l2
    refine (K1.out _).mono ?_
    rintro e1 w1 ⟨rfl, q1⟩
    replace B1 := B1.q q1
    replace B2 := B2.q q1
    replace Q0 := Q0.trans q1
    clear q1
    have c1 := B1.cell
    have c2 := B2.cell
    have l1 := B1.lt
    have l2 := B2.lt
    cases O1 with
    | true =>
      go_wp2_with fail
      go_ret
      exact ⟨by rw [HO.out]; simp, Q0⟩
    | false =>
      go_wp2_with fail
      clear c1 c2 l1 l2
      refine (K2.out _).mono ?_
      rintro e1 w1 ⟨rfl, q1⟩
      replace B1 := B1.q q1
      replace B2 := B2.q q1
      replace Q0 := Q0.trans q1
      clear q1
      have c1 := B1.cell
      have c2 := B2.cell
      have l1 := B1.lt
      have l2 := B2.lt
      cases O2 with
      | true =>
        go_wp2_with fail
        go_ret
        exact ⟨by rw [HO.out]; simp, Q0⟩
      | false =>
        go_wp2_with fail
        clear c1 c2 l1 l2
        refine (K3.out _).mono ?_
        rintro e1 w1 ⟨rfl, q1⟩
        replace B1 := B1.q q1
        replace B2 := B2.q q1
        replace Q0 := Q0.trans q1
        clear q1
        have c1 := B1.cell
        have c2 := B2.cell
        have l1 := B1.lt
        have l2 := B2.lt
        cases O3 with
        | true =>
          go_wp2_with fail
          go_ret
          exact ⟨by rw [HO.out]; simp, Q0⟩
        | false =>
          go_wp2_with fail
          clear c1 c2 l1 l2
          refine (K4.out _).mono ?_
          rintro e1 w1 ⟨rfl, q1⟩
          replace B1 := B1.q q1
          replace B2 := B2.q q1
          replace Q0 := Q0.trans q1
          clear q1
          go_wp2_with fail
          go_ret
          exact ⟨by rw [HO.out]; simp, Q0⟩
end Go.Proofs.YtkpdoikjfibflaaGreatDoor
namespace Go.Proofs.YtkpdoikjfibflaaGreatDoor
open Go.RowKit Go.WideShapes Go.ChangeShapes
theorem sq_bd {x M : Int} (h : -M ≤ x ∧ x ≤ M) (hM : 0 ≤ M) : 0 ≤ x * x ∧ x * x ≤ M * M := by
  refine ⟨sq_nonneg x, ?_⟩
  rcases Int.le_total 0 x with hx | hx
  · exact Int.mul_le_mul h.2 h.2 hx hM
  · have := Int.mul_le_mul (show -x ≤ M by omega) (show -x ≤ M by omega) (by omega) hM
    rwa [Int.neg_mul_neg] at this
set_option maxHeartbeats 1000000 in
theorem spec_l02Less (x d m : Int) (w : World) (hx : 0 ≤ x ∧ x ≤ 40000000000) (hd : 0 ≤ d ∧ d ≤ 10000) (hm : 0 ≤ m ∧ m ≤ 8000000000000) :
    Calls Tryz.prog 156 #[.int .i64 x, .int .i64 d, .int .i64 m] w fun e w' => e = .returned (.bool (decide (x * x ≤ d * d * m))) ∧ w = w' := by
  have hdd := sq_bd (x := d) (M := 10000) (by omega) (by decide)
  have K1 := Lib.hid (fun wv => spec_Wide x x wv hx (by omega))
  have K2 := Lib.hid (fun wv => spec_Wide (d * d) m wv (by omega) (by omega))
  have HL := Lib.hid (wide_le (x * x) (d * d * m))
  have HO := Lib.hid (show decide (x * x ≤ d * d * m) = decide (x * x ≤ d * d * m) from rfl)
  obtain ⟨O, hO⟩ : ∃ O, O = decide (x * x ≤ d * d * m) := ⟨_, rfl⟩
  rw [← hO]
  have HO := Lib.hid hO
  generalize x * x / 1099511627776 = p1 at *
  generalize x * x % 1099511627776 = p0 at *
  generalize d * d * m / 1099511627776 = q1 at *
  generalize d * d * m % 1099511627776 = q0 at *
  clear hO
  by_cases h1 : p1 < q1
  · have HE := Lib.hid (show O = true by rw [HO.out]; exact decide_eq_true (HL.out.1 (.inl h1)))
    go_enter Tryz.func156, Tryz.ntmps156
    go_wp2_with (first | (go_at_call 165; first | (with_reducible refine Calls.mono (K1.out _) ?_; rintro e w1 ⟨rfl, rfl⟩) | (with_reducible refine Calls.mono (K2.out _) ?_; rintro e w1 ⟨rfl, rfl⟩)))
    go_ret
    exact ⟨by rw [HE.out]; rfl, rfl⟩
  · by_cases h2 : p1 = q1
    · subst h2
      by_cases h3 : p0 ≤ q0
      · have HE := Lib.hid (show O = true by rw [HO.out]; exact decide_eq_true (HL.out.1 (.inr ⟨rfl, h3⟩)))
        go_enter Tryz.func156, Tryz.ntmps156
        go_wp2_with (first | (go_at_call 165; first | (with_reducible refine Calls.mono (K1.out _) ?_; rintro e w1 ⟨rfl, rfl⟩) | (with_reducible refine Calls.mono (K2.out _) ?_; rintro e w1 ⟨rfl, rfl⟩)))
        go_ret
        exact ⟨by rw [HE.out]; rfl, rfl⟩
      · have HE := Lib.hid (show O = false by rw [HO.out]; exact decide_eq_false (fun e => by have := HL.out.2 e; omega))
        have h3b : decide (p0 ≤ q0) = false := decide_eq_false h3
        go_enter Tryz.func156, Tryz.ntmps156
        go_wp2_with (first | (go_at_call 165; first | (with_reducible refine Calls.mono (K1.out _) ?_; rintro e w1 ⟨rfl, rfl⟩) | (with_reducible refine Calls.mono (K2.out _) ?_; rintro e w1 ⟨rfl, rfl⟩)))
        go_ret
        exact ⟨by rw [HE.out]; first | rfl | (simp only [h3b]; rfl), rfl⟩
    · have h2b : (p1 == q1) = false := by simpa using h2
      have h2c : decide (p1 = q1) = false := decide_eq_false h2
      have HE := Lib.hid (show O = false by rw [HO.out]; exact decide_eq_false (fun e => by have := HL.out.2 e; omega))
      go_enter Tryz.func156, Tryz.ntmps156
      go_wp2_with (first | (go_at_call 165; first | (with_reducible refine Calls.mono (K1.out _) ?_; rintro e w1 ⟨rfl, rfl⟩) | (with_reducible refine Calls.mono (K2.out _) ?_; rintro e w1 ⟨rfl, rfl⟩)))
      go_ret
      exact ⟨by rw [HE.out]; show Ending.returned (.bool (decide (p1 < q1))) = _; rw [decide_eq_false (by omega)], rfl⟩
set_option maxHeartbeats 1000000 in
theorem spec_l02RootOf (d m : Int) (w : World) (hd : 0 ≤ d ∧ d ≤ 10000) (hm : 0 ≤ m ∧ m ≤ 8000000000000) :
    Calls Tryz.prog 129 #[.int .i64 d, .int .i64 m] w fun e w' => e = .returned (.int .i64 (rt (d * d * m))) ∧ w = w' := by
  have K0 := Lib.hid (fun wv => spec_Root m wv hm.1 (by omega))
  have hr0 := rt_pos m
  have hr1 := rt_mono_bd (n := m) (B := 2828427) hm.1 (by decide) (by omega)
  have hr2 := rt_lt hm.1
  have hdd := sq_bd (x := d) (M := 10000) (by omega) (by decide)
  have hD0 : 0 ≤ d * d * m := Int.mul_nonneg hdd.1 hm.1
  generalize rt m = r at *
  have hdr := mul_bd' (a := d) (x := r + 1) (M := 10000) (N := 2828428) hd (by omega)
  have HI := Lib.hid (show d * d * m < (d * (r + 1) + 1) * (d * (r + 1) + 1) by
    have h1 : d * d * m ≤ d * d * ((r + 1) * (r + 1)) := Int.mul_le_mul_of_nonneg_left (by omega) hdd.1
    have e : d * d * ((r + 1) * (r + 1)) = (d * (r + 1)) * (d * (r + 1)) := by grind
    have e2 : (d * (r + 1) + 1) * (d * (r + 1) + 1) = (d * (r + 1)) * (d * (r + 1)) + 2 * (d * (r + 1)) + 1 := by grind
    omega)
  have HL := Lib.hid (fun x wv (hx : 0 ≤ x ∧ x ≤ 40000000000) => spec_l02Less x d m wv hx hd hm)
  obtain ⟨D, hDe⟩ : ∃ D, D = d * d * m := ⟨_, rfl⟩
  rw [← hDe] at HI HL hD0 ⊢
  clear hDe hr2 hdd
  go_enter Tryz.func129, Tryz.ntmps129
  go_wp2_with (go_at_call 154; refine (K0.out _).mono ?_; rintro e w1 ⟨rfl, rfl⟩)
  go_loop [5, 6] (fun u v => ∃ l h : Int, u = .int .i64 l ∧ v = .int .i64 h ∧ (0 ≤ l ∧ l < h ∧ h ≤ 30000000000) ∧ Hid (l * l ≤ D ∧ D < h * h)) (fun u v => (intOf v - intOf u).toNat)
  case atStart => exact ⟨0, _, rfl, rfl, by omega, Lib.hid ⟨by omega, HI.out⟩⟩
  case round =>
    clear HI hdr
    obtain ⟨l, h, rfl, rfl, hb, HR⟩ := hrel
    by_cases hlt : l + 1 < h
    · obtain ⟨q, hq⟩ : ∃ q, q = (l + h) / 2 := ⟨_, rfl⟩
      have hqb : l < q ∧ q < h := by omega
      have K1 := Lib.hid (fun wv => HL.out q wv (by omega))
      by_cases hc : q * q ≤ D
      · rw [decide_eq_true hc] at K1
        have HR2 : Hid (q * q ≤ D ∧ D < h * h) := Lib.hid ⟨hc, HR.out.2⟩
        rw [hq] at K1
        clear hc
        go_wp2_with (go_at_call 156; refine (K1.out _).mono ?_; rintro e w1 ⟨rfl, rfl⟩)
        go_round
        case rel => exact ⟨q, h, by rw [hq], rfl, by omega, HR2⟩
        case measure => simp [intOf]; omega
      · rw [decide_eq_false hc] at K1
        have HR2 : Hid (l * l ≤ D ∧ D < q * q) := Lib.hid ⟨HR.out.1, by omega⟩
        rw [hq] at K1
        clear hc
        go_wp2_with (go_at_call 156; refine (K1.out _).mono ?_; rintro e w1 ⟨rfl, rfl⟩)
        go_round
        case rel => exact ⟨l, q, rfl, by rw [hq], by omega, HR2⟩
        case measure => simp [intOf]; omega
    · have HE := Lib.hid (rt_uniq hD0 hb.1 HR.out.1 (by have := HR.out.2; rw [show l + 1 = h by omega]; exact this))
      go_wp2_with fail
      go_ret
      exact ⟨ret_int HE.out, rfl⟩
theorem spec_AbsI (n : Int) (hn : -9223372036854775807 ≤ n ∧ n ≤ 9223372036854775807) (w : World) : Calls Tryz.prog 127 #[.int .i64 n] w fun e w' => e = .returned (.int .i64 (n.natAbs : Nat)) ∧ w = w' := by
  by_cases h : n < 0
  · have HE := Lib.hid (show -n = ((n.natAbs : Nat) : Int) by omega)
    go_enter Tryz.func127, Tryz.ntmps127
    go_wp2_with fail
    go_ret
    exact ⟨ret_int HE.out, rfl⟩
  · have HE := Lib.hid (show n = ((n.natAbs : Nat) : Int) by omega)
    go_enter Tryz.func127, Tryz.ntmps127
    go_wp2_with fail
    go_ret
    exact ⟨ret_int HE.out, rfl⟩
theorem abs_le_rt {c D : Int} (hD : 0 ≤ D) : ((c.natAbs : Nat) : Int) ≤ rt D ↔ c * c ≤ D := by
  rw [rt_le_iff hD (by omega)]
  have : ((c.natAbs : Nat) : Int) * ((c.natAbs : Nat) : Int) = c * c := by
    rcases Int.natAbs_eq c with h | h
    · rw [← h]
    · have h2 : ((c.natAbs : Nat) : Int) = -c := by omega
      rw [h2, Int.neg_mul_neg]
  rw [this]
theorem sqD_far {a b c d : Int} : (c - a) * (c - a) + (d - b) * (d - b) = sqD a b c d := by unfold sqD; grind
theorem sqD_bd {a b c d : Int} (hp : pt a b) (hq : pt c d) : 0 ≤ sqD a b c d ∧ sqD a b c d ≤ 8000000000000 := by
  have h := pt_diff hp hq
  have m1 := sq_bd h.1 (by decide)
  have m2 := sq_bd h.2 (by decide)
  unfold sqD
  omega
theorem far_dot {a b c d e f : Int} : (c - a) * (e - a) + (d - b) * (f - b) = farV a b c d e f := by unfold farV; grind
set_option maxRecDepth 100000 in
set_option maxHeartbeats 2000000 in
theorem spec_l02Within (a b c d e f D : Int) (w : World) (hp : pt a b) (hq : pt c d) (hr : pt e f) (hD : 0 ≤ D ∧ D ≤ 10000) :
    Calls Tryz.prog 86 #[.agg #[.int .i64 a, .int .i64 b, .int .i64 c, .int .i64 d], .agg #[.int .i64 e, .int .i64 f], .int .i64 D] w fun r w' => r = .returned (.bool (nearB a b c d e f D)) ∧ Q w w' := by
  have hDD := sq_bd (x := D) (M := 10000) (by omega) (by decide)
  have K1 := Lib.hid (fun wv => spec_Square a b e f wv hp hr)
  have K2 := Lib.hid (fun wv => spec_Square c d e f wv hq hr)
  have KM := Lib.hid (fun wv => spec_Minus c d a b wv hq hp)
  have KU := Lib.hid (fun wv => spec_Minus e f a b wv hr hp)
  have hv := pt_diff hq hp
  have hu := pt_diff hr hp
  have k3 := fun wv => spec_DotV (c - a) (d - b) (e - a) (f - b) wv hv hu
  have k4 := fun wv => spec_DotV (c - a) (d - b) (c - a) (d - b) wv hv hv
  have k5 := fun wv => spec_Cross (c - a) (d - b) (e - a) (f - b) wv hv hu
  rw [far_dot] at k3
  rw [sqD_far] at k4
  have hm := sqD_bd hp hq
  have k6 := fun wv => spec_l02RootOf D (sqD a b c d) wv hD hm
  have hX : (c - a) * (f - b) - (d - b) * (e - a) = crossV a b c d e f := rfl
  rw [hX] at k5
  have hXb : -8000000000000 ≤ crossV a b c d e f ∧ crossV a b c d e f ≤ 8000000000000 := by
    have m1 := mul_2M hv.1 hu.2
    have m2 := mul_2M hv.2 hu.1
    unfold crossV
    omega
  have HA := Lib.hid (abs_le_rt (c := crossV a b c d e f) (D := D * D * sqD a b c d) (Int.mul_nonneg hDD.1 hm.1))
  have HO := Lib.hid (show nearB a b c d e f D = (decide (sqD a b e f ≤ D * D) || decide (sqD c d e f ≤ D * D) || (decide (0 < farV a b c d e f) && decide (farV a b c d e f < sqD a b c d) && decide (crossV a b c d e f * crossV a b c d e f ≤ D * D * sqD a b c d))) from rfl)
  generalize nearB a b c d e f D = O at *
  generalize sqD a b e f = S1 at *
  generalize sqD c d e f = S2 at *
  generalize farV a b c d e f = n at *
  generalize sqD a b c d = m at *
  generalize crossV a b c d e f = X at *
  have K3 := Lib.hid k3
  have K4 := Lib.hid k4
  have K5 := Lib.hid k5
  have K6 := Lib.hid k6
  have K7 := Lib.hid (fun wv => spec_AbsI X (by omega) wv)
  generalize rt (D * D * m) = R at *
  clear k3 k4 k5 k6 hX
  obtain ⟨B1, B2⟩ := bx42 w a b c d e f
  have Q0 : Q w ((w.alloc (.cells #[.int .i64 a, .int .i64 b, .int .i64 c, .int .i64 d] 106)).alloc (.cells #[.int .i64 e, .int .i64 f] 78)) := by (repeat (first | assumption | exact Q.refl _ | refine Q.alloc ?_ _ | refine Q.drewN ?_ _ | refine Q.drew ?_))
  clear hp hq hr hv hu hXb
  go_enter Tryz.func86, Tryz.ntmps86
  go_wp2_with fail
  refine (K1.out _).mono ?_
  rintro e1 w1 ⟨rfl, q1⟩
  replace B1 := B1.q q1
  replace B2 := B2.q q1
  replace Q0 := Q0.trans q1
  have c1 := B1.cell
  have c2 := B2.cell
  have l1 := B1.lt
  have l2 := B2.lt
  clear q1
  by_cases hs1 : S1 ≤ D * D
  · go_wp2_with fail
    go_ret
    exact ⟨by rw [HO.out, decide_eq_true hs1]; simp, Q0⟩
  · go_wp2_with fail
    refine (K2.out _).mono ?_
    rintro e2 w2 ⟨rfl, q2⟩
    replace B1 := B1.q q2
    replace B2 := B2.q q2
    replace Q0 := Q0.trans q2
    replace c1 := B1.cell
    replace c2 := B2.cell
    replace l1 := B1.lt
    replace l2 := B2.lt
    clear q2
    by_cases hs2 : S2 ≤ D * D
    · go_wp2_with fail
      go_ret
      exact ⟨by rw [HO.out, decide_eq_true hs2]; simp, Q0⟩
    · go_wp2_with fail
      refine (KM.out _).mono ?_
      rintro e3 w3 ⟨rfl, q3⟩
      have BV := Blk.new w3 78 #[.int .i64 (c - a), .int .i64 (d - b)]
      replace B1 := (B1.q q3).alloc (.cells #[.int .i64 (c - a), .int .i64 (d - b)] 78)
      replace B2 := (B2.q q3).alloc (.cells #[.int .i64 (c - a), .int .i64 (d - b)] 78)
      replace Q0 := (Q0.trans q3).alloc (.cells #[.int .i64 (c - a), .int .i64 (d - b)] 78)
      have L1 := later_cells B1.cell B1.lt
      have L2 := later_cells B2.cell B2.lt
      have LV := later_cells BV.cell BV.lt
      clear q3 c1 c2 l1 l2
      go_wp2_with fail
      refine wp_region_later_lit (by kernel_rfl) (by kernel_rfl) ?_
      repeat (any_goals (first | go_big_quiet_step (((first | (go_at_call 125; exact later_call (KU.out _)) | (go_at_call 126; first | with_reducible exact later_call (K3.out _) | with_reducible exact later_call (K4.out _))))) | quiet_step (((first | (go_at_call 125; exact later_call (KU.out _)) | (go_at_call 126; first | with_reducible exact later_call (K3.out _) | with_reducible exact later_call (K4.out _))))) | (refine wpQuiet_step (fun K hK => ?_); go_simp; split <;> (refine hK _ ?_; clear hK K))))
      all_goals (refine wpQuiet_nil ?_; rintro _ ⟨⟨w4, q4⟩, rfl⟩; try dsimp only)
      all_goals try clear L1 L2 LV
      have HF := Lib.hid (fun h => (show O = decide ((0 < n ∧ n < m) ∧ X * X ≤ D * D * m) from by rw [HO.out, decide_eq_false (show ¬ S1 ≤ D * D by omega), decide_eq_false (show ¬ S2 ≤ D * D by omega), Bool.false_or, Bool.false_or, ← Bool.decide_and, ← Bool.decide_and]) : True → O = decide ((0 < n ∧ n < m) ∧ X * X ≤ D * D * m))
      replace Q0 := Q0.trans q4
      replace B1 := B1.q q4
      replace B2 := B2.q q4
      replace BV := BV.q q4
      have c1 := B1.cell
      have c2 := B2.cell
      have cv := BV.cell
      by_cases hn : n ≤ 0
      · go_wp2_with fail
        go_ret
        exact ⟨by rw [HF.out trivial, show decide ((0 < n ∧ n < m) ∧ X * X ≤ D * D * m) = false from decide_eq_false (fun h => by omega)]; rfl, Q0⟩
      · by_cases hnm : m ≤ n
        · go_wp2_with fail
          go_ret
          exact ⟨by rw [HF.out trivial, show decide ((0 < n ∧ n < m) ∧ X * X ≤ D * D * m) = false from decide_eq_false (fun h => by omega)]; rfl, Q0⟩
        · have L1 := later_cells B1.cell B1.lt
          have L2 := later_cells B2.cell B2.lt
          have LV := later_cells BV.cell BV.lt
          clear c1 c2 cv
          go_wp2_with fail
          refine wp_region_later_lit (by kernel_rfl) (by kernel_rfl) ?_
          repeat (any_goals (first | go_big_quiet_step (((first | (go_at_call 125; exact later_call (KU.out _)) | (go_at_call 128; exact later_call (K5.out _)) | (go_at_call 127; exact later_same (K7.out _)) | (go_at_call 129; exact later_same (K6.out _))))) | quiet_step (((first | (go_at_call 125; exact later_call (KU.out _)) | (go_at_call 128; exact later_call (K5.out _)) | (go_at_call 127; exact later_same (K7.out _)) | (go_at_call 129; exact later_same (K6.out _))))) | (refine wpQuiet_step (fun K hK => ?_); go_simp; split <;> (refine hK _ ?_; clear hK K))))
          all_goals (refine wpQuiet_nil ?_; rintro _ ⟨⟨w5, q5⟩, rfl⟩; try dsimp only)
          all_goals go_wp2_with fail
          go_ret
          refine ⟨?_, Q0.trans q5⟩
          rw [HF.out trivial]
          show Ending.returned (.bool (decide (((X.natAbs : Nat) : Int) ≤ R))) = _
          rw [show decide (((X.natAbs : Nat) : Int) ≤ R) = decide ((0 < n ∧ n < m) ∧ X * X ≤ D * D * m) from decide_eq_decide.2 ⟨fun h => ⟨by omega, HA.out.1 h⟩, fun h => HA.out.2 h.2⟩]
end Go.Proofs.YtkpdoikjfibflaaGreatDoor
namespace Go.Proofs.YtkpdoikjfibflaaGreatDoor
open Go.RowKit Go.WideShapes Go.ChangeShapes
theorem impl_sqDist (a b c d : Int) (w : World) (hp : pt a b) (hq : pt c d) :
    Calls Tryz.prog 149 #[.agg #[.int .i64 a, .int .i64 b], .agg #[.int .i64 c, .int .i64 d]] w fun e w' => e = .returned (.int .i64 (sqD a b c d)) ∧ Q w w' := by
  have h := pt_diff hp hq
  have m1 := sq_bd h.1 (by decide)
  have m2 := sq_bd h.2 (by decide)
  have HE := Lib.hid (show sqD a b c d = (a - c) * (a - c) + (b - d) * (b - d) from rfl)
  obtain ⟨h1, h2⟩ := h
  obtain ⟨B1, B2⟩ := bx2 w a b c d
  have L1 := later_cells B1.cell B1.lt
  have L2 := later_cells B2.cell B2.lt
  clear B1 B2
  go_enter Tryz.func149, Tryz.ntmps149
  go_wp2_with fail
  refine wp_region_later_lit (by kernel_rfl) (by kernel_rfl) ?_
  repeat (any_goals (first | go_big_quiet_step ((fail)) | quiet_step ((fail)) | (refine wpQuiet_step (fun K hK => ?_); go_simp; split <;> (refine hK _ ?_; clear hK K))))
  all_goals (refine wpQuiet_nil ?_; rintro _ ⟨⟨w2, q2⟩, rfl⟩; try dsimp only)
  all_goals go_wp2_with fail
  go_ret
  exact ⟨ret_int HE.out.symm, Q.trans (by (repeat (first | assumption | exact Q.refl _ | refine Q.alloc ?_ _ | refine Q.drewN ?_ _ | refine Q.drew ?_))) q2⟩
theorem impl_along (a b c d e f : Int) (w : World) (hp : pt a b) (hq : pt c d) (hr : pt e f) :
    Calls Tryz.prog 148 #[.agg #[.int .i64 a, .int .i64 b, .int .i64 c, .int .i64 d], .agg #[.int .i64 e, .int .i64 f]] w fun r w' => r = .returned (.tuple #[.int .i64 (farV a b c d e f), .int .i64 (sqD a b c d)]) ∧ Q w w' := by
  have h1 := pt_diff hr hp
  have h2 := pt_diff hq hp
  have m1 := mul_2M h1.1 h2.1
  have m2 := mul_2M h1.2 h2.2
  have K1 := Lib.hid (fun wv => impl_sqDist a b c d wv hp hq)
  have HE := Lib.hid (show farV a b c d e f = (e - a) * (c - a) + (f - b) * (d - b) from rfl)
  obtain ⟨h3, h4⟩ := h1
  obtain ⟨h5, h6⟩ := h2
  obtain ⟨B1, B2⟩ := bx42 w a b c d e f
  have L1 := later_cells B1.cell B1.lt
  have L2 := later_cells B2.cell B2.lt
  clear B1 B2
  go_enter Tryz.func148, Tryz.ntmps148
  go_wp2_with fail
  refine wp_region_later_lit (by kernel_rfl) (by kernel_rfl) ?_
  repeat (any_goals (first | go_big_quiet_step (((go_at_call 149; exact later_call (K1.out _)))) | quiet_step (((go_at_call 149; exact later_call (K1.out _)))) | (refine wpQuiet_step (fun K hK => ?_); go_simp; split <;> (refine hK _ ?_; clear hK K))))
  all_goals (refine wpQuiet_nil ?_; rintro _ ⟨⟨w2, q2⟩, rfl⟩; try dsimp only)
  all_goals go_wp2_with fail
  go_ret2
  exact ⟨ret_ii HE.out.symm rfl, Q.trans (by (repeat (first | assumption | exact Q.refl _ | refine Q.alloc ?_ _ | refine Q.drewN ?_ _ | refine Q.drew ?_))) q2⟩
theorem impl_sides (a b c d e f g h : Int) (w : World) (hp : pt a b) (hq : pt c d) (hr : pt e f) (hs : pt g h) :
    Calls Tryz.prog 107 #[.agg #[.int .i64 a, .int .i64 b, .int .i64 c, .int .i64 d], .agg #[.int .i64 e, .int .i64 f, .int .i64 g, .int .i64 h]] w fun r w' => r = .returned (.tuple #[.int .i64 (sgn (crossV a b c d e f)), .int .i64 (sgn (crossV a b c d g h))]) ∧ Q w w' := by
  have K1 := Lib.hid (fun wv => impl_turn a b c d e f wv hp hq hr)
  have K2 := Lib.hid (fun wv => impl_turn a b c d g h wv hp hq hs)
  obtain ⟨B1, B2⟩ := bx44 w a b c d e f g h
  have L1 := later_cells B1.cell B1.lt
  have L2 := later_cells B2.cell B2.lt
  clear B1 B2
  go_enter Tryz.func107, Tryz.ntmps107
  go_wp2_with fail
  refine wp_region_later_lit (by kernel_rfl) (by kernel_rfl) ?_
  repeat (any_goals (first | go_big_quiet_step (((first | (go_at_call 147; first | with_reducible exact later_call (K1.out _) | with_reducible exact later_call (K2.out _))))) | quiet_step (((first | (go_at_call 147; first | with_reducible exact later_call (K1.out _) | with_reducible exact later_call (K2.out _))))) | (refine wpQuiet_step (fun K hK => ?_); go_simp; split <;> (refine hK _ ?_; clear hK K))))
  all_goals (refine wpQuiet_nil ?_; rintro _ ⟨⟨w2, q2⟩, rfl⟩; try dsimp only)
  all_goals go_wp2_with fail
  go_ret2
  exact ⟨rfl, Q.trans (by (repeat (first | assumption | exact Q.refl _ | refine Q.alloc ?_ _ | refine Q.drewN ?_ _ | refine Q.drew ?_))) q2⟩
end Go.Proofs.YtkpdoikjfibflaaGreatDoor
namespace Go.Proofs.YtkpdoikjfibflaaGreatDoor
open Go.RowKit Go.WideShapes Go.ChangeShapes
theorem onB_in (a b c d e f : Int) : onB a b c d e f = (inR e (min a c) (max a c) && inR f (min b d) (max b d)) := rfl
set_option maxHeartbeats 1000000 in
theorem impl_onSegment (a b c d e f : Int) (w : World) :
    Calls Tryz.prog 108 #[.agg #[.int .i64 a, .int .i64 b, .int .i64 c, .int .i64 d], .agg #[.int .i64 e, .int .i64 f]] w fun r w' => r = .returned (.bool (onB a b c d e f)) ∧ Q w w' := by
  have HO := Lib.hid (onB_in a b c d e f)
  generalize onB a b c d e f = O at *
  obtain ⟨B1, B2⟩ := bx42 w a b c d e f
  have Q0 : Q w ((w.alloc (.cells #[.int .i64 a, .int .i64 b, .int .i64 c, .int .i64 d] 106)).alloc (.cells #[.int .i64 e, .int .i64 f] 78)) := by (repeat (first | assumption | exact Q.refl _ | refine Q.alloc ?_ _ | refine Q.drewN ?_ _ | refine Q.drew ?_))
  rcases Int.lt_trichotomy a c with h1 | rfl | h1
  · rcases Int.lt_trichotomy b d with h2 | rfl | h2
    · have HP := Lib.hid (show O = (inR e a c && inR f b d) from by rw [HO.out]; congr 2 <;> omega)
      have K1 := Lib.hid (fun wv => impl_inR e a c wv)
      have K2 := Lib.hid (fun wv => impl_inR f b d wv)
      generalize inR e a c = X1 at *
      generalize inR f b d = X2 at *
      have c1 := B1.cell
      have c2 := B2.cell
      have l1 := B1.lt
      have l2 := B2.lt
      go_enter Tryz.func108, Tryz.ntmps108
      go_wp2_with fail
      refine (K1.out _).mono ?_
      rintro e1 w1 ⟨rfl, rfl⟩
      cases X1 with
      | false =>
        go_wp2_with fail
        go_ret
        exact ⟨by rw [HP.out]; rfl, Q0⟩
      | true =>
        go_wp2_with fail
        refine (K2.out _).mono ?_
        rintro e2 w2 ⟨rfl, rfl⟩
        go_wp2_with fail
        go_ret
        exact ⟨by rw [HP.out]; rfl, Q0⟩
    · have HP := Lib.hid (show O = (inR e a c && inR f b b) from by rw [HO.out]; congr 2 <;> omega)
      have K1 := Lib.hid (fun wv => impl_inR e a c wv)
      have K2 := Lib.hid (fun wv => impl_inR f b b wv)
      generalize inR e a c = X1 at *
      generalize inR f b b = X2 at *
      have c1 := B1.cell
      have c2 := B2.cell
      have l1 := B1.lt
      have l2 := B2.lt
      go_enter Tryz.func108, Tryz.ntmps108
      go_wp2_with fail
      refine (K1.out _).mono ?_
      rintro e1 w1 ⟨rfl, rfl⟩
      cases X1 with
      | false =>
        go_wp2_with fail
        go_ret
        exact ⟨by rw [HP.out]; rfl, Q0⟩
      | true =>
        go_wp2_with fail
        refine (K2.out _).mono ?_
        rintro e2 w2 ⟨rfl, rfl⟩
        go_wp2_with fail
        go_ret
        exact ⟨by rw [HP.out]; rfl, Q0⟩
    · have HP := Lib.hid (show O = (inR e a c && inR f d b) from by rw [HO.out]; congr 2 <;> omega)
      have K1 := Lib.hid (fun wv => impl_inR e a c wv)
      have K2 := Lib.hid (fun wv => impl_inR f d b wv)
      generalize inR e a c = X1 at *
      generalize inR f d b = X2 at *
      have c1 := B1.cell
      have c2 := B2.cell
      have l1 := B1.lt
      have l2 := B2.lt
      go_enter Tryz.func108, Tryz.ntmps108
      go_wp2_with fail
      refine (K1.out _).mono ?_
      rintro e1 w1 ⟨rfl, rfl⟩
      cases X1 with
      | false =>
        go_wp2_with fail
        go_ret
        exact ⟨by rw [HP.out]; rfl, Q0⟩
      | true =>
        go_wp2_with fail
        refine (K2.out _).mono ?_
        rintro e2 w2 ⟨rfl, rfl⟩
        go_wp2_with fail
        go_ret
        exact ⟨by rw [HP.out]; rfl, Q0⟩
  · rcases Int.lt_trichotomy b d with h2 | rfl | h2
    · have HP := Lib.hid (show O = (inR e a a && inR f b d) from by rw [HO.out]; congr 2 <;> omega)
      have K1 := Lib.hid (fun wv => impl_inR e a a wv)
      have K2 := Lib.hid (fun wv => impl_inR f b d wv)
      generalize inR e a a = X1 at *
      generalize inR f b d = X2 at *
      have c1 := B1.cell
      have c2 := B2.cell
      have l1 := B1.lt
      have l2 := B2.lt
      go_enter Tryz.func108, Tryz.ntmps108
      go_wp2_with fail
      refine (K1.out _).mono ?_
      rintro e1 w1 ⟨rfl, rfl⟩
      cases X1 with
      | false =>
        go_wp2_with fail
        go_ret
        exact ⟨by rw [HP.out]; rfl, Q0⟩
      | true =>
        go_wp2_with fail
        refine (K2.out _).mono ?_
        rintro e2 w2 ⟨rfl, rfl⟩
        go_wp2_with fail
        go_ret
        exact ⟨by rw [HP.out]; rfl, Q0⟩
    · have HP := Lib.hid (show O = (inR e a a && inR f b b) from by rw [HO.out]; congr 2 <;> omega)
      have K1 := Lib.hid (fun wv => impl_inR e a a wv)
      have K2 := Lib.hid (fun wv => impl_inR f b b wv)
      generalize inR e a a = X1 at *
      generalize inR f b b = X2 at *
      have c1 := B1.cell
      have c2 := B2.cell
      have l1 := B1.lt
      have l2 := B2.lt
      go_enter Tryz.func108, Tryz.ntmps108
      go_wp2_with fail
      refine (K1.out _).mono ?_
      rintro e1 w1 ⟨rfl, rfl⟩
      cases X1 with
      | false =>
        go_wp2_with fail
        go_ret
        exact ⟨by rw [HP.out]; rfl, Q0⟩
      | true =>
        go_wp2_with fail
        refine (K2.out _).mono ?_
        rintro e2 w2 ⟨rfl, rfl⟩
        go_wp2_with fail
        go_ret
        exact ⟨by rw [HP.out]; rfl, Q0⟩
    · have HP := Lib.hid (show O = (inR e a a && inR f d b) from by rw [HO.out]; congr 2 <;> omega)
      have K1 := Lib.hid (fun wv => impl_inR e a a wv)
      have K2 := Lib.hid (fun wv => impl_inR f d b wv)
      generalize inR e a a = X1 at *
      generalize inR f d b = X2 at *
      have c1 := B1.cell
      have c2 := B2.cell
      have l1 := B1.lt
      have l2 := B2.lt
      go_enter Tryz.func108, Tryz.ntmps108
      go_wp2_with fail
      refine (K1.out _).mono ?_
      rintro e1 w1 ⟨rfl, rfl⟩
      cases X1 with
      | false =>
        go_wp2_with fail
        go_ret
        exact ⟨by rw [HP.out]; rfl, Q0⟩
      | true =>
        go_wp2_with fail
        refine (K2.out _).mono ?_
        rintro e2 w2 ⟨rfl, rfl⟩
        go_wp2_with fail
        go_ret
        exact ⟨by rw [HP.out]; rfl, Q0⟩
  · rcases Int.lt_trichotomy b d with h2 | rfl | h2
    · have HP := Lib.hid (show O = (inR e c a && inR f b d) from by rw [HO.out]; congr 2 <;> omega)
      have K1 := Lib.hid (fun wv => impl_inR e c a wv)
      have K2 := Lib.hid (fun wv => impl_inR f b d wv)
      generalize inR e c a = X1 at *
      generalize inR f b d = X2 at *
      have c1 := B1.cell
      have c2 := B2.cell
      have l1 := B1.lt
      have l2 := B2.lt
      go_enter Tryz.func108, Tryz.ntmps108
      go_wp2_with fail
      refine (K1.out _).mono ?_
      rintro e1 w1 ⟨rfl, rfl⟩
      cases X1 with
      | false =>
        go_wp2_with fail
        go_ret
        exact ⟨by rw [HP.out]; rfl, Q0⟩
      | true =>
        go_wp2_with fail
        refine (K2.out _).mono ?_
        rintro e2 w2 ⟨rfl, rfl⟩
        go_wp2_with fail
        go_ret
        exact ⟨by rw [HP.out]; rfl, Q0⟩
    · have HP := Lib.hid (show O = (inR e c a && inR f b b) from by rw [HO.out]; congr 2 <;> omega)
      have K1 := Lib.hid (fun wv => impl_inR e c a wv)
      have K2 := Lib.hid (fun wv => impl_inR f b b wv)
      generalize inR e c a = X1 at *
      generalize inR f b b = X2 at *
      have c1 := B1.cell
      have c2 := B2.cell
      have l1 := B1.lt
      have l2 := B2.lt
      go_enter Tryz.func108, Tryz.ntmps108
      go_wp2_with fail
      refine (K1.out _).mono ?_
      rintro e1 w1 ⟨rfl, rfl⟩
      cases X1 with
      | false =>
        go_wp2_with fail
        go_ret
        exact ⟨by rw [HP.out]; rfl, Q0⟩
      | true =>
        go_wp2_with fail
        refine (K2.out _).mono ?_
        rintro e2 w2 ⟨rfl, rfl⟩
        go_wp2_with fail
        go_ret
        exact ⟨by rw [HP.out]; rfl, Q0⟩
    · have HP := Lib.hid (show O = (inR e c a && inR f d b) from by rw [HO.out]; congr 2 <;> omega)
      have K1 := Lib.hid (fun wv => impl_inR e c a wv)
      have K2 := Lib.hid (fun wv => impl_inR f d b wv)
      generalize inR e c a = X1 at *
      generalize inR f d b = X2 at *
      have c1 := B1.cell
      have c2 := B2.cell
      have l1 := B1.lt
      have l2 := B2.lt
      go_enter Tryz.func108, Tryz.ntmps108
      go_wp2_with fail
      refine (K1.out _).mono ?_
      rintro e1 w1 ⟨rfl, rfl⟩
      cases X1 with
      | false =>
        go_wp2_with fail
        go_ret
        exact ⟨by rw [HP.out]; rfl, Q0⟩
      | true =>
        go_wp2_with fail
        refine (K2.out _).mono ?_
        rintro e2 w2 ⟨rfl, rfl⟩
        go_wp2_with fail
        go_ret
        exact ⟨by rw [HP.out]; rfl, Q0⟩
theorem pt_B {x y : Int} (h : pt x y) : ptB x y = true := decide_eq_true ⟨h.1.1, h.1.2, h.2.1, h.2.2⟩
set_option maxRecDepth 100000 in
set_option maxHeartbeats 2000000 in
theorem impl_WithinDistance (a b c d e f D : Int) (w : World) (hl : lnB a b c d = true) (hr : pt e f) (hD : 0 ≤ D ∧ D ≤ 10000) :
    Calls Tryz.prog 109 #[.agg #[.int .i64 a, .int .i64 b, .int .i64 c, .int .i64 d], .agg #[.int .i64 e, .int .i64 f], .int .i64 D] w fun r w' => r = .returned (.tuple #[.bool (nearB a b c d e f D), .int .i64 0]) ∧ Q w w' := by
  obtain ⟨hp, hq⟩ := lnB_pts hl
  have hDD := sq_bd (x := D) (M := 10000) (by omega) (by decide)
  have k1 := fun wv => impl_IsSegment a b c d wv
  have k2 := fun wv => impl_IsPoint e f wv
  have k3 := fun wv => impl_inR D 0 10000 wv
  rw [hl] at k1
  rw [pt_B hr] at k2
  rw [inR_yes hD] at k3
  have K4 := Lib.hid (fun wv => impl_along a b c d e f wv hp hq hr)
  have K5 := Lib.hid (fun wv => impl_sqDist a b e f wv hp hr)
  have K6 := Lib.hid (fun wv => impl_sqDist c d e f wv hq hr)
  have K7 := Lib.hid (fun wv => impl_cross a b c d e f wv hp hq hr)
  have hm := sqD_bd hp hq
  have hXb : -8000000000000 ≤ crossV a b c d e f ∧ crossV a b c d e f ≤ 8000000000000 := by
    have h1 := pt_diff hq hp
    have h2 := pt_diff hr hp
    have m1 := mul_2M h1.1 h2.2
    have m2 := mul_2M h1.2 h2.1
    unfold crossV
    omega
  have HO := Lib.hid (nearB_iff a b c d e f D)
  generalize nearB a b c d e f D = O at *
  generalize sqD a b e f = S1 at *
  generalize sqD c d e f = S2 at *
  generalize farV a b c d e f = n at *
  generalize sqD a b c d = m at *
  generalize crossV a b c d e f = X at *
  have K1 := Lib.hid k1
  have K2 := Lib.hid k2
  have K3 := Lib.hid k3
  clear k1 k2 k3 hl hp hq hr
  obtain ⟨B1, B2⟩ := bx42 w a b c d e f
  have Q0 : Q w ((w.alloc (.cells #[.int .i64 a, .int .i64 b, .int .i64 c, .int .i64 d] 106)).alloc (.cells #[.int .i64 e, .int .i64 f] 78)) := by (repeat (first | assumption | exact Q.refl _ | refine Q.alloc ?_ _ | refine Q.drewN ?_ _ | refine Q.drew ?_))
  go_enter Tryz.func109, Tryz.ntmps109
  go_wp2_with fail
  refine (K1.out _).mono ?_
  rintro e1 w1 ⟨rfl, q1⟩
  replace B1 := B1.q q1
  replace B2 := B2.q q1
  replace Q0 := Q0.trans q1
  have c1 := B1.cell
  have c2 := B2.cell
  have l1 := B1.lt
  have l2 := B2.lt
  go_wp2_with fail
  refine (K2.out _).mono ?_
  rintro e2 w2 ⟨rfl, q2⟩
  replace B1 := B1.q q2
  replace B2 := B2.q q2
  replace Q0 := Q0.trans q2
  replace c1 := B1.cell
  replace c2 := B2.cell
  replace l1 := B1.lt
  replace l2 := B2.lt
  go_wp2_with fail
  refine (K3.out _).mono ?_
  rintro e3 w3 ⟨rfl, rfl⟩
  go_wp2_with fail
  refine (K4.out _).mono ?_
  rintro e4 w4 ⟨rfl, q4⟩
  replace B1 := B1.q q4
  replace B2 := B2.q q4
  replace Q0 := Q0.trans q4
  replace c1 := B1.cell
  replace c2 := B2.cell
  replace l1 := B1.lt
  replace l2 := B2.lt
  by_cases hn : n ≤ 0
  · go_wp2_with fail
    refine (K5.out _).mono ?_
    rintro e5 w5 ⟨rfl, q5⟩
    go_wp2_with fail
    go_ret2
    have HO2 := Lib.hid (show O = decide (S1 ≤ D * D) from by rw [HO.out]; congr 1; rw [if_pos hn])
    exact ⟨by rw [HO2.out]; rfl, Q0.trans q5⟩
  · by_cases hnm : m ≤ n
    · go_wp2_with fail
      refine (K6.out _).mono ?_
      rintro e5 w5 ⟨rfl, q5⟩
      go_wp2_with fail
      go_ret2
      have HO2 := Lib.hid (show O = decide (S2 ≤ D * D) from by rw [HO.out]; congr 1; rw [if_neg (by omega), if_pos hnm])
      exact ⟨by rw [HO2.out]; rfl, Q0.trans q5⟩
    · go_wp2_with fail
      refine (K7.out _).mono ?_
      rintro e5 w5 ⟨rfl, q5⟩
      have HO2 := Lib.hid (show O = decide (X * X ≤ D * D * m) from by rw [HO.out]; congr 1; rw [if_neg (by omega), if_neg (by omega)])
      by_cases hX : 0 ≤ X
      · have K8 := Lib.hid (fun wv => impl_cmp X X (D * D) m (by omega) (by omega) (by omega) (by omega) wv)
        go_wp2_with fail
        all_goals
          refine (K8.out _).mono ?_
          rintro e6 w6 ⟨rfl, rfl⟩
          go_wp2_with fail
          go_ret2
          refine ⟨?_, Q0.trans q5⟩
          rw [HO2.out]
          show Ending.returned (.tuple #[.bool (decide (cmpI X X (D * D) m ≤ 0)), .int .i64 0]) = _
          rw [decide_eq_decide.2 (cmpI_le (a := X) (b := X) (c := D * D) (d := m))]
      · have e0 : -X * -X = X * X := Int.neg_mul_neg X X
        have K8 := Lib.hid (fun wv => impl_cmp (-X) (-X) (D * D) m (by omega) (by omega) (by omega) (by omega) wv)
        go_wp2_with fail
        all_goals
          refine (K8.out _).mono ?_
          rintro e6 w6 ⟨rfl, rfl⟩
          go_wp2_with fail
          go_ret2
          refine ⟨?_, Q0.trans q5⟩
          rw [HO2.out, ← e0]
          show Ending.returned (.tuple #[.bool (decide (cmpI (-X) (-X) (D * D) m ≤ 0)), .int .i64 0]) = _
          rw [decide_eq_decide.2 (cmpI_le (a := -X) (b := -X) (c := D * D) (d := m))]
end Go.Proofs.YtkpdoikjfibflaaGreatDoor
