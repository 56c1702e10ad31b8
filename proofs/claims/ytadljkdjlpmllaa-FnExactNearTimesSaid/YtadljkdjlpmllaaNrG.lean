/- Walks: lengths of headings, sterns and valid hulls, as the program and the reference tell them. No condition. -/
import Derived.Test.YtadljkdjlpmllaaNrF
import Derived.Test.YtadljkdjlpmllaaNrA
import Derived.Test.YtadljkdjlpmllaaTail
namespace Go.Proofs.Ytadljkdjlpmllaa
open Go.RowKit Go.WideShapes Go.ChangeShapes
def hdOk (x y : Int) : Prop := ((-2000000 ≤ x ∧ x ≤ 2000000) ∧ (-2000000 ≤ y ∧ y ≤ 2000000)) ∧ ¬ (x = 0 ∧ y = 0)
theorem hd_sq {x y : Int} (h : hdOk x y) : (0 ≤ x * x ∧ x * x ≤ 4000000000000) ∧ (0 ≤ y * y ∧ y * y ≤ 4000000000000) :=
  ⟨sq_bd h.1.1 (by decide), sq_bd h.1.2 (by decide)⟩
theorem impl_lengthOf (x y : Int) (w : World) (h : hdOk x y) : Calls Try.prog 79 #[.agg #[.int .i64 x, .int .i64 y]] w fun e w' => e = .returned (.int .i64 (rt (x * x + y * y))) ∧ Q w w' := by
  obtain ⟨m1, m2⟩ := hd_sq h
  have K1 := Lib.hid (fun wv => impl_rootOf (x * x + y * y) wv (by omega) (by omega))
  generalize rt (x * x + y * y) = R at *
  go_enter Try.func79, Try.ntmps79
  go_wp2_with fail
  refine (K1.out _).mono ?_
  rintro e w1 ⟨rfl, rfl⟩
  go_wp2_with fail
  go_ret
  exact ⟨rfl, by (repeat (first | assumption | exact Q.refl _ | refine Q.alloc ?_ _ | refine Q.drewN ?_ _ | refine Q.drew ?_))⟩
theorem bx5 (w : World) (a b x y l : Int) : Blk (w.alloc (.cells #[.int .i64 a, .int .i64 b, .int .i64 x, .int .i64 y, .int .i64 l] 56)) w.heap.size 56 #[.int .i64 a, .int .i64 b, .int .i64 x, .int .i64 y, .int .i64 l] := Blk.new _ _ _
theorem spec_l09Norm (a b x y l : Int) (w : World) (h : hdOk x y) : Calls Try.prog 64 #[.agg #[.int .i64 a, .int .i64 b, .int .i64 x, .int .i64 y, .int .i64 l]] w fun e w' => e = .returned (.int .i64 (rt (x * x + y * y))) ∧ Q w w' := by
  obtain ⟨m1, m2⟩ := hd_sq h
  have K1 := Lib.hid (fun wv => spec_DotV x y x y wv h.1 h.1)
  have K2 := Lib.hid (fun wv => spec_Root (x * x + y * y) wv (by omega) (by omega))
  generalize rt (x * x + y * y) = R at *
  go_enter Try.func64, Try.ntmps64
  go_wp2_with fail
  refine (K1.out _).mono ?_
  rintro e w1 ⟨rfl, q1⟩
  go_wp2_with fail
  refine (K2.out _).mono ?_
  rintro e w2 ⟨rfl, rfl⟩
  go_wp2_with fail
  go_ret
  exact ⟨rfl, Q.trans (by (repeat (first | assumption | exact Q.refl _ | refine Q.alloc ?_ _ | refine Q.drewN ?_ _ | refine Q.drew ?_))) q1⟩
theorem rt_pos1 {x y : Int} (h : hdOk x y) : 1 ≤ rt (x * x + y * y) ∧ rt (x * x + y * y) ≤ 2828427 := by
  obtain ⟨m1, m2⟩ := hd_sq h
  exact ⟨rt_one h.2, rt_mono_bd (by omega) (by decide) (by omega)⟩
theorem mul_l {h l : Int} (hh : -2000000 ≤ h ∧ h ≤ 2000000) (hl : 1 ≤ l ∧ l ≤ 1000) : -2000000000 ≤ h * l ∧ h * l ≤ 2000000000 := by
  have h1 : h * l ≤ 2000000 * l := Int.mul_le_mul_of_nonneg_right hh.2 (by omega)
  have h2 : (-2000000) * l ≤ h * l := Int.mul_le_mul_of_nonneg_right hh.1 (by omega)
  omega
theorem div_bd {p r : Int} (hp : -2000000000 ≤ p ∧ p ≤ 2000000000) (hr : 1 ≤ r) : -2000000000 ≤ p / r ∧ p / r ≤ 2000000000 := by
  constructor
  · refine (Int.le_ediv_iff_mul_le (by omega)).2 ?_
    have : (2000000000 : Int) * 1 ≤ 2000000000 * r := Int.mul_le_mul_of_nonneg_left hr (by decide)
    omega
  · refine Int.le_trans (Int.ediv_le_ediv (by omega) hp.2) ?_
    exact Int.ediv_le_self _ (by decide)
set_option maxHeartbeats 2000000 in
theorem impl_sternOf (a b x y l : Int) (w : World) (hp : pt a b) (h : hdOk x y) (hl : 1 ≤ l ∧ l ≤ 1000) : Calls Try.prog 55 #[.agg #[.int .i64 a, .int .i64 b, .int .i64 x, .int .i64 y, .int .i64 l]] w fun e w' => e = .returned (.agg #[.int .i64 (snV a x l x y), .int .i64 (snV b y l x y)]) ∧ Q w w' := by
  have hR := rt_pos1 h
  have K1 := Lib.hid (fun wv => impl_lengthOf x y wv h)
  have mx := mul_l h.1.1 hl
  have my := mul_l h.1.2 hl
  have HX := Lib.hid (show snV a x l x y = a - x * l / rt (x * x + y * y) from rfl)
  have HY := Lib.hid (show snV b y l x y = b - y * l / rt (x * x + y * y) from rfl)
  generalize snV a x l x y = sx at *
  generalize snV b y l x y = sy at *
  generalize rt (x * x + y * y) = R at *
  have dx := div_bd mx hR.1
  have dy := div_bd my hR.1
  obtain ⟨⟨p1, p2⟩, p3, p4⟩ := hp
  have B1 := (bx5 w a b x y l).alloc (.cells #[.int .i64 0, .int .i64 0] 54)
  have B2 : Blk ((w.alloc (.cells #[.int .i64 a, .int .i64 b, .int .i64 x, .int .i64 y, .int .i64 l] 56)).alloc (.cells #[.int .i64 0, .int .i64 0] 54)) (w.heap.size + 1) 54 #[.int .i64 0, .int .i64 0] := by simpa using Blk.new (w.alloc (.cells #[.int .i64 a, .int .i64 b, .int .i64 x, .int .i64 y, .int .i64 l] 56)) 54 #[.int .i64 0, .int .i64 0]
  have Q0 : Q w ((w.alloc (.cells #[.int .i64 a, .int .i64 b, .int .i64 x, .int .i64 y, .int .i64 l] 56)).alloc (.cells #[.int .i64 0, .int .i64 0] 54)) := by (repeat (first | assumption | exact Q.refl _ | refine Q.alloc ?_ _ | refine Q.drewN ?_ _ | refine Q.drew ?_))
  clear h
  go_enter Try.func55, Try.ntmps55
  go_wp2_with fail
  refine (K1.out _).mono ?_
  rintro e1 w1 ⟨rfl, q1⟩
  replace B1 := B1.q q1
  replace B2 := B2.q q1
  replace Q0 := Q0.trans q1
  have L1 := later_cells B1.cell B1.lt
  go_wp2_with fail
  refine wp_region_later_tail 25 (by kernel_rfl) (by kernel_rfl) ?_
  simp only [List.take_succ_cons, List.take_zero, List.drop_succ_cons, List.drop_zero]
  repeat (any_goals (first | go_big_quiet_step ((go_at_call 74; exact later_same (impl_floorDiv _ _ _ (by omega) (by omega) (by omega)))) | quiet_step ((go_at_call 74; exact later_same (impl_floorDiv _ _ _ (by omega) (by omega) (by omega))))))
  refine wpQuiet_nil ?_
  rintro w3 ⟨⟨w4, q4⟩, hw⟩
  obtain rfl : w3 = w4 := hw
  have cP := (B2.q q4).cell
  have fP := (B2.q q4).frozen
  have Q4 : Q w w3 := Q0.trans q4
  go_wp2_with fail
  have bf := (((B2.q q4).set_ 0 (.int .i64 (a - x * l / R))).set_ 1 (.int .i64 (b - y * l / R))).cell
  exact bodyPost_ret (v := .agg #[.int .i64 sx, .int .i64 sy]) (by rw [HX.out, HY.out]; simp [results, Try.results55, go_sem, bf]) rfl ⟨rfl, (Q4.setCell (by simp) _).setCell (by simp) _⟩
set_option maxHeartbeats 2000000 in
theorem spec_l09Stern (a b x y l : Int) (w : World) (hp : pt a b) (h : hdOk x y) (hl : 1 ≤ l ∧ l ≤ 1000) : Calls Try.prog 43 #[.agg #[.int .i64 a, .int .i64 b, .int .i64 x, .int .i64 y, .int .i64 l]] w fun e w' => e = .returned (.agg #[.int .i64 (snV a x l x y), .int .i64 (snV b y l x y)]) ∧ Q w w' := by
  have hR := rt_pos1 h
  have K1 := Lib.hid (fun wv => spec_l09Norm a b x y l wv h)
  have mx := mul_l h.1.1 hl
  have my := mul_l h.1.2 hl
  have HX := Lib.hid (show snV a x l x y = a - x * l / rt (x * x + y * y) from rfl)
  have HY := Lib.hid (show snV b y l x y = b - y * l / rt (x * x + y * y) from rfl)
  generalize snV a x l x y = sx at *
  generalize snV b y l x y = sy at *
  generalize rt (x * x + y * y) = R at *
  have dx := div_bd mx hR.1
  have dy := div_bd my hR.1
  obtain ⟨⟨p1, p2⟩, p3, p4⟩ := hp
  have B1 := (bx5 w a b x y l).alloc (.cells #[.int .i64 0, .int .i64 0] 54)
  have B2 : Blk ((w.alloc (.cells #[.int .i64 a, .int .i64 b, .int .i64 x, .int .i64 y, .int .i64 l] 56)).alloc (.cells #[.int .i64 0, .int .i64 0] 54)) (w.heap.size + 1) 54 #[.int .i64 0, .int .i64 0] := by simpa using Blk.new (w.alloc (.cells #[.int .i64 a, .int .i64 b, .int .i64 x, .int .i64 y, .int .i64 l] 56)) 54 #[.int .i64 0, .int .i64 0]
  have Q0 : Q w ((w.alloc (.cells #[.int .i64 a, .int .i64 b, .int .i64 x, .int .i64 y, .int .i64 l] 56)).alloc (.cells #[.int .i64 0, .int .i64 0] 54)) := by (repeat (first | assumption | exact Q.refl _ | refine Q.alloc ?_ _ | refine Q.drewN ?_ _ | refine Q.drew ?_))
  clear h
  go_enter Try.func43, Try.ntmps43
  go_wp2_with fail
  refine (K1.out _).mono ?_
  rintro e1 w1 ⟨rfl, q1⟩
  replace B1 := B1.q q1
  replace B2 := B2.q q1
  replace Q0 := Q0.trans q1
  have L1 := later_cells B1.cell B1.lt
  go_wp2_with fail
  refine wp_region_later_tail 25 (by kernel_rfl) (by kernel_rfl) ?_
  simp only [List.take_succ_cons, List.take_zero, List.drop_succ_cons, List.drop_zero]
  repeat (any_goals (first | go_big_quiet_step ((go_at_call 65; exact later_same (spec_Floor _ _ _ (by omega) (by omega) (by omega)))) | quiet_step ((go_at_call 65; exact later_same (spec_Floor _ _ _ (by omega) (by omega) (by omega))))))
  refine wpQuiet_nil ?_
  rintro w3 ⟨⟨w4, q4⟩, hw⟩
  obtain rfl : w3 = w4 := hw
  have cP := (B2.q q4).cell
  have fP := (B2.q q4).frozen
  have Q4 : Q w w3 := Q0.trans q4
  go_wp2_with fail
  have bf := (((B2.q q4).set_ 0 (.int .i64 (a - x * l / R))).set_ 1 (.int .i64 (b - y * l / R))).cell
  exact bodyPost_ret (v := .agg #[.int .i64 sx, .int .i64 sy]) (by rw [HX.out, HY.out]; simp [results, Try.results43, go_sem, bf]) rfl ⟨rfl, (Q4.setCell (by simp) _).setCell (by simp) _⟩
end Go.Proofs.Ytadljkdjlpmllaa
