/- Walks: points on a segment and near it, as the program tells them. No condition. -/
import Derived.Test.YtadljkdjlpmllaaNrD
namespace Go.Proofs.Ytadljkdjlpmllaa
open Go.RowKit Go.WideShapes Go.ChangeShapes
theorem onB_in (a b c d e f : Int) : onB a b c d e f = (inR e (min a c) (max a c) && inR f (min b d) (max b d)) := rfl
set_option maxHeartbeats 1000000 in
theorem impl_onSegment (a b c d e f : Int) (w : World) :
    Calls Try.prog 81 #[.agg #[.int .i64 a, .int .i64 b, .int .i64 c, .int .i64 d], .agg #[.int .i64 e, .int .i64 f]] w fun r w' => r = .returned (.bool (onB a b c d e f)) ∧ Q w w' := by
  have HO := Lib.hid (onB_in a b c d e f)
  generalize onB a b c d e f = O at *
  obtain ⟨B1, B2⟩ := bx42 w a b c d e f
  have Q0 : Q w ((w.alloc (.cells #[.int .i64 a, .int .i64 b, .int .i64 c, .int .i64 d] 76)).alloc (.cells #[.int .i64 e, .int .i64 f] 54)) := by (repeat (first | assumption | exact Q.refl _ | refine Q.alloc ?_ _ | refine Q.drewN ?_ _ | refine Q.drew ?_))
  rcases Int.lt_trichotomy a c with h1 | rfl | h1
  · rcases Int.lt_trichotomy b d with h2 | rfl | h2
    · have HP := Lib.hid (show O = (inR e a c && inR f b d) from by rw [HO.out]; congr 2 <;> omega)
      have K1 := Lib.hid (fun wv => impl_inR e a c wv)
      have K2 := Lib.hid (fun wv => impl_inR f b d wv)
      generalize inR e a c = X1 at *
      generalize inR f b d = X2 at *
      have c1 := B1.cell
      have c2 := B2.cell
      have l1 := B1.lt
      have l2 := B2.lt
      go_enter Try.func81, Try.ntmps81
      go_wp2_with fail
      refine (K1.out _).mono ?_
      rintro e1 w1 ⟨rfl, rfl⟩
      cases X1 with
      | false =>
        go_wp2_with fail
        go_ret
        exact ⟨by rw [HP.out]; rfl, Q0⟩
      | true =>
        go_wp2_with fail
        refine (K2.out _).mono ?_
        rintro e2 w2 ⟨rfl, rfl⟩
        go_wp2_with fail
        go_ret
        exact ⟨by rw [HP.out]; rfl, Q0⟩
    · have HP := Lib.hid (show O = (inR e a c && inR f b b) from by rw [HO.out]; congr 2 <;> omega)
      have K1 := Lib.hid (fun wv => impl_inR e a c wv)
      have K2 := Lib.hid (fun wv => impl_inR f b b wv)
      generalize inR e a c = X1 at *
      generalize inR f b b = X2 at *
      have c1 := B1.cell
      have c2 := B2.cell
      have l1 := B1.lt
      have l2 := B2.lt
      go_enter Try.func81, Try.ntmps81
      go_wp2_with fail
      refine (K1.out _).mono ?_
      rintro e1 w1 ⟨rfl, rfl⟩
      cases X1 with
      | false =>
        go_wp2_with fail
        go_ret
        exact ⟨by rw [HP.out]; rfl, Q0⟩
      | true =>
        go_wp2_with fail
        refine (K2.out _).mono ?_
        rintro e2 w2 ⟨rfl, rfl⟩
        go_wp2_with fail
        go_ret
        exact ⟨by rw [HP.out]; rfl, Q0⟩
    · have HP := Lib.hid (show O = (inR e a c && inR f d b) from by rw [HO.out]; congr 2 <;> omega)
      have K1 := Lib.hid (fun wv => impl_inR e a c wv)
      have K2 := Lib.hid (fun wv => impl_inR f d b wv)
      generalize inR e a c = X1 at *
      generalize inR f d b = X2 at *
      have c1 := B1.cell
      have c2 := B2.cell
      have l1 := B1.lt
      have l2 := B2.lt
      go_enter Try.func81, Try.ntmps81
      go_wp2_with fail
      refine (K1.out _).mono ?_
      rintro e1 w1 ⟨rfl, rfl⟩
      cases X1 with
      | false =>
        go_wp2_with fail
        go_ret
        exact ⟨by rw [HP.out]; rfl, Q0⟩
      | true =>
        go_wp2_with fail
        refine (K2.out _).mono ?_
        rintro e2 w2 ⟨rfl, rfl⟩
        go_wp2_with fail
        go_ret
        exact ⟨by rw [HP.out]; rfl, Q0⟩
  · rcases Int.lt_trichotomy b d with h2 | rfl | h2
    · have HP := Lib.hid (show O = (inR e a a && inR f b d) from by rw [HO.out]; congr 2 <;> omega)
      have K1 := Lib.hid (fun wv => impl_inR e a a wv)
      have K2 := Lib.hid (fun wv => impl_inR f b d wv)
      generalize inR e a a = X1 at *
      generalize inR f b d = X2 at *
      have c1 := B1.cell
      have c2 := B2.cell
      have l1 := B1.lt
      have l2 := B2.lt
      go_enter Try.func81, Try.ntmps81
      go_wp2_with fail
      refine (K1.out _).mono ?_
      rintro e1 w1 ⟨rfl, rfl⟩
      cases X1 with
      | false =>
        go_wp2_with fail
        go_ret
        exact ⟨by rw [HP.out]; rfl, Q0⟩
      | true =>
        go_wp2_with fail
        refine (K2.out _).mono ?_
        rintro e2 w2 ⟨rfl, rfl⟩
        go_wp2_with fail
        go_ret
        exact ⟨by rw [HP.out]; rfl, Q0⟩
    · have HP := Lib.hid (show O = (inR e a a && inR f b b) from by rw [HO.out]; congr 2 <;> omega)
      have K1 := Lib.hid (fun wv => impl_inR e a a wv)
      have K2 := Lib.hid (fun wv => impl_inR f b b wv)
      generalize inR e a a = X1 at *
      generalize inR f b b = X2 at *
      have c1 := B1.cell
      have c2 := B2.cell
      have l1 := B1.lt
      have l2 := B2.lt
      go_enter Try.func81, Try.ntmps81
      go_wp2_with fail
      refine (K1.out _).mono ?_
      rintro e1 w1 ⟨rfl, rfl⟩
      cases X1 with
      | false =>
        go_wp2_with fail
        go_ret
        exact ⟨by rw [HP.out]; rfl, Q0⟩
      | true =>
        go_wp2_with fail
        refine (K2.out _).mono ?_
        rintro e2 w2 ⟨rfl, rfl⟩
        go_wp2_with fail
        go_ret
        exact ⟨by rw [HP.out]; rfl, Q0⟩
    · have HP := Lib.hid (show O = (inR e a a && inR f d b) from by rw [HO.out]; congr 2 <;> omega)
      have K1 := Lib.hid (fun wv => impl_inR e a a wv)
      have K2 := Lib.hid (fun wv => impl_inR f d b wv)
      generalize inR e a a = X1 at *
      generalize inR f d b = X2 at *
      have c1 := B1.cell
      have c2 := B2.cell
      have l1 := B1.lt
      have l2 := B2.lt
      go_enter Try.func81, Try.ntmps81
      go_wp2_with fail
      refine (K1.out _).mono ?_
      rintro e1 w1 ⟨rfl, rfl⟩
      cases X1 with
      | false =>
        go_wp2_with fail
        go_ret
        exact ⟨by rw [HP.out]; rfl, Q0⟩
      | true =>
        go_wp2_with fail
        refine (K2.out _).mono ?_
        rintro e2 w2 ⟨rfl, rfl⟩
        go_wp2_with fail
        go_ret
        exact ⟨by rw [HP.out]; rfl, Q0⟩
  · rcases Int.lt_trichotomy b d with h2 | rfl | h2
    · have HP := Lib.hid (show O = (inR e c a && inR f b d) from by rw [HO.out]; congr 2 <;> omega)
      have K1 := Lib.hid (fun wv => impl_inR e c a wv)
      have K2 := Lib.hid (fun wv => impl_inR f b d wv)
      generalize inR e c a = X1 at *
      generalize inR f b d = X2 at *
      have c1 := B1.cell
      have c2 := B2.cell
      have l1 := B1.lt
      have l2 := B2.lt
      go_enter Try.func81, Try.ntmps81
      go_wp2_with fail
      refine (K1.out _).mono ?_
      rintro e1 w1 ⟨rfl, rfl⟩
      cases X1 with
      | false =>
        go_wp2_with fail
        go_ret
        exact ⟨by rw [HP.out]; rfl, Q0⟩
      | true =>
        go_wp2_with fail
        refine (K2.out _).mono ?_
        rintro e2 w2 ⟨rfl, rfl⟩
        go_wp2_with fail
        go_ret
        exact ⟨by rw [HP.out]; rfl, Q0⟩
    · have HP := Lib.hid (show O = (inR e c a && inR f b b) from by rw [HO.out]; congr 2 <;> omega)
      have K1 := Lib.hid (fun wv => impl_inR e c a wv)
      have K2 := Lib.hid (fun wv => impl_inR f b b wv)
      generalize inR e c a = X1 at *
      generalize inR f b b = X2 at *
      have c1 := B1.cell
      have c2 := B2.cell
      have l1 := B1.lt
      have l2 := B2.lt
      go_enter Try.func81, Try.ntmps81
      go_wp2_with fail
      refine (K1.out _).mono ?_
      rintro e1 w1 ⟨rfl, rfl⟩
      cases X1 with
      | false =>
        go_wp2_with fail
        go_ret
        exact ⟨by rw [HP.out]; rfl, Q0⟩
      | true =>
        go_wp2_with fail
        refine (K2.out _).mono ?_
        rintro e2 w2 ⟨rfl, rfl⟩
        go_wp2_with fail
        go_ret
        exact ⟨by rw [HP.out]; rfl, Q0⟩
    · have HP := Lib.hid (show O = (inR e c a && inR f d b) from by rw [HO.out]; congr 2 <;> omega)
      have K1 := Lib.hid (fun wv => impl_inR e c a wv)
      have K2 := Lib.hid (fun wv => impl_inR f d b wv)
      generalize inR e c a = X1 at *
      generalize inR f d b = X2 at *
      have c1 := B1.cell
      have c2 := B2.cell
      have l1 := B1.lt
      have l2 := B2.lt
      go_enter Try.func81, Try.ntmps81
      go_wp2_with fail
      refine (K1.out _).mono ?_
      rintro e1 w1 ⟨rfl, rfl⟩
      cases X1 with
      | false =>
        go_wp2_with fail
        go_ret
        exact ⟨by rw [HP.out]; rfl, Q0⟩
      | true =>
        go_wp2_with fail
        refine (K2.out _).mono ?_
        rintro e2 w2 ⟨rfl, rfl⟩
        go_wp2_with fail
        go_ret
        exact ⟨by rw [HP.out]; rfl, Q0⟩
theorem pt_B {x y : Int} (h : pt x y) : ptB x y = true := decide_eq_true ⟨h.1.1, h.1.2, h.2.1, h.2.2⟩
set_option maxRecDepth 100000 in
set_option maxHeartbeats 2000000 in
theorem impl_WithinDistance (a b c d e f D : Int) (w : World) (hl : lnB a b c d = true) (hr : pt e f) (hD : 0 ≤ D ∧ D ≤ 10000) :
    Calls Try.prog 82 #[.agg #[.int .i64 a, .int .i64 b, .int .i64 c, .int .i64 d], .agg #[.int .i64 e, .int .i64 f], .int .i64 D] w fun r w' => r = .returned (.tuple #[.bool (nearB a b c d e f D), .int .i64 0]) ∧ Q w w' := by
  obtain ⟨hp, hq⟩ := lnB_pts hl
  have hDD := sq_bd (x := D) (M := 10000) (by omega) (by decide)
  have k1 := fun wv => impl_IsSegment a b c d wv
  have k2 := fun wv => impl_IsPoint e f wv
  have k3 := fun wv => impl_inR D 0 10000 wv
  rw [hl] at k1
  rw [pt_B hr] at k2
  rw [inR_yes hD] at k3
  have K4 := Lib.hid (fun wv => impl_along a b c d e f wv hp hq hr)
  have K5 := Lib.hid (fun wv => impl_sqDist a b e f wv hp hr)
  have K6 := Lib.hid (fun wv => impl_sqDist c d e f wv hq hr)
  have K7 := Lib.hid (fun wv => impl_cross a b c d e f wv hp hq hr)
  have hm := sqD_bd hp hq
  have hXb : -8000000000000 ≤ crossV a b c d e f ∧ crossV a b c d e f ≤ 8000000000000 := by
    have h1 := pt_diff hq hp
    have h2 := pt_diff hr hp
    have m1 := mul_2M h1.1 h2.2
    have m2 := mul_2M h1.2 h2.1
    unfold crossV
    omega
  have HO := Lib.hid (nearB_iff a b c d e f D)
  generalize nearB a b c d e f D = O at *
  generalize sqD a b e f = S1 at *
  generalize sqD c d e f = S2 at *
  generalize farV a b c d e f = n at *
  generalize sqD a b c d = m at *
  generalize crossV a b c d e f = X at *
  have K1 := Lib.hid k1
  have K2 := Lib.hid k2
  have K3 := Lib.hid k3
  clear k1 k2 k3 hl hp hq hr
  obtain ⟨B1, B2⟩ := bx42 w a b c d e f
  have Q0 : Q w ((w.alloc (.cells #[.int .i64 a, .int .i64 b, .int .i64 c, .int .i64 d] 76)).alloc (.cells #[.int .i64 e, .int .i64 f] 54)) := by (repeat (first | assumption | exact Q.refl _ | refine Q.alloc ?_ _ | refine Q.drewN ?_ _ | refine Q.drew ?_))
  go_enter Try.func82, Try.ntmps82
  go_wp2_with fail
  refine (K1.out _).mono ?_
  rintro e1 w1 ⟨rfl, q1⟩
  replace B1 := B1.q q1
  replace B2 := B2.q q1
  replace Q0 := Q0.trans q1
  have c1 := B1.cell
  have c2 := B2.cell
  have l1 := B1.lt
  have l2 := B2.lt
  go_wp2_with fail
  refine (K2.out _).mono ?_
  rintro e2 w2 ⟨rfl, q2⟩
  replace B1 := B1.q q2
  replace B2 := B2.q q2
  replace Q0 := Q0.trans q2
  replace c1 := B1.cell
  replace c2 := B2.cell
  replace l1 := B1.lt
  replace l2 := B2.lt
  go_wp2_with fail
  refine (K3.out _).mono ?_
  rintro e3 w3 ⟨rfl, rfl⟩
  go_wp2_with fail
  refine (K4.out _).mono ?_
  rintro e4 w4 ⟨rfl, q4⟩
  replace B1 := B1.q q4
  replace B2 := B2.q q4
  replace Q0 := Q0.trans q4
  replace c1 := B1.cell
  replace c2 := B2.cell
  replace l1 := B1.lt
  replace l2 := B2.lt
  by_cases hn : n ≤ 0
  · go_wp2_with fail
    refine (K5.out _).mono ?_
    rintro e5 w5 ⟨rfl, q5⟩
    go_wp2_with fail
    go_ret2
    have HO2 := Lib.hid (show O = decide (S1 ≤ D * D) from by rw [HO.out]; congr 1; rw [if_pos hn])
    exact ⟨by rw [HO2.out]; rfl, Q0.trans q5⟩
  · by_cases hnm : m ≤ n
    · go_wp2_with fail
      refine (K6.out _).mono ?_
      rintro e5 w5 ⟨rfl, q5⟩
      go_wp2_with fail
      go_ret2
      have HO2 := Lib.hid (show O = decide (S2 ≤ D * D) from by rw [HO.out]; congr 1; rw [if_neg (by omega), if_pos hnm])
      exact ⟨by rw [HO2.out]; rfl, Q0.trans q5⟩
    · go_wp2_with fail
      refine (K7.out _).mono ?_
      rintro e5 w5 ⟨rfl, q5⟩
      have HO2 := Lib.hid (show O = decide (X * X ≤ D * D * m) from by rw [HO.out]; congr 1; rw [if_neg (by omega), if_neg (by omega)])
      by_cases hX : 0 ≤ X
      · have K8 := Lib.hid (fun wv => impl_cmp X X (D * D) m (by omega) (by omega) (by omega) (by omega) wv)
        go_wp2_with fail
        all_goals
          refine (K8.out _).mono ?_
          rintro e6 w6 ⟨rfl, rfl⟩
          go_wp2_with fail
          go_ret2
          refine ⟨?_, Q0.trans q5⟩
          rw [HO2.out]
          show Ending.returned (.tuple #[.bool (decide (cmpI X X (D * D) m ≤ 0)), .int .i64 0]) = _
          rw [decide_eq_decide.2 (cmpI_le (a := X) (b := X) (c := D * D) (d := m))]
      · have e0 : -X * -X = X * X := Int.neg_mul_neg X X
        have K8 := Lib.hid (fun wv => impl_cmp (-X) (-X) (D * D) m (by omega) (by omega) (by omega) (by omega) wv)
        go_wp2_with fail
        all_goals
          refine (K8.out _).mono ?_
          rintro e6 w6 ⟨rfl, rfl⟩
          go_wp2_with fail
          go_ret2
          refine ⟨?_, Q0.trans q5⟩
          rw [HO2.out, ← e0]
          show Ending.returned (.tuple #[.bool (decide (cmpI (-X) (-X) (D * D) m ≤ 0)), .int .i64 0]) = _
          rw [decide_eq_decide.2 (cmpI_le (a := -X) (b := -X) (c := D * D) (d := m))]
end Go.Proofs.Ytadljkdjlpmllaa
