/- Walks: segments that meet, ends that are near, as the program tells them. No condition. -/
import Derived.Test.YtadljkdjlpmllaaNrE
import Derived.Deep.CutBlock
namespace Go.Proofs.Ytadljkdjlpmllaa
open Go.RowKit Go.WideShapes Go.ChangeShapes
theorem impl_endNear (a b c d e f g h D : Int) (w : World) (hs : lnB a b c d = true) (ht : lnB e f g h = true) (hD : 0 ≤ D ∧ D ≤ 10000) :
    Calls Try.prog 58 #[.agg #[.int .i64 a, .int .i64 b, .int .i64 c, .int .i64 d], .agg #[.int .i64 e, .int .i64 f, .int .i64 g, .int .i64 h], .int .i64 D] w fun r w' => r = .returned (.bool (nearB e f g h a b D || nearB e f g h c d D)) ∧ Q w w' := by
  obtain ⟨hp, hq⟩ := lnB_pts hs
  have K1 := Lib.hid (fun wv => impl_WithinDistance e f g h a b D wv ht hp hD)
  have K2 := Lib.hid (fun wv => impl_WithinDistance e f g h c d D wv ht hq hD)
  generalize nearB e f g h a b D = X1 at *
  generalize nearB e f g h c d D = X2 at *
  obtain ⟨B1, B2⟩ := bx44 w a b c d e f g h
  have Q0 : Q w ((w.alloc (.cells #[.int .i64 a, .int .i64 b, .int .i64 c, .int .i64 d] 76)).alloc (.cells #[.int .i64 e, .int .i64 f, .int .i64 g, .int .i64 h] 76)) := by (repeat (first | assumption | exact Q.refl _ | refine Q.alloc ?_ _ | refine Q.drewN ?_ _ | refine Q.drew ?_))
  clear hs ht hp hq hD
  go_enter Try.func58, Try.ntmps58
  go_wp2_with fail
  refine (K1.out _).mono ?_
  rintro e1 w1 ⟨rfl, q1⟩
  have c1 := (B1.q q1).cell
  have c2 := (B2.q q1).cell
  have l1 := (B1.q q1).lt
  have l2 := (B2.q q1).lt
  go_wp2_with fail
  refine (K2.out _).mono ?_
  rintro e2 w2 ⟨rfl, q2⟩
  cases X1 <;> cases X2
  all_goals go_wp2_with fail
  all_goals go_ret
  all_goals exact ⟨rfl, (Q0.trans q1).trans q2⟩
theorem lnB_ne {a b c d : Int} (h : lnB a b c d = true) : ¬ (a = c ∧ b = d) := by
  rintro ⟨rfl, rfl⟩
  unfold lnB at h
  simp at h
set_option maxRecDepth 100000 in
set_option maxHeartbeats 2000000 in
theorem impl_SegmentsMeet (a b c d e f g h : Int) (w : World) (hs : lnB a b c d = true) (ht : lnB e f g h = true) :
    Calls Try.prog 57 #[.agg #[.int .i64 a, .int .i64 b, .int .i64 c, .int .i64 d], .agg #[.int .i64 e, .int .i64 f, .int .i64 g, .int .i64 h]] w fun r w' => r = .returned (.tuple #[.bool (meetV a b c d e f g h), .int .i64 0]) ∧ Q w w' := by
  obtain ⟨hp, hq⟩ := lnB_pts hs
  obtain ⟨hr, hu⟩ := lnB_pts ht
  have k1 := fun wv => impl_IsSegment a b c d wv
  have k2 := fun wv => impl_IsSegment e f g h wv
  rw [hs] at k1
  rw [ht] at k2
  have K1 := Lib.hid k1
  have K2 := Lib.hid k2
  have K3 := Lib.hid (fun wv => impl_sides a b c d e f g h wv hp hq hr hu)
  have K4 := Lib.hid (fun wv => impl_sides e f g h a b c d wv hr hu hp hq)
  have K5 := Lib.hid (fun wv => impl_onSegment a b c d e f wv)
  have K6 := Lib.hid (fun wv => impl_onSegment a b c d g h wv)
  have K7 := Lib.hid (fun wv => impl_onSegment e f g h a b wv)
  have K8 := Lib.hid (fun wv => impl_onSegment e f g h c d wv)
  have m1 := sgn2_bd (crossV a b c d e f) (crossV a b c d g h)
  have m2 := sgn2_bd (crossV e f g h a b) (crossV e f g h c d)
  have HO := Lib.hid (show meetV a b c d e f g h = (((crossB a b c d e f g h || ((sgn (crossV a b c d e f) == 0) && onB a b c d e f)) || ((sgn (crossV a b c d g h) == 0) && onB a b c d g h)) || ((sgn (crossV e f g h a b) == 0) && onB e f g h a b) || ((sgn (crossV e f g h c d) == 0) && onB e f g h c d)) from by
    rw [on_eq (lnB_ne hs), on_eq (lnB_ne hs), on_eq (lnB_ne ht), on_eq (lnB_ne ht)]; rfl)
  have HM := Lib.hid (show crossB a b c d e f g h = (decide (sgn (crossV a b c d e f) * sgn (crossV a b c d g h) < 0) && decide (sgn (crossV e f g h a b) * sgn (crossV e f g h c d) < 0)) from rfl)
  generalize meetV a b c d e f g h = O at *
  generalize crossB a b c d e f g h = M0 at *
  generalize sgn (crossV a b c d e f) = S1 at *
  generalize sgn (crossV a b c d g h) = S2 at *
  generalize sgn (crossV e f g h a b) = S3 at *
  generalize sgn (crossV e f g h c d) = S4 at *
  generalize onB a b c d e f = N1 at *
  generalize onB a b c d g h = N2 at *
  generalize onB e f g h a b = N3 at *
  generalize onB e f g h c d = N4 at *
  clear k1 k2 hs ht hp hq hr hu
  obtain ⟨B1, B2⟩ := bx44 w a b c d e f g h
  have Q0 : Q w ((w.alloc (.cells #[.int .i64 a, .int .i64 b, .int .i64 c, .int .i64 d] 76)).alloc (.cells #[.int .i64 e, .int .i64 f, .int .i64 g, .int .i64 h] 76)) := by (repeat (first | assumption | exact Q.refl _ | refine Q.alloc ?_ _ | refine Q.drewN ?_ _ | refine Q.drew ?_))
  go_enter Try.func57, Try.ntmps57
  go_wp2_with fail
  refine (K1.out _).mono ?_
  rintro e1 w1 ⟨rfl, q1⟩
  replace B1 := B1.q q1
  replace B2 := B2.q q1
  replace Q0 := Q0.trans q1
  clear q1
  try clear c1 c2 l1 l2
  have c1 := B1.cell
  have c2 := B2.cell
  have l1 := B1.lt
  have l2 := B2.lt
  go_wp2_with fail
  refine (K2.out _).mono ?_
  rintro e2 w2 ⟨rfl, q2⟩
  replace B1 := B1.q q2
  replace B2 := B2.q q2
  replace Q0 := Q0.trans q2
  clear q2
  try clear c1 c2 l1 l2
  have c1 := B1.cell
  have c2 := B2.cell
  have l1 := B1.lt
  have l2 := B2.lt
  go_wp2_with fail
  refine (K3.out _).mono ?_
  rintro e3 w3 ⟨rfl, q3⟩
  replace B1 := B1.q q3
  replace B2 := B2.q q3
  replace Q0 := Q0.trans q3
  clear q3
  try clear c1 c2 l1 l2
  have c1 := B1.cell
  have c2 := B2.cell
  have l1 := B1.lt
  have l2 := B2.lt
  go_wp2_with fail
  refine (K4.out _).mono ?_
  rintro e4 w4 ⟨rfl, q4⟩
  replace B1 := B1.q q4
  replace B2 := B2.q q4
  replace Q0 := Q0.trans q4
  clear q4
  try clear c1 c2 l1 l2
  have c1 := B1.cell
  have c2 := B2.cell
  have l1 := B1.lt
  have l2 := B2.lt
  go_upto_region 5 with (fail)
  go_cut [10] from 11 to 82 (fun v wc => v = .bool M0 ∧ wc = w4)
  case first =>
    have HM2 := Lib.hid HM.out
    by_cases h1 : S1 * S2 < 0
    · by_cases h2 : S3 * S4 < 0
      · go_wp2_with fail
        go_meet
        exact ⟨by rw [HM.out, decide_eq_true (show S1 * S2 < 0 by omega), decide_eq_true (show S3 * S4 < 0 by omega)]; rfl, rfl⟩
      · have h2b : decide (S3 * S4 < 0) = false := decide_eq_false h2
        go_wp2_with fail
        go_meet
        exact ⟨by rw [HM.out, h2b]; simp, rfl⟩
    · have h1b : decide (S1 * S2 < 0) = false := decide_eq_false h1
      go_wp2_with fail
      go_meet
      exact ⟨by rw [HM.out, h1b]; simp, rfl⟩
  case rest =>
    obtain ⟨rfl, rfl⟩ := hcut
    clear m1 m2 HM
    go_upto_region 6 with (fail)
    obtain ⟨M1, hM1⟩ : ∃ M1, M1 = ((M0 || ((S1 == 0) && N1)) || ((S2 == 0) && N2)) := ⟨_, rfl⟩
    have HM1 := Lib.hid hM1
    rw [← hM1] at HO
    clear hM1
    go_cut [10] from 11 to 82 (fun v wd => v = .bool M1 ∧ Blk wd w.heap.size 76 #[.int .i64 a, .int .i64 b, .int .i64 c, .int .i64 d] ∧ Blk wd (w.heap.size + 1) 76 #[.int .i64 e, .int .i64 f, .int .i64 g, .int .i64 h] ∧ Q w wd)
    case first =>
      cases M0 with
      | true =>
        go_wp2_with fail
        go_meet
        exact ⟨by rw [HM1.out]; simp [*], B1, B2, Q0⟩
      | false =>
        by_cases hS1 : S1 = 0
        · subst hS1
          go_wp2_with fail
          refine (K5.out _).mono ?_
          rintro e5 w5 ⟨rfl, q5⟩
          replace B1 := B1.q q5
          replace B2 := B2.q q5
          replace Q0 := Q0.trans q5
          clear q5
          try clear c1 c2 l1 l2
          have c1 := B1.cell
          have c2 := B2.cell
          have l1 := B1.lt
          have l2 := B2.lt
          cases N1 with
          | true =>
            go_wp2_with fail
            go_meet
            exact ⟨by rw [HM1.out]; simp [*], B1, B2, Q0⟩
          | false =>
            by_cases hS2 : S2 = 0
            · subst hS2
              go_wp2_with fail
              refine (K6.out _).mono ?_
              rintro e6 w6 ⟨rfl, q6⟩
              replace B1 := B1.q q6
              replace B2 := B2.q q6
              replace Q0 := Q0.trans q6
              clear q6
              try clear c1 c2 l1 l2
              have c1 := B1.cell
              have c2 := B2.cell
              have l1 := B1.lt
              have l2 := B2.lt
              go_wp2_with fail
              go_meet
              exact ⟨by rw [HM1.out]; simp [*], B1, B2, Q0⟩
            · have hbS2 : (S2 == 0) = false := by simpa using hS2
              go_wp2_with fail
              go_meet
              exact ⟨by rw [HM1.out]; simp [*], B1, B2, Q0⟩
        · have hbS1 : (S1 == 0) = false := by simpa using hS1
          by_cases hS2 : S2 = 0
          · subst hS2
            go_wp2_with fail
            refine (K6.out _).mono ?_
            rintro e6 w6 ⟨rfl, q6⟩
            replace B1 := B1.q q6
            replace B2 := B2.q q6
            replace Q0 := Q0.trans q6
            clear q6
            try clear c1 c2 l1 l2
            have c1 := B1.cell
            have c2 := B2.cell
            have l1 := B1.lt
            have l2 := B2.lt
            go_wp2_with fail
            go_meet
            exact ⟨by rw [HM1.out]; simp [*], B1, B2, Q0⟩
          · have hbS2 : (S2 == 0) = false := by simpa using hS2
            go_wp2_with fail
            go_meet
            exact ⟨by rw [HM1.out]; simp [*], B1, B2, Q0⟩
    case rest =>
      clear B1 B2 Q0 c1 c2 l1 l2 HM1
      obtain ⟨rfl, B1, B2, Q0⟩ := hcut
      have c1 := B1.cell
      have c2 := B2.cell
      have l1 := B1.lt
      have l2 := B2.lt
      cases M1 with
      | true =>
        go_wp2_with fail
        go_ret2
        exact ⟨by rw [HO.out]; simp [*], Q0⟩
      | false =>
        by_cases hS3 : S3 = 0
        · subst hS3
          go_wp2_with fail
          refine (K7.out _).mono ?_
          rintro e7 w7 ⟨rfl, q7⟩
          replace B1 := B1.q q7
          replace B2 := B2.q q7
          replace Q0 := Q0.trans q7
          clear q7
          try clear c1 c2 l1 l2
          have c1 := B1.cell
          have c2 := B2.cell
          have l1 := B1.lt
          have l2 := B2.lt
          cases N3 with
          | true =>
            go_wp2_with fail
            go_ret2
            exact ⟨by rw [HO.out]; simp [*], Q0⟩
          | false =>
            by_cases hS4 : S4 = 0
            · subst hS4
              go_wp2_with fail
              refine (K8.out _).mono ?_
              rintro e8 w8 ⟨rfl, q8⟩
              replace B1 := B1.q q8
              replace B2 := B2.q q8
              replace Q0 := Q0.trans q8
              clear q8
              try clear c1 c2 l1 l2
              have c1 := B1.cell
              have c2 := B2.cell
              have l1 := B1.lt
              have l2 := B2.lt
              go_wp2_with fail
              go_ret2
              exact ⟨by rw [HO.out]; simp [*], Q0⟩
            · have hbS4 : (S4 == 0) = false := by simpa using hS4
              go_wp2_with fail
              go_ret2
              exact ⟨by rw [HO.out]; simp [*], Q0⟩
        · have hbS3 : (S3 == 0) = false := by simpa using hS3
          by_cases hS4 : S4 = 0
          · subst hS4
            go_wp2_with fail
            refine (K8.out _).mono ?_
            rintro e8 w8 ⟨rfl, q8⟩
            replace B1 := B1.q q8
            replace B2 := B2.q q8
            replace Q0 := Q0.trans q8
            clear q8
            try clear c1 c2 l1 l2
            have c1 := B1.cell
            have c2 := B2.cell
            have l1 := B1.lt
            have l2 := B2.lt
            go_wp2_with fail
            go_ret2
            exact ⟨by rw [HO.out]; simp [*], Q0⟩
          · have hbS4 : (S4 == 0) = false := by simpa using hS4
            go_wp2_with fail
            go_ret2
            exact ⟨by rw [HO.out]; simp [*], Q0⟩
end Go.Proofs.Ytadljkdjlpmllaa
