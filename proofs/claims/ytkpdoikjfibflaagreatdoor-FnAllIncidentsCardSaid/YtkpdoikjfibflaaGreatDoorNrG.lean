/- Walks: segments that meet, ends that are near, as the program tells them. No condition. Walks: lengths of headings, sterns and valid hulls, as the program and the reference tell them. No condition. -/
import Derived.Test.YtkpdoikjfibflaaGreatDoorNrE
import Derived.Deep.CutBlock
import Derived.Test.YtkpdoikjfibflaaGreatDoorNrA
import Derived.Test.YtkpdoikjfibflaaGreatDoorK
namespace Go.Proofs.YtkpdoikjfibflaaGreatDoor
open Go.RowKit Go.WideShapes Go.ChangeShapes
theorem impl_endNear (a b c d e f g h D : Int) (w : World) (hs : lnB a b c d = true) (ht : lnB e f g h = true) (hD : 0 ≤ D ∧ D ≤ 10000) :
    Calls Tryz.prog 74 #[.agg #[.int .i64 a, .int .i64 b, .int .i64 c, .int .i64 d], .agg #[.int .i64 e, .int .i64 f, .int .i64 g, .int .i64 h], .int .i64 D] w fun r w' => r = .returned (.bool (nearB e f g h a b D || nearB e f g h c d D)) ∧ Q w w' := by
  obtain ⟨hp, hq⟩ := lnB_pts hs
  have K1 := Lib.hid (fun wv => impl_WithinDistance e f g h a b D wv ht hp hD)
  have K2 := Lib.hid (fun wv => impl_WithinDistance e f g h c d D wv ht hq hD)
  generalize nearB e f g h a b D = X1 at *
  generalize nearB e f g h c d D = X2 at *
  obtain ⟨B1, B2⟩ := bx44 w a b c d e f g h
  have Q0 : Q w ((w.alloc (.cells #[.int .i64 a, .int .i64 b, .int .i64 c, .int .i64 d] 106)).alloc (.cells #[.int .i64 e, .int .i64 f, .int .i64 g, .int .i64 h] 106)) := by (repeat (first | assumption | exact Q.refl _ | refine Q.alloc ?_ _ | refine Q.drewN ?_ _ | refine Q.drew ?_))
  clear hs ht hp hq hD
  go_enter Tryz.func74, Tryz.ntmps74
  go_wp2_with fail
  refine (K1.out _).mono ?_
  rintro e1 w1 ⟨rfl, q1⟩
  have c1 := (B1.q q1).cell
  have c2 := (B2.q q1).cell
  have l1 := (B1.q q1).lt
  have l2 := (B2.q q1).lt
  go_wp2_with fail
  refine (K2.out _).mono ?_
  rintro e2 w2 ⟨rfl, q2⟩
  cases X1 <;> cases X2
  all_goals go_wp2_with fail
  all_goals go_ret
  all_goals exact ⟨rfl, (Q0.trans q1).trans q2⟩
theorem lnB_ne {a b c d : Int} (h : lnB a b c d = true) : ¬ (a = c ∧ b = d) := by
  rintro ⟨rfl, rfl⟩
  unfold lnB at h
  simp at h
set_option maxRecDepth 100000 in
set_option maxHeartbeats 2000000 in
theorem impl_SegmentsMeet (a b c d e f g h : Int) (w : World) (hs : lnB a b c d = true) (ht : lnB e f g h = true) :
    Calls Tryz.prog 73 #[.agg #[.int .i64 a, .int .i64 b, .int .i64 c, .int .i64 d], .agg #[.int .i64 e, .int .i64 f, .int .i64 g, .int .i64 h]] w fun r w' => r = .returned (.tuple #[.bool (meetV a b c d e f g h), .int .i64 0]) ∧ Q w w' := by
  obtain ⟨hp, hq⟩ := lnB_pts hs
  obtain ⟨hr, hu⟩ := lnB_pts ht
  have k1 := fun wv => impl_IsSegment a b c d wv
  have k2 := fun wv => impl_IsSegment e f g h wv
  rw [hs] at k1
  rw [ht] at k2
  have K1 := Lib.hid k1
  have K2 := Lib.hid k2
  have K3 := Lib.hid (fun wv => impl_sides a b c d e f g h wv hp hq hr hu)
  have K4 := Lib.hid (fun wv => impl_sides e f g h a b c d wv hr hu hp hq)
  have K5 := Lib.hid (fun wv => impl_onSegment a b c d e f wv)
  have K6 := Lib.hid (fun wv => impl_onSegment a b c d g h wv)
  have K7 := Lib.hid (fun wv => impl_onSegment e f g h a b wv)
  have K8 := Lib.hid (fun wv => impl_onSegment e f g h c d wv)
  have m1 := sgn2_bd (crossV a b c d e f) (crossV a b c d g h)
  have m2 := sgn2_bd (crossV e f g h a b) (crossV e f g h c d)
  have HO := Lib.hid (show meetV a b c d e f g h = (((crossB a b c d e f g h || ((sgn (crossV a b c d e f) == 0) && onB a b c d e f)) || ((sgn (crossV a b c d g h) == 0) && onB a b c d g h)) || ((sgn (crossV e f g h a b) == 0) && onB e f g h a b) || ((sgn (crossV e f g h c d) == 0) && onB e f g h c d)) from by
    rw [on_eq (lnB_ne hs), on_eq (lnB_ne hs), on_eq (lnB_ne ht), on_eq (lnB_ne ht)]; rfl)
  have HM := Lib.hid (show crossB a b c d e f g h = (decide (sgn (crossV a b c d e f) * sgn (crossV a b c d g h) < 0) && decide (sgn (crossV e f g h a b) * sgn (crossV e f g h c d) < 0)) from rfl)
  generalize meetV a b c d e f g h = O at *
  generalize crossB a b c d e f g h = M0 at *
  generalize sgn (crossV a b c d e f) = S1 at *
  generalize sgn (crossV a b c d g h) = S2 at *
  generalize sgn (crossV e f g h a b) = S3 at *
  generalize sgn (crossV e f g h c d) = S4 at *
  generalize onB a b c d e f = N1 at *
  generalize onB a b c d g h = N2 at *
  generalize onB e f g h a b = N3 at *
  generalize onB e f g h c d = N4 at *
  clear k1 k2 hs ht hp hq hr hu
  obtain ⟨B1, B2⟩ := bx44 w a b c d e f g h
  have Q0 : Q w ((w.alloc (.cells #[.int .i64 a, .int .i64 b, .int .i64 c, .int .i64 d] 106)).alloc (.cells #[.int .i64 e, .int .i64 f, .int .i64 g, .int .i64 h] 106)) := by (repeat (first | assumption | exact Q.refl _ | refine Q.alloc ?_ _ | refine Q.drewN ?_ _ | refine Q.drew ?_))
  go_enter Tryz.func73, Tryz.ntmps73
  go_wp2_with fail
  refine (K1.out _).mono ?_
  rintro e1 w1 ⟨rfl, q1⟩
  replace B1 := B1.q q1
  replace B2 := B2.q q1
  replace Q0 := Q0.trans q1
  clear q1
  try clear c1 c2 l1 l2
  have c1 := B1.cell
  have c2 := B2.cell
  have l1 := B1.lt
  have l2 := B2.lt
  go_wp2_with fail
  refine (K2.out _).mono ?_
  rintro e2 w2 ⟨rfl, q2⟩
  replace B1 := B1.q q2
  replace B2 := B2.q q2
  replace Q0 := Q0.trans q2
  clear q2
  try clear c1 c2 l1 l2
  have c1 := B1.cell
  have c2 := B2.cell
  have l1 := B1.lt
  have l2 := B2.lt
  go_wp2_with fail
  refine (K3.out _).mono ?_
  rintro e3 w3 ⟨rfl, q3⟩
  replace B1 := B1.q q3
  replace B2 := B2.q q3
  replace Q0 := Q0.trans q3
  clear q3
  try clear c1 c2 l1 l2
  have c1 := B1.cell
  have c2 := B2.cell
  have l1 := B1.lt
  have l2 := B2.lt
  go_wp2_with fail
  refine (K4.out _).mono ?_
  rintro e4 w4 ⟨rfl, q4⟩
  replace B1 := B1.q q4
  replace B2 := B2.q q4
  replace Q0 := Q0.trans q4
  clear q4
  try clear c1 c2 l1 l2
  have c1 := B1.cell
  have c2 := B2.cell
  have l1 := B1.lt
  have l2 := B2.lt
  go_upto_region 5 with (fail)
  go_cut [10] from 11 to 82 (fun v wc => v = .bool M0 ∧ wc = w4)
  case first =>
    have HM2 := Lib.hid HM.out
    by_cases h1 : S1 * S2 < 0
    · by_cases h2 : S3 * S4 < 0
      · go_wp2_with fail
        go_meet
        exact ⟨by rw [HM.out, decide_eq_true (show S1 * S2 < 0 by omega), decide_eq_true (show S3 * S4 < 0 by omega)]; rfl, rfl⟩
      · have h2b : decide (S3 * S4 < 0) = false := decide_eq_false h2
        go_wp2_with fail
        go_meet
        exact ⟨by rw [HM.out, h2b]; simp, rfl⟩
    · have h1b : decide (S1 * S2 < 0) = false := decide_eq_false h1
      go_wp2_with fail
      go_meet
      exact ⟨by rw [HM.out, h1b]; simp, rfl⟩
  case rest =>
    obtain ⟨rfl, rfl⟩ := hcut
    clear m1 m2 HM
    go_upto_region 6 with (fail)
    obtain ⟨M1, hM1⟩ : ∃ M1, M1 = ((M0 || ((S1 == 0) && N1)) || ((S2 == 0) && N2)) := ⟨_, rfl⟩
    have HM1 := Lib.hid hM1
    rw [← hM1] at HO
    clear hM1
    go_cut [10] from 11 to 82 (fun v wd => v = .bool M1 ∧ Blk wd w.heap.size 106 #[.int .i64 a, .int .i64 b, .int .i64 c, .int .i64 d] ∧ Blk wd (w.heap.size + 1) 106 #[.int .i64 e, .int .i64 f, .int .i64 g, .int .i64 h] ∧ Q w wd)
    case first =>
      cases M0 with
      | true =>
        go_wp2_with fail
        go_meet
        exact ⟨by rw [HM1.out]; simp [*], B1, B2, Q0⟩
      | false =>
        by_cases hS1 : S1 = 0
        · subst hS1
          go_wp2_with fail
          refine (K5.out _).mono ?_
          rintro e5 w5 ⟨rfl, q5⟩
          replace B1 := B1.q q5
          replace B2 := B2.q q5
          replace Q0 := Q0.trans q5
          clear q5
          try clear c1 c2 l1 l2
          have c1 := B1.cell
          have c2 := B2.cell
          have l1 := B1.lt
          have l2 := B2.lt
          cases N1 with
          | true =>
            go_wp2_with fail
            go_meet
            exact ⟨by rw [HM1.out]; simp [*], B1, B2, Q0⟩
          | false =>
            by_cases hS2 : S2 = 0
            · subst hS2
              go_wp2_with fail
              refine (K6.out _).mono ?_
              rintro e6 w6 ⟨rfl, q6⟩
              replace B1 := B1.q q6
              replace B2 := B2.q q6
              replace Q0 := Q0.trans q6
              clear q6
              try clear c1 c2 l1 l2
              have c1 := B1.cell
              have c2 := B2.cell
              have l1 := B1.lt
              have l2 := B2.lt
              go_wp2_with fail
              go_meet
              exact ⟨by rw [HM1.out]; simp [*], B1, B2, Q0⟩
            · have hbS2 : (S2 == 0) = false := by simpa using hS2
              go_wp2_with fail
              go_meet
              exact ⟨by rw [HM1.out]; simp [*], B1, B2, Q0⟩
        · have hbS1 : (S1 == 0) = false := by simpa using hS1
          by_cases hS2 : S2 = 0
          · subst hS2
            go_wp2_with fail
            refine (K6.out _).mono ?_
            rintro e6 w6 ⟨rfl, q6⟩
            replace B1 := B1.q q6
            replace B2 := B2.q q6
            replace Q0 := Q0.trans q6
            clear q6
            try clear c1 c2 l1 l2
            have c1 := B1.cell
            have c2 := B2.cell
            have l1 := B1.lt
            have l2 := B2.lt
            go_wp2_with fail
            go_meet
            exact ⟨by rw [HM1.out]; simp [*], B1, B2, Q0⟩
          · have hbS2 : (S2 == 0) = false := by simpa using hS2
            go_wp2_with fail
            go_meet
            exact ⟨by rw [HM1.out]; simp [*], B1, B2, Q0⟩
    case rest =>
      clear B1 B2 Q0 c1 c2 l1 l2 HM1
      obtain ⟨rfl, B1, B2, Q0⟩ := hcut
      have c1 := B1.cell
      have c2 := B2.cell
      have l1 := B1.lt
      have l2 := B2.lt
      cases M1 with
      | true =>
        go_wp2_with fail
        go_ret2
        exact ⟨by rw [HO.out]; simp [*], Q0⟩
      | false =>
        by_cases hS3 : S3 = 0
        · subst hS3
          go_wp2_with fail
          refine (K7.out _).mono ?_
          rintro e7 w7 ⟨rfl, q7⟩
          replace B1 := B1.q q7
          replace B2 := B2.q q7
          replace Q0 := Q0.trans q7
          clear q7
          try clear c1 c2 l1 l2
          have c1 := B1.cell
          have c2 := B2.cell
          have l1 := B1.lt
          have l2 := B2.lt
          cases N3 with
          | true =>
            go_wp2_with fail
            go_ret2
            exact ⟨by rw [HO.out]; simp [*], Q0⟩
          | false =>
            by_cases hS4 : S4 = 0
            · subst hS4
              go_wp2_with fail
              refine (K8.out _).mono ?_
              rintro e8 w8 ⟨rfl, q8⟩
              replace B1 := B1.q q8
              replace B2 := B2.q q8
              replace Q0 := Q0.trans q8
              clear q8
              try clear c1 c2 l1 l2
              have c1 := B1.cell
              have c2 := B2.cell
              have l1 := B1.lt
              have l2 := B2.lt
              go_wp2_with fail
              go_ret2
              exact ⟨by rw [HO.out]; simp [*], Q0⟩
            · have hbS4 : (S4 == 0) = false := by simpa using hS4
              go_wp2_with fail
              go_ret2
              exact ⟨by rw [HO.out]; simp [*], Q0⟩
        · have hbS3 : (S3 == 0) = false := by simpa using hS3
          by_cases hS4 : S4 = 0
          · subst hS4
            go_wp2_with fail
            refine (K8.out _).mono ?_
            rintro e8 w8 ⟨rfl, q8⟩
            replace B1 := B1.q q8
            replace B2 := B2.q q8
            replace Q0 := Q0.trans q8
            clear q8
            try clear c1 c2 l1 l2
            have c1 := B1.cell
            have c2 := B2.cell
            have l1 := B1.lt
            have l2 := B2.lt
            go_wp2_with fail
            go_ret2
            exact ⟨by rw [HO.out]; simp [*], Q0⟩
          · have hbS4 : (S4 == 0) = false := by simpa using hS4
            go_wp2_with fail
            go_ret2
            exact ⟨by rw [HO.out]; simp [*], Q0⟩
end Go.Proofs.YtkpdoikjfibflaaGreatDoor
namespace Go.Proofs.YtkpdoikjfibflaaGreatDoor
open Go.RowKit Go.WideShapes Go.ChangeShapes
def hdOk (x y : Int) : Prop := ((-2000000 ≤ x ∧ x ≤ 2000000) ∧ (-2000000 ≤ y ∧ y ≤ 2000000)) ∧ ¬ (x = 0 ∧ y = 0)
theorem hd_sq {x y : Int} (h : hdOk x y) : (0 ≤ x * x ∧ x * x ≤ 4000000000000) ∧ (0 ≤ y * y ∧ y * y ≤ 4000000000000) :=
  ⟨sq_bd h.1.1 (by decide), sq_bd h.1.2 (by decide)⟩
theorem impl_lengthOf (x y : Int) (w : World) (h : hdOk x y) : Calls Tryz.prog 106 #[.agg #[.int .i64 x, .int .i64 y]] w fun e w' => e = .returned (.int .i64 (rt (x * x + y * y))) ∧ Q w w' := by
  obtain ⟨m1, m2⟩ := hd_sq h
  have K1 := Lib.hid (fun wv => impl_rootOf (x * x + y * y) wv (by omega) (by omega))
  generalize rt (x * x + y * y) = R at *
  go_enter Tryz.func106, Tryz.ntmps106
  go_wp2_with fail
  refine (K1.out _).mono ?_
  rintro e w1 ⟨rfl, rfl⟩
  go_wp2_with fail
  go_ret
  exact ⟨rfl, by (repeat (first | assumption | exact Q.refl _ | refine Q.alloc ?_ _ | refine Q.drewN ?_ _ | refine Q.drew ?_))⟩
theorem bx5 (w : World) (a b x y l : Int) : Blk (w.alloc (.cells #[.int .i64 a, .int .i64 b, .int .i64 x, .int .i64 y, .int .i64 l] 86)) w.heap.size 86 #[.int .i64 a, .int .i64 b, .int .i64 x, .int .i64 y, .int .i64 l] := Blk.new _ _ _
theorem spec_l09Norm (a b x y l : Int) (w : World) (h : hdOk x y) : Calls Tryz.prog 120 #[.agg #[.int .i64 a, .int .i64 b, .int .i64 x, .int .i64 y, .int .i64 l]] w fun e w' => e = .returned (.int .i64 (rt (x * x + y * y))) ∧ Q w w' := by
  obtain ⟨m1, m2⟩ := hd_sq h
  have K1 := Lib.hid (fun wv => spec_DotV x y x y wv h.1 h.1)
  have K2 := Lib.hid (fun wv => spec_Root (x * x + y * y) wv (by omega) (by omega))
  generalize rt (x * x + y * y) = R at *
  go_enter Tryz.func120, Tryz.ntmps120
  go_wp2_with fail
  refine (K1.out _).mono ?_
  rintro e w1 ⟨rfl, q1⟩
  go_wp2_with fail
  refine (K2.out _).mono ?_
  rintro e w2 ⟨rfl, rfl⟩
  go_wp2_with fail
  go_ret
  exact ⟨rfl, Q.trans (by (repeat (first | assumption | exact Q.refl _ | refine Q.alloc ?_ _ | refine Q.drewN ?_ _ | refine Q.drew ?_))) q1⟩
theorem rt_pos1 {x y : Int} (h : hdOk x y) : 1 ≤ rt (x * x + y * y) ∧ rt (x * x + y * y) ≤ 2828427 := by
  obtain ⟨m1, m2⟩ := hd_sq h
  exact ⟨rt_one h.2, rt_mono_bd (by omega) (by decide) (by omega)⟩
theorem mul_l {h l : Int} (hh : -2000000 ≤ h ∧ h ≤ 2000000) (hl : 1 ≤ l ∧ l ≤ 1000) : -2000000000 ≤ h * l ∧ h * l ≤ 2000000000 := by
  have h1 : h * l ≤ 2000000 * l := Int.mul_le_mul_of_nonneg_right hh.2 (by omega)
  have h2 : (-2000000) * l ≤ h * l := Int.mul_le_mul_of_nonneg_right hh.1 (by omega)
  omega
theorem div_bd {p r : Int} (hp : -2000000000 ≤ p ∧ p ≤ 2000000000) (hr : 1 ≤ r) : -2000000000 ≤ p / r ∧ p / r ≤ 2000000000 := by
  constructor
  · refine (Int.le_ediv_iff_mul_le (by omega)).2 ?_
    have : (2000000000 : Int) * 1 ≤ 2000000000 * r := Int.mul_le_mul_of_nonneg_left hr (by decide)
    omega
  · refine Int.le_trans (Int.ediv_le_ediv (by omega) hp.2) ?_
    exact Int.ediv_le_self _ (by decide)
set_option maxHeartbeats 2000000 in
theorem impl_sternOf (a b x y l : Int) (w : World) (hp : pt a b) (h : hdOk x y) (hl : 1 ≤ l ∧ l ≤ 1000) : Calls Tryz.prog 71 #[.agg #[.int .i64 a, .int .i64 b, .int .i64 x, .int .i64 y, .int .i64 l]] w fun e w' => e = .returned (.agg #[.int .i64 (snV a x l x y), .int .i64 (snV b y l x y)]) ∧ Q w w' := by
  have hR := rt_pos1 h
  have K1 := Lib.hid (fun wv => impl_lengthOf x y wv h)
  have mx := mul_l h.1.1 hl
  have my := mul_l h.1.2 hl
  have HX := Lib.hid (show snV a x l x y = a - x * l / rt (x * x + y * y) from rfl)
  have HY := Lib.hid (show snV b y l x y = b - y * l / rt (x * x + y * y) from rfl)
  generalize snV a x l x y = sx at *
  generalize snV b y l x y = sy at *
  generalize rt (x * x + y * y) = R at *
  have dx := div_bd mx hR.1
  have dy := div_bd my hR.1
  obtain ⟨⟨p1, p2⟩, p3, p4⟩ := hp
  have B1 := (bx5 w a b x y l).alloc (.cells #[.int .i64 0, .int .i64 0] 78)
  have B2 : Blk ((w.alloc (.cells #[.int .i64 a, .int .i64 b, .int .i64 x, .int .i64 y, .int .i64 l] 86)).alloc (.cells #[.int .i64 0, .int .i64 0] 78)) (w.heap.size + 1) 78 #[.int .i64 0, .int .i64 0] := by simpa using Blk.new (w.alloc (.cells #[.int .i64 a, .int .i64 b, .int .i64 x, .int .i64 y, .int .i64 l] 86)) 78 #[.int .i64 0, .int .i64 0]
  have Q0 : Q w ((w.alloc (.cells #[.int .i64 a, .int .i64 b, .int .i64 x, .int .i64 y, .int .i64 l] 86)).alloc (.cells #[.int .i64 0, .int .i64 0] 78)) := by (repeat (first | assumption | exact Q.refl _ | refine Q.alloc ?_ _ | refine Q.drewN ?_ _ | refine Q.drew ?_))
  clear h
  go_enter Tryz.func71, Tryz.ntmps71
  go_wp2_with fail
  refine (K1.out _).mono ?_
  rintro e1 w1 ⟨rfl, q1⟩
  replace B1 := B1.q q1
  replace B2 := B2.q q1
  replace Q0 := Q0.trans q1
  have L1 := later_cells B1.cell B1.lt
  go_wp2_with fail
  refine wp_region_later_tail 25 (by kernel_rfl) (by kernel_rfl) ?_
  simp only [List.take_succ_cons, List.take_zero, List.drop_succ_cons, List.drop_zero]
  repeat (any_goals (first | go_big_quiet_step ((go_at_call 54; exact later_same (impl_floorDiv _ _ _ (by omega) (by omega) (by omega)))) | quiet_step ((go_at_call 54; exact later_same (impl_floorDiv _ _ _ (by omega) (by omega) (by omega))))))
  refine wpQuiet_nil ?_
  rintro w3 ⟨⟨w4, q4⟩, hw⟩
  obtain rfl : w3 = w4 := hw
  have cP := (B2.q q4).cell
  have fP := (B2.q q4).frozen
  have Q4 : Q w w3 := Q0.trans q4
  go_wp2_with fail
  have bf := (((B2.q q4).set_ 0 (.int .i64 (a - x * l / R))).set_ 1 (.int .i64 (b - y * l / R))).cell
  exact bodyPost_ret (v := .agg #[.int .i64 sx, .int .i64 sy]) (by rw [HX.out, HY.out]; simp [results, Tryz.results71, go_sem, bf]) rfl ⟨rfl, (Q4.setCell (by simp) _).setCell (by simp) _⟩
set_option maxHeartbeats 2000000 in
theorem spec_l09Stern (a b x y l : Int) (w : World) (hp : pt a b) (h : hdOk x y) (hl : 1 ≤ l ∧ l ≤ 1000) : Calls Tryz.prog 83 #[.agg #[.int .i64 a, .int .i64 b, .int .i64 x, .int .i64 y, .int .i64 l]] w fun e w' => e = .returned (.agg #[.int .i64 (snV a x l x y), .int .i64 (snV b y l x y)]) ∧ Q w w' := by
  have hR := rt_pos1 h
  have K1 := Lib.hid (fun wv => spec_l09Norm a b x y l wv h)
  have mx := mul_l h.1.1 hl
  have my := mul_l h.1.2 hl
  have HX := Lib.hid (show snV a x l x y = a - x * l / rt (x * x + y * y) from rfl)
  have HY := Lib.hid (show snV b y l x y = b - y * l / rt (x * x + y * y) from rfl)
  generalize snV a x l x y = sx at *
  generalize snV b y l x y = sy at *
  generalize rt (x * x + y * y) = R at *
  have dx := div_bd mx hR.1
  have dy := div_bd my hR.1
  obtain ⟨⟨p1, p2⟩, p3, p4⟩ := hp
  have B1 := (bx5 w a b x y l).alloc (.cells #[.int .i64 0, .int .i64 0] 78)
  have B2 : Blk ((w.alloc (.cells #[.int .i64 a, .int .i64 b, .int .i64 x, .int .i64 y, .int .i64 l] 86)).alloc (.cells #[.int .i64 0, .int .i64 0] 78)) (w.heap.size + 1) 78 #[.int .i64 0, .int .i64 0] := by simpa using Blk.new (w.alloc (.cells #[.int .i64 a, .int .i64 b, .int .i64 x, .int .i64 y, .int .i64 l] 86)) 78 #[.int .i64 0, .int .i64 0]
  have Q0 : Q w ((w.alloc (.cells #[.int .i64 a, .int .i64 b, .int .i64 x, .int .i64 y, .int .i64 l] 86)).alloc (.cells #[.int .i64 0, .int .i64 0] 78)) := by (repeat (first | assumption | exact Q.refl _ | refine Q.alloc ?_ _ | refine Q.drewN ?_ _ | refine Q.drew ?_))
  clear h
  go_enter Tryz.func83, Tryz.ntmps83
  go_wp2_with fail
  refine (K1.out _).mono ?_
  rintro e1 w1 ⟨rfl, q1⟩
  replace B1 := B1.q q1
  replace B2 := B2.q q1
  replace Q0 := Q0.trans q1
  have L1 := later_cells B1.cell B1.lt
  go_wp2_with fail
  refine wp_region_later_tail 25 (by kernel_rfl) (by kernel_rfl) ?_
  simp only [List.take_succ_cons, List.take_zero, List.drop_succ_cons, List.drop_zero]
  repeat (any_goals (first | go_big_quiet_step ((go_at_call 121; exact later_same (spec_Floor _ _ _ (by omega) (by omega) (by omega)))) | quiet_step ((go_at_call 121; exact later_same (spec_Floor _ _ _ (by omega) (by omega) (by omega))))))
  refine wpQuiet_nil ?_
  rintro w3 ⟨⟨w4, q4⟩, hw⟩
  obtain rfl : w3 = w4 := hw
  have cP := (B2.q q4).cell
  have fP := (B2.q q4).frozen
  have Q4 : Q w w3 := Q0.trans q4
  go_wp2_with fail
  have bf := (((B2.q q4).set_ 0 (.int .i64 (a - x * l / R))).set_ 1 (.int .i64 (b - y * l / R))).cell
  exact bodyPost_ret (v := .agg #[.int .i64 sx, .int .i64 sy]) (by rw [HX.out, HY.out]; simp [results, Tryz.results83, go_sem, bf]) rfl ⟨rfl, (Q4.setCell (by simp) _).setCell (by simp) _⟩
end Go.Proofs.YtkpdoikjfibflaaGreatDoor
