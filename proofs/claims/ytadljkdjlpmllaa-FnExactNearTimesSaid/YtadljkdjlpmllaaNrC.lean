/- Walks: the root of a product and nearness to a segment, as the reference tells them. No condition. -/
import Derived.Test.YtadljkdjlpmllaaNrB
namespace Go.Proofs.Ytadljkdjlpmllaa
open Go.RowKit Go.WideShapes Go.ChangeShapes
theorem sq_bd {x M : Int} (h : -M ≤ x ∧ x ≤ M) (hM : 0 ≤ M) : 0 ≤ x * x ∧ x * x ≤ M * M := by
  refine ⟨sq_nonneg x, ?_⟩
  rcases Int.le_total 0 x with hx | hx
  · exact Int.mul_le_mul h.2 h.2 hx hM
  · have := Int.mul_le_mul (show -x ≤ M by omega) (show -x ≤ M by omega) (by omega) hM
    rwa [Int.neg_mul_neg] at this
set_option maxHeartbeats 1000000 in
theorem spec_l02Less (x d m : Int) (w : World) (hx : 0 ≤ x ∧ x ≤ 40000000000) (hd : 0 ≤ d ∧ d ≤ 10000) (hm : 0 ≤ m ∧ m ≤ 8000000000000) :
    Calls Try.prog 86 #[.int .i64 x, .int .i64 d, .int .i64 m] w fun e w' => e = .returned (.bool (decide (x * x ≤ d * d * m))) ∧ w = w' := by
  have hdd := sq_bd (x := d) (M := 10000) (by omega) (by decide)
  have K1 := Lib.hid (fun wv => spec_Wide x x wv hx (by omega))
  have K2 := Lib.hid (fun wv => spec_Wide (d * d) m wv (by omega) (by omega))
  have HL := Lib.hid (wide_le (x * x) (d * d * m))
  have HO := Lib.hid (show decide (x * x ≤ d * d * m) = decide (x * x ≤ d * d * m) from rfl)
  obtain ⟨O, hO⟩ : ∃ O, O = decide (x * x ≤ d * d * m) := ⟨_, rfl⟩
  rw [← hO]
  have HO := Lib.hid hO
  generalize x * x / 1099511627776 = p1 at *
  generalize x * x % 1099511627776 = p0 at *
  generalize d * d * m / 1099511627776 = q1 at *
  generalize d * d * m % 1099511627776 = q0 at *
  clear hO
  by_cases h1 : p1 < q1
  · have HE := Lib.hid (show O = true by rw [HO.out]; exact decide_eq_true (HL.out.1 (.inl h1)))
    go_enter Try.func86, Try.ntmps86
    go_wp2_with (first | (go_at_call 96; first | (with_reducible refine Calls.mono (K1.out _) ?_; rintro e w1 ⟨rfl, rfl⟩) | (with_reducible refine Calls.mono (K2.out _) ?_; rintro e w1 ⟨rfl, rfl⟩)))
    go_ret
    exact ⟨by rw [HE.out]; rfl, rfl⟩
  · by_cases h2 : p1 = q1
    · subst h2
      by_cases h3 : p0 ≤ q0
      · have HE := Lib.hid (show O = true by rw [HO.out]; exact decide_eq_true (HL.out.1 (.inr ⟨rfl, h3⟩)))
        go_enter Try.func86, Try.ntmps86
        go_wp2_with (first | (go_at_call 96; first | (with_reducible refine Calls.mono (K1.out _) ?_; rintro e w1 ⟨rfl, rfl⟩) | (with_reducible refine Calls.mono (K2.out _) ?_; rintro e w1 ⟨rfl, rfl⟩)))
        go_ret
        exact ⟨by rw [HE.out]; rfl, rfl⟩
      · have HE := Lib.hid (show O = false by rw [HO.out]; exact decide_eq_false (fun e => by have := HL.out.2 e; omega))
        have h3b : decide (p0 ≤ q0) = false := decide_eq_false h3
        go_enter Try.func86, Try.ntmps86
        go_wp2_with (first | (go_at_call 96; first | (with_reducible refine Calls.mono (K1.out _) ?_; rintro e w1 ⟨rfl, rfl⟩) | (with_reducible refine Calls.mono (K2.out _) ?_; rintro e w1 ⟨rfl, rfl⟩)))
        go_ret
        exact ⟨by rw [HE.out]; first | rfl | (simp only [h3b]; rfl), rfl⟩
    · have h2b : (p1 == q1) = false := by simpa using h2
      have h2c : decide (p1 = q1) = false := decide_eq_false h2
      have HE := Lib.hid (show O = false by rw [HO.out]; exact decide_eq_false (fun e => by have := HL.out.2 e; omega))
      go_enter Try.func86, Try.ntmps86
      go_wp2_with (first | (go_at_call 96; first | (with_reducible refine Calls.mono (K1.out _) ?_; rintro e w1 ⟨rfl, rfl⟩) | (with_reducible refine Calls.mono (K2.out _) ?_; rintro e w1 ⟨rfl, rfl⟩)))
      go_ret
      exact ⟨by rw [HE.out]; show Ending.returned (.bool (decide (p1 < q1))) = _; rw [decide_eq_false (by omega)], rfl⟩
set_option maxHeartbeats 1000000 in
theorem spec_l02RootOf (d m : Int) (w : World) (hd : 0 ≤ d ∧ d ≤ 10000) (hm : 0 ≤ m ∧ m ≤ 8000000000000) :
    Calls Try.prog 73 #[.int .i64 d, .int .i64 m] w fun e w' => e = .returned (.int .i64 (rt (d * d * m))) ∧ w = w' := by
  have K0 := Lib.hid (fun wv => spec_Root m wv hm.1 (by omega))
  have hr0 := rt_pos m
  have hr1 := rt_mono_bd (n := m) (B := 2828427) hm.1 (by decide) (by omega)
  have hr2 := rt_lt hm.1
  have hdd := sq_bd (x := d) (M := 10000) (by omega) (by decide)
  have hD0 : 0 ≤ d * d * m := Int.mul_nonneg hdd.1 hm.1
  generalize rt m = r at *
  have hdr := mul_bd' (a := d) (x := r + 1) (M := 10000) (N := 2828428) hd (by omega)
  have HI := Lib.hid (show d * d * m < (d * (r + 1) + 1) * (d * (r + 1) + 1) by
    have h1 : d * d * m ≤ d * d * ((r + 1) * (r + 1)) := Int.mul_le_mul_of_nonneg_left (by omega) hdd.1
    have e : d * d * ((r + 1) * (r + 1)) = (d * (r + 1)) * (d * (r + 1)) := by grind
    have e2 : (d * (r + 1) + 1) * (d * (r + 1) + 1) = (d * (r + 1)) * (d * (r + 1)) + 2 * (d * (r + 1)) + 1 := by grind
    omega)
  have HL := Lib.hid (fun x wv (hx : 0 ≤ x ∧ x ≤ 40000000000) => spec_l02Less x d m wv hx hd hm)
  obtain ⟨D, hDe⟩ : ∃ D, D = d * d * m := ⟨_, rfl⟩
  rw [← hDe] at HI HL hD0 ⊢
  clear hDe hr2 hdd
  go_enter Try.func73, Try.ntmps73
  go_wp2_with (go_at_call 84; refine (K0.out _).mono ?_; rintro e w1 ⟨rfl, rfl⟩)
  go_loop [5, 6] (fun u v => ∃ l h : Int, u = .int .i64 l ∧ v = .int .i64 h ∧ (0 ≤ l ∧ l < h ∧ h ≤ 30000000000) ∧ Hid (l * l ≤ D ∧ D < h * h)) (fun u v => (intOf v - intOf u).toNat)
  case atStart => exact ⟨0, _, rfl, rfl, by omega, Lib.hid ⟨by omega, HI.out⟩⟩
  case round =>
    clear HI hdr
    obtain ⟨l, h, rfl, rfl, hb, HR⟩ := hrel
    by_cases hlt : l + 1 < h
    · obtain ⟨q, hq⟩ : ∃ q, q = (l + h) / 2 := ⟨_, rfl⟩
      have hqb : l < q ∧ q < h := by omega
      have K1 := Lib.hid (fun wv => HL.out q wv (by omega))
      by_cases hc : q * q ≤ D
      · rw [decide_eq_true hc] at K1
        have HR2 : Hid (q * q ≤ D ∧ D < h * h) := Lib.hid ⟨hc, HR.out.2⟩
        rw [hq] at K1
        clear hc
        go_wp2_with (go_at_call 86; refine (K1.out _).mono ?_; rintro e w1 ⟨rfl, rfl⟩)
        go_round
        case rel => exact ⟨q, h, by rw [hq], rfl, by omega, HR2⟩
        case measure => simp [intOf]; omega
      · rw [decide_eq_false hc] at K1
        have HR2 : Hid (l * l ≤ D ∧ D < q * q) := Lib.hid ⟨HR.out.1, by omega⟩
        rw [hq] at K1
        clear hc
        go_wp2_with (go_at_call 86; refine (K1.out _).mono ?_; rintro e w1 ⟨rfl, rfl⟩)
        go_round
        case rel => exact ⟨l, q, rfl, by rw [hq], by omega, HR2⟩
        case measure => simp [intOf]; omega
    · have HE := Lib.hid (rt_uniq hD0 hb.1 HR.out.1 (by have := HR.out.2; rw [show l + 1 = h by omega]; exact this))
      go_wp2_with fail
      go_ret
      exact ⟨ret_int HE.out, rfl⟩
theorem spec_AbsI (n : Int) (hn : -9223372036854775807 ≤ n ∧ n ≤ 9223372036854775807) (w : World) : Calls Try.prog 71 #[.int .i64 n] w fun e w' => e = .returned (.int .i64 (n.natAbs : Nat)) ∧ w = w' := by
  by_cases h : n < 0
  · have HE := Lib.hid (show -n = ((n.natAbs : Nat) : Int) by omega)
    go_enter Try.func71, Try.ntmps71
    go_wp2_with fail
    go_ret
    exact ⟨ret_int HE.out, rfl⟩
  · have HE := Lib.hid (show n = ((n.natAbs : Nat) : Int) by omega)
    go_enter Try.func71, Try.ntmps71
    go_wp2_with fail
    go_ret
    exact ⟨ret_int HE.out, rfl⟩
theorem abs_le_rt {c D : Int} (hD : 0 ≤ D) : ((c.natAbs : Nat) : Int) ≤ rt D ↔ c * c ≤ D := by
  rw [rt_le_iff hD (by omega)]
  have : ((c.natAbs : Nat) : Int) * ((c.natAbs : Nat) : Int) = c * c := by
    rcases Int.natAbs_eq c with h | h
    · rw [← h]
    · have h2 : ((c.natAbs : Nat) : Int) = -c := by omega
      rw [h2, Int.neg_mul_neg]
  rw [this]
theorem sqD_far {a b c d : Int} : (c - a) * (c - a) + (d - b) * (d - b) = sqD a b c d := by unfold sqD; grind
theorem sqD_bd {a b c d : Int} (hp : pt a b) (hq : pt c d) : 0 ≤ sqD a b c d ∧ sqD a b c d ≤ 8000000000000 := by
  have h := pt_diff hp hq
  have m1 := sq_bd h.1 (by decide)
  have m2 := sq_bd h.2 (by decide)
  unfold sqD
  omega
theorem far_dot {a b c d e f : Int} : (c - a) * (e - a) + (d - b) * (f - b) = farV a b c d e f := by unfold farV; grind
set_option maxRecDepth 100000 in
set_option maxHeartbeats 2000000 in
theorem spec_l02Within (a b c d e f D : Int) (w : World) (hp : pt a b) (hq : pt c d) (hr : pt e f) (hD : 0 ≤ D ∧ D ≤ 10000) :
    Calls Try.prog 46 #[.agg #[.int .i64 a, .int .i64 b, .int .i64 c, .int .i64 d], .agg #[.int .i64 e, .int .i64 f], .int .i64 D] w fun r w' => r = .returned (.bool (nearB a b c d e f D)) ∧ Q w w' := by
  have hDD := sq_bd (x := D) (M := 10000) (by omega) (by decide)
  have K1 := Lib.hid (fun wv => spec_Square a b e f wv hp hr)
  have K2 := Lib.hid (fun wv => spec_Square c d e f wv hq hr)
  have KM := Lib.hid (fun wv => spec_Minus c d a b wv hq hp)
  have KU := Lib.hid (fun wv => spec_Minus e f a b wv hr hp)
  have hv := pt_diff hq hp
  have hu := pt_diff hr hp
  have k3 := fun wv => spec_DotV (c - a) (d - b) (e - a) (f - b) wv hv hu
  have k4 := fun wv => spec_DotV (c - a) (d - b) (c - a) (d - b) wv hv hv
  have k5 := fun wv => spec_Cross (c - a) (d - b) (e - a) (f - b) wv hv hu
  rw [far_dot] at k3
  rw [sqD_far] at k4
  have hm := sqD_bd hp hq
  have k6 := fun wv => spec_l02RootOf D (sqD a b c d) wv hD hm
  have hX : (c - a) * (f - b) - (d - b) * (e - a) = crossV a b c d e f := rfl
  rw [hX] at k5
  have hXb : -8000000000000 ≤ crossV a b c d e f ∧ crossV a b c d e f ≤ 8000000000000 := by
    have m1 := mul_2M hv.1 hu.2
    have m2 := mul_2M hv.2 hu.1
    unfold crossV
    omega
  have HA := Lib.hid (abs_le_rt (c := crossV a b c d e f) (D := D * D * sqD a b c d) (Int.mul_nonneg hDD.1 hm.1))
  have HO := Lib.hid (show nearB a b c d e f D = (decide (sqD a b e f ≤ D * D) || decide (sqD c d e f ≤ D * D) || (decide (0 < farV a b c d e f) && decide (farV a b c d e f < sqD a b c d) && decide (crossV a b c d e f * crossV a b c d e f ≤ D * D * sqD a b c d))) from rfl)
  generalize nearB a b c d e f D = O at *
  generalize sqD a b e f = S1 at *
  generalize sqD c d e f = S2 at *
  generalize farV a b c d e f = n at *
  generalize sqD a b c d = m at *
  generalize crossV a b c d e f = X at *
  have K3 := Lib.hid k3
  have K4 := Lib.hid k4
  have K5 := Lib.hid k5
  have K6 := Lib.hid k6
  have K7 := Lib.hid (fun wv => spec_AbsI X (by omega) wv)
  generalize rt (D * D * m) = R at *
  clear k3 k4 k5 k6 hX
  obtain ⟨B1, B2⟩ := bx42 w a b c d e f
  have Q0 : Q w ((w.alloc (.cells #[.int .i64 a, .int .i64 b, .int .i64 c, .int .i64 d] 76)).alloc (.cells #[.int .i64 e, .int .i64 f] 54)) := by (repeat (first | assumption | exact Q.refl _ | refine Q.alloc ?_ _ | refine Q.drewN ?_ _ | refine Q.drew ?_))
  clear hp hq hr hv hu hXb
  go_enter Try.func46, Try.ntmps46
  go_wp2_with fail
  refine (K1.out _).mono ?_
  rintro e1 w1 ⟨rfl, q1⟩
  replace B1 := B1.q q1
  replace B2 := B2.q q1
  replace Q0 := Q0.trans q1
  have c1 := B1.cell
  have c2 := B2.cell
  have l1 := B1.lt
  have l2 := B2.lt
  clear q1
  by_cases hs1 : S1 ≤ D * D
  · go_wp2_with fail
    go_ret
    exact ⟨by rw [HO.out, decide_eq_true hs1]; simp, Q0⟩
  · go_wp2_with fail
    refine (K2.out _).mono ?_
    rintro e2 w2 ⟨rfl, q2⟩
    replace B1 := B1.q q2
    replace B2 := B2.q q2
    replace Q0 := Q0.trans q2
    replace c1 := B1.cell
    replace c2 := B2.cell
    replace l1 := B1.lt
    replace l2 := B2.lt
    clear q2
    by_cases hs2 : S2 ≤ D * D
    · go_wp2_with fail
      go_ret
      exact ⟨by rw [HO.out, decide_eq_true hs2]; simp, Q0⟩
    · go_wp2_with fail
      refine (KM.out _).mono ?_
      rintro e3 w3 ⟨rfl, q3⟩
      have BV := Blk.new w3 54 #[.int .i64 (c - a), .int .i64 (d - b)]
      replace B1 := (B1.q q3).alloc (.cells #[.int .i64 (c - a), .int .i64 (d - b)] 54)
      replace B2 := (B2.q q3).alloc (.cells #[.int .i64 (c - a), .int .i64 (d - b)] 54)
      replace Q0 := (Q0.trans q3).alloc (.cells #[.int .i64 (c - a), .int .i64 (d - b)] 54)
      have L1 := later_cells B1.cell B1.lt
      have L2 := later_cells B2.cell B2.lt
      have LV := later_cells BV.cell BV.lt
      clear q3 c1 c2 l1 l2
      go_wp2_with fail
      refine wp_region_later_lit (by kernel_rfl) (by kernel_rfl) ?_
      repeat (any_goals (first | go_big_quiet_step (((first | (go_at_call 69; exact later_call (KU.out _)) | (go_at_call 70; first | with_reducible exact later_call (K3.out _) | with_reducible exact later_call (K4.out _))))) | quiet_step (((first | (go_at_call 69; exact later_call (KU.out _)) | (go_at_call 70; first | with_reducible exact later_call (K3.out _) | with_reducible exact later_call (K4.out _))))) | (refine wpQuiet_step (fun K hK => ?_); go_simp; split <;> (refine hK _ ?_; clear hK K))))
      all_goals (refine wpQuiet_nil ?_; rintro _ ⟨⟨w4, q4⟩, rfl⟩; try dsimp only)
      all_goals try clear L1 L2 LV
      have HF := Lib.hid (fun h => (show O = decide ((0 < n ∧ n < m) ∧ X * X ≤ D * D * m) from by rw [HO.out, decide_eq_false (show ¬ S1 ≤ D * D by omega), decide_eq_false (show ¬ S2 ≤ D * D by omega), Bool.false_or, Bool.false_or, ← Bool.decide_and, ← Bool.decide_and]) : True → O = decide ((0 < n ∧ n < m) ∧ X * X ≤ D * D * m))
      replace Q0 := Q0.trans q4
      replace B1 := B1.q q4
      replace B2 := B2.q q4
      replace BV := BV.q q4
      have c1 := B1.cell
      have c2 := B2.cell
      have cv := BV.cell
      by_cases hn : n ≤ 0
      · go_wp2_with fail
        go_ret
        exact ⟨by rw [HF.out trivial, show decide ((0 < n ∧ n < m) ∧ X * X ≤ D * D * m) = false from decide_eq_false (fun h => by omega)]; rfl, Q0⟩
      · by_cases hnm : m ≤ n
        · go_wp2_with fail
          go_ret
          exact ⟨by rw [HF.out trivial, show decide ((0 < n ∧ n < m) ∧ X * X ≤ D * D * m) = false from decide_eq_false (fun h => by omega)]; rfl, Q0⟩
        · have L1 := later_cells B1.cell B1.lt
          have L2 := later_cells B2.cell B2.lt
          have LV := later_cells BV.cell BV.lt
          clear c1 c2 cv
          go_wp2_with fail
          refine wp_region_later_lit (by kernel_rfl) (by kernel_rfl) ?_
          repeat (any_goals (first | go_big_quiet_step (((first | (go_at_call 69; exact later_call (KU.out _)) | (go_at_call 72; exact later_call (K5.out _)) | (go_at_call 71; exact later_same (K7.out _)) | (go_at_call 73; exact later_same (K6.out _))))) | quiet_step (((first | (go_at_call 69; exact later_call (KU.out _)) | (go_at_call 72; exact later_call (K5.out _)) | (go_at_call 71; exact later_same (K7.out _)) | (go_at_call 73; exact later_same (K6.out _))))) | (refine wpQuiet_step (fun K hK => ?_); go_simp; split <;> (refine hK _ ?_; clear hK K))))
          all_goals (refine wpQuiet_nil ?_; rintro _ ⟨⟨w5, q5⟩, rfl⟩; try dsimp only)
          all_goals go_wp2_with fail
          go_ret
          refine ⟨?_, Q0.trans q5⟩
          rw [HF.out trivial]
          show Ending.returned (.bool (decide (((X.natAbs : Nat) : Int) ≤ R))) = _
          rw [show decide (((X.natAbs : Nat) : Int) ≤ R) = decide ((0 < n ∧ n < m) ∧ X * X ≤ D * D * m) from decide_eq_decide.2 ⟨fun h => ⟨by omega, HA.out.1 h⟩, fun h => HA.out.2 h.2⟩]
end Go.Proofs.Ytadljkdjlpmllaa
