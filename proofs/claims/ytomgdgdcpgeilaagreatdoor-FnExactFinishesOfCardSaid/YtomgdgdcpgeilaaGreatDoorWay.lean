/- Walks: the way in which a line is crossed between two points, as the program and the reference find it. -/
import Derived.Test.YtomgdgdcpgeilaaGreatDoorCross
namespace Go.Proofs.YtomgdgdcpgeilaaGreatDoor
open Go.RowKit Go.WideShapes Go.ChangeShapes
def wyV (P R M : Int) : Int := if decide (0 < P) = decide (0 < R) then 0 else if 0 < M then 0 else if 0 < R then 1 else -1
def wayV (a b c d e f g h : Int) : Int := wyV (crossV a b c d e f) (crossV a b c d g h) (sgn (crossV e f g h a b) * sgn (crossV e f g h c d))
theorem wayV_xs {a b c d e f g h : Int} (hw : wayV a b c d e f g h ≠ 0) : Xs (crossV a b c d e f) (crossV a b c d g h) := by
  unfold wayV wyV at hw
  generalize crossV a b c d e f = P at *
  generalize crossV a b c d g h = R at *
  unfold Xs
  by_cases h1 : 0 < P <;> by_cases h2 : 0 < R
  · simp [h1, h2] at hw
  · omega
  · omega
  · simp [h1, h2] at hw
theorem wayV_or (a b c d e f g h : Int) : wayV a b c d e f g h = 0 ∨ wayV a b c d e f g h = 1 ∨ wayV a b c d e f g h = -1 := by
  unfold wayV wyV
  repeat (first | (split) | omega)
theorem sgn_pos (n : Int) : (0 < sgn n ↔ 0 < n) ∧ -1 ≤ sgn n ∧ sgn n ≤ 1 := by
  unfold sgn
  split
  · omega
  · split <;> omega
theorem sgn_mul (x y : Int) : -1 ≤ sgn x * sgn y ∧ sgn x * sgn y ≤ 1 := by
  have h0 : ∀ x : Int, sgn x = 1 ∨ sgn x = -1 ∨ sgn x = 0 := by
    intro x
    unfold sgn
    split
    · exact .inl rfl
    · split
      · exact .inr (.inl rfl)
      · exact .inr (.inr rfl)
  have h1 := h0 x
  have h2 := h0 y
  rcases h1 with h1 | h1 | h1 <;> rcases h2 with h2 | h2 | h2 <;> rw [h1, h2] <;> decide
def bx3 (w : World) (a b c d e f g h : Int) : World := ((w.alloc (.cells #[.int .i64 a, .int .i64 b, .int .i64 c, .int .i64 d] 40)).alloc (.cells #[.int .i64 e, .int .i64 f] 38)).alloc (.cells #[.int .i64 g, .int .i64 h] 38)
theorem bx3_facts (w : World) (a b c d e f g h : Int) : Blk (bx3 w a b c d e f g h) w.heap.size 40 #[.int .i64 a, .int .i64 b, .int .i64 c, .int .i64 d] ∧ Blk (bx3 w a b c d e f g h) (w.heap.size + 1) 38 #[.int .i64 e, .int .i64 f] ∧ Blk (bx3 w a b c d e f g h) (w.heap.size + 2) 38 #[.int .i64 g, .int .i64 h] ∧ Q w (bx3 w a b c d e f g h) := by
  unfold bx3
  refine ⟨((Blk.new _ _ _).alloc _).alloc _, Blk.alloc (by simpa using Blk.new (w.alloc (.cells #[.int .i64 a, .int .i64 b, .int .i64 c, .int .i64 d] 40)) 38 #[.int .i64 e, .int .i64 f]) _, by simpa using Blk.new ((w.alloc (.cells #[.int .i64 a, .int .i64 b, .int .i64 c, .int .i64 d] 40)).alloc (.cells #[.int .i64 e, .int .i64 f] 38)) 38 #[.int .i64 g, .int .i64 h], (((Q.refl w).alloc _).alloc _).alloc _⟩
set_option maxHeartbeats 4000000 in
theorem impl_wayAcross (a b c d e f g h : Int) (w : World) (hp : pt a b) (hq : pt c d) (hr : pt e f) (ht : pt g h) :
    Calls Tryz.prog 145 #[.agg #[.int .i64 a, .int .i64 b, .int .i64 c, .int .i64 d], .agg #[.int .i64 e, .int .i64 f], .agg #[.int .i64 g, .int .i64 h]] w fun r w' => r = .returned (.int .i64 (wayV a b c d e f g h)) ∧ Q w w' := by
  have k1 := fun wv => impl_sideOf a b c d e f wv hp hq hr
  have k2 := fun wv => impl_sideOf a b c d g h wv hp hq ht
  have k3 := fun wv => impl_turn e f g h a b wv hr ht hp
  have k4 := fun wv => impl_turn e f g h c d wv hr ht hq
  have hm := sgn_mul (crossV e f g h a b) (crossV e f g h c d)
  have HV : Hid (wayV a b c d e f g h = wyV (crossV a b c d e f) (crossV a b c d g h) (sgn (crossV e f g h a b) * sgn (crossV e f g h c d))) := Lib.hid rfl
  have s1 := (sgn_pos (crossV a b c d e f)).1
  have s2 := (sgn_pos (crossV a b c d g h)).1
  generalize wayV a b c d e f g h = V at *
  generalize sgn (crossV a b c d e f) = SP at *
  generalize sgn (crossV a b c d g h) = SR at *
  generalize crossV a b c d e f = P at *
  generalize crossV a b c d g h = R at *
  generalize sgn (crossV e f g h a b) = T1 at *
  generalize sgn (crossV e f g h c d) = T2 at *
  obtain ⟨M, hM⟩ : ∃ M, T1 * T2 = M := ⟨_, rfl⟩
  rw [hM] at hm HV
  have K1 := Lib.hid k1
  have K2 := Lib.hid k2
  have K3 := Lib.hid k3
  have K4 := Lib.hid k4
  have HB := Lib.hid (bx3_facts w a b c d e f g h)
  obtain ⟨B1, B2, B3, Q0⟩ := HB.out
  have l1 := later_cells B1.cell B1.lt
  have l2 := later_cells B2.cell B2.lt
  have l3 := later_cells B3.cell B3.lt
  unfold bx3 at l1 l2 l3
  unfold bx3 at B1 B2 B3 Q0
  clear k1 k2 k3 k4 hp hq hr ht
  have HS := Lib.hid (And.intro s1 s2)
  clear s1 s2 HB
  go_enter Tryz.func145, Tryz.ntmps145
  go_wp2_with fail
  refine wp_region_later_lit (by kernel_rfl) (by kernel_rfl) ?_
  repeat (any_goals (first | go_big_quiet_step ((go_at_call 118; first | with_reducible exact later_call (K1.out _) | exact later_call (K2.out _))) | quiet_step ((go_at_call 118; first | with_reducible exact later_call (K1.out _) | exact later_call (K2.out _))) | (refine wpQuiet_step (fun K hK => ?_); go_simp; split <;> (refine hK _ ?_; clear hK K))))
  all_goals (refine wpQuiet_nil ?_; rintro _ ⟨⟨w2, q2⟩, rfl⟩; try dsimp only)
  clear l1 l2 l3
  have C1 := B1.q q2
  have C2 := B2.q q2
  have C3 := B3.q q2
  have l1 := later_cells C1.cell C1.lt
  have l2 := later_cells C2.cell C2.lt
  have l3 := later_cells C3.cell C3.lt
  have Q2 := Q0.trans q2
  clear C1 C2 C3 B1 B2 B3 Q0 q2 K1 K2
  by_cases h1 : 0 < P <;> by_cases h2 : 0 < R
  · have j1 : 0 < SP := HS.out.1.2 h1
    have j2 : 0 < SR := HS.out.2.2 h2
    have HE := Lib.hid (show V = 0 by rw [HV.out]; simp [wyV, h1, h2])
    clear h1 h2 HV HS
    go_wp2_with fail
    refine wp_region_later_lit (by kernel_rfl) (by kernel_rfl) ?_
    repeat (any_goals (first | go_big_quiet_step (fail) | quiet_step (fail) | (refine wpQuiet_step (fun K hK => ?_); go_simp; split <;> (refine hK _ ?_; clear hK K))))
    all_goals (refine wpQuiet_nil ?_; rintro _ ⟨⟨w4, q4⟩, rfl⟩; try dsimp only)
    all_goals go_wp2_with fail
    all_goals (go_ret; exact ⟨ret_int HE.out.symm, Q2.trans q4⟩)
  · have j1 : 0 < SP := HS.out.1.2 h1
    have j2 : ¬ 0 < SR := fun h => h2 (HS.out.2.1 h)
    by_cases hm0 : 0 < M
    · have HE := Lib.hid (show V = 0 by rw [HV.out]; simp [wyV, h1, h2, hm0])
      clear h1 h2 HV HS
      go_wp2_with fail
      refine wp_region_later_lit (by kernel_rfl) (by kernel_rfl) ?_
      repeat (any_goals (first | go_big_quiet_step ((go_at_call 143; first | with_reducible exact later_call (K3.out _) | exact later_call (K4.out _))) | quiet_step ((go_at_call 143; first | with_reducible exact later_call (K3.out _) | exact later_call (K4.out _))) | (refine wpQuiet_step (fun K hK => ?_); go_simp; split <;> (refine hK _ ?_; clear hK K))))
      all_goals (refine wpQuiet_nil ?_; rintro _ ⟨⟨w4, q4⟩, rfl⟩; try dsimp only)
      all_goals go_wp2_with fail
      all_goals (go_ret; exact ⟨ret_int HE.out.symm, Q2.trans q4⟩)
    · have HE := Lib.hid (show V = -1 by rw [HV.out]; simp [wyV, h1, h2, hm0])
      clear h1 h2 HV HS
      go_wp2_with fail
      refine wp_region_later_lit (by kernel_rfl) (by kernel_rfl) ?_
      repeat (any_goals (first | go_big_quiet_step ((go_at_call 143; first | with_reducible exact later_call (K3.out _) | exact later_call (K4.out _))) | quiet_step ((go_at_call 143; first | with_reducible exact later_call (K3.out _) | exact later_call (K4.out _))) | (refine wpQuiet_step (fun K hK => ?_); go_simp; split <;> (refine hK _ ?_; clear hK K))))
      all_goals (refine wpQuiet_nil ?_; rintro _ ⟨⟨w4, q4⟩, rfl⟩; try dsimp only)
      all_goals go_wp2_with fail
      all_goals (go_ret; exact ⟨ret_int HE.out.symm, Q2.trans q4⟩)
  · have j1 : ¬ 0 < SP := fun h => h1 (HS.out.1.1 h)
    have j2 : 0 < SR := HS.out.2.2 h2
    by_cases hm0 : 0 < M
    · have HE := Lib.hid (show V = 0 by rw [HV.out]; simp [wyV, h1, h2, hm0])
      clear h1 h2 HV HS
      go_wp2_with fail
      refine wp_region_later_lit (by kernel_rfl) (by kernel_rfl) ?_
      repeat (any_goals (first | go_big_quiet_step ((go_at_call 143; first | with_reducible exact later_call (K3.out _) | exact later_call (K4.out _))) | quiet_step ((go_at_call 143; first | with_reducible exact later_call (K3.out _) | exact later_call (K4.out _))) | (refine wpQuiet_step (fun K hK => ?_); go_simp; split <;> (refine hK _ ?_; clear hK K))))
      all_goals (refine wpQuiet_nil ?_; rintro _ ⟨⟨w4, q4⟩, rfl⟩; try dsimp only)
      all_goals go_wp2_with fail
      all_goals (go_ret; exact ⟨ret_int HE.out.symm, Q2.trans q4⟩)
    · have HE := Lib.hid (show V = 1 by rw [HV.out]; simp [wyV, h1, h2, hm0])
      clear h1 h2 HV HS
      go_wp2_with fail
      refine wp_region_later_lit (by kernel_rfl) (by kernel_rfl) ?_
      repeat (any_goals (first | go_big_quiet_step ((go_at_call 143; first | with_reducible exact later_call (K3.out _) | exact later_call (K4.out _))) | quiet_step ((go_at_call 143; first | with_reducible exact later_call (K3.out _) | exact later_call (K4.out _))) | (refine wpQuiet_step (fun K hK => ?_); go_simp; split <;> (refine hK _ ?_; clear hK K))))
      all_goals (refine wpQuiet_nil ?_; rintro _ ⟨⟨w4, q4⟩, rfl⟩; try dsimp only)
      all_goals go_wp2_with fail
      all_goals (go_ret; exact ⟨ret_int HE.out.symm, Q2.trans q4⟩)
  · have j1 : ¬ 0 < SP := fun h => h1 (HS.out.1.1 h)
    have j2 : ¬ 0 < SR := fun h => h2 (HS.out.2.1 h)
    have HE := Lib.hid (show V = 0 by rw [HV.out]; simp [wyV, h1, h2])
    clear h1 h2 HV HS
    have d1 : decide (0 < SP) = false := decide_eq_false j1
    have d2 : decide (0 < SR) = false := decide_eq_false j2
    clear j1 j2
    go_wp2_with fail
    refine wp_region_later_lit (by kernel_rfl) (by kernel_rfl) ?_
    repeat (any_goals (first | go_big_quiet_step (fail) | quiet_step (fail) | (refine wpQuiet_step (fun K hK => ?_); go_simp; split <;> (refine hK _ ?_; clear hK K))))
    all_goals (refine wpQuiet_nil ?_; rintro _ ⟨⟨w4, q4⟩, rfl⟩; try dsimp only)
    all_goals go_wp2_with fail
    all_goals (go_ret; exact ⟨ret_int HE.out.symm, Q2.trans q4⟩)
theorem spec_Before (a b c d e f : Int) (w : World) (hp : pt a b) (hq : pt c d) (hr : pt e f) :
    Calls Tryz.prog 137 #[.agg #[.int .i64 a, .int .i64 b, .int .i64 c, .int .i64 d], .agg #[.int .i64 e, .int .i64 f]] w fun r w' => r = .returned (.bool (!decide (0 < crossV a b c d e f))) ∧ Q w w' := by
  have k1 := fun wv => spec_l04Before a b c d e f wv hp hq hr
  have s1 := (sgn_pos (crossV a b c d e f)).1
  generalize sgn (crossV a b c d e f) = S at *
  generalize crossV a b c d e f = P at *
  have K1 := Lib.hid k1
  clear k1 hp hq hr
  by_cases h : 0 < P
  · have h2 : ¬ S ≤ 0 := by have := s1.2 h; omega
    have HE := Lib.hid (show (!decide (0 < P)) = false by simp [h])
    clear s1 h
    go_enter Tryz.func137, Tryz.ntmps137
    go_wp2_with (go_at_call 133; refine (K1.out _).mono ?_; rintro r w1 ⟨rfl, q1⟩)
    go_ret
    exact ⟨ret_bool (by first | (rw [HE.out]; done) | (rw [HE.out]; simp; omega)), Q.trans (by (repeat (first | assumption | exact Q.refl _ | refine Q.alloc ?_ _ | refine Q.drewN ?_ _ | refine Q.drew ?_))) q1⟩
  · have h2 : S ≤ 0 := by
      rcases Int.lt_or_le 0 S with h3 | h3
      · exact absurd (s1.1 h3) h
      · exact h3
    have HE := Lib.hid (show (!decide (0 < P)) = true by first | (simp; done) | (simp; omega))
    clear s1 h
    go_enter Tryz.func137, Tryz.ntmps137
    go_wp2_with (go_at_call 133; refine (K1.out _).mono ?_; rintro r w1 ⟨rfl, q1⟩)
    go_ret
    exact ⟨ret_bool (by first | (rw [HE.out]; done) | (rw [HE.out]; simp; omega)), Q.trans (by (repeat (first | assumption | exact Q.refl _ | refine Q.alloc ?_ _ | refine Q.drewN ?_ _ | refine Q.drew ?_))) q1⟩
set_option maxHeartbeats 4000000 in
theorem spec_Way (a b c d e f g h : Int) (w : World) (hp : pt a b) (hq : pt c d) (hr : pt e f) (ht : pt g h) :
    Calls Tryz.prog 112 #[.agg #[.int .i64 a, .int .i64 b, .int .i64 c, .int .i64 d], .agg #[.int .i64 e, .int .i64 f], .agg #[.int .i64 g, .int .i64 h]] w fun r w' => r = .returned (.int .i64 (wayV a b c d e f g h)) ∧ Q w w' := by
  have k1 := fun wv => spec_Before a b c d e f wv hp hq hr
  have k2 := fun wv => spec_Before a b c d g h wv hp hq ht
  have k3 := fun wv => spec_Turn e f g h a b wv hr ht hp
  have k4 := fun wv => spec_Turn e f g h c d wv hr ht hq
  have hm := sgn_mul (crossV e f g h a b) (crossV e f g h c d)
  have HV : Hid (wayV a b c d e f g h = wyV (crossV a b c d e f) (crossV a b c d g h) (sgn (crossV e f g h a b) * sgn (crossV e f g h c d))) := Lib.hid rfl
  generalize wayV a b c d e f g h = V at *
  generalize crossV a b c d e f = P at *
  generalize crossV a b c d g h = R at *
  generalize sgn (crossV e f g h a b) = T1 at *
  generalize sgn (crossV e f g h c d) = T2 at *
  obtain ⟨M, hM⟩ : ∃ M, T1 * T2 = M := ⟨_, rfl⟩
  rw [hM] at hm HV
  have K3 := Lib.hid k3
  have K4 := Lib.hid k4
  have HB := Lib.hid (bx3_facts w a b c d e f g h)
  obtain ⟨B1, B2, B3, Q0⟩ := HB.out
  have l1 := later_cells B1.cell B1.lt
  have l2 := later_cells B2.cell B2.lt
  have l3 := later_cells B3.cell B3.lt
  unfold bx3 at l1 l2 l3 B1 B2 B3 Q0
  clear k3 k4 hp hq hr ht HB
  by_cases h1 : 0 < P <;> by_cases h2 : 0 < R
  · rw [decide_eq_true h1] at k1
    rw [decide_eq_true h2] at k2
    have K1 := Lib.hid k1
    have K2 := Lib.hid k2
    have HE := Lib.hid (show V = 0 by rw [HV.out]; simp [wyV, h1, h2])
    clear h1 h2 HV k1 k2
    go_enter Tryz.func112, Tryz.ntmps112
    go_wp2_with fail
    refine wp_region_later_lit (by kernel_rfl) (by kernel_rfl) ?_
    repeat (any_goals (first | go_big_quiet_step ((first | (go_at_call 137; first | with_reducible exact later_call (K1.out _) | with_reducible exact later_call (K2.out _)))) | quiet_step ((first | (go_at_call 137; first | with_reducible exact later_call (K1.out _) | with_reducible exact later_call (K2.out _)))) | (refine wpQuiet_step (fun K hK => ?_); go_simp; split <;> (refine hK _ ?_; clear hK K))))
    all_goals (refine wpQuiet_nil ?_; rintro _ ⟨⟨w4, q4⟩, rfl⟩; try dsimp only)
    all_goals go_wp2_with fail
    all_goals (go_ret; exact ⟨ret_int HE.out.symm, Q0.trans q4⟩)
  · rw [decide_eq_true h1] at k1
    rw [decide_eq_false h2] at k2
    have K1 := Lib.hid k1
    have K2 := Lib.hid k2
    by_cases hm0 : 0 < M
    · have HE := Lib.hid (show V = 0 by rw [HV.out]; simp [wyV, h1, h2, hm0])
      clear h1 h2 HV k1 k2
      go_enter Tryz.func112, Tryz.ntmps112
      go_wp2_with fail
      refine wp_region_later_lit (by kernel_rfl) (by kernel_rfl) ?_
      repeat (any_goals (first | go_big_quiet_step ((first | (go_at_call 137; first | with_reducible exact later_call (K1.out _) | with_reducible exact later_call (K2.out _)) | (go_at_call 138; first | with_reducible exact later_call (K3.out _) | with_reducible exact later_call (K4.out _)))) | quiet_step ((first | (go_at_call 137; first | with_reducible exact later_call (K1.out _) | with_reducible exact later_call (K2.out _)) | (go_at_call 138; first | with_reducible exact later_call (K3.out _) | with_reducible exact later_call (K4.out _)))) | (refine wpQuiet_step (fun K hK => ?_); go_simp; split <;> (refine hK _ ?_; clear hK K))))
      all_goals (refine wpQuiet_nil ?_; rintro _ ⟨⟨w4, q4⟩, rfl⟩; try dsimp only)
      all_goals go_wp2_with fail
      all_goals (go_ret; exact ⟨ret_int HE.out.symm, Q0.trans q4⟩)
    · have HE := Lib.hid (show V = -1 by rw [HV.out]; simp [wyV, h1, h2, hm0])
      clear h1 h2 HV k1 k2
      go_enter Tryz.func112, Tryz.ntmps112
      go_wp2_with fail
      refine wp_region_later_lit (by kernel_rfl) (by kernel_rfl) ?_
      repeat (any_goals (first | go_big_quiet_step ((first | (go_at_call 137; first | with_reducible exact later_call (K1.out _) | with_reducible exact later_call (K2.out _)) | (go_at_call 138; first | with_reducible exact later_call (K3.out _) | with_reducible exact later_call (K4.out _)))) | quiet_step ((first | (go_at_call 137; first | with_reducible exact later_call (K1.out _) | with_reducible exact later_call (K2.out _)) | (go_at_call 138; first | with_reducible exact later_call (K3.out _) | with_reducible exact later_call (K4.out _)))) | (refine wpQuiet_step (fun K hK => ?_); go_simp; split <;> (refine hK _ ?_; clear hK K))))
      all_goals (refine wpQuiet_nil ?_; rintro _ ⟨⟨w4, q4⟩, rfl⟩; try dsimp only)
      have c1 := (B1.q q4).cell
      have c2 := (B2.q q4).cell
      have c3 := (B3.q q4).cell
      all_goals go_wp2_with (go_at_call 137; refine (K1.out _).mono ?_; rintro r w5 ⟨rfl, q5⟩)
      all_goals (go_ret; exact ⟨ret_int HE.out.symm, (Q0.trans q4).trans q5⟩)
  · rw [decide_eq_false h1] at k1
    rw [decide_eq_true h2] at k2
    have K1 := Lib.hid k1
    have K2 := Lib.hid k2
    by_cases hm0 : 0 < M
    · have HE := Lib.hid (show V = 0 by rw [HV.out]; simp [wyV, h1, h2, hm0])
      clear h1 h2 HV k1 k2
      go_enter Tryz.func112, Tryz.ntmps112
      go_wp2_with fail
      refine wp_region_later_lit (by kernel_rfl) (by kernel_rfl) ?_
      repeat (any_goals (first | go_big_quiet_step ((first | (go_at_call 137; first | with_reducible exact later_call (K1.out _) | with_reducible exact later_call (K2.out _)) | (go_at_call 138; first | with_reducible exact later_call (K3.out _) | with_reducible exact later_call (K4.out _)))) | quiet_step ((first | (go_at_call 137; first | with_reducible exact later_call (K1.out _) | with_reducible exact later_call (K2.out _)) | (go_at_call 138; first | with_reducible exact later_call (K3.out _) | with_reducible exact later_call (K4.out _)))) | (refine wpQuiet_step (fun K hK => ?_); go_simp; split <;> (refine hK _ ?_; clear hK K))))
      all_goals (refine wpQuiet_nil ?_; rintro _ ⟨⟨w4, q4⟩, rfl⟩; try dsimp only)
      all_goals go_wp2_with fail
      all_goals (go_ret; exact ⟨ret_int HE.out.symm, Q0.trans q4⟩)
    · have HE := Lib.hid (show V = 1 by rw [HV.out]; simp [wyV, h1, h2, hm0])
      clear h1 h2 HV k1 k2
      go_enter Tryz.func112, Tryz.ntmps112
      go_wp2_with fail
      refine wp_region_later_lit (by kernel_rfl) (by kernel_rfl) ?_
      repeat (any_goals (first | go_big_quiet_step ((first | (go_at_call 137; first | with_reducible exact later_call (K1.out _) | with_reducible exact later_call (K2.out _)) | (go_at_call 138; first | with_reducible exact later_call (K3.out _) | with_reducible exact later_call (K4.out _)))) | quiet_step ((first | (go_at_call 137; first | with_reducible exact later_call (K1.out _) | with_reducible exact later_call (K2.out _)) | (go_at_call 138; first | with_reducible exact later_call (K3.out _) | with_reducible exact later_call (K4.out _)))) | (refine wpQuiet_step (fun K hK => ?_); go_simp; split <;> (refine hK _ ?_; clear hK K))))
      all_goals (refine wpQuiet_nil ?_; rintro _ ⟨⟨w4, q4⟩, rfl⟩; try dsimp only)
      have c1 := (B1.q q4).cell
      have c2 := (B2.q q4).cell
      have c3 := (B3.q q4).cell
      all_goals go_wp2_with (go_at_call 137; refine (K1.out _).mono ?_; rintro r w5 ⟨rfl, q5⟩)
      all_goals (go_ret; exact ⟨ret_int HE.out.symm, (Q0.trans q4).trans q5⟩)
  · rw [decide_eq_false h1] at k1
    rw [decide_eq_false h2] at k2
    have K1 := Lib.hid k1
    have K2 := Lib.hid k2
    have HE := Lib.hid (show V = 0 by rw [HV.out]; simp [wyV, h1, h2])
    clear h1 h2 HV k1 k2
    go_enter Tryz.func112, Tryz.ntmps112
    go_wp2_with fail
    refine wp_region_later_lit (by kernel_rfl) (by kernel_rfl) ?_
    repeat (any_goals (first | go_big_quiet_step ((first | (go_at_call 137; first | with_reducible exact later_call (K1.out _) | with_reducible exact later_call (K2.out _)))) | quiet_step ((first | (go_at_call 137; first | with_reducible exact later_call (K1.out _) | with_reducible exact later_call (K2.out _)))) | (refine wpQuiet_step (fun K hK => ?_); go_simp; split <;> (refine hK _ ?_; clear hK K))))
    all_goals (refine wpQuiet_nil ?_; rintro _ ⟨⟨w4, q4⟩, rfl⟩; try dsimp only)
    all_goals go_wp2_with fail
    all_goals (go_ret; exact ⟨ret_int HE.out.symm, Q0.trans q4⟩)
end Go.Proofs.YtomgdgdcpgeilaaGreatDoor
