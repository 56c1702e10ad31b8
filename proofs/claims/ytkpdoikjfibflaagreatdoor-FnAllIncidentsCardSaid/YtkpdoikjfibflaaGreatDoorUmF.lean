/- Walks: hulls clear astern, overlaps, the hull to windward, as the program and the reference tell them. No condition. -/
import Derived.Test.YtkpdoikjfibflaaGreatDoorUmA
namespace Go.Proofs.YtkpdoikjfibflaaGreatDoor
open Go.RowKit Go.WideShapes Go.ChangeShapes
theorem bxHH (w : World) (a b x y l a' b' x' y' l' : Int) : Blk ((w.alloc (.cells #[.int .i64 a, .int .i64 b, .int .i64 x, .int .i64 y, .int .i64 l] 86)).alloc (.cells #[.int .i64 a', .int .i64 b', .int .i64 x', .int .i64 y', .int .i64 l']  86)) w.heap.size 86 #[.int .i64 a, .int .i64 b, .int .i64 x, .int .i64 y, .int .i64 l] ∧
    Blk ((w.alloc (.cells #[.int .i64 a, .int .i64 b, .int .i64 x, .int .i64 y, .int .i64 l] 86)).alloc (.cells #[.int .i64 a', .int .i64 b', .int .i64 x', .int .i64 y', .int .i64 l']  86)) (w.heap.size + 1) 86 #[.int .i64 a', .int .i64 b', .int .i64 x', .int .i64 y', .int .i64 l'] :=
  ⟨(Blk.new _ _ _).alloc _, by simpa using Blk.new (w.alloc (.cells #[.int .i64 a, .int .i64 b, .int .i64 x, .int .i64 y, .int .i64 l] 86)) 86 #[.int .i64 a', .int .i64 b', .int .i64 x', .int .i64 y', .int .i64 l']⟩
theorem pt_hd {a b : Int} (h : pt a b) : hd2 a b := by unfold pt at h; unfold hd2; omega
theorem pt_dif {a b a' b' : Int} (h : pt a b) (h' : pt a' b') : hd2 (a' - a) (b' - b) := by unfold pt at h h'; unfold hd2; omega
theorem ahe_bd {a b x y a' b' : Int} (hp : pt a b) (hh : hd2 x y) (hp' : pt a' b') : -8000000000000 ≤ aheV a b x y a' b' ∧ aheV a b x y a' b' ≤ 8000000000000 := by
  have m1 := mul_2M (pt_dif hp hp').1 hh.1
  have m2 := mul_2M (pt_dif hp hp').2 hh.2
  unfold aheV
  omega
theorem impl_sqHead (x y : Int) (w : World) (hh : hd2 x y) :
    Calls Tryz.prog 149 #[.agg #[.int .i64 0, .int .i64 0], .agg #[.int .i64 x, .int .i64 y]] w fun e w' => e = .returned (.int .i64 (x * x + y * y)) ∧ Q w w' := by
  have m1 := mul_2M hh.1 hh.1
  have m2 := mul_2M hh.2 hh.2
  have e1 : (0 - x) * (0 - x) = x * x := by rw [Int.zero_sub, Int.neg_mul_neg]
  have e2 : (0 - y) * (0 - y) = y * y := by rw [Int.zero_sub, Int.neg_mul_neg]
  have n1 : -x * -x = x * x := Int.neg_mul_neg x x
  have n2 : -y * -y = y * y := Int.neg_mul_neg y y
  obtain ⟨h1, h2⟩ := hh
  obtain ⟨B1, B2⟩ := bx2 w 0 0 x y
  have L1 := later_cells B1.cell B1.lt
  have L2 := later_cells B2.cell B2.lt
  clear B1 B2
  go_enter Tryz.func149, Tryz.ntmps149
  go_wp2_with fail
  refine wp_region_later_lit (by kernel_rfl) (by kernel_rfl) ?_
  repeat (any_goals (first | go_big_quiet_step ((fail)) | quiet_step ((fail)) | (refine wpQuiet_step (fun K hK => ?_); go_simp; split <;> (refine hK _ ?_; clear hK K))))
  all_goals (refine wpQuiet_nil ?_; rintro _ ⟨⟨w2, q2⟩, rfl⟩; try dsimp only)
  all_goals go_wp2_with fail
  go_ret
  exact ⟨ret_int (by first | rfl | omega | (simp only [e1, e2, n1, n2])), Q.trans (by (repeat (first | assumption | exact Q.refl _ | refine Q.alloc ?_ _ | refine Q.drewN ?_ _ | refine Q.drew ?_))) q2⟩
theorem mul_l2 {l : Int} (hl : 1 ≤ l ∧ l ≤ 1000) : 0 ≤ l * l ∧ l * l ≤ 1000000 := by
  have h1 : l * l ≤ 1000 * l := Int.mul_le_mul_of_nonneg_right hl.2 (by omega)
  have h2 := Int.mul_nonneg (show 0 ≤ l by omega) (show 0 ≤ l by omega)
  omega
theorem sq_n0 {l s : Int} (hs : 0 ≤ s) : 0 ≤ l * l * s := Int.mul_nonneg (sq_nonneg l) hs
theorem sq_n1 {p s : Int} (hp : 0 ≤ p ∧ p ≤ 1000000) (hs : 0 ≤ s ∧ s ≤ 8000000000000) : p * s < (3000000000 + 1) * (3000000000 + 1) := by
  have := (mul_bd' hp hs).2
  omega
theorem sc_bd {wx wy a b : Int} (hw : wnd wx wy) (hp : pt a b) : -4000000000 ≤ scV wx wy a b ∧ scV wx wy a b ≤ 4000000000 := by
  by_cases h : a = 0 ∧ b = 0
  · obtain ⟨rfl, rfl⟩ := h
    unfold scV
    simp
  · exact (al_bd hw ⟨pt_hd hp, h⟩).1
theorem impl_ahead (a b x y l a' b' x' y' l' : Int) (w : World) (hp : pt a b) (hh : hd2 x y) (hp' : pt a' b') :
    Calls Tryz.prog 153 #[.agg #[.int .i64 a, .int .i64 b, .int .i64 x, .int .i64 y, .int .i64 l], .agg #[.int .i64 a', .int .i64 b', .int .i64 x', .int .i64 y', .int .i64 l']] w fun e w' => e = .returned (.int .i64 (aheV a b x y a' b')) ∧ Q w w' := by
  have h1 := pt_dif hp hp'
  have m1 := mul_2M h1.1 hh.1
  have m2 := mul_2M h1.2 hh.2
  have HE := Lib.hid (show aheV a b x y a' b' = (a' - a) * x + (b' - b) * y from rfl)
  obtain ⟨h2, h3⟩ := h1
  clear hp hp' hh
  go_enter Tryz.func153, Tryz.ntmps153
  go_wp2_with fail
  go_ret
  exact ⟨ret_int HE.out.symm, by (repeat (first | assumption | exact Q.refl _ | refine Q.alloc ?_ _ | refine Q.drewN ?_ _ | refine Q.drew ?_))⟩
theorem spec_ahead (a b x y l a' b' x' y' l' : Int) (w : World) (hp : pt a b) (hh : hd2 x y) (hp' : pt a' b') :
    Calls Tryz.prog 158 #[.agg #[.int .i64 a, .int .i64 b, .int .i64 x, .int .i64 y, .int .i64 l], .agg #[.int .i64 a', .int .i64 b', .int .i64 x', .int .i64 y', .int .i64 l']] w fun e w' => e = .returned (.int .i64 (aheV a b x y a' b')) ∧ Q w w' := by
  have K1 := Lib.hid (fun wv => spec_Minus a' b' a b wv hp' hp)
  have K2 := Lib.hid (fun wv => spec_DotV (a' - a) (b' - b) x y wv (pt_dif hp hp') hh)
  have HE := Lib.hid (show aheV a b x y a' b' = (a' - a) * x + (b' - b) * y from rfl)
  obtain ⟨B1, B2⟩ := bxHH w a b x y l a' b' x' y' l'
  have L1 := later_cells B1.cell B1.lt
  have L2 := later_cells B2.cell B2.lt
  clear B1 B2 hp hp' hh
  generalize aheV a b x y a' b' = R at *
  go_enter Tryz.func158, Tryz.ntmps158
  go_wp2_with fail
  refine wp_region_later_lit (by kernel_rfl) (by kernel_rfl) ?_
  repeat (any_goals (first | go_big_quiet_step ((first | (go_at_call 125; with_reducible exact later_call (K1.out _)) | (go_at_call 126; with_reducible exact later_call (K2.out _)))) | quiet_step ((first | (go_at_call 125; with_reducible exact later_call (K1.out _)) | (go_at_call 126; with_reducible exact later_call (K2.out _)))) | (refine wpQuiet_step (fun K hK => ?_); go_simp; split <;> (refine hK _ ?_; clear hK K))))
  all_goals (refine wpQuiet_nil ?_; rintro _ ⟨⟨w2, q2⟩, rfl⟩; try dsimp only)
  all_goals go_wp2_with fail
  go_ret
  exact ⟨ret_int HE.out.symm, Q.trans (by (repeat (first | assumption | exact Q.refl _ | refine Q.alloc ?_ _ | refine Q.drewN ?_ _ | refine Q.drew ?_))) q2⟩
set_option maxRecDepth 100000 in
set_option maxHeartbeats 2000000 in
theorem impl_clear (a b x y l a' b' x' y' l' : Int) (w : World) (hp : pt a b) (h : hdOk x y) (hl : 1 ≤ l ∧ l ≤ 1000) (hp' : pt a' b') :
    Calls Tryz.prog 112 #[.agg #[.int .i64 a, .int .i64 b, .int .i64 x, .int .i64 y, .int .i64 l], .agg #[.int .i64 a', .int .i64 b', .int .i64 x', .int .i64 y', .int .i64 l']] w fun e w' => e = .returned (.bool (clB a b x y l a' b')) ∧ Q w w' := by
  obtain ⟨m1, m2⟩ := hd_sq h
  have hbd := ahe_bd hp h.1 hp'
  have ml := mul_l2 hl
  have K1 := Lib.hid (fun wv => impl_ahead a b x y l a' b' x' y' l' wv hp h.1 hp')
  have HE := Lib.hid (show clB a b x y l a' b' = (decide (aheV a b x y a' b' < 0) && decide (l * l * (x * x + y * y) < aheV a b x y a' b' * aheV a b x y a' b')) from rfl)
  obtain ⟨B1, B2⟩ := bxHH w a b x y l a' b' x' y' l'
  have Q0 : Q w ((w.alloc (.cells #[.int .i64 a, .int .i64 b, .int .i64 x, .int .i64 y, .int .i64 l] 86)).alloc (.cells #[.int .i64 a', .int .i64 b', .int .i64 x', .int .i64 y', .int .i64 l'] 86)) := by (repeat (first | assumption | exact Q.refl _ | refine Q.alloc ?_ _ | refine Q.drewN ?_ _ | refine Q.drew ?_))
  have K2 := Lib.hid (fun wv => impl_sqHead x y wv h.1)
  have k3 := fun (D : Int) (h0 : D < 0) (h1 : -8000000000000 ≤ D) wv => impl_cmp (-D) (-D) (l * l) (x * x + y * y) (by omega) (by omega) (by omega) (by omega) wv
  have k4 := fun (D : Int) => @cmpI_le (-D) (-D) (l * l) (x * x + y * y)
  clear h hl hp hp'
  generalize aheV a b x y a' b' = D at *
  generalize clB a b x y l a' b' = R at *
  by_cases hD : D < 0
  · rw [decide_eq_true hD, Bool.true_and] at HE
    have k3' := fun wv => k3 D hD hbd.1 wv
    have k4' := k4 D
    rw [Int.neg_mul_neg] at k4'
    clear k3 k4
    generalize cmpI (-D) (-D) (l * l) (x * x + y * y) = M at *
    have K3 := Lib.hid k3'
    have HM : Hid (decide (l * l * (x * x + y * y) < D * D) = decide (0 < M)) := Lib.hid (decide_eq_decide.2 ⟨fun h => by omega, fun h => by omega⟩)
    rw [HM.out] at HE
    clear k3' k4' HM
    generalize x * x + y * y = SS at *
    by_cases hM : 0 < M
    · rw [decide_eq_true hM] at HE
      go_enter Tryz.func112, Tryz.ntmps112
      go_wp2_with fail
      refine (K1.out _).mono ?_
      rintro e1 w1 ⟨rfl, q1⟩
      replace Q0 := Q0.trans q1
      have L1 := later_cells (B1.q q1).cell (B1.q q1).lt
      have L2 := later_cells (B2.q q1).cell (B2.q q1).lt
      clear B1 B2 q1
      go_wp2_with fail
      refine wp_region_later_lit (by kernel_rfl) (by kernel_rfl) ?_
      repeat (any_goals (first | go_big_quiet_step ((first | (go_at_call 149; with_reducible exact later_call (K2.out _)) | (go_at_call 151; with_reducible exact later_same (K3.out _)))) | quiet_step ((first | (go_at_call 149; with_reducible exact later_call (K2.out _)) | (go_at_call 151; with_reducible exact later_same (K3.out _)))) | (refine wpQuiet_step (fun K hK => ?_); go_simp; split <;> (refine hK _ ?_; clear hK K))))
      all_goals (refine wpQuiet_nil ?_; rintro _ ⟨⟨w2, q2⟩, rfl⟩; try dsimp only)
      all_goals go_wp2_with fail
      go_ret
      exact ⟨ret_bool (by rw [HE.out]; first | done | rfl | exact decide_eq_false (by omega) | exact decide_eq_true (by omega)), Q0.trans q2⟩
    · rw [decide_eq_false hM] at HE
      go_enter Tryz.func112, Tryz.ntmps112
      go_wp2_with fail
      refine (K1.out _).mono ?_
      rintro e1 w1 ⟨rfl, q1⟩
      replace Q0 := Q0.trans q1
      have L1 := later_cells (B1.q q1).cell (B1.q q1).lt
      have L2 := later_cells (B2.q q1).cell (B2.q q1).lt
      clear B1 B2 q1
      go_wp2_with fail
      refine wp_region_later_lit (by kernel_rfl) (by kernel_rfl) ?_
      repeat (any_goals (first | go_big_quiet_step ((first | (go_at_call 149; with_reducible exact later_call (K2.out _)) | (go_at_call 151; with_reducible exact later_same (K3.out _)))) | quiet_step ((first | (go_at_call 149; with_reducible exact later_call (K2.out _)) | (go_at_call 151; with_reducible exact later_same (K3.out _)))) | (refine wpQuiet_step (fun K hK => ?_); go_simp; split <;> (refine hK _ ?_; clear hK K))))
      all_goals (refine wpQuiet_nil ?_; rintro _ ⟨⟨w2, q2⟩, rfl⟩; try dsimp only)
      all_goals go_wp2_with fail
      go_ret
      exact ⟨ret_bool (by rw [HE.out]; first | done | rfl | exact decide_eq_false (by omega) | exact decide_eq_true (by omega)), Q0.trans q2⟩
  · rw [decide_eq_false hD, Bool.false_and] at HE
    have hDb : decide (D < 0) = false := decide_eq_false hD
    have hDc : (0 : Int) ≤ D := by omega
    go_enter Tryz.func112, Tryz.ntmps112
    go_wp2_with fail
    refine (K1.out _).mono ?_
    rintro e1 w1 ⟨rfl, q1⟩
    replace Q0 := Q0.trans q1
    have L1 := later_cells (B1.q q1).cell (B1.q q1).lt
    have L2 := later_cells (B2.q q1).cell (B2.q q1).lt
    clear B1 B2 q1
    go_wp2_with fail
    refine wp_region_later_lit (by kernel_rfl) (by kernel_rfl) ?_
    repeat (any_goals (first | go_big_quiet_step ((fail)) | quiet_step ((fail)) | (refine wpQuiet_step (fun K hK => ?_); go_simp; split <;> (refine hK _ ?_; clear hK K))))
    all_goals (refine wpQuiet_nil ?_; rintro _ ⟨⟨w2, q2⟩, rfl⟩; try dsimp only)
    all_goals go_wp2_with fail
    go_ret
    exact ⟨ret_bool (by rw [HE.out]; first | done | rfl | exact decide_eq_false (by omega) | exact decide_eq_true (by omega)), Q0.trans q2⟩
set_option maxRecDepth 100000 in
set_option maxHeartbeats 2000000 in
theorem spec_clear (a b x y l a' b' x' y' l' : Int) (w : World) (hp : pt a b) (h : hdOk x y) (hl : 1 ≤ l ∧ l ≤ 1000) (hp' : pt a' b') :
    Calls Tryz.prog 134 #[.agg #[.int .i64 a, .int .i64 b, .int .i64 x, .int .i64 y, .int .i64 l], .agg #[.int .i64 a', .int .i64 b', .int .i64 x', .int .i64 y', .int .i64 l']] w fun e w' => e = .returned (.bool (clB a b x y l a' b')) ∧ Q w w' := by
  obtain ⟨m1, m2⟩ := hd_sq h
  have hbd := ahe_bd hp h.1 hp'
  have ml := mul_l2 hl
  have K1 := Lib.hid (fun wv => spec_ahead a b x y l a' b' x' y' l' wv hp h.1 hp')
  have HE := Lib.hid (show clB a b x y l a' b' = (decide (aheV a b x y a' b' < 0) && decide (l * l * (x * x + y * y) < aheV a b x y a' b' * aheV a b x y a' b')) from rfl)
  obtain ⟨B1, B2⟩ := bxHH w a b x y l a' b' x' y' l'
  have Q0 : Q w ((w.alloc (.cells #[.int .i64 a, .int .i64 b, .int .i64 x, .int .i64 y, .int .i64 l] 86)).alloc (.cells #[.int .i64 a', .int .i64 b', .int .i64 x', .int .i64 y', .int .i64 l'] 86)) := by (repeat (first | assumption | exact Q.refl _ | refine Q.alloc ?_ _ | refine Q.drewN ?_ _ | refine Q.drew ?_))
  have K2 := Lib.hid (fun wv => spec_DotV x y x y wv h.1 h.1)
  have K3 := Lib.hid (fun wv => spec_l02RootOf l (x * x + y * y) wv (by omega) (by omega))
  have hn := sq_n0 (l := l) (show 0 ≤ x * x + y * y by omega)
  have k4 := fun (D : Int) (h0 : D < 0) => cl_root h0 hn
  have hrt : rt (l * l * (x * x + y * y)) ≤ 3000000000 ∧ 0 ≤ rt (l * l * (x * x + y * y)) := ⟨rt_mono_bd hn (by decide) (sq_n1 (by omega) (by omega)), rt_pos _⟩
  clear hn
  clear h hl hp hp'
  generalize aheV a b x y a' b' = D at *
  generalize clB a b x y l a' b' = R at *
  by_cases hD : D < 0
  · rw [decide_eq_true hD, Bool.true_and] at HE
    rw [k4 D hD] at HE
    clear k4
    generalize rt (l * l * (x * x + y * y)) = M at *
    generalize x * x + y * y = SS at *
    by_cases hM : M < -D
    · rw [decide_eq_true hM] at HE
      go_enter Tryz.func134, Tryz.ntmps134
      go_wp2_with fail
      refine (K1.out _).mono ?_
      rintro e1 w1 ⟨rfl, q1⟩
      replace Q0 := Q0.trans q1
      have L1 := later_cells (B1.q q1).cell (B1.q q1).lt
      have L2 := later_cells (B2.q q1).cell (B2.q q1).lt
      clear B1 B2 q1
      go_wp2_with fail
      refine wp_region_later_lit (by kernel_rfl) (by kernel_rfl) ?_
      repeat (any_goals (first | go_big_quiet_step ((first | (go_at_call 126; with_reducible exact later_call (K2.out _)) | (go_at_call 129; with_reducible exact later_same (K3.out _)))) | quiet_step ((first | (go_at_call 126; with_reducible exact later_call (K2.out _)) | (go_at_call 129; with_reducible exact later_same (K3.out _)))) | (refine wpQuiet_step (fun K hK => ?_); go_simp; split <;> (refine hK _ ?_; clear hK K))))
      all_goals (refine wpQuiet_nil ?_; rintro _ ⟨⟨w2, q2⟩, rfl⟩; try dsimp only)
      all_goals go_wp2_with fail
      go_ret
      exact ⟨ret_bool (by rw [HE.out]; first | done | rfl | exact decide_eq_false (by omega) | exact decide_eq_true (by omega)), Q0.trans q2⟩
    · rw [decide_eq_false hM] at HE
      go_enter Tryz.func134, Tryz.ntmps134
      go_wp2_with fail
      refine (K1.out _).mono ?_
      rintro e1 w1 ⟨rfl, q1⟩
      replace Q0 := Q0.trans q1
      have L1 := later_cells (B1.q q1).cell (B1.q q1).lt
      have L2 := later_cells (B2.q q1).cell (B2.q q1).lt
      clear B1 B2 q1
      go_wp2_with fail
      refine wp_region_later_lit (by kernel_rfl) (by kernel_rfl) ?_
      repeat (any_goals (first | go_big_quiet_step ((first | (go_at_call 126; with_reducible exact later_call (K2.out _)) | (go_at_call 129; with_reducible exact later_same (K3.out _)))) | quiet_step ((first | (go_at_call 126; with_reducible exact later_call (K2.out _)) | (go_at_call 129; with_reducible exact later_same (K3.out _)))) | (refine wpQuiet_step (fun K hK => ?_); go_simp; split <;> (refine hK _ ?_; clear hK K))))
      all_goals (refine wpQuiet_nil ?_; rintro _ ⟨⟨w2, q2⟩, rfl⟩; try dsimp only)
      all_goals go_wp2_with fail
      go_ret
      exact ⟨ret_bool (by rw [HE.out]; first | done | rfl | exact decide_eq_false (by omega) | exact decide_eq_true (by omega)), Q0.trans q2⟩
  · rw [decide_eq_false hD, Bool.false_and] at HE
    have hDb : decide (D < 0) = false := decide_eq_false hD
    have hDc : (0 : Int) ≤ D := by omega
    go_enter Tryz.func134, Tryz.ntmps134
    go_wp2_with fail
    refine (K1.out _).mono ?_
    rintro e1 w1 ⟨rfl, q1⟩
    replace Q0 := Q0.trans q1
    have L1 := later_cells (B1.q q1).cell (B1.q q1).lt
    have L2 := later_cells (B2.q q1).cell (B2.q q1).lt
    clear B1 B2 q1
    go_wp2_with fail
    refine wp_region_later_lit (by kernel_rfl) (by kernel_rfl) ?_
    repeat (any_goals (first | go_big_quiet_step ((fail)) | quiet_step ((fail)) | (refine wpQuiet_step (fun K hK => ?_); go_simp; split <;> (refine hK _ ?_; clear hK K))))
    all_goals (refine wpQuiet_nil ?_; rintro _ ⟨⟨w2, q2⟩, rfl⟩; try dsimp only)
    all_goals go_wp2_with fail
    go_ret
    exact ⟨ret_bool (by rw [HE.out]; first | done | rfl | exact decide_eq_false (by omega) | exact decide_eq_true (by omega)), Q0.trans q2⟩
theorem impl_over (a b x y l a' b' x' y' l' : Int) (w : World) (hp : pt a b) (h : hdOk x y) (hl : 1 ≤ l ∧ l ≤ 1000) (hp' : pt a' b') (h' : hdOk x' y') (hl' : 1 ≤ l' ∧ l' ≤ 1000) :
    Calls Tryz.prog 77 #[.agg #[.int .i64 a, .int .i64 b, .int .i64 x, .int .i64 y, .int .i64 l], .agg #[.int .i64 a', .int .i64 b', .int .i64 x', .int .i64 y', .int .i64 l']] w fun e w' => e = .returned (.int .i64 (ovV a b x y l a' b' x' y' l')) ∧ Q w w' := by
  have K1 := Lib.hid (fun wv => impl_clear a b x y l a' b' x' y' l' wv hp h hl hp')
  have K2 := Lib.hid (fun wv => impl_clear a' b' x' y' l' a b x y l wv hp' h' hl' hp)
  have HE := Lib.hid (show ovV a b x y l a' b' x' y' l' = (if clB a b x y l a' b' = true then 1 else 0) + (if clB a' b' x' y' l' a b = true then 2 else 0) from rfl)
  obtain ⟨B1, B2⟩ := bxHH w a b x y l a' b' x' y' l'
  have Q0 : Q w ((w.alloc (.cells #[.int .i64 a, .int .i64 b, .int .i64 x, .int .i64 y, .int .i64 l] 86)).alloc (.cells #[.int .i64 a', .int .i64 b', .int .i64 x', .int .i64 y', .int .i64 l'] 86)) := by (repeat (first | assumption | exact Q.refl _ | refine Q.alloc ?_ _ | refine Q.drewN ?_ _ | refine Q.drew ?_))
  clear h h' hl hl' hp hp'
  generalize clB a b x y l a' b' = R1 at *
  generalize clB a' b' x' y' l' a b = R2 at *
  generalize ovV a b x y l a' b' x' y' l' = O at *
  go_enter Tryz.func77, Tryz.ntmps77
  go_wp2_with fail
  refine (K1.out _).mono ?_
  rintro e1 w1 ⟨rfl, q1⟩
  replace Q0 := Q0.trans q1
  have c1 := (B1.q q1).cell
  have c2 := (B2.q q1).cell
  have l1 := (B1.q q1).lt
  have l2 := (B2.q q1).lt
  cases R1
  · go_wp2_with fail
    refine (K2.out _).mono ?_
    rintro e2 w2 ⟨rfl, q2⟩
    cases R2
    · go_wp2_with fail
      go_ret
      exact ⟨ret_int (by rw [HE.out]; rfl), Q0.trans q2⟩
    · go_wp2_with fail
      go_ret
      exact ⟨ret_int (by rw [HE.out]; rfl), Q0.trans q2⟩
  · go_wp2_with fail
    refine (K2.out _).mono ?_
    rintro e2 w2 ⟨rfl, q2⟩
    cases R2
    · go_wp2_with fail
      go_ret
      exact ⟨ret_int (by rw [HE.out]; rfl), Q0.trans q2⟩
    · go_wp2_with fail
      go_ret
      exact ⟨ret_int (by rw [HE.out]; rfl), Q0.trans q2⟩
theorem spec_over (a b x y l a' b' x' y' l' : Int) (w : World) (hp : pt a b) (h : hdOk x y) (hl : 1 ≤ l ∧ l ≤ 1000) (hp' : pt a' b') (h' : hdOk x' y') (hl' : 1 ≤ l' ∧ l' ≤ 1000) :
    Calls Tryz.prog 90 #[.agg #[.int .i64 a, .int .i64 b, .int .i64 x, .int .i64 y, .int .i64 l], .agg #[.int .i64 a', .int .i64 b', .int .i64 x', .int .i64 y', .int .i64 l']] w fun e w' => e = .returned (.int .i64 (ovV a b x y l a' b' x' y' l')) ∧ Q w w' := by
  have K1 := Lib.hid (fun wv => spec_clear a b x y l a' b' x' y' l' wv hp h hl hp')
  have K2 := Lib.hid (fun wv => spec_clear a' b' x' y' l' a b x y l wv hp' h' hl' hp)
  have HE := Lib.hid (show ovV a b x y l a' b' x' y' l' = (if clB a b x y l a' b' = true then 1 else 0) + (if clB a' b' x' y' l' a b = true then 2 else 0) from rfl)
  obtain ⟨B1, B2⟩ := bxHH w a b x y l a' b' x' y' l'
  have Q0 : Q w ((w.alloc (.cells #[.int .i64 a, .int .i64 b, .int .i64 x, .int .i64 y, .int .i64 l] 86)).alloc (.cells #[.int .i64 a', .int .i64 b', .int .i64 x', .int .i64 y', .int .i64 l'] 86)) := by (repeat (first | assumption | exact Q.refl _ | refine Q.alloc ?_ _ | refine Q.drewN ?_ _ | refine Q.drew ?_))
  clear h h' hl hl' hp hp'
  generalize clB a b x y l a' b' = R1 at *
  generalize clB a' b' x' y' l' a b = R2 at *
  generalize ovV a b x y l a' b' x' y' l' = O at *
  go_enter Tryz.func90, Tryz.ntmps90
  go_wp2_with fail
  refine (K1.out _).mono ?_
  rintro e1 w1 ⟨rfl, q1⟩
  replace Q0 := Q0.trans q1
  have c1 := (B1.q q1).cell
  have c2 := (B2.q q1).cell
  have l1 := (B1.q q1).lt
  have l2 := (B2.q q1).lt
  cases R1
  · go_wp2_with fail
    refine (K2.out _).mono ?_
    rintro e2 w2 ⟨rfl, q2⟩
    cases R2
    · go_wp2_with fail
      go_ret
      exact ⟨ret_int (by rw [HE.out]; rfl), Q0.trans q2⟩
    · go_wp2_with fail
      go_ret
      exact ⟨ret_int (by rw [HE.out]; rfl), Q0.trans q2⟩
  · go_wp2_with fail
    refine (K2.out _).mono ?_
    rintro e2 w2 ⟨rfl, q2⟩
    cases R2
    · go_wp2_with fail
      go_ret
      exact ⟨ret_int (by rw [HE.out]; rfl), Q0.trans q2⟩
    · go_wp2_with fail
      go_ret
      exact ⟨ret_int (by rw [HE.out]; rfl), Q0.trans q2⟩
set_option maxRecDepth 100000 in
set_option maxHeartbeats 1000000 in
theorem impl_windward (wx wy a b x y l a' b' x' y' l' : Int) (w : World) (hw : wnd wx wy) (hp : pt a b) (hp' : pt a' b') :
    Calls Tryz.prog 78 #[.agg #[.int .i64 wx, .int .i64 wy], .agg #[.int .i64 a, .int .i64 b, .int .i64 x, .int .i64 y, .int .i64 l], .agg #[.int .i64 a', .int .i64 b', .int .i64 x', .int .i64 y', .int .i64 l']] w fun e w' => e = .returned (.int .i64 (wwV wx wy a b a' b')) ∧ Q w w' := by
  obtain ⟨W0, hW0⟩ : ∃ W0, W0 = w.alloc (.cells #[.int .i64 wx, .int .i64 wy] 25) := ⟨_, rfl⟩
  have z0 : W0.heap.size = w.heap.size + 1 := by rw [hW0]; simp
  obtain ⟨B1, B2⟩ := bxHH W0 a b x y l a' b' x' y' l'
  have B0 : Blk ((W0.alloc (.cells #[.int .i64 a, .int .i64 b, .int .i64 x, .int .i64 y, .int .i64 l] 86)).alloc (.cells #[.int .i64 a', .int .i64 b', .int .i64 x', .int .i64 y', .int .i64 l'] 86)) w.heap.size 25 #[.int .i64 wx, .int .i64 wy] := by rw [hW0]; exact ((Blk.new _ _ _).alloc _).alloc _
  rw [z0] at B1 B2
  rw [hW0] at B0 B1 B2
  clear z0 hW0
  have Q0 : Q w (((w.alloc (.cells #[.int .i64 wx, .int .i64 wy] 25)).alloc (.cells #[.int .i64 a, .int .i64 b, .int .i64 x, .int .i64 y, .int .i64 l] 86)).alloc (.cells #[.int .i64 a', .int .i64 b', .int .i64 x', .int .i64 y', .int .i64 l'] 86)) := by (repeat (first | assumption | exact Q.refl _ | refine Q.alloc ?_ _ | refine Q.drewN ?_ _ | refine Q.drew ?_))
  have L0 := later_cells B0.cell B0.lt
  have L1 := later_cells B1.cell B1.lt
  have L2 := later_cells B2.cell B2.lt
  clear B0 B1 B2
  have HE := Lib.hid (show wwV wx wy a b a' b' = if scV wx wy a b < scV wx wy a' b' then 1 else if scV wx wy a' b' < scV wx wy a b then 2 else 0 from rfl)
  have s1 := sc_bd hw hp
  have s2 := sc_bd hw hp'
  have k1 := fun wv => (show Calls Tryz.prog 113 #[.agg #[.int .i64 wx, .int .i64 wy], .agg #[.int .i64 a, .int .i64 b]] wv fun e w' => e = .returned (.int .i64 (scV wx wy a b)) ∧ Q wv w' from impl_scalar wx wy a b wv hw (pt_hd hp))
  have k2 := fun wv => (show Calls Tryz.prog 113 #[.agg #[.int .i64 wx, .int .i64 wy], .agg #[.int .i64 a', .int .i64 b']] wv fun e w' => e = .returned (.int .i64 (scV wx wy a' b')) ∧ Q wv w' from impl_scalar wx wy a' b' wv hw (pt_hd hp'))
  have K1 := Lib.hid k1
  have K2 := Lib.hid k2
  clear k1 k2 hw hp hp'
  generalize wwV wx wy a b a' b' = R at *
  generalize scV wx wy a b = p at *
  generalize scV wx wy a' b' = q at *
  rcases Int.lt_trichotomy p q with h | h | h
  · rw [if_pos h] at HE
    go_enter Tryz.func78, Tryz.ntmps78
    go_wp2_with fail
    refine wp_region_later_lit (by kernel_rfl) (by kernel_rfl) ?_
    repeat (any_goals (first | go_big_quiet_step ((go_at_call 113; first | with_reducible exact later_call (K1.out _) | with_reducible exact later_call (K2.out _))) | quiet_step ((go_at_call 113; first | with_reducible exact later_call (K1.out _) | with_reducible exact later_call (K2.out _))) | (refine wpQuiet_step (fun K hK => ?_); go_simp; split <;> (refine hK _ ?_; clear hK K))))
    all_goals (refine wpQuiet_nil ?_; rintro _ ⟨⟨w2, q2⟩, rfl⟩; try dsimp only)
    all_goals go_wp2_with fail
    go_ret
    exact ⟨ret_int (by rw [HE.out]), Q0.trans q2⟩
  · rw [h, if_neg (Int.lt_irrefl _), if_neg (Int.lt_irrefl _)] at HE
    subst h
    go_enter Tryz.func78, Tryz.ntmps78
    go_wp2_with fail
    refine wp_region_later_lit (by kernel_rfl) (by kernel_rfl) ?_
    repeat (any_goals (first | go_big_quiet_step ((go_at_call 113; first | with_reducible exact later_call (K1.out _) | with_reducible exact later_call (K2.out _))) | quiet_step ((go_at_call 113; first | with_reducible exact later_call (K1.out _) | with_reducible exact later_call (K2.out _))) | (refine wpQuiet_step (fun K hK => ?_); go_simp; split <;> (refine hK _ ?_; clear hK K))))
    all_goals (refine wpQuiet_nil ?_; rintro _ ⟨⟨w2, q2⟩, rfl⟩; try dsimp only)
    all_goals go_wp2_with fail
    go_ret
    exact ⟨ret_int (by rw [HE.out]), Q0.trans q2⟩
  · rw [if_neg (by omega), if_pos h] at HE
    go_enter Tryz.func78, Tryz.ntmps78
    go_wp2_with fail
    refine wp_region_later_lit (by kernel_rfl) (by kernel_rfl) ?_
    repeat (any_goals (first | go_big_quiet_step ((go_at_call 113; first | with_reducible exact later_call (K1.out _) | with_reducible exact later_call (K2.out _))) | quiet_step ((go_at_call 113; first | with_reducible exact later_call (K1.out _) | with_reducible exact later_call (K2.out _))) | (refine wpQuiet_step (fun K hK => ?_); go_simp; split <;> (refine hK _ ?_; clear hK K))))
    all_goals (refine wpQuiet_nil ?_; rintro _ ⟨⟨w2, q2⟩, rfl⟩; try dsimp only)
    all_goals go_wp2_with fail
    go_ret
    exact ⟨ret_int (by rw [HE.out]), Q0.trans q2⟩
set_option maxRecDepth 100000 in
set_option maxHeartbeats 1000000 in
theorem spec_windward (wx wy a b x y l a' b' x' y' l' : Int) (w : World) (hw : wnd wx wy) (hp : pt a b) (hp' : pt a' b') :
    Calls Tryz.prog 91 #[.agg #[.int .i64 wx, .int .i64 wy], .agg #[.int .i64 a, .int .i64 b, .int .i64 x, .int .i64 y, .int .i64 l], .agg #[.int .i64 a', .int .i64 b', .int .i64 x', .int .i64 y', .int .i64 l']] w fun e w' => e = .returned (.int .i64 (wwV wx wy a b a' b')) ∧ Q w w' := by
  obtain ⟨W0, hW0⟩ : ∃ W0, W0 = w.alloc (.cells #[.int .i64 wx, .int .i64 wy] 25) := ⟨_, rfl⟩
  have z0 : W0.heap.size = w.heap.size + 1 := by rw [hW0]; simp
  obtain ⟨B1, B2⟩ := bxHH W0 a b x y l a' b' x' y' l'
  have B0 : Blk ((W0.alloc (.cells #[.int .i64 a, .int .i64 b, .int .i64 x, .int .i64 y, .int .i64 l] 86)).alloc (.cells #[.int .i64 a', .int .i64 b', .int .i64 x', .int .i64 y', .int .i64 l'] 86)) w.heap.size 25 #[.int .i64 wx, .int .i64 wy] := by rw [hW0]; exact ((Blk.new _ _ _).alloc _).alloc _
  rw [z0] at B1 B2
  rw [hW0] at B0 B1 B2
  clear z0 hW0
  have Q0 : Q w (((w.alloc (.cells #[.int .i64 wx, .int .i64 wy] 25)).alloc (.cells #[.int .i64 a, .int .i64 b, .int .i64 x, .int .i64 y, .int .i64 l] 86)).alloc (.cells #[.int .i64 a', .int .i64 b', .int .i64 x', .int .i64 y', .int .i64 l'] 86)) := by (repeat (first | assumption | exact Q.refl _ | refine Q.alloc ?_ _ | refine Q.drewN ?_ _ | refine Q.drew ?_))
  have L0 := later_cells B0.cell B0.lt
  have L1 := later_cells B1.cell B1.lt
  have L2 := later_cells B2.cell B2.lt
  clear B0 B1 B2
  have HE := Lib.hid (show wwV wx wy a b a' b' = if scV wx wy a b < scV wx wy a' b' then 1 else if scV wx wy a' b' < scV wx wy a b then 2 else 0 from rfl)
  have s1 := sc_bd hw hp
  have s2 := sc_bd hw hp'
  have K0 := Lib.hid (fun wv => spec_Vector wx wy wv)
  have k1 := fun wv => (show Calls Tryz.prog 126 #[.agg #[.int .i64 a, .int .i64 b], .agg #[.int .i64 wx, .int .i64 wy]] wv fun e w' => e = .returned (.int .i64 (scV wx wy a b)) ∧ Q wv w' from spec_DotV a b wx wy wv (pt_hd hp) (wnd_hd hw))
  have k2 := fun wv => (show Calls Tryz.prog 126 #[.agg #[.int .i64 a', .int .i64 b'], .agg #[.int .i64 wx, .int .i64 wy]] wv fun e w' => e = .returned (.int .i64 (scV wx wy a' b')) ∧ Q wv w' from spec_DotV a' b' wx wy wv (pt_hd hp') (wnd_hd hw))
  have k3 := fun wv => spec_Sign (scV wx wy a b - scV wx wy a' b') wv
  have K1 := Lib.hid k1
  have K2 := Lib.hid k2
  clear k1 k2 hw hp hp'
  generalize wwV wx wy a b a' b' = R at *
  generalize scV wx wy a b = p at *
  generalize scV wx wy a' b' = q at *
  rcases Int.lt_trichotomy p q with h | h | h
  · rw [if_pos h] at HE
    have hs : sgn (p - q) = -1 := by unfold sgn; first | rw [if_neg (by omega), if_pos (by omega)] | rw [if_neg (by omega), if_neg (by omega)] | rw [if_pos (by omega)]
    rw [hs] at k3
    have K3 := Lib.hid k3
    have hb : -9000000000 ≤ p - q ∧ p - q ≤ 9000000000 := by omega
    clear k3 hs h
    go_enter Tryz.func91, Tryz.ntmps91
    go_wp2_with fail
    refine wp_region_later_lit (by kernel_rfl) (by kernel_rfl) ?_
    repeat (any_goals (first | go_big_quiet_step ((first | (go_at_call 133; with_reducible exact later_call (K0.out _)) | (go_at_call 126; first | with_reducible exact later_call (K1.out _) | with_reducible exact later_call (K2.out _)) | (go_at_call 132; with_reducible exact later_same (K3.out _)))) | quiet_step ((first | (go_at_call 133; with_reducible exact later_call (K0.out _)) | (go_at_call 126; first | with_reducible exact later_call (K1.out _) | with_reducible exact later_call (K2.out _)) | (go_at_call 132; with_reducible exact later_same (K3.out _)))) | (refine wpQuiet_step (fun K hK => ?_); go_simp; split <;> (refine hK _ ?_; clear hK K))))
    all_goals (refine wpQuiet_nil ?_; rintro _ ⟨⟨w2, q2⟩, rfl⟩; try dsimp only)
    all_goals go_wp2_with fail
    go_ret
    exact ⟨ret_int (by rw [HE.out]), Q0.trans q2⟩
  · rw [h, if_neg (Int.lt_irrefl _), if_neg (Int.lt_irrefl _)] at HE
    have hs : sgn (p - q) = 0 := by unfold sgn; first | rw [if_neg (by omega), if_pos (by omega)] | rw [if_neg (by omega), if_neg (by omega)] | rw [if_pos (by omega)]
    rw [hs] at k3
    have K3 := Lib.hid k3
    have hb : -9000000000 ≤ p - q ∧ p - q ≤ 9000000000 := by omega
    clear k3 hs h
    go_enter Tryz.func91, Tryz.ntmps91
    go_wp2_with fail
    refine wp_region_later_lit (by kernel_rfl) (by kernel_rfl) ?_
    repeat (any_goals (first | go_big_quiet_step ((first | (go_at_call 133; with_reducible exact later_call (K0.out _)) | (go_at_call 126; first | with_reducible exact later_call (K1.out _) | with_reducible exact later_call (K2.out _)) | (go_at_call 132; with_reducible exact later_same (K3.out _)))) | quiet_step ((first | (go_at_call 133; with_reducible exact later_call (K0.out _)) | (go_at_call 126; first | with_reducible exact later_call (K1.out _) | with_reducible exact later_call (K2.out _)) | (go_at_call 132; with_reducible exact later_same (K3.out _)))) | (refine wpQuiet_step (fun K hK => ?_); go_simp; split <;> (refine hK _ ?_; clear hK K))))
    all_goals (refine wpQuiet_nil ?_; rintro _ ⟨⟨w2, q2⟩, rfl⟩; try dsimp only)
    all_goals go_wp2_with fail
    go_ret
    exact ⟨ret_int (by rw [HE.out]), Q0.trans q2⟩
  · rw [if_neg (by omega), if_pos h] at HE
    have hs : sgn (p - q) = 1 := by unfold sgn; first | rw [if_neg (by omega), if_pos (by omega)] | rw [if_neg (by omega), if_neg (by omega)] | rw [if_pos (by omega)]
    rw [hs] at k3
    have K3 := Lib.hid k3
    have hb : -9000000000 ≤ p - q ∧ p - q ≤ 9000000000 := by omega
    clear k3 hs h
    go_enter Tryz.func91, Tryz.ntmps91
    go_wp2_with fail
    refine wp_region_later_lit (by kernel_rfl) (by kernel_rfl) ?_
    repeat (any_goals (first | go_big_quiet_step ((first | (go_at_call 133; with_reducible exact later_call (K0.out _)) | (go_at_call 126; first | with_reducible exact later_call (K1.out _) | with_reducible exact later_call (K2.out _)) | (go_at_call 132; with_reducible exact later_same (K3.out _)))) | quiet_step ((first | (go_at_call 133; with_reducible exact later_call (K0.out _)) | (go_at_call 126; first | with_reducible exact later_call (K1.out _) | with_reducible exact later_call (K2.out _)) | (go_at_call 132; with_reducible exact later_same (K3.out _)))) | (refine wpQuiet_step (fun K hK => ?_); go_simp; split <;> (refine hK _ ?_; clear hK K))))
    all_goals (refine wpQuiet_nil ?_; rintro _ ⟨⟨w2, q2⟩, rfl⟩; try dsimp only)
    all_goals go_wp2_with fail
    go_ret
    exact ⟨ret_int (by rw [HE.out]), Q0.trans q2⟩
end Go.Proofs.YtkpdoikjfibflaaGreatDoor
