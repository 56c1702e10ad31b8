/- Walks: winds, tacks and scalar products, as the program and the reference tell them. No condition. -/
import Derived.Test.YtkpdoikjfibflaaGreatNrG
import Derived.Test.YtkpdoikjfibflaaGreatUmQ
namespace Go.Proofs.YtkpdoikjfibflaaGreat
open Go.RowKit Go.WideShapes Go.ChangeShapes
theorem bxWP (w : World) (wx wy x y : Int) : Blk ((w.alloc (.cells #[.int .i64 wx, .int .i64 wy] 33)).alloc (.cells #[.int .i64 x, .int .i64 y] 104)) w.heap.size 33 #[.int .i64 wx, .int .i64 wy] ∧
    Blk ((w.alloc (.cells #[.int .i64 wx, .int .i64 wy] 33)).alloc (.cells #[.int .i64 x, .int .i64 y] 104)) (w.heap.size + 1) 104 #[.int .i64 x, .int .i64 y] :=
  ⟨(Blk.new _ _ _).alloc _, by simpa using Blk.new (w.alloc (.cells #[.int .i64 wx, .int .i64 wy] 33)) 104 #[.int .i64 x, .int .i64 y]⟩
theorem wnd_hd {x y : Int} (h : wnd x y) : hd2 x y := by unfold wnd at h; unfold hd2; omega
theorem wnB_wnd {x y : Int} (h : wnB x y = true) : wnd x y := by
  have h' : (inR x (-1000) 1000 = true ∧ inR y (-1000) 1000 = true) ∧ ¬ (x = 0 ∧ y = 0) := by
    unfold wnB at h
    rw [Bool.and_eq_true, Bool.and_eq_true] at h
    refine ⟨h.1, ?_⟩
    rintro ⟨rfl, rfl⟩
    simp at h
  unfold inR at h'
  unfold wnd
  simp at h'
  omega
theorem tkV_1 {wx wy x y : Int} (h : x * wy - y * wx < 0) : tkV wx wy x y = 1 := if_pos h
theorem tkV_2 {wx wy x y : Int} (h : 0 < x * wy - y * wx) : tkV wx wy x y = 2 := by unfold tkV; rw [if_neg (by omega), if_pos h]
theorem tkV_0 {wx wy x y : Int} (h : x * wy - y * wx = 0) : tkV wx wy x y = 0 := by unfold tkV; rw [if_neg (by omega), if_neg (by omega)]
theorem impl_IsWind (x y : Int) (w : World) : Calls Tryz.prog 51 #[.agg #[.int .i64 x, .int .i64 y]] w fun e w' => e = .returned (.bool (wnB x y)) ∧ Q w w' := by
  have K1 := Lib.hid (fun wv => impl_inR x (-1000) 1000 wv)
  have K2 := Lib.hid (fun wv => impl_inR y (-1000) 1000 wv)
  have HW := Lib.hid (show wnB x y = (inR x (-1000) 1000 && inR y (-1000) 1000 && !(decide (x = 0) && decide (y = 0))) from rfl)
  generalize wnB x y = W at *
  generalize inR x (-1000) 1000 = r1 at *
  generalize inR y (-1000) 1000 = r2 at *
  cases r1
  · go_enter Tryz.func51, Tryz.ntmps51
    go_wp2_with fail
    refine (K1.out _).mono ?_
    rintro e1 w1 ⟨rfl, rfl⟩
    go_wp2_with fail
    go_ret
    exact ⟨ret_bool (by rw [HW.out]; rfl), by (repeat (first | assumption | exact Q.refl _ | refine Q.alloc ?_ _ | refine Q.drewN ?_ _ | refine Q.drew ?_))⟩
  · cases r2
    · go_enter Tryz.func51, Tryz.ntmps51
      go_wp2_with fail
      refine (K1.out _).mono ?_
      rintro e1 w1 ⟨rfl, rfl⟩
      go_wp2_with fail
      refine (K2.out _).mono ?_
      rintro e2 w2 ⟨rfl, rfl⟩
      go_wp2_with fail
      go_ret
      exact ⟨ret_bool (by rw [HW.out]; rfl), by (repeat (first | assumption | exact Q.refl _ | refine Q.alloc ?_ _ | refine Q.drewN ?_ _ | refine Q.drew ?_))⟩
    · by_cases hx : x = 0
      · by_cases hy : y = 0
        · subst hx hy
          go_enter Tryz.func51, Tryz.ntmps51
          go_wp2_with fail
          refine (K1.out _).mono ?_
          rintro e1 w1 ⟨rfl, rfl⟩
          go_wp2_with fail
          refine (K2.out _).mono ?_
          rintro e2 w2 ⟨rfl, rfl⟩
          go_wp2_with fail
          go_ret
          exact ⟨ret_bool (by rw [HW.out]; rfl), by (repeat (first | assumption | exact Q.refl _ | refine Q.alloc ?_ _ | refine Q.drewN ?_ _ | refine Q.drew ?_))⟩
        · have hyb : (y == 0) = false := by simpa using hy
          subst hx
          go_enter Tryz.func51, Tryz.ntmps51
          go_wp2_with fail
          refine (K1.out _).mono ?_
          rintro e1 w1 ⟨rfl, rfl⟩
          go_wp2_with fail
          refine (K2.out _).mono ?_
          rintro e2 w2 ⟨rfl, rfl⟩
          go_wp2_with fail
          go_ret
          exact ⟨ret_bool (by rw [HW.out]; simp [hy]), by (repeat (first | assumption | exact Q.refl _ | refine Q.alloc ?_ _ | refine Q.drewN ?_ _ | refine Q.drew ?_))⟩
      · have hxb : (x == 0) = false := by simpa using hx
        go_enter Tryz.func51, Tryz.ntmps51
        go_wp2_with fail
        refine (K1.out _).mono ?_
        rintro e1 w1 ⟨rfl, rfl⟩
        go_wp2_with fail
        refine (K2.out _).mono ?_
        rintro e2 w2 ⟨rfl, rfl⟩
        go_wp2_with fail
        go_ret
        exact ⟨ret_bool (by rw [HW.out]; simp [hx]), by (repeat (first | assumption | exact Q.refl _ | refine Q.alloc ?_ _ | refine Q.drewN ?_ _ | refine Q.drew ?_))⟩
theorem spec_IsWind (x y : Int) (w : World) : Calls Tryz.prog 30 #[.agg #[.int .i64 x, .int .i64 y]] w fun e w' => e = .returned (.bool (wnB x y)) ∧ Q w w' := by
  have K1 := Lib.hid (fun wv => spec_inR x (-1000) 1000 wv)
  have K2 := Lib.hid (fun wv => spec_inR y (-1000) 1000 wv)
  have HW := Lib.hid (show wnB x y = (inR x (-1000) 1000 && inR y (-1000) 1000 && !(decide (x = 0) && decide (y = 0))) from rfl)
  generalize wnB x y = W at *
  generalize inR x (-1000) 1000 = r1 at *
  generalize inR y (-1000) 1000 = r2 at *
  cases r1
  · go_enter Tryz.func30, Tryz.ntmps30
    go_wp2_with fail
    refine (K1.out _).mono ?_
    rintro e1 w1 ⟨rfl, rfl⟩
    go_wp2_with fail
    go_ret
    exact ⟨ret_bool (by rw [HW.out]; rfl), by (repeat (first | assumption | exact Q.refl _ | refine Q.alloc ?_ _ | refine Q.drewN ?_ _ | refine Q.drew ?_))⟩
  · cases r2
    · go_enter Tryz.func30, Tryz.ntmps30
      go_wp2_with fail
      refine (K1.out _).mono ?_
      rintro e1 w1 ⟨rfl, rfl⟩
      go_wp2_with fail
      refine (K2.out _).mono ?_
      rintro e2 w2 ⟨rfl, rfl⟩
      go_wp2_with fail
      go_ret
      exact ⟨ret_bool (by rw [HW.out]; rfl), by (repeat (first | assumption | exact Q.refl _ | refine Q.alloc ?_ _ | refine Q.drewN ?_ _ | refine Q.drew ?_))⟩
    · by_cases hx : x = 0
      · by_cases hy : y = 0
        · subst hx hy
          go_enter Tryz.func30, Tryz.ntmps30
          go_wp2_with fail
          refine (K1.out _).mono ?_
          rintro e1 w1 ⟨rfl, rfl⟩
          go_wp2_with fail
          refine (K2.out _).mono ?_
          rintro e2 w2 ⟨rfl, rfl⟩
          go_wp2_with fail
          go_ret
          exact ⟨ret_bool (by rw [HW.out]; rfl), by (repeat (first | assumption | exact Q.refl _ | refine Q.alloc ?_ _ | refine Q.drewN ?_ _ | refine Q.drew ?_))⟩
        · have hyb : (y == 0) = false := by simpa using hy
          subst hx
          go_enter Tryz.func30, Tryz.ntmps30
          go_wp2_with fail
          refine (K1.out _).mono ?_
          rintro e1 w1 ⟨rfl, rfl⟩
          go_wp2_with fail
          refine (K2.out _).mono ?_
          rintro e2 w2 ⟨rfl, rfl⟩
          go_wp2_with fail
          go_ret
          exact ⟨ret_bool (by rw [HW.out]; simp [hy]), by (repeat (first | assumption | exact Q.refl _ | refine Q.alloc ?_ _ | refine Q.drewN ?_ _ | refine Q.drew ?_))⟩
      · have hxb : (x == 0) = false := by simpa using hx
        go_enter Tryz.func30, Tryz.ntmps30
        go_wp2_with fail
        refine (K1.out _).mono ?_
        rintro e1 w1 ⟨rfl, rfl⟩
        go_wp2_with fail
        refine (K2.out _).mono ?_
        rintro e2 w2 ⟨rfl, rfl⟩
        go_wp2_with fail
        go_ret
        exact ⟨ret_bool (by rw [HW.out]; simp [hx]), by (repeat (first | assumption | exact Q.refl _ | refine Q.alloc ?_ _ | refine Q.drewN ?_ _ | refine Q.drew ?_))⟩
theorem impl_tackOf (wx wy x y : Int) (w : World) (hw : wnd wx wy) (hh : hd2 x y) :
    Calls Tryz.prog 116 #[.agg #[.int .i64 wx, .int .i64 wy], .agg #[.int .i64 x, .int .i64 y]] w fun e w' => e = .returned (.int .i64 (tkV wx wy x y)) ∧ Q w w' := by
  have m1 := mul_2M hh.1 (wnd_hd hw).2
  have m2 := mul_2M hh.2 (wnd_hd hw).1
  rcases Int.lt_trichotomy (x * wy - y * wx) 0 with h | h | h
  · have HE := Lib.hid (tkV_1 h)
    generalize tkV wx wy x y = T at *
    go_enter Tryz.func116, Tryz.ntmps116
    go_wp2_with fail
    go_ret
    exact ⟨ret_int HE.out.symm, by (repeat (first | assumption | exact Q.refl _ | refine Q.alloc ?_ _ | refine Q.drewN ?_ _ | refine Q.drew ?_))⟩
  · have HE := Lib.hid (tkV_0 h)
    generalize tkV wx wy x y = T at *
    go_enter Tryz.func116, Tryz.ntmps116
    go_wp2_with fail
    go_ret
    exact ⟨ret_int HE.out.symm, by (repeat (first | assumption | exact Q.refl _ | refine Q.alloc ?_ _ | refine Q.drewN ?_ _ | refine Q.drew ?_))⟩
  · have HE := Lib.hid (tkV_2 h)
    generalize tkV wx wy x y = T at *
    go_enter Tryz.func116, Tryz.ntmps116
    go_wp2_with fail
    go_ret
    exact ⟨ret_int HE.out.symm, by (repeat (first | assumption | exact Q.refl _ | refine Q.alloc ?_ _ | refine Q.drewN ?_ _ | refine Q.drew ?_))⟩
theorem impl_scalar (wx wy x y : Int) (w : World) (hw : wnd wx wy) (hh : hd2 x y) :
    Calls Tryz.prog 150 #[.agg #[.int .i64 wx, .int .i64 wy], .agg #[.int .i64 x, .int .i64 y]] w fun e w' => e = .returned (.int .i64 (x * wx + y * wy)) ∧ Q w w' := by
  have m1 := mul_2M hh.1 (wnd_hd hw).1
  have m2 := mul_2M hh.2 (wnd_hd hw).2
  clear hw hh
  go_enter Tryz.func150, Tryz.ntmps150
  go_wp2_with fail
  go_ret
  exact ⟨rfl, by (repeat (first | assumption | exact Q.refl _ | refine Q.alloc ?_ _ | refine Q.drewN ?_ _ | refine Q.drew ?_))⟩
theorem spec_Vector (wx wy : Int) (w : World) : Calls Tryz.prog 138 #[.agg #[.int .i64 wx, .int .i64 wy]] w fun e w' => e = .returned (.agg #[.int .i64 wx, .int .i64 wy]) ∧ Q w w' := by
  go_enter Tryz.func138, Tryz.ntmps138
  go_wp2
  exact bodyPost_ret (v := .agg #[.int .i64 wx, .int .i64 wy]) (by simp [results, Tryz.results138, go_sem]) rfl ⟨rfl, by (repeat (first | assumption | exact Q.refl _ | refine Q.alloc ?_ _ | refine Q.drewN ?_ _ | refine Q.drew ?_))⟩
theorem spec_l08Tack (wx wy x y : Int) (w : World) (hw : wnd wx wy) (hh : hd2 x y) :
    Calls Tryz.prog 103 #[.agg #[.int .i64 wx, .int .i64 wy], .agg #[.int .i64 x, .int .i64 y]] w fun e w' => e = .returned (.int .i64 (tkV wx wy x y)) ∧ Q w w' := by
  have K1 := Lib.hid (fun wv => spec_Vector wx wy wv)
  have K2 := Lib.hid (fun wv => spec_Cross x y wx wy wv hh (wnd_hd hw))
  have k3 := fun wv => spec_Sign (x * wy - y * wx) wv
  obtain ⟨B1, B2⟩ := bxWP w wx wy x y
  have L1 := later_cells B1.cell B1.lt
  have L2 := later_cells B2.cell B2.lt
  clear B1 B2 hw hh
  rcases Int.lt_trichotomy (x * wy - y * wx) 0 with h | h | h
  · have HE := Lib.hid (tkV_1 h)
    have hs : sgn (x * wy - y * wx) = -1 := by unfold sgn; first | rw [if_neg (by omega), if_pos (by omega)] | rw [if_neg (by omega), if_neg (by omega)] | rw [if_pos (by omega)]
    rw [hs] at k3
    have K3 := Lib.hid k3
    clear k3 hs h
    generalize tkV wx wy x y = T at *
    generalize x * wy - y * wx = CC at *
    go_enter Tryz.func103, Tryz.ntmps103
    go_wp2_with fail
    refine wp_region_later_lit (by kernel_rfl) (by kernel_rfl) ?_
    repeat (any_goals (first | go_big_quiet_step ((first | (go_at_call 138; with_reducible exact later_call (K1.out _)) | (go_at_call 133; with_reducible exact later_call (K2.out _)) | (go_at_call 137; with_reducible exact later_same (K3.out _)))) | quiet_step ((first | (go_at_call 138; with_reducible exact later_call (K1.out _)) | (go_at_call 133; with_reducible exact later_call (K2.out _)) | (go_at_call 137; with_reducible exact later_same (K3.out _)))) | (refine wpQuiet_step (fun K hK => ?_); go_simp; split <;> (refine hK _ ?_; clear hK K))))
    all_goals (refine wpQuiet_nil ?_; rintro _ ⟨⟨w2, q2⟩, rfl⟩; try dsimp only)
    all_goals go_wp2_with fail
    go_ret
    exact ⟨ret_int HE.out.symm, Q.trans (by (repeat (first | assumption | exact Q.refl _ | refine Q.alloc ?_ _ | refine Q.drewN ?_ _ | refine Q.drew ?_))) q2⟩
  · have HE := Lib.hid (tkV_0 h)
    have hs : sgn (x * wy - y * wx) = 0 := by unfold sgn; first | rw [if_neg (by omega), if_pos (by omega)] | rw [if_neg (by omega), if_neg (by omega)] | rw [if_pos (by omega)]
    rw [hs] at k3
    have K3 := Lib.hid k3
    clear k3 hs h
    generalize tkV wx wy x y = T at *
    generalize x * wy - y * wx = CC at *
    go_enter Tryz.func103, Tryz.ntmps103
    go_wp2_with fail
    refine wp_region_later_lit (by kernel_rfl) (by kernel_rfl) ?_
    repeat (any_goals (first | go_big_quiet_step ((first | (go_at_call 138; with_reducible exact later_call (K1.out _)) | (go_at_call 133; with_reducible exact later_call (K2.out _)) | (go_at_call 137; with_reducible exact later_same (K3.out _)))) | quiet_step ((first | (go_at_call 138; with_reducible exact later_call (K1.out _)) | (go_at_call 133; with_reducible exact later_call (K2.out _)) | (go_at_call 137; with_reducible exact later_same (K3.out _)))) | (refine wpQuiet_step (fun K hK => ?_); go_simp; split <;> (refine hK _ ?_; clear hK K))))
    all_goals (refine wpQuiet_nil ?_; rintro _ ⟨⟨w2, q2⟩, rfl⟩; try dsimp only)
    all_goals go_wp2_with fail
    go_ret
    exact ⟨ret_int HE.out.symm, Q.trans (by (repeat (first | assumption | exact Q.refl _ | refine Q.alloc ?_ _ | refine Q.drewN ?_ _ | refine Q.drew ?_))) q2⟩
  · have HE := Lib.hid (tkV_2 h)
    have hs : sgn (x * wy - y * wx) = 1 := by unfold sgn; first | rw [if_neg (by omega), if_pos (by omega)] | rw [if_neg (by omega), if_neg (by omega)] | rw [if_pos (by omega)]
    rw [hs] at k3
    have K3 := Lib.hid k3
    clear k3 hs h
    generalize tkV wx wy x y = T at *
    generalize x * wy - y * wx = CC at *
    go_enter Tryz.func103, Tryz.ntmps103
    go_wp2_with fail
    refine wp_region_later_lit (by kernel_rfl) (by kernel_rfl) ?_
    repeat (any_goals (first | go_big_quiet_step ((first | (go_at_call 138; with_reducible exact later_call (K1.out _)) | (go_at_call 133; with_reducible exact later_call (K2.out _)) | (go_at_call 137; with_reducible exact later_same (K3.out _)))) | quiet_step ((first | (go_at_call 138; with_reducible exact later_call (K1.out _)) | (go_at_call 133; with_reducible exact later_call (K2.out _)) | (go_at_call 137; with_reducible exact later_same (K3.out _)))) | (refine wpQuiet_step (fun K hK => ?_); go_simp; split <;> (refine hK _ ?_; clear hK K))))
    all_goals (refine wpQuiet_nil ?_; rintro _ ⟨⟨w2, q2⟩, rfl⟩; try dsimp only)
    all_goals go_wp2_with fail
    go_ret
    exact ⟨ret_int HE.out.symm, Q.trans (by (repeat (first | assumption | exact Q.refl _ | refine Q.alloc ?_ _ | refine Q.drewN ?_ _ | refine Q.drew ?_))) q2⟩
theorem al_bd {wx wy x y : Int} (hw : wnd wx wy) (hh : hdOk x y) : (-4000000000 ≤ x * wx + y * wy ∧ x * wx + y * wy ≤ 4000000000) ∧ (1 ≤ rt (x * x + y * y) ∧ rt (x * x + y * y) ≤ 2828427) := by
  refine ⟨?_, rt_pos1 hh⟩
  have m (a b : Int) (ha : -2000000 ≤ a ∧ a ≤ 2000000) (hb : -1000 ≤ b ∧ b ≤ 1000) : -2000000000 ≤ a * b ∧ a * b ≤ 2000000000 := by
    rcases Int.le_total 0 b with h | h
    · have h1 : a * b ≤ 2000000 * b := Int.mul_le_mul_of_nonneg_right ha.2 h
      have h2 : (-2000000) * b ≤ a * b := Int.mul_le_mul_of_nonneg_right ha.1 h
      omega
    · have h1 : a * (-b) ≤ 2000000 * (-b) := Int.mul_le_mul_of_nonneg_right ha.2 (by omega)
      have h2 : (-2000000) * (-b) ≤ a * (-b) := Int.mul_le_mul_of_nonneg_right ha.1 (by omega)
      have e1 : a * (-b) = -(a * b) := Int.mul_neg a b
      rw [e1] at h1 h2
      omega
  have h1 := m x wx hh.1.1 hw.1
  have h2 := m y wy hh.1.2 hw.2
  omega
theorem al_div {p r : Int} (hp : -4000000000 ≤ p ∧ p ≤ 4000000000) (hr : 1 ≤ r) : -4000000000 ≤ p / r ∧ p / r ≤ 4000000000 := by
  constructor
  · refine (Int.le_ediv_iff_mul_le (by omega)).2 ?_
    have : (4000000000 : Int) * 1 ≤ 4000000000 * r := Int.mul_le_mul_of_nonneg_left hr (by decide)
    omega
  · refine Int.le_trans (Int.ediv_le_ediv (by omega) hp.2) ?_
    exact Int.ediv_le_self _ (by decide)
theorem alV_bd {wx wy x y : Int} (hw : wnd wx wy) (hh : hdOk x y) : -4000000000 ≤ alV wx wy x y ∧ alV wx wy x y ≤ 4000000000 := al_div (al_bd hw hh).1 (al_bd hw hh).2.1
theorem spec_l08Along (wx wy x y : Int) (w : World) (hw : wnd wx wy) (hh : hdOk x y) :
    Calls Tryz.prog 163 #[.agg #[.int .i64 wx, .int .i64 wy], .agg #[.int .i64 x, .int .i64 y]] w fun e w' => e = .returned (.int .i64 (alV wx wy x y)) ∧ Q w w' := by
  obtain ⟨h1, h2⟩ := al_bd hw hh
  obtain ⟨m1, m2⟩ := hd_sq hh
  have K1 := Lib.hid (fun wv => spec_Vector wx wy wv)
  have K2 := Lib.hid (fun wv => spec_DotV x y wx wy wv hh.1 (wnd_hd hw))
  have K3 := Lib.hid (fun wv => spec_DotV x y x y wv hh.1 hh.1)
  have K4 := Lib.hid (fun wv => spec_Root (x * x + y * y) wv (by omega) (by omega))
  have K5 := Lib.hid (fun wv => spec_Floor (x * wx + y * wy) (rt (x * x + y * y)) wv (by omega) (by omega) (by omega))
  have HE := Lib.hid (show alV wx wy x y = (x * wx + y * wy) / rt (x * x + y * y) from rfl)
  obtain ⟨B1, B2⟩ := bxWP w wx wy x y
  have L1 := later_cells B1.cell B1.lt
  have L2 := later_cells B2.cell B2.lt
  clear B1 B2 hw hh h1 h2 m1 m2
  generalize alV wx wy x y = T at *
  generalize rt (x * x + y * y) = R at *
  generalize x * wx + y * wy = P at *
  generalize x * x + y * y = SS at *
  go_enter Tryz.func163, Tryz.ntmps163
  go_wp2_with fail
  refine wp_region_later_lit (by kernel_rfl) (by kernel_rfl) ?_
  repeat (any_goals (first | go_big_quiet_step ((first | (go_at_call 138; with_reducible exact later_call (K1.out _)) | (go_at_call 131; first | with_reducible exact later_call (K2.out _) | with_reducible exact later_call (K3.out _)) | (go_at_call 152; with_reducible exact later_same (K4.out _)) | (go_at_call 126; with_reducible exact later_same (K5.out _)))) | quiet_step ((first | (go_at_call 138; with_reducible exact later_call (K1.out _)) | (go_at_call 131; first | with_reducible exact later_call (K2.out _) | with_reducible exact later_call (K3.out _)) | (go_at_call 152; with_reducible exact later_same (K4.out _)) | (go_at_call 126; with_reducible exact later_same (K5.out _)))) | (refine wpQuiet_step (fun K hK => ?_); go_simp; split <;> (refine hK _ ?_; clear hK K))))
  all_goals (refine wpQuiet_nil ?_; rintro _ ⟨⟨w2, q2⟩, rfl⟩; try dsimp only)
  all_goals go_wp2_with fail
  go_ret
  exact ⟨ret_int HE.out.symm, Q.trans (by (repeat (first | assumption | exact Q.refl _ | refine Q.alloc ?_ _ | refine Q.drewN ?_ _ | refine Q.drew ?_))) q2⟩
end Go.Proofs.YtkpdoikjfibflaaGreat
