/- Walks: the reference's text of limits; the law on texts of limits. -/
import Derived.Test.YtgdjgjkijcmkfaaDoorTxtB
namespace Go.Proofs.YtgdjgjkijcmkfaaDoor
open Go.RowKit Go.WideShapes Go.ChangeShapes
theorem spec_TimeS (t : Int) (h : 0 ≤ t ∧ t ≤ 1000000000) (w : World) : Calls Tryd.prog 60 #[.int .i64 t] w fun e w' => e = .returned (.string (tmS t)) ∧ Q w w' := by
  obtain ⟨n, rfl⟩ := Int.eq_ofNat_of_zero_le h.1
  rw [tmS_nat (by omega)]
  exact spec_Time n (by omega) w
theorem lim_bd {a b c : Int} (h : isLim a b c = true) : (0 ≤ a ∧ a ≤ 1000000000) ∧ (0 ≤ b ∧ b ≤ 1000000000) ∧ (0 ≤ c ∧ c ≤ 1000000000) := by
  unfold isLim at h
  have := of_decide_eq_true h
  omega
set_option maxRecDepth 100000 in
set_option maxHeartbeats 1000000 in
theorem spec_LimitsText (a b c : Int) (w : World) : Calls Tryd.prog 20 #[.agg #[.int .i64 a, .int .i64 b, .int .i64 c]] w fun e w' => e = .returned (.string (limT a b c)) ∧ Q w w' := by
  cases hl : isLim a b c
  · have HE := Lib.hid (show limT a b c = ⟨#[]⟩ by simp [limT, hl])
    go_enter Tryd.func20, Tryd.ntmps20
    go_wp2_with (go_at_call 59; refine (spec_IsLimits _ _ _ _).mono ?_; rintro e w1 ⟨rfl, q1⟩)
    go_ret
    exact ⟨by rw [HE.out]; rfl, Q.trans (by (repeat (first | assumption | exact Q.refl _ | refine Q.alloc ?_ _ | refine Q.drewN ?_ _ | refine Q.drew ?_))) q1⟩
  · have HE := Lib.hid (show limT a b c = tmS a ++ bs [32] ++ tmS b ++ bs [32] ++ tmS c by simp [limT, hl])
    have hs1 := tmS_le a
    have hs2 := tmS_le b
    have hs3 := tmS_le c
    obtain ⟨h1, h2, h3⟩ := lim_bd hl
    have K1 := Lib.hid (spec_TimeS a h1)
    have K2 := Lib.hid (spec_TimeS b h2)
    have K3 := Lib.hid (spec_TimeS c h3)
    generalize tmS a = S1 at *
    generalize tmS b = S2 at *
    generalize tmS c = S3 at *
    go_enter Tryd.func20, Tryd.ntmps20
    go_wp2_with (go_at_call 59; refine (spec_IsLimits _ _ _ _).mono ?_; rintro e w1 ⟨rfl, q1⟩)
    have B1 := q1.boxB
    have l0 := later_cells B1.cell B1.lt
    refine wp_region_later_lit (by kernel_rfl) (by kernel_rfl) ?_
    repeat (any_goals (first | go_big_quiet_step ((first | (go_at_call 60; with_reducible exact later_call (K1.out _)) | (go_at_call 60; with_reducible exact later_call (K2.out _)) | (go_at_call 60; with_reducible exact later_call (K3.out _)))) | quiet_step ((first | (go_at_call 60; with_reducible exact later_call (K1.out _)) | (go_at_call 60; with_reducible exact later_call (K2.out _)) | (go_at_call 60; with_reducible exact later_call (K3.out _)))) | (refine wpQuiet_step (fun K hK => ?_); go_simp; split <;> (refine hK _ ?_; clear hK K))))
    all_goals (refine wpQuiet_nil ?_; rintro _ ⟨⟨w2, q2⟩, rfl⟩; try dsimp only)
    all_goals go_wp2_with fail
    go_ret
    exact ⟨by rw [HE.out]; rfl, (Q.trans (by (repeat (first | assumption | exact Q.refl _ | refine Q.alloc ?_ _ | refine Q.drewN ?_ _ | refine Q.drew ?_))) q1).trans q2⟩
set_option maxRecDepth 100000 in
set_option maxHeartbeats 1000000 in
theorem law_FnExactLimitsText (x y z : Int) (_ : ∀ u ∈ [x, y, z], -9223372036854775808 ≤ u ∧ u ≤ 9223372036854775807) (w : World) (hT : Tbl w) :
    Calls Tryd.prog 4 #[.agg #[.int .i64 x, .int .i64 y, .int .i64 z]] w fun e w' => e = .returned (.bool true) ∧ Below w.heap.size w w' := by
  have K1 := Lib.hid (fun wv => spec_LimitsText x y z wv)
  have K2 := Lib.hid (fun wv (h : Tbl wv) => impl_LimitsText x y z wv h)
  generalize limT x y z = S at *
  have HT := Lib.hid (hT.q ((Q.refl w).alloc (.cells #[.int .i64 x, .int .i64 y, .int .i64 z] 30)))
  clear hT
  go_enter Tryd.func4, Tryd.ntmps4
  go_wp2_with (first | (have q20 := q2; go_at_call 21; refine (toLimits_any _ _ _ _).mono ?_; rintro e w3 ⟨rfl, q3⟩; have Q3 := (q1.trans q2).trans q3) | (go_at_call 21; refine (toLimits_any _ _ _ _).mono ?_; rintro e w1 ⟨rfl, q1⟩) | (go_at_call 20; refine (K1.out _).mono ?_; rintro e w2 ⟨rfl, q2⟩; have b2 := (Q.trans q1 q2).box) | (go_at_call 22; refine (K2.out _ (HT.out.q Q3)).mono ?_; rintro e w4 ⟨rfl, q4⟩))
  go_ret
  exact ⟨rfl, Q.trans (by (repeat (first | assumption | exact Q.refl _ | refine Q.alloc ?_ _ | refine Q.drewN ?_ _ | refine Q.drew ?_))) (Q3.trans q4)⟩
end Go.Proofs.YtgdjgjkijcmkfaaDoor
