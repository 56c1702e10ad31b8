/- Walks: the text of a finish, as the program and the reference write it; the law on texts of finishes. -/
import Derived.Test.YtgdjgjkijcmkfaaDoorTxtB
import Derived.Test.YtgdjgjkijcmkfaaDoorTa
namespace Go.Proofs.YtgdjgjkijcmkfaaDoor
open Go.RowKit Go.WideShapes Go.ChangeShapes
theorem ba_assoc (a b c : ByteArray) : a ++ b ++ c = a ++ (b ++ c) := by
  rw [← bs_eta a, ← bs_eta b, ← bs_eta c, bs_app, bs_app, bs_app, bs_app, List.append_assoc]
/-- The decimal numeral of a number of at least 0. -/
def nmS (n : Int) : ByteArray := bs (Lib.decDigits n.toNat)
theorem nmS_le {n : Int} (h : 0 ≤ n ∧ n ≤ 9223372036854775807) : (nmS n).size ≤ 20 := by
  unfold nmS
  rw [bs_size, Lib.decDigits_length]
  exact Lib.nDigits_le20 _ (by omega)
theorem impl_num (n : Int) (h : 0 ≤ n ∧ n ≤ 9223372036854775807) (w : World) (hT : Tbl w) : Calls Tryd.prog 56 #[.int .i64 n] w fun e w' => e = .returned (.string (nmS n)) ∧ Q w w' := by
  obtain ⟨m, rfl⟩ := Int.eq_ofNat_of_zero_le h.1
  have := impl_text (m : Int) (by omega) (by omega) w hT
  rw [itoa_nat] at this
  exact this
theorem spec_num (n : Int) (h : 0 ≤ n ∧ n ≤ 9223372036854775807) (w : World) : Calls Tryd.prog 52 #[.int .i64 n] w fun e w' => e = .returned (.string (nmS n)) ∧ Q w w' := by
  obtain ⟨m, rfl⟩ := Int.eq_ofNat_of_zero_le h.1
  exact spec_Number m m (Nat.le_refl _) (by omega) w
theorem codeName_le (n : Int) : (codeName n).size ≤ 3 := by
  unfold codeName
  repeat (split; decide)
  decide
theorem spec_TimeS' (t : Int) (h : 0 ≤ t ∧ t ≤ 1000000000) (w : World) : Calls Tryd.prog 60 #[.int .i64 t] w fun e w' => e = .returned (.string (tmS t)) ∧ Q w w' := by
  obtain ⟨n, rfl⟩ := Int.eq_ofNat_of_zero_le h.1
  rw [tmS_nat (by omega)]
  exact spec_Time n (by omega) w
/-- The text of a finish. -/
def finT (a b c : Int) : ByteArray := if isFin a b c then (if b = 0 then nmS a ++ bs [32] ++ codeName b ++ bs [32] ++ tmS c else nmS a ++ bs [32] ++ codeName b) else ⟨#[]⟩
theorem fin_bd {a b c : Int} (h : isFin a b c = true) : (0 ≤ a ∧ a ≤ 15) ∧ (0 ≤ b ∧ b ≤ 9) ∧ (0 ≤ c ∧ c ≤ 1000000000) := by
  unfold isFin at h
  have := of_decide_eq_true h
  omega
set_option maxRecDepth 100000 in
set_option maxHeartbeats 1000000 in
theorem impl_FinishText (a b c : Int) (w : World) (hT : Tbl w) : Calls Tryd.prog 28 #[.agg #[.int .i64 a, .int .i64 b, .int .i64 c]] w fun e w' => e = .returned (.string (finT a b c)) ∧ Q w w' := by
  have hT1 := hT.q ((Q.refl w).alloc (.cells #[.int .i64 a, .int .i64 b, .int .i64 c] 44))
  cases hl : isFin a b c
  · have HE := Lib.hid (show finT a b c = ⟨#[]⟩ by simp [finT, hl])
    go_enter Tryd.func28, Tryd.ntmps28
    go_wp2_with (go_at_call 44; refine (impl_IsFinish _ _ _ _).mono ?_; rintro e w1 ⟨rfl, q1⟩)
    go_ret
    exact ⟨by rw [HE.out]; rfl, Q.trans (by (repeat (first | assumption | exact Q.refl _ | refine Q.alloc ?_ _ | refine Q.drewN ?_ _ | refine Q.drew ?_))) q1⟩
  · obtain ⟨h1, h2, h3⟩ := fin_bd hl
    have hs1 := nmS_le (n := a) (by omega)
    have hs2 := codeName_le b
    have hs3 := tmS_le c
    have K1 := Lib.hid (fun wv (h : Tbl wv) => impl_num a (by omega) wv h)
    have K2 := Lib.hid (fun wv => show Calls Tryd.prog 43 #[.int .i64 b] wv fun e w' => e = .returned (.string (codeName b)) ∧ Q wv w' from impl_CodeText b wv)
    have K3 := Lib.hid (fun wv (h : Tbl wv) => impl_TimeText c wv h)
    by_cases hb : b = 0
    · subst hb
      have HE := Lib.hid (show finT a 0 c = nmS a ++ bs [32] ++ codeName 0 ++ (bs [32] ++ tmS c) by simp [finT, hl, ba_assoc])
      generalize nmS a = S1 at *
      generalize codeName 0 = S2 at *
      generalize tmS c = S3 at *
      clear h1 h2 h3
      go_enter Tryd.func28, Tryd.ntmps28
      go_wp2_with (go_at_call 44; refine (impl_IsFinish _ _ _ _).mono ?_; rintro e w1 ⟨rfl, q1⟩)
      have B1 := q1.boxB
      have l0 := later_cells B1.cell B1.lt
      have T1 := hT1.q q1
      refine wp_region_later_lit (by kernel_rfl) (by kernel_rfl) ?_
      repeat (any_goals (first | go_big_quiet_step ((first | (go_at_call 56; with_reducible exact later_call (K1.out _ (T1.q (Later.q _)))) | (go_at_call 43; with_reducible exact later_call (K2.out _)))) | quiet_step ((first | (go_at_call 56; with_reducible exact later_call (K1.out _ (T1.q (Later.q _)))) | (go_at_call 43; with_reducible exact later_call (K2.out _)))) | (refine wpQuiet_step (fun K hK => ?_); go_simp; split <;> (refine hK _ ?_; clear hK K))))
      all_goals (refine wpQuiet_nil ?_; rintro _ ⟨⟨w2, q2⟩, rfl⟩; try dsimp only)
      all_goals have B2 := B1.q q2
      all_goals have T2 := T1.q q2
      all_goals have c2 := B2.cell
      all_goals go_wp2_with (go_at_call 62; refine (K3.out _ T2).mono ?_; rintro e w3 ⟨rfl, q3⟩)
      all_goals go_ret
      all_goals exact ⟨by rw [HE.out]; rfl, ((Q.trans (by (repeat (first | assumption | exact Q.refl _ | refine Q.alloc ?_ _ | refine Q.drewN ?_ _ | refine Q.drew ?_))) q1).trans q2).trans q3⟩
    · have HE := Lib.hid (show finT a b c = nmS a ++ bs [32] ++ codeName b by simp [finT, hl, hb])
      generalize nmS a = S1 at *
      generalize codeName b = S2 at *
      generalize tmS c = S3 at *
      clear h1 h2 h3
      go_enter Tryd.func28, Tryd.ntmps28
      go_wp2_with (go_at_call 44; refine (impl_IsFinish _ _ _ _).mono ?_; rintro e w1 ⟨rfl, q1⟩)
      have B1 := q1.boxB
      have l0 := later_cells B1.cell B1.lt
      have T1 := hT1.q q1
      refine wp_region_later_lit (by kernel_rfl) (by kernel_rfl) ?_
      repeat (any_goals (first | go_big_quiet_step ((first | (go_at_call 56; with_reducible exact later_call (K1.out _ (T1.q (Later.q _)))) | (go_at_call 43; with_reducible exact later_call (K2.out _)))) | quiet_step ((first | (go_at_call 56; with_reducible exact later_call (K1.out _ (T1.q (Later.q _)))) | (go_at_call 43; with_reducible exact later_call (K2.out _)))) | (refine wpQuiet_step (fun K hK => ?_); go_simp; split <;> (refine hK _ ?_; clear hK K))))
      all_goals (refine wpQuiet_nil ?_; rintro _ ⟨⟨w2, q2⟩, rfl⟩; try dsimp only)
      all_goals have B2 := B1.q q2
      all_goals have c2 := B2.cell
      all_goals go_wp2_with fail
      all_goals go_ret
      all_goals exact ⟨by rw [HE.out]; rfl, (Q.trans (by (repeat (first | assumption | exact Q.refl _ | refine Q.alloc ?_ _ | refine Q.drewN ?_ _ | refine Q.drew ?_))) q1).trans q2⟩
set_option maxRecDepth 100000 in
set_option maxHeartbeats 1000000 in
theorem spec_FinishText (a b c : Int) (w : World) : Calls Tryd.prog 26 #[.agg #[.int .i64 a, .int .i64 b, .int .i64 c]] w fun e w' => e = .returned (.string (finT a b c)) ∧ Q w w' := by
  cases hl : isFin a b c
  · have HE := Lib.hid (show finT a b c = ⟨#[]⟩ by simp [finT, hl])
    go_enter Tryd.func26, Tryd.ntmps26
    go_wp2_with (go_at_call 67; refine (spec_IsFinish _ _ _ _).mono ?_; rintro e w1 ⟨rfl, q1⟩)
    go_ret
    exact ⟨by rw [HE.out]; rfl, Q.trans (by (repeat (first | assumption | exact Q.refl _ | refine Q.alloc ?_ _ | refine Q.drewN ?_ _ | refine Q.drew ?_))) q1⟩
  · obtain ⟨h1, h2, h3⟩ := fin_bd hl
    have hs1 := nmS_le (n := a) (by omega)
    have hs2 := codeName_le b
    have hs3 := tmS_le c
    have K1 := Lib.hid (fun wv => spec_num a (by omega) wv)
    have K2 := Lib.hid (fun wv => show Calls Tryd.prog 68 #[.int .i64 b] wv fun e w' => e = .returned (.string (codeName b)) ∧ Q wv w' from spec_CodeText b wv)
    have K3 := Lib.hid (fun wv => spec_TimeS' c h3 wv)
    by_cases hb : b = 0
    · subst hb
      have HE := Lib.hid (show finT a 0 c = nmS a ++ bs [32] ++ codeName 0 ++ bs [32] ++ tmS c by simp [finT, hl])
      generalize nmS a = S1 at *
      generalize codeName 0 = S2 at *
      generalize tmS c = S3 at *
      clear h1 h2 h3
      go_enter Tryd.func26, Tryd.ntmps26
      go_wp2_with (go_at_call 67; refine (spec_IsFinish _ _ _ _).mono ?_; rintro e w1 ⟨rfl, q1⟩)
      have B1 := q1.boxB
      have l0 := later_cells B1.cell B1.lt
      refine wp_region_later_lit (by kernel_rfl) (by kernel_rfl) ?_
      repeat (any_goals (first | go_big_quiet_step ((first | (go_at_call 52; with_reducible exact later_call (K1.out _)) | (go_at_call 68; with_reducible exact later_call (K2.out _)))) | quiet_step ((first | (go_at_call 52; with_reducible exact later_call (K1.out _)) | (go_at_call 68; with_reducible exact later_call (K2.out _)))) | (refine wpQuiet_step (fun K hK => ?_); go_simp; split <;> (refine hK _ ?_; clear hK K))))
      all_goals (refine wpQuiet_nil ?_; rintro _ ⟨⟨w2, q2⟩, rfl⟩; try dsimp only)
      all_goals have B2 := B1.q q2
      all_goals have c2 := B2.cell
      all_goals go_wp2_with (go_at_call 60; refine (K3.out _).mono ?_; rintro e w3 ⟨rfl, q3⟩)
      all_goals go_ret
      all_goals exact ⟨by rw [HE.out]; rfl, ((Q.trans (by (repeat (first | assumption | exact Q.refl _ | refine Q.alloc ?_ _ | refine Q.drewN ?_ _ | refine Q.drew ?_))) q1).trans q2).trans q3⟩
    · have HE := Lib.hid (show finT a b c = nmS a ++ bs [32] ++ codeName b by simp [finT, hl, hb])
      generalize nmS a = S1 at *
      generalize codeName b = S2 at *
      generalize tmS c = S3 at *
      clear h1 h2 h3
      go_enter Tryd.func26, Tryd.ntmps26
      go_wp2_with (go_at_call 67; refine (spec_IsFinish _ _ _ _).mono ?_; rintro e w1 ⟨rfl, q1⟩)
      have B1 := q1.boxB
      have l0 := later_cells B1.cell B1.lt
      refine wp_region_later_lit (by kernel_rfl) (by kernel_rfl) ?_
      repeat (any_goals (first | go_big_quiet_step ((first | (go_at_call 52; with_reducible exact later_call (K1.out _)) | (go_at_call 68; with_reducible exact later_call (K2.out _)))) | quiet_step ((first | (go_at_call 52; with_reducible exact later_call (K1.out _)) | (go_at_call 68; with_reducible exact later_call (K2.out _)))) | (refine wpQuiet_step (fun K hK => ?_); go_simp; split <;> (refine hK _ ?_; clear hK K))))
      all_goals (refine wpQuiet_nil ?_; rintro _ ⟨⟨w2, q2⟩, rfl⟩; try dsimp only)
      all_goals have B2 := B1.q q2
      all_goals have c2 := B2.cell
      all_goals go_wp2_with fail
      all_goals go_ret
      all_goals exact ⟨by rw [HE.out]; rfl, (Q.trans (by (repeat (first | assumption | exact Q.refl _ | refine Q.alloc ?_ _ | refine Q.drewN ?_ _ | refine Q.drew ?_))) q1).trans q2⟩
set_option maxRecDepth 100000 in
set_option maxHeartbeats 1000000 in
theorem law_FnExactFinishText (x y z : Int) (_ : ∀ u ∈ [x, y, z], -9223372036854775808 ≤ u ∧ u ≤ 9223372036854775807) (w : World) (hT : Tbl w) :
    Calls Tryd.prog 6 #[.agg #[.int .i64 x, .int .i64 y, .int .i64 z]] w fun e w' => e = .returned (.bool true) ∧ Below w.heap.size w w' := by
  have K1 := Lib.hid (fun wv => spec_FinishText x y z wv)
  have K2 := Lib.hid (fun wv (h : Tbl wv) => impl_FinishText x y z wv h)
  generalize finT x y z = S at *
  have HT := Lib.hid (hT.q ((Q.refl w).alloc (.cells #[.int .i64 x, .int .i64 y, .int .i64 z] 42)))
  clear hT
  go_enter Tryd.func6, Tryd.ntmps6
  go_wp2_with (first | (have q20 := q2; go_at_call 27; refine (toFinish_any _ _ _ _).mono ?_; rintro e w3 ⟨rfl, q3⟩; have Q3 := (q1.trans q2).trans q3) | (go_at_call 27; refine (toFinish_any _ _ _ _).mono ?_; rintro e w1 ⟨rfl, q1⟩) | (go_at_call 26; refine (K1.out _).mono ?_; rintro e w2 ⟨rfl, q2⟩; have b2 := (Q.trans q1 q2).box) | (go_at_call 28; refine (K2.out _ (HT.out.q Q3)).mono ?_; rintro e w4 ⟨rfl, q4⟩))
  go_ret
  exact ⟨rfl, Q.trans (by (repeat (first | assumption | exact Q.refl _ | refine Q.alloc ?_ _ | refine Q.drewN ?_ _ | refine Q.drew ?_))) (Q3.trans q4)⟩
end Go.Proofs.YtgdjgjkijcmkfaaDoor
