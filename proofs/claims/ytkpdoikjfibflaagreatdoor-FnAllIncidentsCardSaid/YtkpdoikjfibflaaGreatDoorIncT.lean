/- Walks: the text of a finish, as the program and the reference write it; the law on texts of finishes. Walks: the text of an incident, as the program and the reference write it; the law on texts of incidents. -/
import Derived.Test.YtkpdoikjfibflaaGreatDoorTxt
import Derived.Test.YtkpdoikjfibflaaGreatDoorTc
namespace Go.Proofs.YtkpdoikjfibflaaGreatDoor
open Go.RowKit Go.WideShapes Go.ChangeShapes
theorem ba_assoc (a b c : ByteArray) : a ++ b ++ c = a ++ (b ++ c) := by
  rw [← bs_eta a, ← bs_eta b, ← bs_eta c, bs_app, bs_app, bs_app, bs_app, List.append_assoc]
/-- The decimal numeral of a number of at least 0. -/
def nmS (n : Int) : ByteArray := bs (Lib.decDigits n.toNat)
theorem nmS_le {n : Int} (h : 0 ≤ n ∧ n ≤ 9223372036854775807) : (nmS n).size ≤ 20 := by
  unfold nmS
  rw [bs_size, Lib.decDigits_length]
  exact Lib.nDigits_le20 _ (by omega)
theorem impl_num (n : Int) (h : 0 ≤ n ∧ n ≤ 9223372036854775807) (w : World) (hT : Tbl w) : Calls Tryz.prog 32 #[.int .i64 n] w fun e w' => e = .returned (.string (nmS n)) ∧ Q w w' := by
  obtain ⟨m, rfl⟩ := Int.eq_ofNat_of_zero_le h.1
  have := impl_text (m : Int) (by omega) (by omega) w hT
  rw [itoa_nat] at this
  exact this
theorem codeName_le (n : Int) : (codeName n).size ≤ 3 := by
  unfold codeName
  repeat (split; decide)
  decide
/-- The text of a finish. -/
def finT (a b c : Int) : ByteArray := if isFin a b c then (if b = 0 then nmS a ++ bs [32] ++ codeName b ++ bs [32] ++ tmS c else nmS a ++ bs [32] ++ codeName b) else ⟨#[]⟩
theorem fin_bd {a b c : Int} (h : isFin a b c = true) : (0 ≤ a ∧ a ≤ 15) ∧ (0 ≤ b ∧ b ≤ 9) ∧ (0 ≤ c ∧ c ≤ 1000000000) := by
  unfold isFin at h
  have := of_decide_eq_true h
  omega
end Go.Proofs.YtkpdoikjfibflaaGreatDoor
namespace Go.Proofs.YtkpdoikjfibflaaGreatDoor
open Go.RowKit Go.WideShapes Go.ChangeShapes
/-- The word for a reason. -/
def rsn (r : Int) : ByteArray := if r = 1 then ⟨#[116, 117, 114, 110, 105, 110, 103]⟩ else if r = 2 then ⟨#[112, 111, 114, 116]⟩ else if r = 3 then ⟨#[97, 115, 116, 101, 114, 110]⟩ else if r = 4 then ⟨#[119, 105, 110, 100, 119, 97, 114, 100]⟩ else ⟨#[117, 110, 99, 108, 101, 97, 114]⟩
theorem rsn_le (r : Int) : (rsn r).size ≤ 8 := by
  unfold rsn
  repeat (split; decide)
  decide
def isInc (t a b k r : Int) : Bool := decide (0 ≤ t ∧ t ≤ 1000000000 ∧ 0 ≤ a ∧ a < b ∧ b < 16 ∧ ((k = a ∨ k = b) ∧ 1 ≤ r ∧ r ≤ 4 ∨ k = -1 ∧ r = 5))
/-- The text of an incident. -/
def incT (t a b k r : Int) : ByteArray := if isInc t a b k r then (if k = -1 then tmS t ++ bs [32] ++ nmS a ++ bs [32] ++ nmS b ++ bs [32] ++ rsn r else tmS t ++ bs [32] ++ nmS a ++ bs [32] ++ nmS b ++ bs [32] ++ nmS k ++ bs [32] ++ rsn r) else ⟨#[]⟩
theorem inc_no {t a b k r : Int} (h : ¬ (0 ≤ t ∧ t ≤ 1000000000 ∧ 0 ≤ a ∧ a < b ∧ b < 16 ∧ ((k = a ∨ k = b) ∧ 1 ≤ r ∧ r ≤ 4 ∨ k = -1 ∧ r = 5))) : incT t a b k r = ⟨#[]⟩ := by
  unfold incT
  rw [show isInc t a b k r = false from decide_eq_false h]
  rfl
theorem inc_1 {t a b k r : Int} (h : 0 ≤ t ∧ t ≤ 1000000000 ∧ 0 ≤ a ∧ a < b ∧ b < 16) (hk : k = -1 ∧ r = 5) : incT t a b k r = tmS t ++ bs [32] ++ nmS a ++ bs [32] ++ nmS b ++ bs [32] ++ rsn r := by
  unfold incT
  rw [show isInc t a b k r = true from decide_eq_true (by omega), if_pos rfl, if_pos hk.1]
theorem inc_2 {t a b k r : Int} (h : 0 ≤ t ∧ t ≤ 1000000000 ∧ 0 ≤ a ∧ a < b ∧ b < 16) (hk : (k = a ∨ k = b) ∧ 1 ≤ r ∧ r ≤ 4) : incT t a b k r = tmS t ++ bs [32] ++ nmS a ++ bs [32] ++ nmS b ++ bs [32] ++ nmS k ++ bs [32] ++ rsn r := by
  unfold incT
  rw [show isInc t a b k r = true from decide_eq_true (by omega), if_pos rfl, if_neg (by omega)]
set_option maxHeartbeats 1000000 in
theorem impl_isIncident (t a b k r : Int) (w : World) : Calls Tryz.prog 30 #[.agg #[.int .i64 t, .int .i64 a, .int .i64 b, .int .i64 k, .int .i64 r]] w fun e w' => e = .returned (.bool (isInc t a b k r)) ∧ Q w w' := by
  go_enter Tryz.func30, Tryz.ntmps30
  go_wp2_with (first | (go_at_call 29; refine (impl_in _ _ _ _).mono ?_; rintro e w' ⟨rfl, rfl⟩) | (go_at_call 48; refine (impl_isTime _ _).mono ?_; rintro e w' ⟨rfl, rfl⟩))
  all_goals go_ret
  all_goals refine ⟨ret_bool ?_, (Q.refl _).alloc _⟩
  all_goals (unfold isInc; rw [Bool.eq_iff_iff]; simp at *; omega)
set_option maxHeartbeats 1000000 in
theorem impl_reasonWord (r : Int) (h : 1 ≤ r ∧ r ≤ 5) (w : World) : Calls Tryz.prog 33 #[.int .i64 r] w fun e w' => e = .returned (.string (rsn r)) ∧ Q w w' := by
  obtain rfl | rfl | rfl | rfl | rfl : r = 1 ∨ r = 2 ∨ r = 3 ∨ r = 4 ∨ r = 5 := by omega
  all_goals
    go_enter Tryz.func33, Tryz.ntmps33
    go_wp2_with fail
    go_ret
    exact ⟨rfl, (Q.refl _).alloc _⟩
set_option maxRecDepth 100000 in
set_option maxHeartbeats 2000000 in
theorem impl_IncidentText (t a b k r : Int) (w : World) (hT : Tbl w) : Calls Tryz.prog 10 #[.agg #[.int .i64 t, .int .i64 a, .int .i64 b, .int .i64 k, .int .i64 r]] w fun e w' => e = .returned (.string (incT t a b k r)) ∧ Q w w' := by
  have hT1 := hT.q ((Q.refl w).alloc (.cells #[.int .i64 t, .int .i64 a, .int .i64 b, .int .i64 k, .int .i64 r] 42))
  cases hl : isInc t a b k r
  · have HE := Lib.hid (show incT t a b k r = ⟨#[]⟩ by simp [incT, hl])
    go_enter Tryz.func10, Tryz.ntmps10
    go_wp2_with (go_at_call 30; refine (impl_isIncident _ _ _ _ _ _).mono ?_; rintro e w1 ⟨rfl, q1⟩)
    go_ret
    exact ⟨by rw [HE.out]; rfl, Q.trans (by (repeat (first | assumption | exact Q.refl _ | refine Q.alloc ?_ _ | refine Q.drewN ?_ _ | refine Q.drew ?_))) q1⟩
  · have h : 0 ≤ t ∧ t ≤ 1000000000 ∧ 0 ≤ a ∧ a < b ∧ b < 16 ∧ ((k = a ∨ k = b) ∧ 1 ≤ r ∧ r ≤ 4 ∨ k = -1 ∧ r = 5) := by unfold isInc at hl; exact of_decide_eq_true hl
    have hs1 := tmS_le t
    have hs2 := nmS_le (n := a) (by omega)
    have hs3 := nmS_le (n := b) (by omega)
    have hs5 := rsn_le r
    have K1 := Lib.hid (fun wv (h : Tbl wv) => impl_TimeText t wv h)
    have K2 := Lib.hid (fun wv (h : Tbl wv) => impl_num a (by omega) wv h)
    have K3 := Lib.hid (fun wv (h : Tbl wv) => impl_num b (by omega) wv h)
    have K5 := Lib.hid (fun wv => impl_reasonWord r (by omega) wv)
    by_cases hk : k = -1
    · have HE := Lib.hid (inc_1 (t := t) (a := a) (b := b) (k := k) (r := r) (by omega) (by omega))
      have hk0 : k < 0 := by omega
      clear h hk
      generalize tmS t = S1 at *
      generalize nmS a = S2 at *
      generalize nmS b = S3 at *
      generalize rsn r = S5 at *
      go_enter Tryz.func10, Tryz.ntmps10
      go_wp2_with (go_at_call 30; refine (impl_isIncident _ _ _ _ _ _).mono ?_; rintro e w1 ⟨rfl, q1⟩)
      have B1 := q1.boxB
      have l0 := later_cells B1.cell B1.lt
      have T1 := hT1.q q1
      refine wp_region_later_lit (by kernel_rfl) (by kernel_rfl) ?_
      repeat (any_goals (first | go_big_quiet_step ((first | (go_at_call 31; with_reducible exact later_call (K1.out _ (T1.q (Later.q _)))) | (go_at_call 32; with_reducible exact later_call (K2.out _ (T1.q (Later.q _)))) | (go_at_call 32; with_reducible exact later_call (K3.out _ (T1.q (Later.q _)))))) | quiet_step ((first | (go_at_call 31; with_reducible exact later_call (K1.out _ (T1.q (Later.q _)))) | (go_at_call 32; with_reducible exact later_call (K2.out _ (T1.q (Later.q _)))) | (go_at_call 32; with_reducible exact later_call (K3.out _ (T1.q (Later.q _)))))) | (refine wpQuiet_step (fun K hK => ?_); go_simp; split <;> (refine hK _ ?_; clear hK K))))
      all_goals (refine wpQuiet_nil ?_; rintro _ ⟨⟨w2, q2⟩, rfl⟩; try dsimp only)
      all_goals have B2 := B1.q q2
      all_goals have c2 := B2.cell
      all_goals go_wp2_with (go_at_call 33; refine (K5.out _).mono ?_; rintro e w3 ⟨rfl, q3⟩)
      all_goals go_ret
      all_goals exact ⟨by rw [HE.out]; rfl, ((Q.trans (by (repeat (first | assumption | exact Q.refl _ | refine Q.alloc ?_ _ | refine Q.drewN ?_ _ | refine Q.drew ?_))) q1).trans q2).trans q3⟩
    · have HE := Lib.hid (show incT t a b k r = tmS t ++ bs [32] ++ nmS a ++ bs [32] ++ nmS b ++ bs [32] ++ (nmS k ++ bs [32]) ++ rsn r by rw [inc_2 (by omega) (by omega)]; simp [ba_assoc])
      have hk0 : ¬ k < 0 := by omega
      have hk1 : 0 ≤ k := by omega
      have hs4 := nmS_le (n := k) (by omega)
      have K4 := Lib.hid (fun wv (h : Tbl wv) => impl_num k (by omega) wv h)
      clear h hk
      generalize tmS t = S1 at *
      generalize nmS a = S2 at *
      generalize nmS b = S3 at *
      generalize nmS k = S4 at *
      generalize rsn r = S5 at *
      go_enter Tryz.func10, Tryz.ntmps10
      go_wp2_with (go_at_call 30; refine (impl_isIncident _ _ _ _ _ _).mono ?_; rintro e w1 ⟨rfl, q1⟩)
      have B1 := q1.boxB
      have l0 := later_cells B1.cell B1.lt
      have T1 := hT1.q q1
      refine wp_region_later_lit (by kernel_rfl) (by kernel_rfl) ?_
      repeat (any_goals (first | go_big_quiet_step ((first | (go_at_call 31; with_reducible exact later_call (K1.out _ (T1.q (Later.q _)))) | (go_at_call 32; with_reducible exact later_call (K2.out _ (T1.q (Later.q _)))) | (go_at_call 32; with_reducible exact later_call (K3.out _ (T1.q (Later.q _)))))) | quiet_step ((first | (go_at_call 31; with_reducible exact later_call (K1.out _ (T1.q (Later.q _)))) | (go_at_call 32; with_reducible exact later_call (K2.out _ (T1.q (Later.q _)))) | (go_at_call 32; with_reducible exact later_call (K3.out _ (T1.q (Later.q _)))))) | (refine wpQuiet_step (fun K hK => ?_); go_simp; split <;> (refine hK _ ?_; clear hK K))))
      all_goals (refine wpQuiet_nil ?_; rintro _ ⟨⟨w2, q2⟩, rfl⟩; try dsimp only)
      all_goals have B2 := B1.q q2
      all_goals have T2 := T1.q q2
      all_goals have c2 := B2.cell
      all_goals go_wp2_with (first | (go_at_call 32; refine (K4.out _ T2).mono ?_; rintro e w3 ⟨rfl, q3⟩; have c3 := (B2.q q3).cell) | (go_at_call 33; refine (K5.out _).mono ?_; rintro e w4 ⟨rfl, q4⟩))
      all_goals go_ret
      all_goals exact ⟨by rw [HE.out]; rfl, (((Q.trans (by (repeat (first | assumption | exact Q.refl _ | refine Q.alloc ?_ _ | refine Q.drewN ?_ _ | refine Q.drew ?_))) q1).trans q2).trans q3).trans q4⟩
end Go.Proofs.YtkpdoikjfibflaaGreatDoor
