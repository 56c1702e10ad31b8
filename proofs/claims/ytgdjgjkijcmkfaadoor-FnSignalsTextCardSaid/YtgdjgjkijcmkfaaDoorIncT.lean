/- Walks: the text of an incident, as the program and the reference write it; the law on texts of incidents. -/
import Derived.Test.YtgdjgjkijcmkfaaDoorFinT
namespace Go.Proofs.YtgdjgjkijcmkfaaDoor
open Go.RowKit Go.WideShapes Go.ChangeShapes
/-- The word for a reason. -/
def rsn (r : Int) : ByteArray := if r = 1 then ⟨#[116, 117, 114, 110, 105, 110, 103]⟩ else if r = 2 then ⟨#[112, 111, 114, 116]⟩ else if r = 3 then ⟨#[97, 115, 116, 101, 114, 110]⟩ else if r = 4 then ⟨#[119, 105, 110, 100, 119, 97, 114, 100]⟩ else ⟨#[117, 110, 99, 108, 101, 97, 114]⟩
theorem rsn_le (r : Int) : (rsn r).size ≤ 8 := by
  unfold rsn
  repeat (split; decide)
  decide
def isInc (t a b k r : Int) : Bool := decide (0 ≤ t ∧ t ≤ 1000000000 ∧ 0 ≤ a ∧ a < b ∧ b < 16 ∧ ((k = a ∨ k = b) ∧ 1 ≤ r ∧ r ≤ 4 ∨ k = -1 ∧ r = 5))
/-- The text of an incident. -/
def incT (t a b k r : Int) : ByteArray := if isInc t a b k r then (if k = -1 then tmS t ++ bs [32] ++ nmS a ++ bs [32] ++ nmS b ++ bs [32] ++ rsn r else tmS t ++ bs [32] ++ nmS a ++ bs [32] ++ nmS b ++ bs [32] ++ nmS k ++ bs [32] ++ rsn r) else ⟨#[]⟩
theorem inc_no {t a b k r : Int} (h : ¬ (0 ≤ t ∧ t ≤ 1000000000 ∧ 0 ≤ a ∧ a < b ∧ b < 16 ∧ ((k = a ∨ k = b) ∧ 1 ≤ r ∧ r ≤ 4 ∨ k = -1 ∧ r = 5))) : incT t a b k r = ⟨#[]⟩ := by
  unfold incT
  rw [show isInc t a b k r = false from decide_eq_false h]
  rfl
theorem inc_1 {t a b k r : Int} (h : 0 ≤ t ∧ t ≤ 1000000000 ∧ 0 ≤ a ∧ a < b ∧ b < 16) (hk : k = -1 ∧ r = 5) : incT t a b k r = tmS t ++ bs [32] ++ nmS a ++ bs [32] ++ nmS b ++ bs [32] ++ rsn r := by
  unfold incT
  rw [show isInc t a b k r = true from decide_eq_true (by omega), if_pos rfl, if_pos hk.1]
theorem inc_2 {t a b k r : Int} (h : 0 ≤ t ∧ t ≤ 1000000000 ∧ 0 ≤ a ∧ a < b ∧ b < 16) (hk : (k = a ∨ k = b) ∧ 1 ≤ r ∧ r ≤ 4) : incT t a b k r = tmS t ++ bs [32] ++ nmS a ++ bs [32] ++ nmS b ++ bs [32] ++ nmS k ++ bs [32] ++ rsn r := by
  unfold incT
  rw [show isInc t a b k r = true from decide_eq_true (by omega), if_pos rfl, if_neg (by omega)]
set_option maxHeartbeats 1000000 in
theorem impl_isIncident (t a b k r : Int) (w : World) : Calls Tryd.prog 65 #[.agg #[.int .i64 t, .int .i64 a, .int .i64 b, .int .i64 k, .int .i64 r]] w fun e w' => e = .returned (.bool (isInc t a b k r)) ∧ Q w w' := by
  go_enter Tryd.func65, Tryd.ntmps65
  go_wp2_with (first | (go_at_call 81; refine (impl_in _ _ _ _).mono ?_; rintro e w' ⟨rfl, rfl⟩) | (go_at_call 85; refine (impl_isTime _ _).mono ?_; rintro e w' ⟨rfl, rfl⟩))
  all_goals go_ret
  all_goals refine ⟨ret_bool ?_, (Q.refl _).alloc _⟩
  all_goals (unfold isInc; rw [Bool.eq_iff_iff]; simp at *; omega)
set_option maxHeartbeats 1000000 in
theorem impl_reasonWord (r : Int) (h : 1 ≤ r ∧ r ≤ 5) (w : World) : Calls Tryd.prog 66 #[.int .i64 r] w fun e w' => e = .returned (.string (rsn r)) ∧ Q w w' := by
  obtain rfl | rfl | rfl | rfl | rfl : r = 1 ∨ r = 2 ∨ r = 3 ∨ r = 4 ∨ r = 5 := by omega
  all_goals
    go_enter Tryd.func66, Tryd.ntmps66
    go_wp2_with fail
    go_ret
    exact ⟨rfl, (Q.refl _).alloc _⟩
theorem spec_l10Words (w : World) : Calls Tryd.prog 64 #[] w fun e w' => e = .returned (.slice (some ⟨w.heap.size, 0, none⟩) 5 5) ∧ w' = w.alloc (.cells #[.string (rsn 1), .string (rsn 2), .string (rsn 3), .string (rsn 4), .string (rsn 5)] 9) := by
  go_enter Tryd.func64, Tryd.ntmps64
  go_wp2_with fail
  go_ret
  exact ⟨rfl, rfl⟩
set_option maxRecDepth 100000 in
set_option maxHeartbeats 2000000 in
theorem impl_IncidentText (t a b k r : Int) (w : World) (hT : Tbl w) : Calls Tryd.prog 25 #[.agg #[.int .i64 t, .int .i64 a, .int .i64 b, .int .i64 k, .int .i64 r]] w fun e w' => e = .returned (.string (incT t a b k r)) ∧ Q w w' := by
  have hT1 := hT.q ((Q.refl w).alloc (.cells #[.int .i64 t, .int .i64 a, .int .i64 b, .int .i64 k, .int .i64 r] 38))
  cases hl : isInc t a b k r
  · have HE := Lib.hid (show incT t a b k r = ⟨#[]⟩ by simp [incT, hl])
    go_enter Tryd.func25, Tryd.ntmps25
    go_wp2_with (go_at_call 65; refine (impl_isIncident _ _ _ _ _ _).mono ?_; rintro e w1 ⟨rfl, q1⟩)
    go_ret
    exact ⟨by rw [HE.out]; rfl, Q.trans (by (repeat (first | assumption | exact Q.refl _ | refine Q.alloc ?_ _ | refine Q.drewN ?_ _ | refine Q.drew ?_))) q1⟩
  · have h : 0 ≤ t ∧ t ≤ 1000000000 ∧ 0 ≤ a ∧ a < b ∧ b < 16 ∧ ((k = a ∨ k = b) ∧ 1 ≤ r ∧ r ≤ 4 ∨ k = -1 ∧ r = 5) := by unfold isInc at hl; exact of_decide_eq_true hl
    have hs1 := tmS_le t
    have hs2 := nmS_le (n := a) (by omega)
    have hs3 := nmS_le (n := b) (by omega)
    have hs5 := rsn_le r
    have K1 := Lib.hid (fun wv (h : Tbl wv) => impl_TimeText t wv h)
    have K2 := Lib.hid (fun wv (h : Tbl wv) => impl_num a (by omega) wv h)
    have K3 := Lib.hid (fun wv (h : Tbl wv) => impl_num b (by omega) wv h)
    have K5 := Lib.hid (fun wv => impl_reasonWord r (by omega) wv)
    by_cases hk : k = -1
    · have HE := Lib.hid (inc_1 (t := t) (a := a) (b := b) (k := k) (r := r) (by omega) (by omega))
      have hk0 : k < 0 := by omega
      clear h hk
      generalize tmS t = S1 at *
      generalize nmS a = S2 at *
      generalize nmS b = S3 at *
      generalize rsn r = S5 at *
      go_enter Tryd.func25, Tryd.ntmps25
      go_wp2_with (go_at_call 65; refine (impl_isIncident _ _ _ _ _ _).mono ?_; rintro e w1 ⟨rfl, q1⟩)
      have B1 := q1.boxB
      have l0 := later_cells B1.cell B1.lt
      have T1 := hT1.q q1
      refine wp_region_later_lit (by kernel_rfl) (by kernel_rfl) ?_
      repeat (any_goals (first | go_big_quiet_step ((first | (go_at_call 62; with_reducible exact later_call (K1.out _ (T1.q (Later.q _)))) | (go_at_call 56; with_reducible exact later_call (K2.out _ (T1.q (Later.q _)))) | (go_at_call 56; with_reducible exact later_call (K3.out _ (T1.q (Later.q _)))))) | quiet_step ((first | (go_at_call 62; with_reducible exact later_call (K1.out _ (T1.q (Later.q _)))) | (go_at_call 56; with_reducible exact later_call (K2.out _ (T1.q (Later.q _)))) | (go_at_call 56; with_reducible exact later_call (K3.out _ (T1.q (Later.q _)))))) | (refine wpQuiet_step (fun K hK => ?_); go_simp; split <;> (refine hK _ ?_; clear hK K))))
      all_goals (refine wpQuiet_nil ?_; rintro _ ⟨⟨w2, q2⟩, rfl⟩; try dsimp only)
      all_goals have B2 := B1.q q2
      all_goals have c2 := B2.cell
      all_goals go_wp2_with (go_at_call 66; refine (K5.out _).mono ?_; rintro e w3 ⟨rfl, q3⟩)
      all_goals go_ret
      all_goals exact ⟨by rw [HE.out]; rfl, ((Q.trans (by (repeat (first | assumption | exact Q.refl _ | refine Q.alloc ?_ _ | refine Q.drewN ?_ _ | refine Q.drew ?_))) q1).trans q2).trans q3⟩
    · have HE := Lib.hid (show incT t a b k r = tmS t ++ bs [32] ++ nmS a ++ bs [32] ++ nmS b ++ bs [32] ++ (nmS k ++ bs [32]) ++ rsn r by rw [inc_2 (by omega) (by omega)]; simp [ba_assoc])
      have hk0 : ¬ k < 0 := by omega
      have hk1 : 0 ≤ k := by omega
      have hs4 := nmS_le (n := k) (by omega)
      have K4 := Lib.hid (fun wv (h : Tbl wv) => impl_num k (by omega) wv h)
      clear h hk
      generalize tmS t = S1 at *
      generalize nmS a = S2 at *
      generalize nmS b = S3 at *
      generalize nmS k = S4 at *
      generalize rsn r = S5 at *
      go_enter Tryd.func25, Tryd.ntmps25
      go_wp2_with (go_at_call 65; refine (impl_isIncident _ _ _ _ _ _).mono ?_; rintro e w1 ⟨rfl, q1⟩)
      have B1 := q1.boxB
      have l0 := later_cells B1.cell B1.lt
      have T1 := hT1.q q1
      refine wp_region_later_lit (by kernel_rfl) (by kernel_rfl) ?_
      repeat (any_goals (first | go_big_quiet_step ((first | (go_at_call 62; with_reducible exact later_call (K1.out _ (T1.q (Later.q _)))) | (go_at_call 56; with_reducible exact later_call (K2.out _ (T1.q (Later.q _)))) | (go_at_call 56; with_reducible exact later_call (K3.out _ (T1.q (Later.q _)))))) | quiet_step ((first | (go_at_call 62; with_reducible exact later_call (K1.out _ (T1.q (Later.q _)))) | (go_at_call 56; with_reducible exact later_call (K2.out _ (T1.q (Later.q _)))) | (go_at_call 56; with_reducible exact later_call (K3.out _ (T1.q (Later.q _)))))) | (refine wpQuiet_step (fun K hK => ?_); go_simp; split <;> (refine hK _ ?_; clear hK K))))
      all_goals (refine wpQuiet_nil ?_; rintro _ ⟨⟨w2, q2⟩, rfl⟩; try dsimp only)
      all_goals have B2 := B1.q q2
      all_goals have T2 := T1.q q2
      all_goals have c2 := B2.cell
      all_goals go_wp2_with (first | (go_at_call 56; refine (K4.out _ T2).mono ?_; rintro e w3 ⟨rfl, q3⟩; have c3 := (B2.q q3).cell) | (go_at_call 66; refine (K5.out _).mono ?_; rintro e w4 ⟨rfl, q4⟩))
      all_goals go_ret
      all_goals exact ⟨by rw [HE.out]; rfl, (((Q.trans (by (repeat (first | assumption | exact Q.refl _ | refine Q.alloc ?_ _ | refine Q.drewN ?_ _ | refine Q.drew ?_))) q1).trans q2).trans q3).trans q4⟩
end Go.Proofs.YtgdjgjkijcmkfaaDoor
