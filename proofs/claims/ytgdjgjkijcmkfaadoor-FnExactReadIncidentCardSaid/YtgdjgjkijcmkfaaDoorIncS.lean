/- Walks: the text of an incident, as the reference writes it; the law on texts of incidents. -/
import Derived.Test.YtgdjgjkijcmkfaaDoorIncB
import Derived.Test.YtgdjgjkijcmkfaaDoorIncC
import Derived.Deep.RegionHeld3
namespace Go.Proofs.YtgdjgjkijcmkfaaDoor
open Go.RowKit Go.WideShapes Go.ChangeShapes
set_option maxRecDepth 100000 in
set_option maxHeartbeats 40000000 in
theorem spec_IncU (t a b : Int) (w : World) (h : 0 ≤ t ∧ t ≤ 1000000000 ∧ 0 ≤ a ∧ a < b ∧ b < 16) : Calls Tryd.prog 23 #[.agg #[.int .i64 t, .int .i64 a, .int .i64 b, .int .i64 (-1), .int .i64 5]] w fun e w' => e = .returned (.string (incT t a b (-1) 5)) ∧ Q w w' := by
  have hs1 := tmS_le t
  have hs2 := nmS_le (n := a) (by omega)
  have hs3 := nmS_le (n := b) (by omega)
  have K1 := Lib.hid (fun wv => spec_TimeS' t (by omega) wv)
  have K2 := Lib.hid (fun wv => spec_num a (by omega) wv)
  have K3 := Lib.hid (fun wv => spec_num b (by omega) wv)
  have H := Lib.hid h
  obtain ⟨h1, h2, h3, h4, h5⟩ := h
  have h3' : ¬ a < 0 := by omega
  have h4' : ¬ b ≤ a := by omega
  have h5' : ¬ 16 ≤ b := by omega
  have HE := Lib.hid (inc_1 (t := t) (a := a) (b := b) (k := -1) (r := 5) H.out ⟨rfl, rfl⟩)
  generalize tmS t = S1 at *
  generalize nmS a = S2 at *
  generalize nmS b = S3 at *
  go_enter Tryd.func23, Tryd.ntmps23
  go_wp2_with (go_at_call 63; refine (spec_in _ _ _ _).mono ?_; rintro e w' ⟨rfl, rfl⟩)
  have B1 := Blk.new w 38 #[.int .i64 t, .int .i64 a, .int .i64 b, .int .i64 (-1), .int .i64 5]
  have l0 := later_cells B1.cell B1.lt
  refine wp_region_later_lit (by kernel_rfl) (by kernel_rfl) ?_
  repeat (any_goals (first | go_big_quiet_step ((first | (go_at_call 60; with_reducible exact later_call (K1.out _)) | (go_at_call 52; with_reducible exact later_call (K2.out _)) | (go_at_call 52; with_reducible exact later_call (K3.out _)))) | quiet_step ((first | (go_at_call 60; with_reducible exact later_call (K1.out _)) | (go_at_call 52; with_reducible exact later_call (K2.out _)) | (go_at_call 52; with_reducible exact later_call (K3.out _)))) | (refine wpQuiet_step (fun K hK => ?_); go_simp; split <;> (refine hK _ ?_; clear hK K))))
  all_goals (refine wpQuiet_nil ?_; rintro _ ⟨⟨w2, q2⟩, rfl⟩; try dsimp only)
  all_goals rename_i w2
  all_goals have B2 := B1.q q2
  all_goals have c2 := B2.cell
  all_goals go_wp2_with fail
  all_goals go_ret
  all_goals exact ⟨by rw [HE.out]; rfl, Q.trans (by (repeat (first | assumption | exact Q.refl _ | refine Q.alloc ?_ _ | refine Q.drewN ?_ _ | refine Q.drew ?_))) q2⟩
set_option maxRecDepth 100000 in
set_option maxHeartbeats 40000000 in
theorem spec_IncN (t a b k r : Int) (w : World) (h : 0 ≤ t ∧ t ≤ 1000000000 ∧ 0 ≤ a ∧ a < b ∧ b < 16) (hk : ¬ (k = -1 ∧ r = 5)) (hk2 : ¬ ((k = a ∨ k = b) ∧ 1 ≤ r ∧ r ≤ 4)) : Calls Tryd.prog 23 #[.agg #[.int .i64 t, .int .i64 a, .int .i64 b, .int .i64 k, .int .i64 r]] w fun e w' => e = .returned (.string (incT t a b k r)) ∧ Q w w' := by
  have hs1 := tmS_le t
  have hs2 := nmS_le (n := a) (by omega)
  have hs3 := nmS_le (n := b) (by omega)
  have K1 := Lib.hid (fun wv => spec_TimeS' t (by omega) wv)
  have K2 := Lib.hid (fun wv => spec_num a (by omega) wv)
  have K3 := Lib.hid (fun wv => spec_num b (by omega) wv)
  have H := Lib.hid h
  obtain ⟨h1, h2, h3, h4, h5⟩ := h
  have h3' : ¬ a < 0 := by omega
  have h4' : ¬ b ≤ a := by omega
  have h5' : ¬ 16 ≤ b := by omega
  have HE := Lib.hid (inc_no (t := t) (a := a) (b := b) (k := k) (r := r) (by omega))
  have HK := Lib.hid hk
  have HK2 := Lib.hid hk2
  clear hk hk2
  generalize tmS t = S1 at *
  generalize nmS a = S2 at *
  generalize nmS b = S3 at *
  go_enter Tryd.func23, Tryd.ntmps23
  go_wp2_with (go_at_call 63; refine (spec_in _ _ _ _).mono ?_; rintro e w' ⟨rfl, rfl⟩)
  have B1 := Blk.new w 38 #[.int .i64 t, .int .i64 a, .int .i64 b, .int .i64 k, .int .i64 r]
  have l0 := later_cells B1.cell B1.lt
  refine wp_region_later_lit (by kernel_rfl) (by kernel_rfl) ?_
  repeat (any_goals (first | go_big_quiet_step ((first | (go_at_call 60; with_reducible exact later_call (K1.out _)) | (go_at_call 52; with_reducible exact later_call (K2.out _)) | (go_at_call 52; with_reducible exact later_call (K3.out _)))) | quiet_step ((first | (go_at_call 60; with_reducible exact later_call (K1.out _)) | (go_at_call 52; with_reducible exact later_call (K2.out _)) | (go_at_call 52; with_reducible exact later_call (K3.out _)))) | (refine wpQuiet_step (fun K hK => ?_); go_simp; split <;> (refine hK _ ?_; clear hK K))))
  all_goals (refine wpQuiet_nil ?_; rintro _ ⟨⟨w2, q2⟩, rfl⟩; try dsimp only)
  all_goals rename_i w2
  all_goals have B2 := B1.q q2
  all_goals have c2 := B2.cell
  all_goals go_wp2_with (go_at_call 63; refine (spec_in _ _ _ _).mono ?_; rintro e w' ⟨rfl, rfl⟩)
  all_goals first | (exfalso; have u1 := HK.out; have u2 := HK2.out; simp at *; omega) | skip
  all_goals go_ret
  all_goals exact ⟨by rw [HE.out]; rfl, Q.trans (by (repeat (first | assumption | exact Q.refl _ | refine Q.alloc ?_ _ | refine Q.drewN ?_ _ | refine Q.drew ?_))) q2⟩
set_option maxRecDepth 100000 in
set_option maxHeartbeats 1000000 in
theorem spec_IncidentText (t a b k r : Int) (w : World) : Calls Tryd.prog 23 #[.agg #[.int .i64 t, .int .i64 a, .int .i64 b, .int .i64 k, .int .i64 r]] w fun e w' => e = .returned (.string (incT t a b k r)) ∧ Q w w' := by
  by_cases h : 0 ≤ t ∧ t ≤ 1000000000 ∧ 0 ≤ a ∧ a < b ∧ b < 16
  · by_cases hk : k = -1 ∧ r = 5
    · obtain ⟨rfl, rfl⟩ := hk
      exact spec_IncU t a b w h
    · by_cases hk2 : (k = a ∨ k = b) ∧ 1 ≤ r ∧ r ≤ 4
      · rcases (show r = 1 ∨ r = 2 ∨ r = 3 ∨ r = 4 by omega) with rfl | rfl | rfl | rfl
        · rcases hk2.1 with rfl | rfl
          · first | exact spec_Inc1a t k b w h | exact spec_Inc1a t a b w h
          · first | exact spec_Inc1b t a k w h | exact spec_Inc1b t a b w h
        · rcases hk2.1 with rfl | rfl
          · first | exact spec_Inc2a t k b w h | exact spec_Inc2a t a b w h
          · first | exact spec_Inc2b t a k w h | exact spec_Inc2b t a b w h
        · rcases hk2.1 with rfl | rfl
          · first | exact spec_Inc3a t k b w h | exact spec_Inc3a t a b w h
          · first | exact spec_Inc3b t a k w h | exact spec_Inc3b t a b w h
        · rcases hk2.1 with rfl | rfl
          · first | exact spec_Inc4a t k b w h | exact spec_Inc4a t a b w h
          · first | exact spec_Inc4b t a k w h | exact spec_Inc4b t a b w h
      · exact spec_IncN t a b k r w h hk hk2
  · have HE := Lib.hid (inc_no (t := t) (a := a) (b := b) (k := k) (r := r) (by omega))
    go_enter Tryd.func23, Tryd.ntmps23
    go_wp2_with (go_at_call 63; refine (spec_in _ _ _ _).mono ?_; rintro e w' ⟨rfl, rfl⟩)
    all_goals first | (exfalso; simp at *; omega) | skip
    all_goals go_ret
    all_goals exact ⟨by rw [HE.out]; rfl, by (repeat (first | assumption | exact Q.refl _ | refine Q.alloc ?_ _ | refine Q.drewN ?_ _ | refine Q.drew ?_))⟩
theorem toIncident_one (a0 a1 a2 a3 a4 : Int) (w : World) : Calls Tryd.prog 24 #[.agg #[.int .i64 a0, .int .i64 a1, .int .i64 a2, .int .i64 a3, .int .i64 a4]] w fun r w' => r = .returned (.agg #[.int .i64 a0, .int .i64 a1, .int .i64 a2, .int .i64 a3, .int .i64 a4]) ∧ Q w w' := by
  go_enter Tryd.func24, Tryd.ntmps24
  go_wp2
  exact bodyPost_ret (v := .agg #[.int .i64 a0, .int .i64 a1, .int .i64 a2, .int .i64 a3, .int .i64 a4]) (by simp [results, Tryd.results24, go_sem]) rfl ⟨rfl, (((Q.refl _).alloc _).alloc _).alloc _⟩
set_option maxRecDepth 100000 in
set_option maxHeartbeats 1000000 in
theorem law_FnExactIncidentText (x0 x1 x2 x3 x4 : Int) (_ : ∀ u ∈ [x0, x1, x2, x3, x4], -9223372036854775808 ≤ u ∧ u ≤ 9223372036854775807) (w : World) (hT : Tbl w) :
    Calls Tryd.prog 5 #[.agg #[.int .i64 x0, .int .i64 x1, .int .i64 x2, .int .i64 x3, .int .i64 x4]] w fun e w' => e = .returned (.bool true) ∧ Below w.heap.size w w' := by
  have K1 := Lib.hid (fun wv => spec_IncidentText x0 x1 x2 x3 x4 wv)
  have K2 := Lib.hid (fun wv (h : Tbl wv) => impl_IncidentText x0 x1 x2 x3 x4 wv h)
  generalize incT x0 x1 x2 x3 x4 = S at *
  have HT := Lib.hid (hT.q ((Q.refl w).alloc (.cells #[.int .i64 x0, .int .i64 x1, .int .i64 x2, .int .i64 x3, .int .i64 x4] 36)))
  clear hT
  go_enter Tryd.func5, Tryd.ntmps5
  go_wp2_with (first | (have q20 := q2; go_at_call 24; refine (toIncident_one _ _ _ _ _ _).mono ?_; rintro e w3 ⟨rfl, q3⟩; have Q3 := (q1.trans q2).trans q3) | (go_at_call 24; refine (toIncident_one _ _ _ _ _ _).mono ?_; rintro e w1 ⟨rfl, q1⟩) | (go_at_call 23; refine (K1.out _).mono ?_; rintro e w2 ⟨rfl, q2⟩; have b2 := (Q.trans q1 q2).box) | (go_at_call 25; refine (K2.out _ (HT.out.q Q3)).mono ?_; rintro e w4 ⟨rfl, q4⟩))
  go_ret
  exact ⟨rfl, Q.trans (by (repeat (first | assumption | exact Q.refl _ | refine Q.alloc ?_ _ | refine Q.drewN ?_ _ | refine Q.drew ?_))) (Q3.trans q4)⟩
end Go.Proofs.YtgdjgjkijcmkfaaDoor
