/- Walks: the text of an incident with a boat that has to keep clear, as the reference writes it. No condition. -/
import Derived.Test.YtgdjgjkijcmkfaaDoorIncA
namespace Go.Proofs.YtgdjgjkijcmkfaaDoor
open Go.RowKit Go.WideShapes Go.ChangeShapes
set_option maxRecDepth 100000 in
set_option maxHeartbeats 40000000 in
theorem spec_Inc2b (t a b : Int) (w : World) (h : 0 ≤ t ∧ t ≤ 1000000000 ∧ 0 ≤ a ∧ a < b ∧ b < 16) : Calls Tryd.prog 23 #[.agg #[.int .i64 t, .int .i64 a, .int .i64 b, .int .i64 b, .int .i64 2]] w fun e w' => e = .returned (.string (incT t a b b 2)) ∧ Q w w' := by
  have hs1 := tmS_le t
  have hs2 := nmS_le (n := a) (by omega)
  have hs3 := nmS_le (n := b) (by omega)
  have K1 := Lib.hid (fun wv => spec_TimeS' t (by omega) wv)
  have K2 := Lib.hid (fun wv => spec_num a (by omega) wv)
  have K3 := Lib.hid (fun wv => spec_num b (by omega) wv)
  have hk3 : (b == -1) = false := by simp; omega
  have hs5 := rsn_le 2
  have K5 := Lib.hid (fun wv => words_cell wv 1 (rsn 2) rfl)
  have K4 := Lib.hid (fun wv => spec_num b (by omega) wv)
  have H := Lib.hid h
  obtain ⟨h1, h2, h3, h4, h5⟩ := h
  have h3' : ¬ a < 0 := by omega
  have h4' : ¬ b ≤ a := by omega
  have h5' : ¬ 16 ≤ b := by omega
  have hba : ¬ b = a := by omega
  have hba2 : (b == a) = false := by simpa using hba
  have HE := Lib.hid (inc_2 (t := t) (a := a) (b := b) (k := b) (r := 2) H.out ⟨Or.inr rfl, by omega⟩)
  generalize tmS t = S1 at *
  generalize nmS a = S2 at *
  generalize nmS b = S3 at *
  generalize rsn 2 = R1 at *
  go_enter Tryd.func23, Tryd.ntmps23
  go_wp2_with (go_at_call 63; refine (spec_in _ _ _ _).mono ?_; rintro e w' ⟨rfl, rfl⟩)
  have B1 := Blk.new w 38 #[.int .i64 t, .int .i64 a, .int .i64 b, .int .i64 b, .int .i64 2]
  have l0 := later_cells B1.cell B1.lt
  refine wp_region_later_lit (by kernel_rfl) (by kernel_rfl) ?_
  repeat (any_goals (first | go_big_quiet_step ((first | (go_at_call 60; with_reducible exact later_call (K1.out _)) | (go_at_call 52; with_reducible exact later_call (K2.out _)) | (go_at_call 52; with_reducible exact later_call (K3.out _)))) | quiet_step ((first | (go_at_call 60; with_reducible exact later_call (K1.out _)) | (go_at_call 52; with_reducible exact later_call (K2.out _)) | (go_at_call 52; with_reducible exact later_call (K3.out _)))) | (refine wpQuiet_step (fun K hK => ?_); go_simp; split <;> (refine hK _ ?_; clear hK K))))
  all_goals (refine wpQuiet_nil ?_; rintro _ ⟨⟨w2, q2⟩, rfl⟩; try dsimp only)
  rename_i w2
  have B2 := B1.q q2
  have c2 := B2.cell
  go_upto_if 46 with (fail)
  go_cut [] from 4 (fun wc => wc = w2)
  case first =>
    go_wp2_with fail
    go_meet
    exact rfl
  case rest =>
    have hw := hcut.symm
    clear hcut
    subst hw
    go_wp2_with (go_at_call 63; refine (spec_in _ _ _ _).mono ?_; rintro e w' ⟨rfl, rfl⟩)
    all_goals first | (exfalso; omega) | skip
    all_goals
      have c20 : w2.cell? ⟨w.heap.size, 3, none⟩ = some (.int .i64 b) := c2 3
      have c21 : w2.cell? ⟨w.heap.size, 4, none⟩ = some (.int .i64 2) := c2 4
      clear c2 l0
      obtain ⟨T, hT⟩ : ∃ T : ByteArray, T = S1 ++ { data := #[32] } ++ S2 ++ { data := #[32] } ++ S3 ++ { data := #[32] } := ⟨_, rfl⟩
      rw [← hT]
      have hT2 : T.size ≤ 60 := by
        have h32 : ({ data := #[32] } : ByteArray).size = 1 := rfl
        rw [hT]
        simp only [ByteArray.size_append, h32]
        omega
      have h64 : ({ data := #[32] } : ByteArray).size = 1 := rfl
      have hadd1 := fun wv => run_string_add_sum (P := Tryd.prog) (w := wv) T S3 (by omega)
      have hadd2 := fun wv => run_string_add_sum (P := Tryd.prog) (w := wv) (T ++ S3) { data := #[32] } (by rw [ByteArray.size_append, h64]; omega)
      have hadd3 := fun wv => run_string_add_sum (P := Tryd.prog) (w := wv) (T ++ S3 ++ { data := #[32] }) R1 (by rw [ByteArray.size_append, ByteArray.size_append, h64]; omega)
      clear h64 hs1 hs2 hs3 hs5 hT2
      have HT := Lib.hid hT
      clear hT
      clear B1 B2 K1 K2 K3 H
      go_region_with (first | (go_at_call 52; refine (K4.out _).mono ?_; rintro e w3 ⟨rfl, q3⟩; have QR : Q w2 w3 := Q.trans (by with_reducible first | exact (Q.refl _).drew | exact Q.refl _) q3; have c31 := QR.cell c21) | (go_at_call 64; refine (K5.out _).mono ?_; rintro e w4 ⟨g4, rfl, c40, q4⟩; have Q4 : Q w2 w4 := Q.trans (by with_reducible first | exact QR | exact QR.drew) q4; have c41 := Q4.cell c21))
      all_goals go_wp2_with fail
      all_goals go_ret
      all_goals exact ⟨by rw [HE.out, HT.out]; rfl, Q.trans (show Q w w2 from Q.trans (by (repeat (first | assumption | exact Q.refl _ | refine Q.alloc ?_ _ | refine Q.drewN ?_ _ | refine Q.drew ?_))) q2) (by first | exact Q4 | exact Q4.drew)⟩
set_option maxRecDepth 100000 in
set_option maxHeartbeats 40000000 in
theorem spec_Inc3a (t a b : Int) (w : World) (h : 0 ≤ t ∧ t ≤ 1000000000 ∧ 0 ≤ a ∧ a < b ∧ b < 16) : Calls Tryd.prog 23 #[.agg #[.int .i64 t, .int .i64 a, .int .i64 b, .int .i64 a, .int .i64 3]] w fun e w' => e = .returned (.string (incT t a b a 3)) ∧ Q w w' := by
  have hs1 := tmS_le t
  have hs2 := nmS_le (n := a) (by omega)
  have hs3 := nmS_le (n := b) (by omega)
  have K1 := Lib.hid (fun wv => spec_TimeS' t (by omega) wv)
  have K2 := Lib.hid (fun wv => spec_num a (by omega) wv)
  have K3 := Lib.hid (fun wv => spec_num b (by omega) wv)
  have hk3 : (a == -1) = false := by simp; omega
  have hs5 := rsn_le 3
  have K5 := Lib.hid (fun wv => words_cell wv 2 (rsn 3) rfl)
  have K4 := Lib.hid (fun wv => spec_num a (by omega) wv)
  have H := Lib.hid h
  obtain ⟨h1, h2, h3, h4, h5⟩ := h
  have h3' : ¬ a < 0 := by omega
  have h4' : ¬ b ≤ a := by omega
  have h5' : ¬ 16 ≤ b := by omega
  have HE := Lib.hid (inc_2 (t := t) (a := a) (b := b) (k := a) (r := 3) H.out ⟨Or.inl rfl, by omega⟩)
  generalize tmS t = S1 at *
  generalize nmS a = S2 at *
  generalize nmS b = S3 at *
  generalize rsn 3 = R1 at *
  go_enter Tryd.func23, Tryd.ntmps23
  go_wp2_with (go_at_call 63; refine (spec_in _ _ _ _).mono ?_; rintro e w' ⟨rfl, rfl⟩)
  have B1 := Blk.new w 38 #[.int .i64 t, .int .i64 a, .int .i64 b, .int .i64 a, .int .i64 3]
  have l0 := later_cells B1.cell B1.lt
  refine wp_region_later_lit (by kernel_rfl) (by kernel_rfl) ?_
  repeat (any_goals (first | go_big_quiet_step ((first | (go_at_call 60; with_reducible exact later_call (K1.out _)) | (go_at_call 52; with_reducible exact later_call (K2.out _)) | (go_at_call 52; with_reducible exact later_call (K3.out _)))) | quiet_step ((first | (go_at_call 60; with_reducible exact later_call (K1.out _)) | (go_at_call 52; with_reducible exact later_call (K2.out _)) | (go_at_call 52; with_reducible exact later_call (K3.out _)))) | (refine wpQuiet_step (fun K hK => ?_); go_simp; split <;> (refine hK _ ?_; clear hK K))))
  all_goals (refine wpQuiet_nil ?_; rintro _ ⟨⟨w2, q2⟩, rfl⟩; try dsimp only)
  rename_i w2
  have B2 := B1.q q2
  have c2 := B2.cell
  go_upto_if 46 with (fail)
  go_cut [] from 4 (fun wc => wc = w2)
  case first =>
    go_wp2_with fail
    go_meet
    exact rfl
  case rest =>
    have hw := hcut.symm
    clear hcut
    subst hw
    go_wp2_with (go_at_call 63; refine (spec_in _ _ _ _).mono ?_; rintro e w' ⟨rfl, rfl⟩)
    all_goals first | (exfalso; omega) | skip
    all_goals
      have c20 : w2.cell? ⟨w.heap.size, 3, none⟩ = some (.int .i64 a) := c2 3
      have c21 : w2.cell? ⟨w.heap.size, 4, none⟩ = some (.int .i64 3) := c2 4
      clear c2 l0
      obtain ⟨T, hT⟩ : ∃ T : ByteArray, T = S1 ++ { data := #[32] } ++ S2 ++ { data := #[32] } ++ S3 ++ { data := #[32] } := ⟨_, rfl⟩
      rw [← hT]
      have hT2 : T.size ≤ 60 := by
        have h32 : ({ data := #[32] } : ByteArray).size = 1 := rfl
        rw [hT]
        simp only [ByteArray.size_append, h32]
        omega
      have h64 : ({ data := #[32] } : ByteArray).size = 1 := rfl
      have hadd1 := fun wv => run_string_add_sum (P := Tryd.prog) (w := wv) T S2 (by omega)
      have hadd2 := fun wv => run_string_add_sum (P := Tryd.prog) (w := wv) (T ++ S2) { data := #[32] } (by rw [ByteArray.size_append, h64]; omega)
      have hadd3 := fun wv => run_string_add_sum (P := Tryd.prog) (w := wv) (T ++ S2 ++ { data := #[32] }) R1 (by rw [ByteArray.size_append, ByteArray.size_append, h64]; omega)
      clear h64 hs1 hs2 hs3 hs5 hT2
      have HT := Lib.hid hT
      clear hT
      clear B1 B2 K1 K2 K3 H
      go_region_with (first | (go_at_call 52; refine (K4.out _).mono ?_; rintro e w3 ⟨rfl, q3⟩; have QR : Q w2 w3 := Q.trans (by with_reducible first | exact (Q.refl _).drew | exact Q.refl _) q3; have c31 := QR.cell c21) | (go_at_call 64; refine (K5.out _).mono ?_; rintro e w4 ⟨g4, rfl, c40, q4⟩; have Q4 : Q w2 w4 := Q.trans (by with_reducible first | exact QR | exact QR.drew) q4; have c41 := Q4.cell c21))
      all_goals go_wp2_with fail
      all_goals go_ret
      all_goals exact ⟨by rw [HE.out, HT.out]; rfl, Q.trans (show Q w w2 from Q.trans (by (repeat (first | assumption | exact Q.refl _ | refine Q.alloc ?_ _ | refine Q.drewN ?_ _ | refine Q.drew ?_))) q2) (by first | exact Q4 | exact Q4.drew)⟩
set_option maxRecDepth 100000 in
set_option maxHeartbeats 40000000 in
theorem spec_Inc3b (t a b : Int) (w : World) (h : 0 ≤ t ∧ t ≤ 1000000000 ∧ 0 ≤ a ∧ a < b ∧ b < 16) : Calls Tryd.prog 23 #[.agg #[.int .i64 t, .int .i64 a, .int .i64 b, .int .i64 b, .int .i64 3]] w fun e w' => e = .returned (.string (incT t a b b 3)) ∧ Q w w' := by
  have hs1 := tmS_le t
  have hs2 := nmS_le (n := a) (by omega)
  have hs3 := nmS_le (n := b) (by omega)
  have K1 := Lib.hid (fun wv => spec_TimeS' t (by omega) wv)
  have K2 := Lib.hid (fun wv => spec_num a (by omega) wv)
  have K3 := Lib.hid (fun wv => spec_num b (by omega) wv)
  have hk3 : (b == -1) = false := by simp; omega
  have hs5 := rsn_le 3
  have K5 := Lib.hid (fun wv => words_cell wv 2 (rsn 3) rfl)
  have K4 := Lib.hid (fun wv => spec_num b (by omega) wv)
  have H := Lib.hid h
  obtain ⟨h1, h2, h3, h4, h5⟩ := h
  have h3' : ¬ a < 0 := by omega
  have h4' : ¬ b ≤ a := by omega
  have h5' : ¬ 16 ≤ b := by omega
  have hba : ¬ b = a := by omega
  have hba2 : (b == a) = false := by simpa using hba
  have HE := Lib.hid (inc_2 (t := t) (a := a) (b := b) (k := b) (r := 3) H.out ⟨Or.inr rfl, by omega⟩)
  generalize tmS t = S1 at *
  generalize nmS a = S2 at *
  generalize nmS b = S3 at *
  generalize rsn 3 = R1 at *
  go_enter Tryd.func23, Tryd.ntmps23
  go_wp2_with (go_at_call 63; refine (spec_in _ _ _ _).mono ?_; rintro e w' ⟨rfl, rfl⟩)
  have B1 := Blk.new w 38 #[.int .i64 t, .int .i64 a, .int .i64 b, .int .i64 b, .int .i64 3]
  have l0 := later_cells B1.cell B1.lt
  refine wp_region_later_lit (by kernel_rfl) (by kernel_rfl) ?_
  repeat (any_goals (first | go_big_quiet_step ((first | (go_at_call 60; with_reducible exact later_call (K1.out _)) | (go_at_call 52; with_reducible exact later_call (K2.out _)) | (go_at_call 52; with_reducible exact later_call (K3.out _)))) | quiet_step ((first | (go_at_call 60; with_reducible exact later_call (K1.out _)) | (go_at_call 52; with_reducible exact later_call (K2.out _)) | (go_at_call 52; with_reducible exact later_call (K3.out _)))) | (refine wpQuiet_step (fun K hK => ?_); go_simp; split <;> (refine hK _ ?_; clear hK K))))
  all_goals (refine wpQuiet_nil ?_; rintro _ ⟨⟨w2, q2⟩, rfl⟩; try dsimp only)
  rename_i w2
  have B2 := B1.q q2
  have c2 := B2.cell
  go_upto_if 46 with (fail)
  go_cut [] from 4 (fun wc => wc = w2)
  case first =>
    go_wp2_with fail
    go_meet
    exact rfl
  case rest =>
    have hw := hcut.symm
    clear hcut
    subst hw
    go_wp2_with (go_at_call 63; refine (spec_in _ _ _ _).mono ?_; rintro e w' ⟨rfl, rfl⟩)
    all_goals first | (exfalso; omega) | skip
    all_goals
      have c20 : w2.cell? ⟨w.heap.size, 3, none⟩ = some (.int .i64 b) := c2 3
      have c21 : w2.cell? ⟨w.heap.size, 4, none⟩ = some (.int .i64 3) := c2 4
      clear c2 l0
      obtain ⟨T, hT⟩ : ∃ T : ByteArray, T = S1 ++ { data := #[32] } ++ S2 ++ { data := #[32] } ++ S3 ++ { data := #[32] } := ⟨_, rfl⟩
      rw [← hT]
      have hT2 : T.size ≤ 60 := by
        have h32 : ({ data := #[32] } : ByteArray).size = 1 := rfl
        rw [hT]
        simp only [ByteArray.size_append, h32]
        omega
      have h64 : ({ data := #[32] } : ByteArray).size = 1 := rfl
      have hadd1 := fun wv => run_string_add_sum (P := Tryd.prog) (w := wv) T S3 (by omega)
      have hadd2 := fun wv => run_string_add_sum (P := Tryd.prog) (w := wv) (T ++ S3) { data := #[32] } (by rw [ByteArray.size_append, h64]; omega)
      have hadd3 := fun wv => run_string_add_sum (P := Tryd.prog) (w := wv) (T ++ S3 ++ { data := #[32] }) R1 (by rw [ByteArray.size_append, ByteArray.size_append, h64]; omega)
      clear h64 hs1 hs2 hs3 hs5 hT2
      have HT := Lib.hid hT
      clear hT
      clear B1 B2 K1 K2 K3 H
      go_region_with (first | (go_at_call 52; refine (K4.out _).mono ?_; rintro e w3 ⟨rfl, q3⟩; have QR : Q w2 w3 := Q.trans (by with_reducible first | exact (Q.refl _).drew | exact Q.refl _) q3; have c31 := QR.cell c21) | (go_at_call 64; refine (K5.out _).mono ?_; rintro e w4 ⟨g4, rfl, c40, q4⟩; have Q4 : Q w2 w4 := Q.trans (by with_reducible first | exact QR | exact QR.drew) q4; have c41 := Q4.cell c21))
      all_goals go_wp2_with fail
      all_goals go_ret
      all_goals exact ⟨by rw [HE.out, HT.out]; rfl, Q.trans (show Q w w2 from Q.trans (by (repeat (first | assumption | exact Q.refl _ | refine Q.alloc ?_ _ | refine Q.drewN ?_ _ | refine Q.drew ?_))) q2) (by first | exact Q4 | exact Q4.drew)⟩
end Go.Proofs.YtgdjgjkijcmkfaaDoor
