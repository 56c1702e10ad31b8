/- Walks: the first boat of a list of finishes, as the program and the reference return it, for every list. No condition. -/
import Derived.Test.YthlfadkpeogajaaFin
namespace Go.Proofs.Ythlfadkpeogajaa
open Go.RowKit Go.WideShapes Go.ChangeShapes
def bestF (xs : List Int) : Nat → Int
  | 0 => -1
  | k + 1 => if xs.getD (k * 3 + 1) 0 = 0 ∧ (bestF xs k < 0 ∨ xs.getD (k * 3 + 2) 0 < xs.getD ((bestF xs k).toNat * 3 + 2) 0) then k else bestF xs k
theorem bestF_bd (xs : List Int) (k : Nat) : -1 ≤ bestF xs k ∧ bestF xs k < k := by
  induction k with
  | zero => simp [bestF]
  | succ k ih => unfold bestF; split <;> omega
theorem bestF_yes {xs : List Int} {k : Nat} (h0 : xs.getD (k * 3 + 1) 0 = 0) (h : bestF xs k < 0 ∨ xs.getD (k * 3 + 2) 0 < xs.getD ((bestF xs k).toNat * 3 + 2) 0) : bestF xs (k + 1) = k := by unfold bestF; rw [if_pos ⟨h0, h⟩]
theorem bestF_no0 {xs : List Int} {k : Nat} (h0 : xs.getD (k * 3 + 1) 0 ≠ 0) : bestF xs (k + 1) = bestF xs k := by
  show (if _ then _ else _) = _
  rw [if_neg (fun h => h0 h.1)]
theorem bestF_no1 {xs : List Int} {k : Nat} (h : ¬ (bestF xs k < 0 ∨ xs.getD (k * 3 + 2) 0 < xs.getD ((bestF xs k).toNat * 3 + 2) 0)) : bestF xs (k + 1) = bestF xs k := by
  show (if _ then _ else _) = _
  rw [if_neg (fun h' => h h'.2)]
theorem impl_firstFinish (A : Option Addr) (n c : Nat) (xs : List Int) (w : World) (ha : Rd w A xs) (hn : xs.length = n * 3) (hn2 : n ≤ 9223372036854775807) :
    Calls Try.prog 82 #[.slice A n c] w fun e w' => e = .returned (.int .i64 (bestF xs n)) ∧ Q w w' := by
  obtain ⟨bl, o, hA, hc⟩ := ha
  have HN := Lib.hid hn
  rw [hn] at hA hc
  clear hn
  go_enter Try.func82, Try.ntmps82
  go_wp2_with fail
  go_loopw [3, 8] (fun m i wr => ∃ k : Nat, k ≤ n ∧ i = .int .i64 k ∧ m = .int .i64 (bestF xs k) ∧ Q w wr) (fun _ i _ => n - (intOf i).toNat)
  case atStart => exact ⟨0, by omega, rfl, rfl, Q.refl _⟩
  case round =>
    obtain ⟨k, hk, rfl, rfl, hq⟩ := hrel
    have hbd := bestF_bd xs k
    obtain ⟨p, hp⟩ : ∃ p, p = bestF xs k := ⟨_, rfl⟩
    rw [← hp] at hbd ⊢
    have HP := Lib.hid hp
    clear hp
    by_cases hlt : k < n
    · obtain rfl := hA (by omega)
      obtain ⟨x0, hx0⟩ : ∃ x, x = xs.getD (k * 3) 0 := ⟨_, rfl⟩
      obtain ⟨x1, hx1⟩ : ∃ x, x = xs.getD (k * 3 + 1) 0 := ⟨_, rfl⟩
      obtain ⟨x2, hx2⟩ : ∃ x, x = xs.getD (k * 3 + 2) 0 := ⟨_, rfl⟩
      have g0 := hq.cell (hc (k * 3) (by omega))
      have g1 := hq.cell (hc (k * 3 + 1) (by omega))
      have g2 := hq.cell (hc (k * 3 + 2) (by omega))
      rw [← hx0] at g0
      rw [← hx1, ← Nat.add_assoc] at g1
      rw [← hx2, ← Nat.add_assoc] at g2
      have HX := Lib.hid (And.intro hx1 hx2)
      have HC := Lib.hid hc
      clear hx0 hx1 hx2 hc hA
      by_cases h0 : x1 = 0
      · have hb : (x1 == 0) = true := by simpa using h0
        by_cases hneg : p < 0
        · have E1 : Hid (bestF xs (k + 1) = k) := Lib.hid (bestF_yes (by rw [← HX.out.1]; exact h0) (by rw [← HP.out]; exact .inl hneg))
          obtain rfl : p = -1 := by omega
          clear h0 hneg hbd
          have qa : Q wr (wr.alloc (.cells #[.int .i64 x0, .int .i64 x1, .int .i64 x2] 65)) := (Q.refl _).alloc _
          have l1 := later_cell (qa.cell g1)
          have l2 := later_cell (qa.cell g2)
          have B0 := Blk.new wr 65 #[.int .i64 x0, .int .i64 x1, .int .i64 x2]
          have lx := later_cells B0.cell B0.lt
          go_wp2_with fail
          refine wp_region_later_lit (by kernel_rfl) (by kernel_rfl) ?_
          repeat (any_goals (first | go_big_quiet_step (fail) | quiet_step (fail) | (refine wpQuiet_step (fun K hK => ?_); go_simp; split <;> (refine hK _ ?_; clear hK K))))
          all_goals (refine wpQuiet_nil ?_; rintro _ ⟨⟨w2, q2⟩, rfl⟩; try dsimp only)
          all_goals go_wp2_with fail
          go_roundw
          case rel => exact ⟨k + 1, by omega, by go_num, by rw [E1.out], (hq.trans qa).trans q2⟩
          case measure => simp [intOf]; omega
        · obtain ⟨m, rfl⟩ := Int.eq_ofNat_of_zero_le (show 0 ≤ p by omega)
          obtain ⟨t, ht⟩ : ∃ t, t = xs.getD (m * 3 + 2) 0 := ⟨_, rfl⟩
          have gt := hq.cell (HC.out (m * 3 + 2) (by omega))
          rw [← ht, ← Nat.add_assoc] at gt
          have HT := Lib.hid ht
          have hm1 : (m : Int) < (n : Int) := by omega
          have hm2 : m < n := by omega
          have hm3 : ¬ (m : Int) < 0 := by omega
          have hm4 : decide ((m : Int) < 0) = false := by simp
          clear ht
          by_cases hless : x2 < t
          · have E1 : Hid (bestF xs (k + 1) = k) := Lib.hid (bestF_yes (by rw [← HX.out.1]; exact h0) (by rw [← HP.out]; exact .inr (by rw [← HX.out.2, show ((m : Int)).toNat = m by omega, ← HT.out]; exact hless)))
            clear h0
            have qa : Q wr (wr.alloc (.cells #[.int .i64 x0, .int .i64 x1, .int .i64 x2] 65)) := (Q.refl _).alloc _
            have l1 := later_cell (qa.cell g1)
            have l2 := later_cell (qa.cell g2)
            have B0 := Blk.new wr 65 #[.int .i64 x0, .int .i64 x1, .int .i64 x2]
            have lx := later_cells B0.cell B0.lt
            have lt := later_cell (qa.cell gt)
            go_wp2_with fail
            refine wp_region_later_lit (by kernel_rfl) (by kernel_rfl) ?_
            repeat (any_goals (first | go_big_quiet_step (fail) | quiet_step (fail) | (refine wpQuiet_step (fun K hK => ?_); go_simp; split <;> (refine hK _ ?_; clear hK K))))
            all_goals (refine wpQuiet_nil ?_; rintro _ ⟨⟨w2, q2⟩, rfl⟩; try dsimp only)
            all_goals go_wp2_with fail
            go_roundw
            case rel => exact ⟨k + 1, by omega, by go_num, by rw [E1.out], (hq.trans qa).trans q2⟩
            case measure => simp [intOf]; omega
          · have E1 : Hid (bestF xs (k + 1) = m) := Lib.hid (by rw [bestF_no1 (by rw [← HP.out, ← HX.out.2, show ((m : Int)).toNat = m by omega, ← HT.out]; omega), HP.out])
            clear h0
            have qa : Q wr (wr.alloc (.cells #[.int .i64 x0, .int .i64 x1, .int .i64 x2] 65)) := (Q.refl _).alloc _
            have l1 := later_cell (qa.cell g1)
            have l2 := later_cell (qa.cell g2)
            have B0 := Blk.new wr 65 #[.int .i64 x0, .int .i64 x1, .int .i64 x2]
            have lx := later_cells B0.cell B0.lt
            have lt := later_cell (qa.cell gt)
            go_wp2_with fail
            refine wp_region_later_lit (by kernel_rfl) (by kernel_rfl) ?_
            repeat (any_goals (first | go_big_quiet_step (fail) | quiet_step (fail) | (refine wpQuiet_step (fun K hK => ?_); go_simp; split <;> (refine hK _ ?_; clear hK K))))
            all_goals (refine wpQuiet_nil ?_; rintro _ ⟨⟨w2, q2⟩, rfl⟩; try dsimp only)
            all_goals go_wp2_with fail
            go_roundw
            case rel => exact ⟨k + 1, by omega, by go_num, by rw [E1.out], (hq.trans qa).trans q2⟩
            case measure => simp [intOf]; omega
      · have E1 : Hid (bestF xs (k + 1) = p) := Lib.hid (by rw [bestF_no0 (by rw [← HX.out.1]; exact h0), HP.out])
        have hb : (x1 == 0) = false := by simpa using h0
        clear h0
        have qa : Q wr (wr.alloc (.cells #[.int .i64 x0, .int .i64 x1, .int .i64 x2] 65)) := (Q.refl _).alloc _
        have l1 := later_cell (qa.cell g1)
        have l2 := later_cell (qa.cell g2)
        have B0 := Blk.new wr 65 #[.int .i64 x0, .int .i64 x1, .int .i64 x2]
        have lx := later_cells B0.cell B0.lt
        go_wp2_with fail
        refine wp_region_later_lit (by kernel_rfl) (by kernel_rfl) ?_
        repeat (any_goals (first | go_big_quiet_step (fail) | quiet_step (fail) | (refine wpQuiet_step (fun K hK => ?_); go_simp; split <;> (refine hK _ ?_; clear hK K))))
        all_goals (refine wpQuiet_nil ?_; rintro _ ⟨⟨w2, q2⟩, rfl⟩; try dsimp only)
        all_goals go_wp2_with fail
        go_roundw
        case rel => exact ⟨k + 1, by omega, by go_num, by rw [E1.out], (hq.trans qa).trans q2⟩
        case measure => simp [intOf]; omega
    · obtain rfl : k = n := by omega
      go_wp2_with fail
      go_ret
      exact ⟨ret_int (by rw [HP.out]), hq⟩
theorem spec_l16First (A : Option Addr) (n c : Nat) (xs : List Int) (w : World) (ha : Rd w A xs) (hn : xs.length = n * 3) (hn2 : n ≤ 9223372036854775807) :
    Calls Try.prog 78 #[.slice A n c] w fun e w' => e = .returned (.int .i64 (bestF xs n)) ∧ Q w w' := by
  obtain ⟨bl, o, hA, hc⟩ := ha
  have HN := Lib.hid hn
  rw [hn] at hA hc
  clear hn
  go_enter Try.func78, Try.ntmps78
  go_wp2_with fail
  go_loopw [3, 4] (fun m i wr => ∃ k : Nat, k ≤ n ∧ i = .int .i64 k ∧ m = .int .i64 (bestF xs k) ∧ Q w wr) (fun _ i _ => n - (intOf i).toNat)
  case atStart => exact ⟨0, by omega, rfl, rfl, Q.refl _⟩
  case round =>
    obtain ⟨k, hk, rfl, rfl, hq⟩ := hrel
    have hbd := bestF_bd xs k
    obtain ⟨p, hp⟩ : ∃ p, p = bestF xs k := ⟨_, rfl⟩
    rw [← hp] at hbd ⊢
    have HP := Lib.hid hp
    clear hp
    by_cases hlt : k < n
    · obtain rfl := hA (by omega)
      obtain ⟨x0, hx0⟩ : ∃ x, x = xs.getD (k * 3) 0 := ⟨_, rfl⟩
      obtain ⟨x1, hx1⟩ : ∃ x, x = xs.getD (k * 3 + 1) 0 := ⟨_, rfl⟩
      obtain ⟨x2, hx2⟩ : ∃ x, x = xs.getD (k * 3 + 2) 0 := ⟨_, rfl⟩
      have g0 := hq.cell (hc (k * 3) (by omega))
      have g1 := hq.cell (hc (k * 3 + 1) (by omega))
      have g2 := hq.cell (hc (k * 3 + 2) (by omega))
      rw [← hx0] at g0
      rw [← hx1, ← Nat.add_assoc] at g1
      rw [← hx2, ← Nat.add_assoc] at g2
      have HX := Lib.hid (And.intro hx1 hx2)
      have HC := Lib.hid hc
      clear hx0 hx1 hx2 hc hA
      by_cases h0 : x1 = 0
      · have hb : (x1 == 0) = true := by simpa using h0
        by_cases hneg : p < 0
        · have E1 : Hid (bestF xs (k + 1) = k) := Lib.hid (bestF_yes (by rw [← HX.out.1]; exact h0) (by rw [← HP.out]; exact .inl hneg))
          obtain rfl : p = -1 := by omega
          clear h0 hneg hbd
          have qa : Q wr wr := Q.refl _
          have l1 := later_cell (qa.cell g1)
          have l2 := later_cell (qa.cell g2)
          go_wp2_with fail
          refine wp_region_later_lit (by kernel_rfl) (by kernel_rfl) ?_
          repeat (any_goals (first | go_big_quiet_step (fail) | quiet_step (fail) | (refine wpQuiet_step (fun K hK => ?_); go_simp; split <;> (refine hK _ ?_; clear hK K))))
          all_goals (refine wpQuiet_nil ?_; rintro _ ⟨⟨w2, q2⟩, rfl⟩; try dsimp only)
          all_goals go_wp2_with fail
          go_roundw
          case rel => exact ⟨k + 1, by omega, by go_num, by rw [E1.out], (hq.trans qa).trans q2⟩
          case measure => simp [intOf]; omega
        · obtain ⟨m, rfl⟩ := Int.eq_ofNat_of_zero_le (show 0 ≤ p by omega)
          obtain ⟨t, ht⟩ : ∃ t, t = xs.getD (m * 3 + 2) 0 := ⟨_, rfl⟩
          have gt := hq.cell (HC.out (m * 3 + 2) (by omega))
          rw [← ht, ← Nat.add_assoc] at gt
          have HT := Lib.hid ht
          have hm1 : (m : Int) < (n : Int) := by omega
          have hm2 : m < n := by omega
          have hm3 : ¬ (m : Int) < 0 := by omega
          have hm4 : decide ((m : Int) < 0) = false := by simp
          clear ht
          by_cases hless : x2 < t
          · have E1 : Hid (bestF xs (k + 1) = k) := Lib.hid (bestF_yes (by rw [← HX.out.1]; exact h0) (by rw [← HP.out]; exact .inr (by rw [← HX.out.2, show ((m : Int)).toNat = m by omega, ← HT.out]; exact hless)))
            clear h0
            have qa : Q wr wr := Q.refl _
            have l1 := later_cell (qa.cell g1)
            have l2 := later_cell (qa.cell g2)
            have lt := later_cell (qa.cell gt)
            go_wp2_with fail
            refine wp_region_later_lit (by kernel_rfl) (by kernel_rfl) ?_
            repeat (any_goals (first | go_big_quiet_step (fail) | quiet_step (fail) | (refine wpQuiet_step (fun K hK => ?_); go_simp; split <;> (refine hK _ ?_; clear hK K))))
            all_goals (refine wpQuiet_nil ?_; rintro _ ⟨⟨w2, q2⟩, rfl⟩; try dsimp only)
            all_goals go_wp2_with fail
            go_roundw
            case rel => exact ⟨k + 1, by omega, by go_num, by rw [E1.out], (hq.trans qa).trans q2⟩
            case measure => simp [intOf]; omega
          · have E1 : Hid (bestF xs (k + 1) = m) := Lib.hid (by rw [bestF_no1 (by rw [← HP.out, ← HX.out.2, show ((m : Int)).toNat = m by omega, ← HT.out]; omega), HP.out])
            clear h0
            have qa : Q wr wr := Q.refl _
            have l1 := later_cell (qa.cell g1)
            have l2 := later_cell (qa.cell g2)
            have lt := later_cell (qa.cell gt)
            go_wp2_with fail
            refine wp_region_later_lit (by kernel_rfl) (by kernel_rfl) ?_
            repeat (any_goals (first | go_big_quiet_step (fail) | quiet_step (fail) | (refine wpQuiet_step (fun K hK => ?_); go_simp; split <;> (refine hK _ ?_; clear hK K))))
            all_goals (refine wpQuiet_nil ?_; rintro _ ⟨⟨w2, q2⟩, rfl⟩; try dsimp only)
            all_goals go_wp2_with fail
            go_roundw
            case rel => exact ⟨k + 1, by omega, by go_num, by rw [E1.out], (hq.trans qa).trans q2⟩
            case measure => simp [intOf]; omega
      · have E1 : Hid (bestF xs (k + 1) = p) := Lib.hid (by rw [bestF_no0 (by rw [← HX.out.1]; exact h0), HP.out])
        have hb : (x1 == 0) = false := by simpa using h0
        clear h0
        have qa : Q wr wr := Q.refl _
        have l1 := later_cell (qa.cell g1)
        have l2 := later_cell (qa.cell g2)
        go_wp2_with fail
        refine wp_region_later_lit (by kernel_rfl) (by kernel_rfl) ?_
        repeat (any_goals (first | go_big_quiet_step (fail) | quiet_step (fail) | (refine wpQuiet_step (fun K hK => ?_); go_simp; split <;> (refine hK _ ?_; clear hK K))))
        all_goals (refine wpQuiet_nil ?_; rintro _ ⟨⟨w2, q2⟩, rfl⟩; try dsimp only)
        all_goals go_wp2_with fail
        go_roundw
        case rel => exact ⟨k + 1, by omega, by go_num, by rw [E1.out], (hq.trans qa).trans q2⟩
        case measure => simp [intOf]; omega
    · obtain rfl : k = n := by omega
      go_wp2_with fail
      go_ret
      exact ⟨ret_int (by rw [HP.out]), hq⟩
end Go.Proofs.Ythlfadkpeogajaa
