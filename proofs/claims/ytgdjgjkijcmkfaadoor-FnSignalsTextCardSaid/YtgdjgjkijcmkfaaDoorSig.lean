/- Walks: whether a list of signals is one, as the program and the reference say it, for every list. No condition. -/
import Derived.Test.YtgdjgjkijcmkfaaDoorEqSignal
import Derived.Test.YtgdjgjkijcmkfaaDoorTc
namespace Go.Proofs.YtgdjgjkijcmkfaaDoor
open Go.RowKit Go.WideShapes Go.ChangeShapes
def sigB (k t : Int) (p : Option Int) : Bool := decide (1 ≤ k ∧ k ≤ 8 ∧ 0 ≤ t ∧ t ≤ 1000000000) && (match p with | none => true | some q => decide (q ≤ t))
def sigAt (xs : List Int) (i : Nat) : Bool := sigB (xs.getD (i * 2) 0) (xs.getD (i * 2 + 1) 0) (if i = 0 then none else some (xs.getD ((i - 1) * 2 + 1) 0))
def sigTo (xs : List Int) (k : Nat) : Bool := (List.range k).all (sigAt xs)
theorem sigTo_succ (xs : List Int) (k : Nat) : sigTo xs (k + 1) = (sigTo xs k && sigAt xs k) := by simp [sigTo, List.range_succ]
theorem sigTo_no {xs : List Int} {k n : Nat} (hk : k < n) (h : sigAt xs k = false) : sigTo xs n = false := by
  unfold sigTo
  rw [List.all_eq_false]
  exact ⟨k, by simpa using hk, by simp [h]⟩
def sigOk (xs : List Int) (n : Nat) : Bool := decide (n ≤ 40) && sigTo xs n
theorem spec_IsSignals (A : Option Addr) (n c : Nat) (xs : List Int) (w : World) (ha : Rd w A xs) (hn : xs.length = n * 2) (hn2 : n ≤ 9223372036854775807) :
    Calls Tryd.prog 35 #[.slice A n c] w fun e w' => e = .returned (.bool (sigOk xs n)) ∧ Q w w' := by
  by_cases h40 : n ≤ 40
  · obtain ⟨b, o, hA, hc⟩ := ha
    have HN := Lib.hid hn
    rw [hn] at hA hc
    clear hn
    go_enter Tryd.func35, Tryd.ntmps35
    go_wp2_with fail
    go_loopw [3] (fun i wr => ∃ k : Nat, k ≤ n ∧ i = .int .i64 k ∧ sigTo xs k = true ∧ Q w wr) (fun i _ => n - (intOf i).toNat)
    case atStart => exact ⟨0, by omega, rfl, rfl, Q.refl _⟩
    case round =>
      obtain ⟨k, hk, rfl, ht, hq⟩ := hrel
      have HT := Lib.hid ht
      clear ht
      by_cases hlt : k < n
      · obtain rfl := hA (by omega)
        by_cases hk0 : k = 0
        · subst hk0
          obtain ⟨x0, hx0⟩ : ∃ x, x = xs.getD 0 0 := ⟨_, rfl⟩
          obtain ⟨x1, hx1⟩ : ∃ x, x = xs.getD 1 0 := ⟨_, rfl⟩
          have g0 := hq.cell (hc 0 (by omega))
          have g1 := hq.cell (hc 1 (by omega))
          rw [← hx0, Nat.add_zero] at g0
          rw [← hx1] at g1
          have l0 := later_cell g0
          have l1 := later_cell g1
          have HS : Hid (sigAt xs 0 = sigB x0 x1 none) := Lib.hid (by rw [hx0, hx1]; rfl)
          clear hx0 hx1 hc hA
          go_wp2_with (go_at_call 63; refine (spec_in _ _ _ _).mono ?_; rintro e w' ⟨rfl, rfl⟩)
          all_goals try (refine wp_region_later_lit (by kernel_rfl) (by kernel_rfl) ?_; (repeat (any_goals (first | go_big_quiet_step ((go_at_call 63; exact later_same (spec_in _ _ _ _))) | quiet_step ((go_at_call 63; exact later_same (spec_in _ _ _ _))) | (refine wpQuiet_step (fun K hK => ?_); go_simp; split <;> (refine hK _ ?_; clear hK K))))); all_goals (refine wpQuiet_nil ?_; rintro _ ⟨⟨w2, q2⟩, rfl⟩; try dsimp only); all_goals go_wp2_with fail)
          all_goals first
            | (go_ret
               refine ⟨ret_bool ?_, (by first | exact hq | exact hq.trans q2)⟩
               have hf : sigAt xs 0 = false := by rw [HS.out]; unfold sigB; simp at *; omega
               unfold sigOk; rw [sigTo_no (by omega) hf]; simp)
            | (go_roundw
               case rel =>
                 refine ⟨0 + 1, by omega, by go_num, ?_, (by first | exact hq | exact hq.trans q2)⟩
                 rw [sigTo_succ, HT.out, HS.out]; unfold sigB; simp at *; omega
               case measure => simp [intOf]; omega)
        · obtain ⟨m, rfl⟩ : ∃ m, k = m + 1 := ⟨k - 1, by omega⟩
          obtain ⟨x0, hx0⟩ : ∃ x, x = xs.getD ((m + 1) * 2) 0 := ⟨_, rfl⟩
          obtain ⟨x1, hx1⟩ : ∃ x, x = xs.getD ((m + 1) * 2 + 1) 0 := ⟨_, rfl⟩
          obtain ⟨x2, hx2⟩ : ∃ x, x = xs.getD (m * 2 + 1) 0 := ⟨_, rfl⟩
          have g0 := hq.cell (hc ((m + 1) * 2) (by omega))
          have g1 := hq.cell (hc ((m + 1) * 2 + 1) (by omega))
          have g2 := hq.cell (hc (m * 2 + 1) (by omega))
          rw [← hx0] at g0
          rw [← hx1, ← Nat.add_assoc] at g1
          rw [← hx2, ← Nat.add_assoc] at g2
          have l0 := later_cell g0
          have l1 := later_cell g1
          have l2 := later_cell g2
          have HS : Hid (sigAt xs (m + 1) = sigB x0 x1 (some x2)) := Lib.hid (by rw [hx0, hx1, hx2]; rfl)
          clear hx0 hx1 hx2 hc hA hk0
          go_wp2_with (go_at_call 63; refine (spec_in _ _ _ _).mono ?_; rintro e w' ⟨rfl, rfl⟩)
          all_goals try (refine wp_region_later_lit (by kernel_rfl) (by kernel_rfl) ?_; (repeat (any_goals (first | go_big_quiet_step ((go_at_call 63; exact later_same (spec_in _ _ _ _))) | quiet_step ((go_at_call 63; exact later_same (spec_in _ _ _ _))) | (refine wpQuiet_step (fun K hK => ?_); go_simp; split <;> (refine hK _ ?_; clear hK K))))); all_goals (refine wpQuiet_nil ?_; rintro _ ⟨⟨w2, q2⟩, rfl⟩; try dsimp only); all_goals go_wp2_with fail)
          all_goals first
            | (go_ret
               refine ⟨ret_bool ?_, (by first | exact hq | exact hq.trans q2)⟩
               have hf : sigAt xs (m + 1) = false := by rw [HS.out]; unfold sigB; simp at *; omega
               unfold sigOk; rw [sigTo_no (by omega) hf]; simp)
            | (go_roundw
               case rel =>
                 refine ⟨(m + 1) + 1, by omega, by go_num, ?_, (by first | exact hq | exact hq.trans q2)⟩
                 rw [sigTo_succ, HT.out, HS.out]; unfold sigB; simp at *; omega
               case measure => simp [intOf]; omega)
      · obtain rfl : k = n := by omega
        go_wp2_with fail
        go_ret
        exact ⟨ret_bool (by unfold sigOk; rw [HT.out]; simp; omega), hq⟩
  · go_enter Tryd.func35, Tryd.ntmps35
    go_wp2_with fail
    go_ret
    exact ⟨ret_bool (by unfold sigOk; simp [h40]), Q.refl _⟩
theorem impl_IsSignals (A : Option Addr) (n c : Nat) (xs : List Int) (w : World) (ha : Rd w A xs) (hn : xs.length = n * 2) (hn2 : n ≤ 9223372036854775807) :
    Calls Tryd.prog 54 #[.slice A n c] w fun e w' => e = .returned (.bool (sigOk xs n)) ∧ Q w w' := by
  obtain ⟨b, o, hA, hc⟩ := ha
  have HN := Lib.hid hn
  rw [hn] at hA hc
  clear hn
  go_enter Tryd.func54, Tryd.ntmps54
  go_wp2_with fail
  go_loopw [7] (fun i wr => ∃ k : Nat, k ≤ n ∧ i = .int .i64 k ∧ sigTo xs k = true ∧ Q w wr) (fun i _ => n - (intOf i).toNat)
  case atStart => exact ⟨0, by omega, rfl, rfl, Q.refl _⟩
  case round =>
    obtain ⟨k, hk, rfl, ht, hq⟩ := hrel
    have HT := Lib.hid ht
    clear ht
    by_cases hlt : k < n
    · obtain rfl := hA (by omega)
      by_cases hk0 : k = 0
      · subst hk0
        obtain ⟨x0, hx0⟩ : ∃ x, x = xs.getD 0 0 := ⟨_, rfl⟩
        obtain ⟨x1, hx1⟩ : ∃ x, x = xs.getD 1 0 := ⟨_, rfl⟩
        have g0 := hq.cell (hc 0 (by omega))
        have g1 := hq.cell (hc 1 (by omega))
        rw [← hx0, Nat.add_zero] at g0
        rw [← hx1] at g1
        have HS : Hid (sigAt xs 0 = sigB x0 x1 none) := Lib.hid (by rw [hx0, hx1]; rfl)
        clear hx0 hx1 hc hA
        go_wp2_with fail
        have B0 := Blk.new wr 56 #[.int .i64 x0, .int .i64 x1]
        have l0 := later_cells B0.cell B0.lt
        refine wp_region_later_lit (by kernel_rfl) (by kernel_rfl) ?_
        repeat (any_goals (first | go_big_quiet_step ((first | (go_at_call 81; exact later_same (impl_in _ _ _ _)) | (go_at_call 85; exact later_same (impl_isTime _ _)))) | quiet_step ((first | (go_at_call 81; exact later_same (impl_in _ _ _ _)) | (go_at_call 85; exact later_same (impl_isTime _ _)))) | (refine wpQuiet_step (fun K hK => ?_); go_simp; split <;> (refine hK _ ?_; clear hK K))))
        all_goals (refine wpQuiet_nil ?_; rintro _ ⟨⟨w2, q2⟩, rfl⟩; try dsimp only)
        all_goals clear l0 B0
        all_goals go_wp2_with fail
        all_goals first
          | (go_ret
             refine ⟨ret_bool ?_, (by first | exact (hq.alloc _).trans q2 | exact (hq.alloc _))⟩
             have hf : sigAt xs 0 = false := by rw [HS.out]; unfold sigB; simp at *; omega
             unfold sigOk; rw [sigTo_no (by omega) hf]; simp)
          | (go_roundw
             case rel =>
               refine ⟨0 + 1, by omega, by go_num, ?_, (by first | exact (hq.alloc _).trans q2 | exact (hq.alloc _))⟩
               rw [sigTo_succ, HT.out, HS.out]; unfold sigB; simp at *; omega
             case measure => simp [intOf]; omega)
      · obtain ⟨m, rfl⟩ : ∃ m, k = m + 1 := ⟨k - 1, by omega⟩
        obtain ⟨x0, hx0⟩ : ∃ x, x = xs.getD ((m + 1) * 2) 0 := ⟨_, rfl⟩
        obtain ⟨x1, hx1⟩ : ∃ x, x = xs.getD ((m + 1) * 2 + 1) 0 := ⟨_, rfl⟩
        obtain ⟨x2, hx2⟩ : ∃ x, x = xs.getD (m * 2 + 1) 0 := ⟨_, rfl⟩
        have g0 := hq.cell (hc ((m + 1) * 2) (by omega))
        have g1 := hq.cell (hc ((m + 1) * 2 + 1) (by omega))
        have g2 := hq.cell (hc (m * 2 + 1) (by omega))
        rw [← hx0] at g0
        rw [← hx1, ← Nat.add_assoc] at g1
        rw [← hx2, ← Nat.add_assoc] at g2
        have HS : Hid (sigAt xs (m + 1) = sigB x0 x1 (some x2)) := Lib.hid (by rw [hx0, hx1, hx2]; rfl)
        clear hx0 hx1 hx2 hc hA hk0
        go_wp2_with fail
        have B0 := Blk.new wr 56 #[.int .i64 x0, .int .i64 x1]
        have l0 := later_cells B0.cell B0.lt
        have l2 := later_cell (((Q.refl wr).alloc (.cells #[.int .i64 x0, .int .i64 x1] 56)).cell g2)
        refine wp_region_later_lit (by kernel_rfl) (by kernel_rfl) ?_
        repeat (any_goals (first | go_big_quiet_step ((first | (go_at_call 81; exact later_same (impl_in _ _ _ _)) | (go_at_call 85; exact later_same (impl_isTime _ _)))) | quiet_step ((first | (go_at_call 81; exact later_same (impl_in _ _ _ _)) | (go_at_call 85; exact later_same (impl_isTime _ _)))) | (refine wpQuiet_step (fun K hK => ?_); go_simp; split <;> (refine hK _ ?_; clear hK K))))
        all_goals (refine wpQuiet_nil ?_; rintro _ ⟨⟨w2, q2⟩, rfl⟩; try dsimp only)
        all_goals clear l0 l2 B0
        all_goals go_wp2_with fail
        all_goals first
          | (go_ret
             refine ⟨ret_bool ?_, (by first | exact (hq.alloc _).trans q2 | exact (hq.alloc _))⟩
             have hf : sigAt xs (m + 1) = false := by rw [HS.out]; unfold sigB; simp at *; omega
             unfold sigOk; rw [sigTo_no (by omega) hf]; simp)
          | (go_roundw
             case rel =>
               refine ⟨(m + 1) + 1, by omega, by go_num, ?_, (by first | exact (hq.alloc _).trans q2 | exact (hq.alloc _))⟩
               rw [sigTo_succ, HT.out, HS.out]; unfold sigB; simp at *; omega
             case measure => simp [intOf]; omega)
    · obtain rfl : k = n := by omega
      go_wp2_with fail
      go_ret
      exact ⟨ret_bool (by unfold sigOk; rw [HT.out]; simp; omega), hq⟩
end Go.Proofs.YtgdjgjkijcmkfaaDoor
