/- Walks: the laws' own functions on Finish and slices of it (equal, mark, held, copy), for all arguments. No condition. -/
import Derived.Test.YtomgdgdcpgeilaaGreatDoorK
import Derived.Deep.Cut
namespace Go.Proofs.YtomgdgdcpgeilaaGreatDoor
open Go.RowKit Go.WideShapes Go.ChangeShapes
set_option maxHeartbeats 1000000 in
theorem eqFinish_any (a0 a1 a2 b0 b1 b2 : Int) (w : World) : Calls Tryz.prog 13 #[.agg #[.int .i64 a0, .int .i64 a1, .int .i64 a2], .agg #[.int .i64 b0, .int .i64 b1, .int .i64 b2]] w fun e w' => e = .returned (.bool (decide (a0 = b0 ∧ a1 = b1 ∧ a2 = b2))) ∧ Q w w' := by
  go_enter Tryz.func13, Tryz.ntmps13
  go_wp2_with fail
  all_goals go_ret
  all_goals refine ⟨ret_bool ?_, ((Q.refl _).alloc _).alloc _⟩
  all_goals simp_all
set_option maxHeartbeats 1000000 in
theorem eqFinishS_any (A B : Option Addr) (n m c d : Nat) (xs ys : List Int) (w : World) (ha : Rd w A xs) (hb : Rd w B ys) (hn : xs.length = n * 3) (hm : ys.length = m * 3) (hn2 : n ≤ 9223372036854775807) :
    Calls Tryz.prog 24 #[.slice A n c, .slice B m d] w fun e w' => e = .returned (.bool (decide (xs = ys))) ∧ Q w w' := by
  by_cases hne : n = m
  · subst hne
    obtain ⟨b1, o1, hA, hca⟩ := ha
    obtain ⟨b2, o2, hB, hcb⟩ := hb
    have H1 := Lib.hid hn
    have H2 := Lib.hid hm
    rw [hn] at hA hca
    rw [hm] at hB hcb
    clear hn hm
    go_enter Tryz.func24, Tryz.ntmps24
    go_wp2_with fail
    go_loopw [5] (fun i wr => ∃ k : Nat, k ≤ n ∧ i = .int .i64 k ∧ xs.take (k * 3) = ys.take (k * 3) ∧ Q w wr) (fun i _ => n - (intOf i).toNat)
    case atStart => exact ⟨0, by omega, rfl, by simp, Q.refl _⟩
    case round =>
      obtain ⟨k, hk, rfl, ht, hq⟩ := hrel
      have HT := Lib.hid ht
      clear ht
      by_cases hlt : k < n
      · obtain rfl := hA (by omega)
        obtain rfl := hB (by omega)
        obtain ⟨x0, hx0⟩ : ∃ x, x = xs.getD (k * 3) 0 := ⟨_, rfl⟩
        have g10 := later_cell (hq.cell (hca (k * 3) (by omega)))
        rw [← hx0] at g10
        obtain ⟨x1, hx1⟩ : ∃ x, x = xs.getD (k * 3 + 1) 0 := ⟨_, rfl⟩
        have g11 := later_cell (hq.cell (hca (k * 3 + 1) (by omega)))
        rw [← hx1, ← Nat.add_assoc] at g11
        obtain ⟨x2, hx2⟩ : ∃ x, x = xs.getD (k * 3 + 2) 0 := ⟨_, rfl⟩
        have g12 := later_cell (hq.cell (hca (k * 3 + 2) (by omega)))
        rw [← hx2, ← Nat.add_assoc] at g12
        obtain ⟨y0, hy0⟩ : ∃ x, x = ys.getD (k * 3) 0 := ⟨_, rfl⟩
        have g20 := later_cell (hq.cell (hcb (k * 3) (by omega)))
        rw [← hy0] at g20
        obtain ⟨y1, hy1⟩ : ∃ x, x = ys.getD (k * 3 + 1) 0 := ⟨_, rfl⟩
        have g21 := later_cell (hq.cell (hcb (k * 3 + 1) (by omega)))
        rw [← hy1, ← Nat.add_assoc] at g21
        obtain ⟨y2, hy2⟩ : ∃ x, x = ys.getD (k * 3 + 2) 0 := ⟨_, rfl⟩
        have g22 := later_cell (hq.cell (hcb (k * 3 + 2) (by omega)))
        rw [← hy2, ← Nat.add_assoc] at g22
        have Hx0 := Lib.hid hx0
        have Hx1 := Lib.hid hx1
        have Hx2 := Lib.hid hx2
        have Hy0 := Lib.hid hy0
        have Hy1 := Lib.hid hy1
        have Hy2 := Lib.hid hy2
        clear hx0 hx1 hx2 hy0 hy1 hy2 hca hcb hA hB
        by_cases hh : x0 = y0 ∧ x1 = y1 ∧ x2 = y2
        · have hd : decide (x0 = y0 ∧ x1 = y1 ∧ x2 = y2) = true := by simpa using hh
          have HH := Lib.hid hh
          clear hh
          go_wp2_with fail
          refine wp_region_later_lit (by kernel_rfl) (by kernel_rfl) ?_
          repeat (any_goals (first | go_big_quiet_step ((go_at_call 13; exact later_call (eqFinish_any _ _ _ _ _ _ _))) | quiet_step ((go_at_call 13; exact later_call (eqFinish_any _ _ _ _ _ _ _))) | (refine wpQuiet_step (fun K hK => ?_); go_simp; split <;> (refine hK _ ?_; clear hK K))))
          all_goals (refine wpQuiet_nil ?_; rintro _ ⟨⟨w2, q2⟩, rfl⟩; try dsimp only)
          all_goals go_wp2_with fail
          go_roundw
          case rel =>
            obtain ⟨hh0, hh1, hh2⟩ := HH.out
            have e0 := HT.out
            have e1 := take_eq_step (k := k * 3) (by rw [H1.out]; omega) (by rw [H2.out]; omega) e0 (by rw [← Hx0.out, ← Hy0.out]; exact hh0)
            have e2 := take_eq_step (k := k * 3 + 1) (by rw [H1.out]; omega) (by rw [H2.out]; omega) e1 (by rw [← Hx1.out, ← Hy1.out]; exact hh1)
            have e3 := take_eq_step (k := k * 3 + 2) (by rw [H1.out]; omega) (by rw [H2.out]; omega) e2 (by rw [← Hx2.out, ← Hy2.out]; exact hh2)
            exact ⟨k + 1, by omega, by go_num, by rw [show (k + 1) * 3 = k * 3 + 2 + 1 by omega]; exact e3, hq.trans q2⟩
          case measure => simp [intOf]; omega
        · have hx : xs ≠ ys := by
            intro e
            apply hh
            subst e
            exact ⟨Hx0.out.trans Hy0.out.symm, Hx1.out.trans Hy1.out.symm, Hx2.out.trans Hy2.out.symm⟩
          have hd : decide (x0 = y0 ∧ x1 = y1 ∧ x2 = y2) = false := by simpa using hh
          clear hh
          go_wp2_with fail
          refine wp_region_later_lit (by kernel_rfl) (by kernel_rfl) ?_
          repeat (any_goals (first | go_big_quiet_step ((go_at_call 13; exact later_call (eqFinish_any _ _ _ _ _ _ _))) | quiet_step ((go_at_call 13; exact later_call (eqFinish_any _ _ _ _ _ _ _))) | (refine wpQuiet_step (fun K hK => ?_); go_simp; split <;> (refine hK _ ?_; clear hK K))))
          all_goals (refine wpQuiet_nil ?_; rintro _ ⟨⟨w2, q2⟩, rfl⟩; try dsimp only)
          all_goals go_wp2_with fail
          go_ret
          exact ⟨ret_bool (by simp [hx]), hq.trans q2⟩
      · obtain rfl : k = n := by omega
        go_wp2_with fail
        go_ret
        exact ⟨ret_bool (by have := HT.out; rw [List.take_of_length_le (by rw [H1.out]; omega), List.take_of_length_le (by rw [H2.out]; omega)] at this; simp [this]), hq⟩
  · go_enter Tryz.func24, Tryz.ntmps24
    go_wp2_with fail
    go_ret
    exact ⟨ret_bool (by have : xs ≠ ys := fun e => hne (by rw [e, hm] at hn; omega); simp [this]), Q.refl _⟩
set_option maxHeartbeats 1000000 in
theorem eqFinishS_same (A B : Option Addr) (n c d : Nat) (xs : List Int) (w : World) (ha : Rd w A xs) (hb : Rd w B xs) (hn : xs.length = n * 3) (hn2 : n ≤ 9223372036854775807) :
    Calls Tryz.prog 24 #[.slice A n c, .slice B n d] w fun e w' => e = .returned (.bool true) ∧ Q w w' :=
  (eqFinishS_any A B n n c d xs xs w ha hb hn hn hn2).mono fun _ _ h => ⟨by rw [h.1]; simp, h.2⟩
set_option maxHeartbeats 1000000 in
theorem heldFinishS_any (A : Option Addr) (n c : Nat) (q : Int) (w : World) (ha : Rd w A (seqI q (n * 3))) (hq0 : 0 ≤ q) (hn : q + n * 3 ≤ 1152921504606846976) :
    Calls Tryz.prog 29 #[.slice A n c, .int .i64 q] w fun e w' => e = .returned (.int .i64 (q + n * 3)) ∧ Q w w' := by
  obtain ⟨b, o, hA, hc⟩ := ha
  rw [seqI_len] at hA hc
  go_enter Tryz.func29, Tryz.ntmps29
  go_wp2_with fail
  go_loopw [1, 5] (fun q' i wr => ∃ k : Nat, k ≤ n ∧ i = .int .i64 k ∧ q' = .int .i64 (q + k * 3) ∧ Q w wr) (fun _ i _ => n - (intOf i).toNat)
  case atStart => exact ⟨0, by omega, rfl, by simp, Q.refl _⟩
  case round =>
    obtain ⟨k, hk, rfl, rfl, hq⟩ := hrel
    by_cases hlt : k < n
    · obtain rfl := hA (by omega)
      have g0 := hq.cell (hc (k * 3) (by omega))
      rw [seqI_get q (show k * 3 < n * 3 by omega)] at g0
      rw [show q + ((k * 3 : Nat) : Int) = q + (k : Int) * 3 by omega] at g0
      have g1 := hq.cell (hc (k * 3 + 1) (by omega))
      rw [seqI_get q (show k * 3 + 1 < n * 3 by omega), ← Nat.add_assoc] at g1
      rw [show q + ((k * 3 + 1 : Nat) : Int) = q + (k : Int) * 3 + 1 by omega] at g1
      have g2 := hq.cell (hc (k * 3 + 2) (by omega))
      rw [seqI_get q (show k * 3 + 2 < n * 3 by omega), ← Nat.add_assoc] at g2
      rw [show q + ((k * 3 + 2 : Nat) : Int) = q + (k : Int) * 3 + 2 by omega] at g2
      clear hc hA
      go_wp2_with fail
      go_roundw
      case rel => exact ⟨k + 1, by omega, by go_num, by go_num, hq⟩
      case measure => simp [intOf]; omega
    · obtain rfl : k = n := by omega
      go_wp2_with fail
      go_ret
      exact ⟨rfl, hq⟩
set_option maxHeartbeats 1000000 in
theorem markFinishS_any (A : Option Addr) (n c B : Nat) (xs : List Int) (q : Int) (w : World) (ho : Own w B 35 3 (.slice A n c) n xs) (hq0 : 0 ≤ q) (hn : q + n * 3 ≤ 1152921504606846976) :
    Calls Tryz.prog 28 #[.slice A n c, .int .i64 q] w fun e w' => e = .returned (.int .i64 (q + n * 3)) ∧ Own w' B 35 3 (.slice A n c) n (seqI q (n * 3)) ∧ w.grownBy w' (A.map (·.block)) := by
  go_enter Tryz.func28, Tryz.ntmps28
  have hl : xs.length = n * 3 := by simpa using ho.1
  have HL := Lib.hid hl
  clear hl
  go_wp2_with fail
  go_loopw [1, 5] (fun q' i wr => ∃ k : Nat, k ≤ n ∧ i = .int .i64 k ∧ q' = .int .i64 (q + k * 3) ∧ Own wr B 35 3 (.slice A n c) n (seqI q (k * 3) ++ xs.drop (k * 3)) ∧ w.grownBy wr (A.map (·.block))) (fun _ i _ => n - (intOf i).toNat)
  case atStart => exact ⟨0, by omega, rfl, by simp, by simpa [seqI] using ho, grown_refl _ _⟩
  case round =>
    obtain ⟨k, hk, rfl, rfl, hown, hg⟩ := hrel
    by_cases hlt : k < n
    · obtain ⟨g, rfl, hB⟩ := hown.split (by omega)
      obtain ⟨y0, h0⟩ : ∃ y, wr.cell? ⟨g, k * 3, none⟩ = some (.int .i64 y) := ⟨_, hown.cell (j := k * 3) (by omega)⟩
      have f0 := hown.frozen (k * 3)
      go_upto_region 6 with (fail)
      have hown1 := hown.stored (k * 3) (q + (k : Int) * 3)
      have hg1 := grown_set hg (k * 3) (.int .i64 (q + (k : Int) * 3))
      have e1 := seq_set (q := q) (k := k * 3) (xs := xs) (by rw [HL.out]; omega)
      rw [show q + ((k * 3 : Nat) : Int) = q + (k : Int) * 3 by omega] at e1
      rw [e1] at hown1
      clear e1 h0 f0
      generalize wr.setCell ⟨g, k * 3, none⟩ (.int .i64 (q + (k : Int) * 3)) = w1 at *
      obtain ⟨y1, h1⟩ : ∃ y, w1.cell? ⟨g, k * 3 + 1, none⟩ = some (.int .i64 y) := ⟨_, hown1.cell (j := k * 3 + 1) (by omega)⟩
      have f1 := hown1.frozen (k * 3 + 1)
      go_upto_region 8 with (fail)
      have hown2 := hown1.stored (k * 3 + 1) (q + (k : Int) * 3 + 1)
      have hg2 := grown_set hg1 (k * 3 + 1) (.int .i64 (q + (k : Int) * 3 + 1))
      have e2 := seq_set (q := q) (k := k * 3 + 1) (xs := xs) (by rw [HL.out]; omega)
      rw [show q + ((k * 3 + 1 : Nat) : Int) = q + (k : Int) * 3 + 1 by omega] at e2
      rw [e2] at hown2
      clear e2 h1 f1
      generalize w1.setCell ⟨g, k * 3 + 1, none⟩ (.int .i64 (q + (k : Int) * 3 + 1)) = w2 at *
      obtain ⟨y2, h2⟩ : ∃ y, w2.cell? ⟨g, k * 3 + 2, none⟩ = some (.int .i64 y) := ⟨_, hown2.cell (j := k * 3 + 2) (by omega)⟩
      have f2 := hown2.frozen (k * 3 + 2)
      go_wp2_with fail
      have hown3 := hown2.stored (k * 3 + 2) (q + (k : Int) * 3 + 1 + 1)
      have hg3 := grown_set hg2 (k * 3 + 2) (.int .i64 (q + (k : Int) * 3 + 1 + 1))
      have e3 := seq_set (q := q) (k := k * 3 + 2) (xs := xs) (by rw [HL.out]; omega)
      rw [show q + ((k * 3 + 2 : Nat) : Int) = q + (k : Int) * 3 + 1 + 1 by omega] at e3
      rw [e3] at hown3
      clear e3 h2 f2
      go_roundw
      case rel => exact ⟨k + 1, by omega, by go_num, by go_num, by rw [show (k + 1) * 3 = k * 3 + 2 + 1 by omega]; exact hown3, hg3⟩
      case measure => simp [intOf]; omega
    · obtain rfl : k = n := by omega
      go_wp2_with fail
      go_ret
      exact ⟨rfl, by rw [seq_done HL.out] at hown; exact hown, hg⟩
theorem infoFinish : (Tryz.prog.info? 35).map (fun i => (i.zero, i.size, i.bytes)) = some (some (.agg #[.int .i64 0, .int .i64 0, .int .i64 0]), 3, 24) := by kernel_rfl
end Go.Proofs.YtomgdgdcpgeilaaGreatDoor
