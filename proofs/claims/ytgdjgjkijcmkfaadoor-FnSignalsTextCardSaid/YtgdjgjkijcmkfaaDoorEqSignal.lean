/- Walks: the laws' own functions on Signal and slices of it (equal, mark, held, copy), for all arguments. No condition. -/
import Derived.Test.YtgdjgjkijcmkfaaDoorEq
namespace Go.Proofs.YtgdjgjkijcmkfaaDoor
open Go.RowKit Go.WideShapes Go.ChangeShapes
theorem eqSignal_any (a0 a1 b0 b1 : Int) (w : World) : Calls Tryd.prog 58 #[.agg #[.int .i64 a0, .int .i64 a1], .agg #[.int .i64 b0, .int .i64 b1]] w fun e w' => e = .returned (.bool (decide (a0 = b0 ∧ a1 = b1))) ∧ Q w w' := by
  go_enter Tryd.func58, Tryd.ntmps58
  go_wp2_with fail
  all_goals go_ret
  all_goals refine ⟨ret_bool ?_, ((Q.refl _).alloc _).alloc _⟩
  all_goals simp_all
theorem eqSignalS_any (A B : Option Addr) (n m c d : Nat) (xs ys : List Int) (w : World) (ha : Rd w A xs) (hb : Rd w B ys) (hn : xs.length = n * 2) (hm : ys.length = m * 2) (hn2 : n ≤ 9223372036854775807) :
    Calls Tryd.prog 19 #[.slice A n c, .slice B m d] w fun e w' => e = .returned (.bool (decide (xs = ys))) ∧ Q w w' := by
  by_cases hne : n = m
  · subst hne
    obtain ⟨b1, o1, hA, hca⟩ := ha
    obtain ⟨b2, o2, hB, hcb⟩ := hb
    have H1 := Lib.hid hn
    have H2 := Lib.hid hm
    rw [hn] at hA hca
    rw [hm] at hB hcb
    clear hn hm
    go_enter Tryd.func19, Tryd.ntmps19
    go_wp2_with fail
    go_loopw [5] (fun i wr => ∃ k : Nat, k ≤ n ∧ i = .int .i64 k ∧ xs.take (k * 2) = ys.take (k * 2) ∧ Q w wr) (fun i _ => n - (intOf i).toNat)
    case atStart => exact ⟨0, by omega, rfl, by simp, Q.refl _⟩
    case round =>
      obtain ⟨k, hk, rfl, ht, hq⟩ := hrel
      have HT := Lib.hid ht
      clear ht
      by_cases hlt : k < n
      · obtain rfl := hA (by omega)
        obtain rfl := hB (by omega)
        obtain ⟨x0, hx0⟩ : ∃ x, x = xs.getD (k * 2) 0 := ⟨_, rfl⟩
        have g10 := later_cell (hq.cell (hca (k * 2) (by omega)))
        rw [← hx0] at g10
        obtain ⟨x1, hx1⟩ : ∃ x, x = xs.getD (k * 2 + 1) 0 := ⟨_, rfl⟩
        have g11 := later_cell (hq.cell (hca (k * 2 + 1) (by omega)))
        rw [← hx1, ← Nat.add_assoc] at g11
        obtain ⟨y0, hy0⟩ : ∃ x, x = ys.getD (k * 2) 0 := ⟨_, rfl⟩
        have g20 := later_cell (hq.cell (hcb (k * 2) (by omega)))
        rw [← hy0] at g20
        obtain ⟨y1, hy1⟩ : ∃ x, x = ys.getD (k * 2 + 1) 0 := ⟨_, rfl⟩
        have g21 := later_cell (hq.cell (hcb (k * 2 + 1) (by omega)))
        rw [← hy1, ← Nat.add_assoc] at g21
        have Hx0 := Lib.hid hx0
        have Hx1 := Lib.hid hx1
        have Hy0 := Lib.hid hy0
        have Hy1 := Lib.hid hy1
        clear hx0 hx1 hy0 hy1 hca hcb hA hB
        by_cases hh : x0 = y0 ∧ x1 = y1
        · have hd : decide (x0 = y0 ∧ x1 = y1) = true := by simpa using hh
          have HH := Lib.hid hh
          clear hh
          go_wp2_with fail
          refine wp_region_later_lit (by kernel_rfl) (by kernel_rfl) ?_
          repeat (any_goals (first | go_big_quiet_step ((go_at_call 58; exact later_call (eqSignal_any _ _ _ _ _))) | quiet_step ((go_at_call 58; exact later_call (eqSignal_any _ _ _ _ _))) | (refine wpQuiet_step (fun K hK => ?_); go_simp; split <;> (refine hK _ ?_; clear hK K))))
          all_goals (refine wpQuiet_nil ?_; rintro _ ⟨⟨w2, q2⟩, rfl⟩; try dsimp only)
          all_goals go_wp2_with fail
          go_roundw
          case rel =>
            obtain ⟨hh0, hh1⟩ := HH.out
            have e0 := HT.out
            have e1 := take_eq_step (k := k * 2) (by rw [H1.out]; omega) (by rw [H2.out]; omega) e0 (by rw [← Hx0.out, ← Hy0.out]; exact hh0)
            have e2 := take_eq_step (k := k * 2 + 1) (by rw [H1.out]; omega) (by rw [H2.out]; omega) e1 (by rw [← Hx1.out, ← Hy1.out]; exact hh1)
            exact ⟨k + 1, by omega, by go_num, by rw [show (k + 1) * 2 = k * 2 + 1 + 1 by omega]; exact e2, hq.trans q2⟩
          case measure => simp [intOf]; omega
        · have hx : xs ≠ ys := by
            intro e
            apply hh
            subst e
            exact ⟨Hx0.out.trans Hy0.out.symm, Hx1.out.trans Hy1.out.symm⟩
          have hd : decide (x0 = y0 ∧ x1 = y1) = false := by simpa using hh
          clear hh
          go_wp2_with fail
          refine wp_region_later_lit (by kernel_rfl) (by kernel_rfl) ?_
          repeat (any_goals (first | go_big_quiet_step ((go_at_call 58; exact later_call (eqSignal_any _ _ _ _ _))) | quiet_step ((go_at_call 58; exact later_call (eqSignal_any _ _ _ _ _))) | (refine wpQuiet_step (fun K hK => ?_); go_simp; split <;> (refine hK _ ?_; clear hK K))))
          all_goals (refine wpQuiet_nil ?_; rintro _ ⟨⟨w2, q2⟩, rfl⟩; try dsimp only)
          all_goals go_wp2_with fail
          go_ret
          exact ⟨ret_bool (by simp [hx]), hq.trans q2⟩
      · obtain rfl : k = n := by omega
        go_wp2_with fail
        go_ret
        exact ⟨ret_bool (by have := HT.out; rw [List.take_of_length_le (by rw [H1.out]; omega), List.take_of_length_le (by rw [H2.out]; omega)] at this; simp [this]), hq⟩
  · go_enter Tryd.func19, Tryd.ntmps19
    go_wp2_with fail
    go_ret
    exact ⟨ret_bool (by have : xs ≠ ys := fun e => hne (by rw [e, hm] at hn; omega); simp [this]), Q.refl _⟩
theorem eqSignalS_same (A B : Option Addr) (n c d : Nat) (xs : List Int) (w : World) (ha : Rd w A xs) (hb : Rd w B xs) (hn : xs.length = n * 2) (hn2 : n ≤ 9223372036854775807) :
    Calls Tryd.prog 19 #[.slice A n c, .slice B n d] w fun e w' => e = .returned (.bool true) ∧ Q w w' :=
  (eqSignalS_any A B n n c d xs xs w ha hb hn hn hn2).mono fun _ _ h => ⟨by rw [h.1]; simp, h.2⟩
theorem heldSignalS_any (A : Option Addr) (n c : Nat) (q : Int) (w : World) (ha : Rd w A (seqI q (n * 2))) (hq0 : 0 ≤ q) (hn : q + n * 2 ≤ 1152921504606846976) :
    Calls Tryd.prog 32 #[.slice A n c, .int .i64 q] w fun e w' => e = .returned (.int .i64 (q + n * 2)) ∧ Q w w' := by
  obtain ⟨b, o, hA, hc⟩ := ha
  rw [seqI_len] at hA hc
  go_enter Tryd.func32, Tryd.ntmps32
  go_wp2_with fail
  go_loopw [1, 5] (fun q' i wr => ∃ k : Nat, k ≤ n ∧ i = .int .i64 k ∧ q' = .int .i64 (q + k * 2) ∧ Q w wr) (fun _ i _ => n - (intOf i).toNat)
  case atStart => exact ⟨0, by omega, rfl, by simp, Q.refl _⟩
  case round =>
    obtain ⟨k, hk, rfl, rfl, hq⟩ := hrel
    by_cases hlt : k < n
    · obtain rfl := hA (by omega)
      have g0 := hq.cell (hc (k * 2) (by omega))
      rw [seqI_get q (show k * 2 < n * 2 by omega)] at g0
      rw [show q + ((k * 2 : Nat) : Int) = q + (k : Int) * 2 by omega] at g0
      have g1 := hq.cell (hc (k * 2 + 1) (by omega))
      rw [seqI_get q (show k * 2 + 1 < n * 2 by omega), ← Nat.add_assoc] at g1
      rw [show q + ((k * 2 + 1 : Nat) : Int) = q + (k : Int) * 2 + 1 by omega] at g1
      clear hc hA
      go_wp2_with fail
      go_roundw
      case rel => exact ⟨k + 1, by omega, by go_num, by go_num, hq⟩
      case measure => simp [intOf]; omega
    · obtain rfl : k = n := by omega
      go_wp2_with fail
      go_ret
      exact ⟨rfl, hq⟩
theorem markSignalS_any (A : Option Addr) (n c B : Nat) (xs : List Int) (q : Int) (w : World) (ho : Own w B 56 2 (.slice A n c) n xs) (hq0 : 0 ≤ q) (hn : q + n * 2 ≤ 1152921504606846976) :
    Calls Tryd.prog 31 #[.slice A n c, .int .i64 q] w fun e w' => e = .returned (.int .i64 (q + n * 2)) ∧ Own w' B 56 2 (.slice A n c) n (seqI q (n * 2)) ∧ w.grownBy w' (A.map (·.block)) := by
  go_enter Tryd.func31, Tryd.ntmps31
  have hl : xs.length = n * 2 := by simpa using ho.1
  have HL := Lib.hid hl
  clear hl
  go_wp2_with fail
  go_loopw [1, 5] (fun q' i wr => ∃ k : Nat, k ≤ n ∧ i = .int .i64 k ∧ q' = .int .i64 (q + k * 2) ∧ Own wr B 56 2 (.slice A n c) n (seqI q (k * 2) ++ xs.drop (k * 2)) ∧ w.grownBy wr (A.map (·.block))) (fun _ i _ => n - (intOf i).toNat)
  case atStart => exact ⟨0, by omega, rfl, by simp, by simpa [seqI] using ho, grown_refl _ _⟩
  case round =>
    obtain ⟨k, hk, rfl, rfl, hown, hg⟩ := hrel
    by_cases hlt : k < n
    · obtain ⟨g, rfl, hB⟩ := hown.split (by omega)
      have h0 := hown.cell (j := k * 2) (by omega)
      have f0 := hown.frozen (k * 2)
      have p1 := hown.stored (k * 2) (q + ((k * 2 : Nat) : Int))
      rw [seq_set (by rw [HL.out]; omega), show q + ((k * 2 : Nat) : Int) = q + (k : Int) * 2 by omega] at p1
      have h1 := p1.cell (j := k * 2 + 1) (by omega)
      have f1 := p1.frozen (k * 2 + 1)
      have p2 := p1.stored (k * 2 + 1) (q + ((k * 2 + 1 : Nat) : Int))
      rw [seq_set (by rw [HL.out]; omega), show q + ((k * 2 + 1 : Nat) : Int) = q + (k : Int) * 2 + 1 by omega] at p2
      go_wp2_with fail
      go_roundw
      case rel => exact ⟨k + 1, by omega, by go_num, by go_num, by rw [show (k + 1) * 2 = k * 2 + 1 + 1 by omega]; exact p2, grown_set (grown_set (hg) _ _) _ _⟩
      case measure => simp [intOf]; omega
    · obtain rfl : k = n := by omega
      go_wp2_with fail
      go_ret
      exact ⟨rfl, by rw [seq_done HL.out] at hown; exact hown, hg⟩
theorem toSignal_any (a0 a1 : Int) (w : World) : Calls Tryd.prog 53 #[.agg #[.int .i64 a0, .int .i64 a1]] w fun r w' => r = .returned (.agg #[.int .i64 a0, .int .i64 a1]) ∧ Q w w' := by
  go_enter Tryd.func53, Tryd.ntmps53
  go_wp2
  exact bodyPost_ret (v := .agg #[.int .i64 a0, .int .i64 a1]) (by simp [results, Tryd.results53, go_sem]) rfl ⟨rfl, (((Q.refl _).alloc _).alloc _).alloc _⟩
theorem infoSignal : (Tryd.prog.info? 56).map (fun i => (i.zero, i.size, i.bytes)) = some (some (.agg #[.int .i64 0, .int .i64 0]), 2, 16) := by kernel_rfl
theorem toSignalS_any (A : Option Addr) (n c : Nat) (xs : List Int) (w : World) (ha : Rd w A xs) (hn : xs.length = n * 2) (hn2 : n ≤ 1048576) :
    Calls Tryd.prog 17 #[.slice A n c] w fun e w' => ∃ A' c', e = .returned (.slice A' n c') ∧ Own w' w.heap.size 56 2 (.slice A' n c') n xs ∧ Q w w' := by
  obtain ⟨i0, hi, hz0, hz1, hz2⟩ := info_parts infoSignal
  go_enter Tryd.func17, Tryd.ntmps17
  go_wp2_with (at_make; refine wpList_make_full _ rfl _ _ 25 rfl w.heap.size 56 i0 (.agg #[.int .i64 0, .int .i64 0]) 2 Tryd.underlying25 hi hz0 hz1 .i64 .i64 n n n rfl rfl rfl rfl (by rw [hz2]; omega) (by unfold maxLen; omega) (Nat.le_refl _) ?_; intro w1 hown hgrow)
  rw [show (madeCells (Value.agg #[.int .i64 0, .int .i64 0]).cells (n * 2)).toList = _ from made_ints (k := 2) rfl (by decide) _] at hown
  have hown : Own w1 w.heap.size 56 2 (.slice (some ⟨w.heap.size, 0, none⟩) n n) n (List.replicate (n * 2) 0) := hown
  have hq0 : Q w w1 := (Q.refl w).grown hgrow (by simp)
  have hzl : (List.replicate (n * 2) (0 : Int)).length = n * 2 := by simp
  obtain ⟨zs, hzs⟩ : ∃ zs, zs = List.replicate (n * 2) (0 : Int) := ⟨_, rfl⟩
  rw [← hzs] at hown hzl
  obtain ⟨b, o, hA, hc⟩ := ha
  have HN := Lib.hid hn
  have HZ := Lib.hid hzl
  rw [hn] at hA hc
  clear hzs hgrow hn hzl hi hz0 hz1 hz2
  go_loopw [4] (fun i wr => ∃ k : Nat, k ≤ n ∧ i = .int .i64 k ∧ Own wr w.heap.size 56 2 (.slice (some ⟨w.heap.size, 0, none⟩) n n) n (xs.take (k * 2) ++ zs.drop (k * 2)) ∧ Q w wr) (fun i _ => n - (intOf i).toNat)
  case atStart => exact ⟨0, by omega, rfl, by simpa using hown, hq0⟩
  case round =>
    clear hown hq0
    obtain ⟨k, hk, rfl, hown, hq⟩ := hrel
    by_cases hlt : k < n
    · obtain rfl := hA (by omega)
      obtain ⟨x0, hx0⟩ : ∃ x, x = xs.getD (k * 2) 0 := ⟨_, rfl⟩
      have g0 := hq.cell (hc (k * 2) (by omega))
      rw [← hx0] at g0
      have Hx0 := Lib.hid hx0
      obtain ⟨x1, hx1⟩ : ∃ x, x = xs.getD (k * 2 + 1) 0 := ⟨_, rfl⟩
      have g1 := hq.cell (hc (k * 2 + 1) (by omega))
      rw [← hx1, ← Nat.add_assoc] at g1
      have Hx1 := Lib.hid hx1
      clear hx0 hx1 hc hA
      go_wp2_with fail
      refine (toSignal_any _ _ _).mono ?_
      rintro e w2 ⟨rfl, q2⟩
      have own2 := hown.q q2
      have c0 := own2.cell (j := k * 2) (by omega)
      have f0 := own2.frozen (k * 2)
      have c1 := own2.cell (j := k * 2 + 1) (by omega)
      have f1 := own2.frozen (k * 2 + 1)
      go_wp2_with fail
      have p1 := own2.stored (k * 2) x0
      rw [Hx0.out, take_set (by rw [HN.out]; omega) (by rw [HN.out, HZ.out]), ← Hx0.out] at p1
      have p2 := p1.stored (k * 2 + 1) x1
      rw [Hx1.out, take_set (by rw [HN.out]; omega) (by rw [HN.out, HZ.out]), ← Hx1.out] at p2
      go_roundw
      case rel => exact ⟨k + 1, by omega, by go_num, by rw [show (k + 1) * 2 = k * 2 + 1 + 1 by omega]; exact p2, (((hq.trans q2).own_set own2 (Nat.le_refl _) _ _).own_set p1 (Nat.le_refl _) _ _)⟩
      case measure => simp [intOf]; omega
    · obtain rfl : k = n := by omega
      rw [take_done HN.out HZ.out] at hown
      go_wp2_with fail
      go_ret
      exact ⟨_, _, rfl, hown, hq⟩
theorem szSignalS_any (A : Option Addr) (n c : Nat) (l : Int) (w : World) (h0 : 0 ≤ l) (h1 : l ≤ 1048576) (hn : n ≤ 9223372036854775807) : Calls Tryd.prog 15 #[.slice A n c, .int .i64 l] w fun r w' => r = .returned (.int .i64 (if (n : Int) ≤ l then l - n else -1)) ∧ w = w' := by
  by_cases h : (n : Int) ≤ l
  · rw [if_pos h]
    go_enter Tryd.func15, Tryd.ntmps15
    go_wp2
    go_ret
    exact ⟨rfl, rfl⟩
  · rw [if_neg h]
    go_enter Tryd.func15, Tryd.ntmps15
    go_wp2
    go_ret
    exact ⟨rfl, rfl⟩
end Go.Proofs.YtgdjgjkijcmkfaaDoor
