/- Walks: the actions of a state of a protest, as the program and the reference return them, for every state. No condition. -/
import Derived.Test.YthlfadkpeogajaaEq
import Derived.Test.YthlfadkpeogajaaTg
namespace Go.Proofs.Ythlfadkpeogajaa
open Go.RowKit Go.WideShapes Go.ChangeShapes
/-- The actions below k (from 1) that lead somewhere. -/
def actTo (s : Int) (k : Nat) : List Int := ((List.range k).filter fun (i : Nat) => decide (0 < nextSt s ((i : Int) + 1))).map fun (i : Nat) => (i : Int) + 1
def actL (s : Int) : List Int := if 1 ≤ s ∧ s ≤ 7 then actTo s 8 else []
theorem actTo_yes {s : Int} {k : Nat} (h : 0 < nextSt s ((k : Int) + 1)) : actTo s (k + 1) = actTo s k ++ [(k : Int) + 1] := by
  unfold actTo
  rw [List.range_succ, List.filter_append, List.map_append, List.filter_cons, if_pos (by simpa using h)]
  rfl
theorem actTo_no {s : Int} {k : Nat} (h : ¬ 0 < nextSt s ((k : Int) + 1)) : actTo s (k + 1) = actTo s k := by
  unfold actTo
  rw [List.range_succ, List.filter_append, List.map_append, List.filter_cons, if_neg (by simpa using h)]
  simp
theorem actTo_len (s : Int) (k : Nat) : (actTo s k).length ≤ k := by
  unfold actTo
  rw [List.length_map]
  exact Nat.le_trans (List.length_filter_le _ _) (by simp)
def RA (s : Int) (w : World) (e : Ending) (w' : World) : Prop := ∃ A c, e = .returned (.slice A (actL s).length c) ∧ Own w' w.heap.size 2 1 (.slice A (actL s).length c) (actL s).length (actL s) ∧ Q w w'
set_option maxHeartbeats 1000000 in
theorem impl_ActionsOf (s : Int) (w : World) : Calls Try.prog 26 #[.int .i64 s] w (RA s w) := by
  obtain ⟨i0, hi, hz0, hz1, hz2⟩ := info_parts infoInt64
  by_cases hs : 1 ≤ s ∧ s ≤ 7
  · have HA := Lib.hid (show actL s = actTo s 8 by simp [actL, hs])
    have HI := Lib.hid (And.intro hi (And.intro hz0 (And.intro hz1 hz2)))
    clear hi hz0 hz1 hz2
    go_enter Try.func26, Try.ntmps26
    go_wp2_with fail
    go_loopw [3, 4] (fun v i wr => ∃ (k : Nat) (A : Option Addr) (c : Nat), k ≤ 8 ∧ i = .int .i64 ((k : Int) + 1) ∧ v = .slice A (actTo s k).length c ∧ Own wr w.heap.size 2 1 (.slice A (actTo s k).length c) (actTo s k).length (actTo s k) ∧ Q w wr) (fun _ i _ => 9 - (intOf i).toNat)
    case atStart => exact ⟨0, none, 0, by omega, rfl, rfl, ⟨by simp [actTo], .inl ⟨rfl, rfl⟩⟩, Q.refl _⟩
    case round =>
      obtain ⟨k, A, c, hk, rfl, rfl, hown, hq⟩ := hrel
      have hlen := actTo_len s k
      obtain ⟨n, hn⟩ : ∃ n, n = (actTo s k).length := ⟨_, rfl⟩
      rw [← hn] at hown hlen ⊢
      have HN := Lib.hid hn
      clear hn
      by_cases hlt : k < 8
      · by_cases hpos : 0 < nextSt s ((k : Int) + 1)
        · go_wp2_with (first | (go_at_call 67; refine (impl_isState _ _).mono ?_; rintro e w' ⟨rfl, rfl⟩) | (go_at_call 68; refine (impl_stateAfter _ _ _ (by omega) (by omega)).mono ?_; rintro e w' ⟨rfl, rfl⟩) | (at_builtin; refine wpList_append_one _ rfl _ _ 35 rfl w.heap.size 2 i0 (.int .i64 0) 1 8 Try.underlying35 HI.out.1 HI.out.2.1 HI.out.2.2.1 HI.out.2.2.2 rfl (by decide) (by decide) A n c (actTo s k) [(k : Int) + 1] rfl hown rfl rfl _ _ rfl (by omega) hq.size ?_; intro A' c' w' hown' hg'))
          have e1 : n + 1 = (actTo s (k + 1)).length := by rw [HN.out, actTo_yes hpos]; simp
          go_roundw
          case rel =>
            refine ⟨k + 1, A', c', by omega, by go_num, by rw [← e1], ?_, hq.mark hown (Nat.le_refl _) hg'⟩
            rw [← e1, actTo_yes hpos]
            exact hown'
          case measure => simp [intOf]; omega
        · go_wp2_with (first | (go_at_call 67; refine (impl_isState _ _).mono ?_; rintro e w' ⟨rfl, rfl⟩) | (go_at_call 68; refine (impl_stateAfter _ _ _ (by omega) (by omega)).mono ?_; rintro e w' ⟨rfl, rfl⟩))
          go_roundw
          case rel => exact ⟨k + 1, A, c, by omega, by go_num, by rw [actTo_no (s := s) (k := k) (by omega), ← HN.out], by rw [actTo_no (s := s) (k := k) (by omega), ← HN.out]; exact hown, hq⟩
          case measure => simp [intOf]; omega
      · obtain rfl : k = 8 := by omega
        go_wp2_with (go_at_call 67; refine (impl_isState _ _).mono ?_; rintro e w' ⟨rfl, rfl⟩)
        go_ret
        exact ⟨A, c, by rw [HA.out, ← HN.out]; rfl, by rw [HA.out, ← HN.out]; exact hown, hq⟩
  · have HA := Lib.hid (show actL s = [] by simp [actL, hs])
    clear hi hz0 hz1 hz2
    go_enter Try.func26, Try.ntmps26
    go_wp2_with fail
    refine wp_loop_rounds 1 ?_
    rw [rounds_succ]
    go_wp2_with (go_at_call 67; refine (impl_isState _ _).mono ?_; rintro e w' ⟨rfl, rfl⟩)
    go_ret
    exact ⟨none, 0, by rw [HA.out]; rfl, by rw [HA.out]; exact ⟨by simp, .inl ⟨rfl, rfl⟩⟩, Q.refl _⟩
set_option maxHeartbeats 1000000 in
theorem spec_ActionsOf (s : Int) (w : World) : Calls Try.prog 29 #[.int .i64 s] w (RA s w) := by
  obtain ⟨i0, hi, hz0, hz1, hz2⟩ := info_parts infoInt64
  by_cases hs : 1 ≤ s ∧ s ≤ 7
  · have HA := Lib.hid (show actL s = actTo s 8 by simp [actL, hs])
    have HI := Lib.hid (And.intro hi (And.intro hz0 (And.intro hz1 hz2)))
    clear hi hz0 hz1 hz2
    go_enter Try.func29, Try.ntmps29
    go_wp2_with fail
    go_loopw [3, 4] (fun v i wr => ∃ (k : Nat) (A : Option Addr) (c : Nat), k ≤ 8 ∧ i = .int .i64 ((k : Int) + 1) ∧ v = .slice A (actTo s k).length c ∧ Own wr w.heap.size 2 1 (.slice A (actTo s k).length c) (actTo s k).length (actTo s k) ∧ Q w wr) (fun _ i _ => 9 - (intOf i).toNat)
    case atStart => exact ⟨0, _, _, by omega, rfl, rfl, Own.lit w _ _ _ [] rfl (Nat.le_refl _) rfl (show (0 : Nat) ≤ maxLen from Nat.zero_le _), (Q.refl _).alloc _⟩
    case round =>
      obtain ⟨k, A, c, hk, rfl, rfl, hown, hq⟩ := hrel
      have hlen := actTo_len s k
      obtain ⟨n, hn⟩ : ∃ n, n = (actTo s k).length := ⟨_, rfl⟩
      rw [← hn] at hown hlen ⊢
      have HN := Lib.hid hn
      clear hn
      by_cases hlt : k < 8
      · by_cases hpos : 0 < nextSt s ((k : Int) + 1)
        · go_wp2_with (first | (go_at_call 69; refine (spec_State _ _).mono ?_; rintro e w' ⟨rfl, rfl⟩) | (go_at_call 70; refine (spec_Table _).mono ?_; rintro e w1 ⟨rfl, q1, hT⟩; have t1 := hT.1 s.toNat (by omega) (by omega); have t2 := hT.2 s.toNat (k + 1) (by omega) (by omega) (by omega); rw [show ((s.toNat : Nat) : Int) = s by omega] at t2; have hown1 := hown.q q1; have hq1 := hq.trans q1) | (at_builtin; refine wpList_append_one _ rfl _ _ 35 rfl w.heap.size 2 i0 (.int .i64 0) 1 8 Try.underlying35 HI.out.1 HI.out.2.1 HI.out.2.2.1 HI.out.2.2.2 rfl (by decide) (by decide) A n c (actTo s k) [(k : Int) + 1] rfl hown1 rfl rfl _ _ rfl (by omega) hq1.size ?_; intro A' c' w' hown' hg'))
          have e1 : n + 1 = (actTo s (k + 1)).length := by rw [HN.out, actTo_yes hpos]; simp
          go_roundw
          case rel =>
            refine ⟨k + 1, A', c', by omega, by go_num, by rw [← e1], ?_, hq1.mark hown1 (Nat.le_refl _) hg'⟩
            rw [← e1, actTo_yes hpos]
            exact hown'
          case measure => simp [intOf]; omega
        · go_wp2_with (first | (go_at_call 69; refine (spec_State _ _).mono ?_; rintro e w' ⟨rfl, rfl⟩) | (go_at_call 70; refine (spec_Table _).mono ?_; rintro e w1 ⟨rfl, q1, hT⟩; have t1 := hT.1 s.toNat (by omega) (by omega); have t2 := hT.2 s.toNat (k + 1) (by omega) (by omega) (by omega); rw [show ((s.toNat : Nat) : Int) = s by omega] at t2; have hown1 := hown.q q1; have hq1 := hq.trans q1))
          go_roundw
          case rel => exact ⟨k + 1, A, c, by omega, by go_num, by rw [actTo_no (s := s) (k := k) (by omega), ← HN.out], by rw [actTo_no (s := s) (k := k) (by omega), ← HN.out]; exact hown1, hq1⟩
          case measure => simp [intOf]; omega
      · obtain rfl : k = 8 := by omega
        go_wp2_with (go_at_call 69; refine (spec_State _ _).mono ?_; rintro e w' ⟨rfl, rfl⟩)
        go_ret
        exact ⟨A, c, by rw [HA.out, ← HN.out]; rfl, by rw [HA.out, ← HN.out]; exact hown, hq⟩
  · have HA := Lib.hid (show actL s = [] by simp [actL, hs])
    clear hi hz0 hz1 hz2
    go_enter Try.func29, Try.ntmps29
    go_wp2_with fail
    refine wp_loop_rounds 1 ?_
    rw [rounds_succ]
    go_wp2_with (go_at_call 69; refine (spec_State _ _).mono ?_; rintro e w' ⟨rfl, rfl⟩)
    go_ret
    exact ⟨_, _, by rw [HA.out]; rfl, by rw [HA.out]; exact Own.lit w _ _ _ [] rfl (Nat.le_refl _) rfl (by decide), (Q.refl _).alloc _⟩
theorem actL_len (s : Int) : (actL s).length ≤ 8 := by
  unfold actL
  split
  · exact actTo_len s 8
  · simp
end Go.Proofs.Ythlfadkpeogajaa
