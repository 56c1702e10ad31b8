/- Walks: the boats that a hearing penalizes, as the program and the reference return them, for all arguments. No condition. -/
import Derived.Test.YtgooehdjbdgecaaEq
import Derived.Test.YtgooehdjbdgecaaTc
import Derived.Outline
namespace Go.Proofs.Ytgooehdjbdgecaa
open Go.RowKit Go.WideShapes Go.ChangeShapes
theorem spec_Parties (b a : Int) (w : World) : Calls Try.prog 60 #[.int .i64 b, .int .i64 a] w fun e w' => e = .returned (.bool (decide (0 ≤ b ∧ b ≤ 15 ∧ 0 ≤ a ∧ a ≤ 15 ∧ b ≠ a))) ∧ w = w' := by
  go_enter Try.func60, Try.ntmps60
  go_wp2_with (go_at_call 51; refine (spec_in _ _ _ _).mono ?_; rintro e w' ⟨rfl, rfl⟩)
  all_goals go_ret
  all_goals refine ⟨ret_bool ?_, rfl⟩
  all_goals (rw [Bool.eq_iff_iff]; simp; omega)
theorem impl_areParties (b a : Int) (w : World) : Calls Try.prog 61 #[.int .i64 b, .int .i64 a] w fun e w' => e = .returned (.bool (decide (0 ≤ b ∧ b ≤ 15 ∧ 0 ≤ a ∧ a ≤ 15 ∧ b ≠ a))) ∧ w = w' := by
  go_enter Try.func61, Try.ntmps61
  go_wp2_with (go_at_call 55; refine (impl_isBoat _ _).mono ?_; rintro e w' ⟨rfl, rfl⟩)
  all_goals go_ret
  all_goals refine ⟨ret_bool ?_, rfl⟩
  all_goals (rw [Bool.eq_iff_iff]; simp; omega)
theorem impl_isOutcome (o : Int) (w : World) : Calls Try.prog 62 #[.int .i64 o] w fun e w' => e = .returned (.bool (decide (0 ≤ o ∧ o ≤ 3))) ∧ w = w' := by
  go_enter Try.func62, Try.ntmps62
  go_wp2_with (go_at_call 52; refine (impl_in _ _ _ _).mono ?_; rintro e w' ⟨rfl, rfl⟩)
  go_ret
  exact ⟨by simp, rfl⟩
def penOk (b a o : Int) : Bool := decide (0 ≤ b ∧ b ≤ 15 ∧ 0 ≤ a ∧ a ≤ 15 ∧ b ≠ a ∧ 0 ≤ o ∧ o ≤ 3)
def penL (b a o : Int) : List Int := if penOk b a o = false then [] else if o = 1 then [a] else if o = 2 then [b] else if o = 3 then [min b a, max b a] else []
def penC (b a o : Int) : Int := if penOk b a o then 0 else 2
theorem pen_no {b a o : Int} (h : penOk b a o = false) : penL b a o = [] ∧ penC b a o = 2 := by simp [penL, penC, h]
theorem pen_yes {b a o : Int} (h : penOk b a o = true) : penC b a o = 0 := by simp [penC, h]
theorem spec_PenalizedBoats (b a o : Int) (w : World) : Calls Try.prog 37 #[.int .i64 b, .int .i64 a, .int .i64 o] w fun e w' => RS w 2 1 (penL b a o).length (penL b a o) (penC b a o) e w' := by
  cases h : penOk b a o
  · rw [(pen_no h).1, (pen_no h).2]
    by_cases hp : 0 ≤ b ∧ b ≤ 15 ∧ 0 ≤ a ∧ a ≤ 15 ∧ b ≠ a
    · have ho : ¬ (0 ≤ o ∧ o ≤ 3) := by simp [penOk] at h; omega
      clear h
      go_enter Try.func37, Try.ntmps37
      go_wp2_with (first | (go_at_call 51; refine (spec_in _ _ _ _).mono ?_; rintro e w' ⟨rfl, rfl⟩) | (go_at_call 60; refine (spec_Parties _ _ _).mono ?_; rintro e w' ⟨rfl, rfl⟩))
      go_ret2
      exact RS.nil _ _ _ _ _ (Q.refl _)
    · clear h
      go_enter Try.func37, Try.ntmps37
      go_wp2_with (first | (go_at_call 51; refine (spec_in _ _ _ _).mono ?_; rintro e w' ⟨rfl, rfl⟩) | (go_at_call 60; refine (spec_Parties _ _ _).mono ?_; rintro e w' ⟨rfl, rfl⟩))
      go_ret2
      exact RS.nil _ _ _ _ _ (Q.refl _)
  · have ho : o = 0 ∨ o = 1 ∨ o = 2 ∨ o = 3 := by simp [penOk] at h; omega
    have hb : 0 ≤ b ∧ b ≤ 15 ∧ 0 ≤ a ∧ a ≤ 15 ∧ b ≠ a := by simp [penOk] at h; omega
    rw [pen_yes h]
    have h' : penL b a o = if o = 1 then [a] else if o = 2 then [b] else if o = 3 then [min b a, max b a] else [] := by simp [penL, h]
    rw [h']
    clear h h'
    obtain rfl | rfl | rfl | rfl := ho
    · go_enter Try.func37, Try.ntmps37
      go_wp2_with (first | (go_at_call 51; refine (spec_in _ _ _ _).mono ?_; rintro e w' ⟨rfl, rfl⟩) | (go_at_call 60; refine (spec_Parties _ _ _).mono ?_; rintro e w' ⟨rfl, rfl⟩))
      go_ret2
      exact ⟨_, _, rfl, Own.lit w _ _ _ [] rfl (Nat.le_refl _) rfl (by decide), (Q.refl _).alloc _⟩
    · go_enter Try.func37, Try.ntmps37
      go_wp2_with (first | (go_at_call 51; refine (spec_in _ _ _ _).mono ?_; rintro e w' ⟨rfl, rfl⟩) | (go_at_call 60; refine (spec_Parties _ _ _).mono ?_; rintro e w' ⟨rfl, rfl⟩))
      go_ret2
      exact ⟨_, _, rfl, Own.lit w _ _ _ [a] rfl (Nat.le_refl _) rfl (by decide), (Q.refl _).alloc _⟩
    · go_enter Try.func37, Try.ntmps37
      go_wp2_with (first | (go_at_call 51; refine (spec_in _ _ _ _).mono ?_; rintro e w' ⟨rfl, rfl⟩) | (go_at_call 60; refine (spec_Parties _ _ _).mono ?_; rintro e w' ⟨rfl, rfl⟩))
      go_ret2
      exact ⟨_, _, rfl, Own.lit w _ _ _ [b] rfl (Nat.le_refl _) rfl (by decide), (Q.refl _).alloc _⟩
    · by_cases hba : b ≤ a
      · rw [show (if (3 : Int) = 1 then [a] else if (3 : Int) = 2 then [b] else if (3 : Int) = 3 then [min b a, max b a] else []) = [b, a] by simp; omega]
        go_enter Try.func37, Try.ntmps37
        go_wp2_with (first | (go_at_call 51; refine (spec_in _ _ _ _).mono ?_; rintro e w' ⟨rfl, rfl⟩) | (go_at_call 60; refine (spec_Parties _ _ _).mono ?_; rintro e w' ⟨rfl, rfl⟩))
        go_ret2
        exact ⟨_, _, rfl, Own.lit w _ _ _ [b, a] rfl (Nat.le_refl _) rfl (by decide), (Q.refl _).alloc _⟩
      · rw [show (if (3 : Int) = 1 then [a] else if (3 : Int) = 2 then [b] else if (3 : Int) = 3 then [min b a, max b a] else []) = [a, b] by simp; omega]
        go_enter Try.func37, Try.ntmps37
        go_wp2_with (first | (go_at_call 51; refine (spec_in _ _ _ _).mono ?_; rintro e w' ⟨rfl, rfl⟩) | (go_at_call 60; refine (spec_Parties _ _ _).mono ?_; rintro e w' ⟨rfl, rfl⟩))
        go_ret2
        exact ⟨_, _, rfl, Own.lit w _ _ _ [a, b] rfl (Nat.le_refl _) rfl (by decide), (Q.refl _).alloc _⟩
theorem impl_PenalizedBoats (b a o : Int) (w : World) : Calls Try.prog 38 #[.int .i64 b, .int .i64 a, .int .i64 o] w fun e w' => RS w 2 1 (penL b a o).length (penL b a o) (penC b a o) e w' := by
  cases h : penOk b a o
  · rw [(pen_no h).1, (pen_no h).2]
    by_cases hp : 0 ≤ b ∧ b ≤ 15 ∧ 0 ≤ a ∧ a ≤ 15 ∧ b ≠ a
    · have ho : ¬ (0 ≤ o ∧ o ≤ 3) := by simp [penOk] at h; omega
      clear h
      go_enter Try.func38, Try.ntmps38
      go_wp2_with (first | (go_at_call 62; refine (impl_isOutcome _ _).mono ?_; rintro e w' ⟨rfl, rfl⟩) | (go_at_call 61; refine (impl_areParties _ _ _).mono ?_; rintro e w' ⟨rfl, rfl⟩))
      go_ret2
      exact RS.nil _ _ _ _ _ (Q.refl _)
    · clear h
      go_enter Try.func38, Try.ntmps38
      go_wp2_with (first | (go_at_call 62; refine (impl_isOutcome _ _).mono ?_; rintro e w' ⟨rfl, rfl⟩) | (go_at_call 61; refine (impl_areParties _ _ _).mono ?_; rintro e w' ⟨rfl, rfl⟩))
      go_ret2
      exact RS.nil _ _ _ _ _ (Q.refl _)
  · have ho : o = 0 ∨ o = 1 ∨ o = 2 ∨ o = 3 := by simp [penOk] at h; omega
    have hb : 0 ≤ b ∧ b ≤ 15 ∧ 0 ≤ a ∧ a ≤ 15 ∧ b ≠ a := by simp [penOk] at h; omega
    rw [pen_yes h]
    have h' : penL b a o = if o = 1 then [a] else if o = 2 then [b] else if o = 3 then [min b a, max b a] else [] := by simp [penL, h]
    rw [h']
    clear h h'
    obtain rfl | rfl | rfl | rfl := ho
    · go_enter Try.func38, Try.ntmps38
      go_wp2_with (first | (go_at_call 62; refine (impl_isOutcome _ _).mono ?_; rintro e w' ⟨rfl, rfl⟩) | (go_at_call 61; refine (impl_areParties _ _ _).mono ?_; rintro e w' ⟨rfl, rfl⟩))
      go_ret2
      exact RS.nil _ _ _ _ _ (Q.refl _)
    · go_enter Try.func38, Try.ntmps38
      go_wp2_with (first | (go_at_call 62; refine (impl_isOutcome _ _).mono ?_; rintro e w' ⟨rfl, rfl⟩) | (go_at_call 61; refine (impl_areParties _ _ _).mono ?_; rintro e w' ⟨rfl, rfl⟩))
      go_ret2
      exact ⟨_, _, rfl, Own.lit w _ _ _ [a] rfl (Nat.le_refl _) rfl (by decide), (Q.refl _).alloc _⟩
    · go_enter Try.func38, Try.ntmps38
      go_wp2_with (first | (go_at_call 62; refine (impl_isOutcome _ _).mono ?_; rintro e w' ⟨rfl, rfl⟩) | (go_at_call 61; refine (impl_areParties _ _ _).mono ?_; rintro e w' ⟨rfl, rfl⟩))
      go_ret2
      exact ⟨_, _, rfl, Own.lit w _ _ _ [b] rfl (Nat.le_refl _) rfl (by decide), (Q.refl _).alloc _⟩
    · by_cases hba : b ≤ a
      · rw [show (if (3 : Int) = 1 then [a] else if (3 : Int) = 2 then [b] else if (3 : Int) = 3 then [min b a, max b a] else []) = [b, a] by simp; omega]
        go_enter Try.func38, Try.ntmps38
        go_wp2_with (first | (go_at_call 62; refine (impl_isOutcome _ _).mono ?_; rintro e w' ⟨rfl, rfl⟩) | (go_at_call 61; refine (impl_areParties _ _ _).mono ?_; rintro e w' ⟨rfl, rfl⟩))
        go_ret2
        exact ⟨_, _, rfl, Own.lit w _ _ _ [b, a] rfl (Nat.le_refl _) rfl (by decide), (Q.refl _).alloc _⟩
      · rw [show (if (3 : Int) = 1 then [a] else if (3 : Int) = 2 then [b] else if (3 : Int) = 3 then [min b a, max b a] else []) = [a, b] by simp; omega]
        go_enter Try.func38, Try.ntmps38
        go_wp2_with (first | (go_at_call 62; refine (impl_isOutcome _ _).mono ?_; rintro e w' ⟨rfl, rfl⟩) | (go_at_call 61; refine (impl_areParties _ _ _).mono ?_; rintro e w' ⟨rfl, rfl⟩))
        go_ret2
        exact ⟨_, _, rfl, Own.lit w _ _ _ [a, b] rfl (Nat.le_refl _) rfl (by decide), (Q.refl _).alloc _⟩
theorem pen_len (b a o : Int) : (penL b a o).length ≤ 2 := by
  unfold penL
  repeat' split
  all_goals (simp only [List.length_cons, List.length_nil]; omega)
theorem law_FnExactPenalizedBoats (b : Int) (_ : -9223372036854775808 ≤ b ∧ b ≤ 9223372036854775807) (a : Int) (_ : -9223372036854775808 ≤ a ∧ a ≤ 9223372036854775807) (o : Int) (_ : -9223372036854775808 ≤ o ∧ o ≤ 9223372036854775807) (w : World) :
    Calls Try.prog 12 #[.int .i64 b, .int .i64 a, .int .i64 o] w fun e w' => e = .returned (.bool true) ∧ Below w.heap.size w w' := by
  have hlen := pen_len b a o
  obtain ⟨n, hn⟩ : ∃ n, n = (penL b a o).length := ⟨_, rfl⟩
  obtain ⟨L, hL⟩ : ∃ L, L = penL b a o := ⟨_, rfl⟩
  obtain ⟨C, hC⟩ : ∃ C, C = penC b a o := ⟨_, rfl⟩
  have k0 := spec_PenalizedBoats b a o
  have k1 := impl_PenalizedBoats b a o
  rw [← hn, ← hL, ← hC] at k0 k1
  rw [← hn] at hlen
  rw [← hL] at hn
  clear hL hC
  have HN := Lib.hid hn
  have K0 := Lib.hid k0
  have K1 := Lib.hid k1
  clear k0 k1 hn
  go_enter Try.func12, Try.ntmps12
  go_wp2_with fail
  refine (K0.out _).mono ?_
  rintro e w1 ⟨A0, c0, rfl, o0, q1⟩
  go_wp2_with fail
  refine (K1.out _).mono ?_
  rintro e w2 ⟨A1, c1, rfl, o1, q2⟩
  go_wp2_with fail
  refine (eqInt64S_same A1 A0 n c1 c0 L _ o1.rd (o0.rd.q q2) HN.out.symm (by omega)).mono ?_
  rintro e w3 ⟨rfl, q3⟩
  go_wp2_with fail
  have o3 := o1.q q3
  refine (markInt64S_any A1 n c1 _ L 1 _ o3 (by omega) (by omega)).mono ?_
  rintro e w4 ⟨rfl, o4, g4⟩
  go_wp2_with fail
  refine (heldInt64S_any A1 n c1 1 _ o4.rd (by omega) (by omega)).mono ?_
  rintro e w5 ⟨rfl, q5⟩
  go_wp2_with fail
  refine (K1.out _).mono ?_
  rintro e w6 ⟨A2, c2, rfl, o6, q6⟩
  go_wp2_with fail
  have r0 : Rd w6 A0 L := (((((o0.rd.q q2).q q3).mark (fun p hp => (o0.from p hp).2) o3 g4).q q5).q q6)
  refine (eqInt64S_same A2 A0 n c2 c0 L _ o6.rd r0 HN.out.symm (by omega)).mono ?_
  rintro e w7 ⟨rfl, q7⟩
  go_wp2_with fail
  refine (heldInt64S_any A1 n c1 1 _ (((o4.rd.q q5).q q6).q q7) (by omega) (by omega)).mono ?_
  rintro e w8 ⟨rfl, q8⟩
  go_wp2_with fail
  go_ret
  exact ⟨rfl, (((((((q1.trans q2).trans q3).mark o3 q1.size g4).trans q5).trans q6).trans q7).trans q8)⟩
end Go.Proofs.Ytgooehdjbdgecaa
