/- Walks: the law on abandoned races. No condition. -/
import Derived.Test.YthlfadkpeogajaaDrawE
import Derived.Test.YthlfadkpeogajaaTf
namespace Go.Proofs.Ythlfadkpeogajaa
open Go.RowKit Go.WideShapes Go.ChangeShapes
theorem big_any (A : Option Addr) (n c : Nat) (w : World) (hn : n ≤ 9223372036854775807) : Calls Try.prog 11 #[.slice A n c] w fun e w' => e = .returned (.bool (decide (4096 < n))) ∧ w = w' := by
  go_enter Try.func11, Try.ntmps11
  go_wp2
  go_ret
  exact ⟨ret_bool (by rw [Bool.eq_iff_iff]; simp; omega), rfl⟩
theorem exp_next {L : Bool} {f m t : Int} (h : expC L f m t = 0) (ht : t < 1000000000) : L = true ∧ expC L f m (t + 1) = 0 ∧ -1 ≤ t := by
  unfold expC at h ⊢
  split at h
  · cases h
  · rename_i h1
    split at h
    · cases h
    · rename_i h2
      split at h
      · cases h
      · rename_i h3
        have h2 := Classical.not_not.1 h2
        refine ⟨by simpa using h1, ?_, by omega⟩
        rw [if_neg h1, if_neg (by omega), if_neg h3]
theorem exp_more {a b f m t : Int} (h : expV a b f m t = true) : expV a b f m (t + 1) = true := by
  unfold expV at h ⊢
  simp at h ⊢
  omega
set_option maxRecDepth 100000 in
set_option maxHeartbeats 4000000 in
theorem law_FnExpired (A : Option Addr) (n c : Nat) (hc : n ≤ c ∧ c ≤ maxLen) (w : World) (ha : Rd8 w A n) :
    Calls Try.prog 3 #[.slice A n c] w fun e w' => e = .returned (.bool true) ∧ Below w.heap.size w w' := by
  have hn : n ≤ 9223372036854775807 := by unfold maxLen at hc; omega
  clear hc
  have K0 := Lib.hid (fun wv => big_any A n c wv hn)
  by_cases h4 : 4096 < n
  · rw [decide_eq_true h4] at K0
    go_enter Try.func3, Try.ntmps3
    go_wp2_with (go_at_call 11; refine (K0.out _).mono ?_; rintro e w' ⟨rfl, rfl⟩)
    go_ret
    exact ⟨rfl, Q.refl _⟩
  · rw [decide_eq_false h4] at K0
    replace hn : n ≤ 140737488355327 := by omega
    have K1 := Lib.hid (fun wv (h : Rd8 wv A n) => spec_DrawIsExpired A n c wv h hn)
    clear h4
    go_enter Try.func3, Try.ntmps3
    go_wp2_with (first | (go_at_call 11; refine (K0.out _).mono ?_; rintro e w' ⟨rfl, rfl⟩) | (go_at_call 12; refine (K1.out _ ha).mono ?_; rintro e w1 ⟨x, y, z, f, m, t, rfl, q1⟩))
    clear K0 K1
    have B0 := Blk.new w1 25 #[.int .i64 x, .int .i64 y, .int .i64 z]
    have Q1 : Q w (w1.alloc (.cells #[.int .i64 x, .int .i64 y, .int .i64 z] 25)) := q1.alloc _
    have k2 := fun wv => impl_IsExpired x y z f m t wv
    have k3 := fun wv => spec_IsExpired x y z f m t wv
    have k4 := fun wv => impl_IsExpired x y z f m (t + 1) wv
    have k5 := fun wv => impl_IsLimits x y z wv
    generalize hw2 : w1.alloc (.cells #[.int .i64 x, .int .i64 y, .int .i64 z] 25) = w2 at *
    obtain ⟨b, hb⟩ : ∃ b, b = w1.heap.size := ⟨_, rfl⟩
    rw [← hb] at B0 ⊢
    clear hw2 hb
    have hV : ∃ V, V = (decide (expC (isLim x y z) f m t = 0) && expV x y f m t) := ⟨_, rfl⟩
    obtain ⟨V, hV⟩ := hV
    rw [← hV] at k2 k3
    by_cases hC : expC (isLim x y z) f m t = 0
    · rw [hC] at k2 k3
      by_cases ht : t < 1000000000
      · obtain ⟨h1, h2, h3⟩ := exp_next hC ht
        rw [h2] at k4
        rw [h1] at k5
        have hVV : V = true → expV x y f m (t + 1) = true := by
          intro h
          rw [hV, hC] at h
          exact exp_more (by simpa using h)
        obtain ⟨V2, hV2⟩ : ∃ V, V = (decide ((0 : Int) = 0) && expV x y f m (t + 1)) := ⟨_, rfl⟩
        rw [← hV2] at k4
        have hVV : V = true → V2 = true := fun h => by rw [hV2, hVV h]; rfl
        have K2 := Lib.hid k2
        have K3 := Lib.hid k3
        have K4 := Lib.hid k4
        have K5 := Lib.hid k5
        clear k2 k3 k4 k5 hV hV2 hC h1 h2
        cases V
        · clear hVV
          go_wp2_with (first | (go_at_call 14; refine (K3.out _).mono ?_; rintro e w4 ⟨rfl, q4⟩; have c4 := ((B0.q q3).q q4).cell) | (have q40 := q4; go_at_call 13; refine (K4.out _).mono ?_; rintro e w5 ⟨rfl, q5⟩; have c5 := (((B0.q q3).q q4).q q5).cell) | (go_at_call 15; refine (K5.out _).mono ?_; rintro e w6 ⟨rfl, q6⟩) | (go_at_call 13; refine (K2.out _).mono ?_; rintro e w3 ⟨rfl, q3⟩; have c3 := (B0.q q3).cell))
          go_ret
          exact ⟨rfl, (((Q1.trans q3).trans q4).trans q5).trans q6⟩
        · obtain rfl := hVV rfl
          clear hVV
          go_wp2_with (first | (go_at_call 14; refine (K3.out _).mono ?_; rintro e w4 ⟨rfl, q4⟩; have c4 := ((B0.q q3).q q4).cell) | (have q40 := q4; go_at_call 13; refine (K4.out _).mono ?_; rintro e w5 ⟨rfl, q5⟩; have c5 := (((B0.q q3).q q4).q q5).cell) | (go_at_call 15; refine (K5.out _).mono ?_; rintro e w6 ⟨rfl, q6⟩) | (go_at_call 13; refine (K2.out _).mono ?_; rintro e w3 ⟨rfl, q3⟩; have c3 := (B0.q q3).cell))
          go_ret
          exact ⟨rfl, (((Q1.trans q3).trans q4).trans q5).trans q6⟩
      · have K2 := Lib.hid k2
        have K3 := Lib.hid k3
        clear k2 k3 k4 k5 hV hC
        cases V
        · go_wp2_with (first | (go_at_call 14; refine (K3.out _).mono ?_; rintro e w4 ⟨rfl, q4⟩; have c4 := ((B0.q q3).q q4).cell) | (go_at_call 13; refine (K2.out _).mono ?_; rintro e w3 ⟨rfl, q3⟩; have c3 := (B0.q q3).cell))
          go_ret
          exact ⟨rfl, (Q1.trans q3).trans q4⟩
        · go_wp2_with (first | (go_at_call 14; refine (K3.out _).mono ?_; rintro e w4 ⟨rfl, q4⟩; have c4 := ((B0.q q3).q q4).cell) | (go_at_call 13; refine (K2.out _).mono ?_; rintro e w3 ⟨rfl, q3⟩; have c3 := (B0.q q3).cell))
          go_ret
          exact ⟨rfl, (Q1.trans q3).trans q4⟩
    · obtain ⟨C, hCC⟩ : ∃ C, C = expC (isLim x y z) f m t := ⟨_, rfl⟩
      rw [← hCC] at k2 k3 hC
      have hCb : (C != 0) = true := by simpa using hC
      have K2 := Lib.hid k2
      have K3 := Lib.hid k3
      clear k2 k3 k4 k5 hV hC hCC
      cases V
      · go_wp2_with (first | (go_at_call 14; refine (K3.out _).mono ?_; rintro e w4 ⟨rfl, q4⟩; have c4 := ((B0.q q3).q q4).cell) | (go_at_call 13; refine (K2.out _).mono ?_; rintro e w3 ⟨rfl, q3⟩; have c3 := (B0.q q3).cell))
        go_ret
        exact ⟨rfl, (Q1.trans q3).trans q4⟩
      · go_wp2_with (first | (go_at_call 14; refine (K3.out _).mono ?_; rintro e w4 ⟨rfl, q4⟩; have c4 := ((B0.q q3).q q4).cell) | (go_at_call 13; refine (K2.out _).mono ?_; rintro e w3 ⟨rfl, q3⟩; have c3 := (B0.q q3).cell))
        go_ret
        exact ⟨rfl, (Q1.trans q3).trans q4⟩
end Go.Proofs.Ythlfadkpeogajaa
