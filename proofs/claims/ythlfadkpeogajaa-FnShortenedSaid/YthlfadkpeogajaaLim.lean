/- Walks: the code of limits and finishes, the first time, the cutoff time, as the program and the reference compute them, for all arguments. No condition. -/
import Derived.Test.YthlfadkpeogajaaFirst
import Derived.Test.YthlfadkpeogajaaTb
import Derived.Test.YthlfadkpeogajaaK
namespace Go.Proofs.Ythlfadkpeogajaa
open Go.RowKit Go.WideShapes Go.ChangeShapes
def lmC (a b c : Int) (xs : List Int) (n : Nat) : Int := if isLim a b c then finC xs n else 1
theorem lmC_no {a b c : Int} {xs : List Int} {n : Nat} (h : isLim a b c = false) : lmC a b c xs n = 1 := by simp [lmC, h]
theorem lmC_yes {a b c : Int} {xs : List Int} {n : Nat} (h : isLim a b c = true) : lmC a b c xs n = finC xs n := by simp [lmC, h]
theorem impl_limitsCode (a b c : Int) (A : Option Addr) (n d : Nat) (xs : List Int) (w : World) (ha : Rd w A xs) (hn : xs.length = n * 3) (hn2 : n ≤ 9223372036854775807) :
    Calls Try.prog 80 #[.agg #[.int .i64 a, .int .i64 b, .int .i64 c], .slice A n d] w fun e w' => e = .returned (.int .i64 (lmC a b c xs n)) ∧ Q w w' := by
  cases hl : isLim a b c
  · rw [lmC_no hl]
    go_enter Try.func80, Try.ntmps80
    go_wp2_with (go_at_call 15; refine (impl_IsLimits _ _ _ _).mono ?_; rintro e w1 ⟨rfl, q1⟩; have Q1 : Q w w1 := Q.trans (by (repeat (first | assumption | exact Q.refl _ | refine Q.alloc ?_ _ | refine Q.drewN ?_ _ | refine Q.drew ?_))) q1)
    go_ret
    exact ⟨rfl, Q1⟩
  · rw [lmC_yes hl]
    go_enter Try.func80, Try.ntmps80
    go_wp2_with (first | (go_at_call 15; refine (impl_IsLimits _ _ _ _).mono ?_; rintro e w1 ⟨rfl, q1⟩; have Q1 : Q w w1 := Q.trans (by (repeat (first | assumption | exact Q.refl _ | refine Q.alloc ?_ _ | refine Q.drewN ?_ _ | refine Q.drew ?_))) q1) | (go_at_call 81; refine (impl_finishesCode A n d xs _ (ha.q Q1) hn hn2).mono ?_; rintro e w2 ⟨rfl, q2⟩))
    go_ret
    exact ⟨rfl, Q1.trans q2⟩
theorem spec_l15Code (a b c : Int) (A : Option Addr) (n d : Nat) (xs : List Int) (w : World) (ha : Rd w A xs) (hn : xs.length = n * 3) (hn2 : n ≤ 9223372036854775807) :
    Calls Try.prog 77 #[.agg #[.int .i64 a, .int .i64 b, .int .i64 c], .slice A n d] w fun e w' => e = .returned (.int .i64 (lmC a b c xs n)) ∧ Q w w' := by
  cases hl : isLim a b c
  · rw [lmC_no hl]
    go_enter Try.func77, Try.ntmps77
    go_wp2_with (go_at_call 63; refine (spec_IsLimits _ _ _ _).mono ?_; rintro e w1 ⟨rfl, q1⟩; have Q1 : Q w w1 := Q.trans (by (repeat (first | assumption | exact Q.refl _ | refine Q.alloc ?_ _ | refine Q.drewN ?_ _ | refine Q.drew ?_))) q1)
    go_ret
    exact ⟨rfl, Q1⟩
  · rw [lmC_yes hl]
    go_enter Try.func77, Try.ntmps77
    go_wp2_with (first | (go_at_call 63; refine (spec_IsLimits _ _ _ _).mono ?_; rintro e w1 ⟨rfl, q1⟩; have Q1 : Q w w1 := Q.trans (by (repeat (first | assumption | exact Q.refl _ | refine Q.alloc ?_ _ | refine Q.drewN ?_ _ | refine Q.drew ?_))) q1) | (go_at_call 97; refine (spec_l16List A n d xs _ (ha.q Q1) hn hn2).mono ?_; rintro e w2 ⟨rfl, q2⟩))
    go_ret
    exact ⟨rfl, Q1.trans q2⟩
/-- The smallest time of a boat that has finished, or -1. -/
def ftm (xs : List Int) (n : Nat) : Int := if bestF xs n < 0 then -1 else el xs ((bestF xs n).toNat * 3 + 2)
theorem ftm_neg {xs : List Int} {n : Nat} (h : bestF xs n < 0) : ftm xs n = -1 := by simp [ftm, h]
theorem ftm_pos {xs : List Int} {n m : Nat} (h : bestF xs n = m) : ftm xs n = el xs (m * 3 + 2) := by rw [ftm, if_neg (by omega), h]; rfl
theorem impl_firstTime (A : Option Addr) (n d : Nat) (xs : List Int) (w : World) (ha : Rd w A xs) (hn : xs.length = n * 3) (hn2 : n ≤ 9223372036854775807) :
    Calls Try.prog 75 #[.slice A n d] w fun e w' => e = .returned (.int .i64 (ftm xs n)) ∧ Q w w' := by
  have k0 := impl_firstFinish A n d xs
  have hbd := bestF_bd xs n
  by_cases hneg : bestF xs n < 0
  · rw [ftm_neg hneg]
    rw [show bestF xs n = -1 by omega] at k0
    have K0 := Lib.hid k0
    clear k0 hbd hneg
    go_enter Try.func75, Try.ntmps75
    go_wp2_with (go_at_call 82; refine (K0.out _ ha hn hn2).mono ?_; rintro e w1 ⟨rfl, q1⟩)
    go_ret
    exact ⟨rfl, q1⟩
  · obtain ⟨m, hm⟩ := Int.eq_ofNat_of_zero_le (show 0 ≤ bestF xs n by omega)
    have hmn : m < n := by omega
    rw [ftm_pos hm]
    rw [hm] at k0
    have K0 := Lib.hid k0
    clear k0 hbd hneg hm
    go_enter Try.func75, Try.ntmps75
    go_wp2_with (go_at_call 82; refine (K0.out _ ha hn hn2).mono ?_; rintro e w1 ⟨rfl, q1⟩; obtain ⟨b, o, rfl, g0, g1, g2⟩ := (ha.q q1).at3 hn hmn)
    go_ret
    exact ⟨rfl, q1⟩
def ctC (a b c : Int) (xs : List Int) (n : Nat) : Int := if lmC a b c xs n ≠ 0 then lmC a b c xs n else if ftm xs n < 0 then 4 else 0
def ctV (a b c : Int) (xs : List Int) (n : Nat) : Int := if lmC a b c xs n ≠ 0 then 0 else if ftm xs n < 0 then 0 else min 1000000000 (ftm xs n + c)
theorem bestF_facts (xs : List Int) (n : Nat) : (bestF xs n < 0 → ∀ k, k < n → el xs (k * 3 + 1) ≠ 0) ∧ (∀ m : Nat, bestF xs n = m → m < n ∧ el xs (m * 3 + 1) = 0 ∧ ∀ k, k < n → el xs (k * 3 + 1) = 0 → el xs (m * 3 + 2) ≤ el xs (k * 3 + 2)) := by
  induction n with
  | zero => exact ⟨fun _ k hk => by omega, fun m hm => by simp [bestF] at hm⟩
  | succ n ih =>
    have hbd := bestF_bd xs n
    have e : bestF xs (n + 1) = if el xs (n * 3 + 1) = 0 ∧ (bestF xs n < 0 ∨ el xs (n * 3 + 2) < el xs ((bestF xs n).toNat * 3 + 2)) then (n : Int) else bestF xs n := rfl
    by_cases h : el xs (n * 3 + 1) = 0 ∧ (bestF xs n < 0 ∨ el xs (n * 3 + 2) < el xs ((bestF xs n).toNat * 3 + 2))
    · rw [e, if_pos h]
      refine ⟨fun h2 => by omega, fun m hm => ?_⟩
      obtain rfl : n = m := by omega
      refine ⟨by omega, h.1, fun k hk h0 => ?_⟩
      rcases Nat.lt_or_ge k n with hlt | hge
      · rcases h.2 with h2 | h2
        · exact absurd h0 (ih.1 h2 k hlt)
        · obtain ⟨p, hp⟩ := Int.eq_ofNat_of_zero_le (show 0 ≤ bestF xs n by
            rcases Int.lt_or_le (bestF xs n) 0 with h3 | h3
            · exact absurd h0 (ih.1 h3 k hlt)
            · exact h3)
          have := (ih.2 p hp).2.2 k hlt h0
          rw [hp] at h2
          simp only [Int.ofNat_eq_natCast, Int.toNat_natCast] at h2
          omega
      · obtain rfl : k = n := by omega
        omega
    · rw [e, if_neg h]
      refine ⟨fun h2 k hk => ?_, fun m hm => ?_⟩
      · rcases Nat.lt_or_ge k n with hlt | hge
        · exact ih.1 h2 k hlt
        · obtain rfl : k = n := by omega
          exact fun h0 => h ⟨h0, .inl h2⟩
      · obtain ⟨h1, h2, h3⟩ := ih.2 m hm
        refine ⟨by omega, h2, fun k hk h0 => ?_⟩
        rcases Nat.lt_or_ge k n with hlt | hge
        · exact h3 k hlt h0
        · obtain rfl : k = n := by omega
          rw [hm] at h
          simp only [Int.toNat_natCast] at h
          rcases Int.lt_or_le (el xs (k * 3 + 2)) (el xs (m * 3 + 2)) with h4 | h4
          · exact absurd ⟨h0, .inr h4⟩ h
          · exact h4
theorem finC_zero {xs : List Int} {n : Nat} (h : finC xs n = 0) : n ≤ 16 ∧ ∀ k, k < n → isFin (el xs (k * 3)) (el xs (k * 3 + 1)) (el xs (k * 3 + 2)) = true := by
  unfold finC at h
  split at h
  · omega
  · split at h
    · rename_i h1 h2
      refine ⟨by omega, fun k hk => ?_⟩
      unfold finTo at h2
      rw [List.all_eq_true] at h2
      exact h2 k (by simpa using hk)
    · omega
theorem isFin_time {a b c : Int} (h : isFin a b c = true) : (b = 0 → 1 ≤ c ∧ c ≤ 1000000000) ∧ (b ≠ 0 → c = 0) := by
  unfold isFin at h
  have := of_decide_eq_true h
  exact ⟨this.2.2.2.2.1, this.2.2.2.2.2⟩
theorem ftm_bd {xs : List Int} {n : Nat} (h : finC xs n = 0) : -1 ≤ ftm xs n ∧ ftm xs n ≤ 1000000000 ∧ (bestF xs n < 0 → ftm xs n = -1) ∧ (0 ≤ bestF xs n → 1 ≤ ftm xs n) := by
  have h1 := (finC_zero h).2
  by_cases hneg : bestF xs n < 0
  · rw [ftm_neg hneg]
    exact ⟨by omega, by omega, fun _ => rfl, fun h => by omega⟩
  · obtain ⟨m, hm⟩ := Int.eq_ofNat_of_zero_le (show 0 ≤ bestF xs n by omega)
    obtain ⟨h2, h3, h4⟩ := (bestF_facts xs n).2 m hm
    have h5 := (isFin_time (h1 m h2)).1 h3
    rw [ftm_pos hm]
    exact ⟨by omega, by omega, fun h => absurd h hneg, fun _ => by omega⟩
theorem isLim_bd {a b c : Int} (h : isLim a b c = true) : 1 ≤ a ∧ a ≤ b ∧ b ≤ 1000000000 ∧ 1 ≤ c ∧ c ≤ 1000000000 := by
  have := of_decide_eq_true h
  omega
theorem lmC_zero {a b c : Int} {xs : List Int} {n : Nat} (h : lmC a b c xs n = 0) : isLim a b c = true ∧ finC xs n = 0 := by
  unfold lmC at h
  split at h
  · rename_i h1; exact ⟨h1, h⟩
  · omega
end Go.Proofs.Ythlfadkpeogajaa
