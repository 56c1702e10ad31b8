/- Plain laws: the leg after which a race is shortened is the last one that is sailed in time. -/
import Derived.Test.YthlfadkpeogajaaShort
namespace Go.Proofs.Ythlfadkpeogajaa
open Go.RowKit Go.WideShapes Go.ChangeShapes
theorem bst_char {t r : Int} {s : Nat} {xs : List Int} : ∀ n : Nat, bstTo t r s xs n ≠ 0 → ∃ k : Nat, bstTo t r s xs n = (k : Int) ∧ s < k ∧ k ≤ n ∧ t * sumTo xs k ≤ r * sumTo xs s ∧ ∀ j, k < j → j ≤ n → ¬ t * sumTo xs j ≤ r * sumTo xs s
  | 0, h => absurd rfl h
  | n + 1, h => by
    by_cases hc : s < n + 1 ∧ t * sumTo xs (n + 1) ≤ r * sumTo xs s
    · exact ⟨n + 1, by rw [bst_yes hc.1 hc.2]; omega, hc.1, Nat.le_refl _, hc.2, fun j h1 h2 => by omega⟩
    · rw [bst_no hc] at h ⊢
      obtain ⟨k, h1, h2, h3, h4, h5⟩ := bst_char n h
      refine ⟨k, h1, h2, by omega, h4, fun j hj hj2 => ?_⟩
      rcases Nat.lt_or_ge n j with h6 | h6
      · obtain rfl : j = n + 1 := by omega
        exact fun h => hc ⟨by omega, h⟩
      · exact h5 j hj h6
/-- What a race's end is known by. -/
theorem sh_facts {a b c s t : Int} {xs : List Int} {n : Nat} (h : shC a b c s t xs n = 0) : ∃ (m k : Nat), s = m ∧ 1 ≤ m ∧ shV a b c s t xs n = k ∧ m < k ∧ k ≤ n ∧ n ≤ 9 ∧ 1 ≤ t ∧ t ≤ 1000000000 ∧ 1 ≤ b ∧ b ≤ 1000000000 ∧ (∀ i, i < n → 1 ≤ el xs i ∧ el xs i ≤ 1000000000) ∧
    t * sumTo xs k ≤ b * sumTo xs m ∧ (k < n → b * sumTo xs m < t * (sumTo xs k + el xs k)) := by
  have h1 : isLim a b c = true := by
    cases hl : isLim a b c
    · rw [sh_1 hl] at h; cases h
    · rfl
  have h2 : ¬ 9 < n := fun h2 => by rw [sh_3 h1 h2] at h; cases h
  have h3 : legTo xs n = true := by
    cases h3 : legTo xs n
    · rw [sh_2a h1 h2 h3] at h; cases h
    · rfl
  have h4 : shOk s t n := Classical.byContradiction fun h4 => by rw [sh_2b h1 h2 h3 h4] at h; cases h
  have h5 : bstTo t b s.toNat xs n ≠ 0 := fun h5 => by rw [sh_4 h1 h2 h3 h4 h5] at h; cases h
  rw [sh_val h]
  obtain ⟨h6, h7, h8, h9⟩ := h4
  obtain ⟨k, e, hk1, hk2, hk3, hk4⟩ := bst_char n h5
  have hl : 1 ≤ a ∧ a ≤ b ∧ 1 ≤ b ∧ b ≤ 1000000000 ∧ 1 ≤ c ∧ c ≤ 1000000000 := by unfold isLim at h1; exact of_decide_eq_true h1
  refine ⟨s.toNat, k, by omega, by omega, e, hk1, hk2, by omega, h8, h9, by omega, by omega, fun i hi => legTo_at h3 hi, hk3, fun hlt => ?_⟩
  have := hk4 (k + 1) (by omega) hlt
  exact Int.not_le.1 this
def fst6 (s : Nat) (xs : List Int) (i : Nat) : Int := if i ≤ s then sumTo xs i else sumTo xs s
theorem fst6_lt {s : Nat} {xs : List Int} {i : Nat} (h : i < s) : fst6 s xs (i + 1) = fst6 s xs i + el xs i := by
  unfold fst6
  rw [if_pos (by omega), if_pos (by omega)]
  rfl
theorem fst6_ge {s : Nat} {xs : List Int} {i : Nat} (h : ¬ i < s) : fst6 s xs (i + 1) = fst6 s xs i := by
  unfold fst6
  rw [if_neg (by omega)]
  split
  · obtain rfl : i = s := by omega
    rfl
  · rfl
theorem fst6_end {s : Nat} {xs : List Int} {i : Nat} (h : s ≤ i) : fst6 s xs i = sumTo xs s := by
  unfold fst6
  split
  · obtain rfl : i = s := by omega
    rfl
  · rfl
theorem fst6_bd {s : Nat} {xs : List Int} (h : ∀ j, 0 ≤ sumTo xs j) : ∀ i : Nat, 0 ≤ fst6 s xs i ∧ fst6 s xs i ≤ sumTo xs i ∨ s < i
  | i => by
    unfold fst6
    rcases Nat.lt_or_ge s i with h1 | h1
    · exact .inr h1
    · rw [if_pos h1]; exact .inl ⟨h i, Int.le_refl _⟩
end Go.Proofs.Ythlfadkpeogajaa
