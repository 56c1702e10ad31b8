/- The plain law of hasty tracks: the program's test and the reference's are one. -/
import Derived.Test.YtlmaecmjpbgegaaHsE
namespace Go.Proofs.Ytlmaecmjpbgegaa
theorem fcI_neg {L : List Int} {wy fr : Int} : ∀ {m : Nat}, fcI L wy fr m = -1 → ∀ j, j < m → fcP L wy fr j = false
  | 0, _, j, hj => absurd hj (by omega)
  | m + 1, h, j, hj => by
    rw [fcI] at h
    split at h
    · rename_i h0; omega
    · rename_i h0
      have hm : fcI L wy fr m = -1 := by rcases fcI_bd L wy fr m with e | ⟨q, _, e, _⟩ <;> omega
      split at h
      · omega
      · rename_i hp
        rcases Nat.lt_or_ge j m with h1 | h1
        · exact fcI_neg hm j h1
        · obtain rfl : j = m := by omega
          simpa using hp
def crsS (a b c d : Int) (xs : List Int) (n : Nat) (t : Int) : Bool := (List.range ((crL a b c d xs (n - 1)).length / 5)).any fun j => (el (crL a b c d xs (n - 1)) (j * 5 + 2) == 1) && inR (el (crL a b c d xs (n - 1)) (j * 5)) (t - 60000) t
theorem crs_eq {a b c d : Int} {xs : List Int} {n : Nat} (hT : isTrk xs n = true) (hl : lnB a b c d = true) (t : Int) : crsH a b c d xs n t = crsS a b c d xs n t := by
  have hn := trk_n hT
  obtain ⟨m, h1, _, h3⟩ := crL_sorted (n := n) hT hl (n - 1) (by omega)
  unfold crsH crsS fcV
  rw [h1, Nat.mul_div_cancel _ (by decide)]
  generalize crL a b c d xs (n - 1) = L at *
  rcases fcI_bd L 1 (t - 60000) m with e | ⟨j, hj, e, hp, hf⟩
  · rw [e]
    have hno := fcI_neg e
    symm
    rw [show (decide ((0 : Int) ≤ -1) && decide (el L ((-1 : Int).toNat * 5) ≤ t)) = false by simp, List.any_eq_false]
    intro j hj
    have := hno j (by simpa using hj)
    unfold fcP at this
    unfold inR
    intro h
    simp at h this
    have := this h.1
    omega
  · rw [e]
    have hp1 : el L (j * 5 + 2) = 1 ∧ t - 60000 ≤ el L (j * 5) := by unfold fcP at hp; simpa using hp
    rw [Bool.eq_iff_iff]
    simp only [Bool.and_eq_true, decide_eq_true_eq, Int.toNat_natCast, List.any_eq_true, List.mem_range, beq_iff_eq]
    constructor
    · rintro ⟨_, h⟩
      exact ⟨j, hj, hp1.1, inR_yes ⟨hp1.2, h⟩⟩
    · rintro ⟨i, hi, h4, h5⟩
      refine ⟨by omega, ?_⟩
      unfold inR at h5
      have h5 := of_decide_eq_true h5
      have hji : j ≤ i := by
        rcases Nat.lt_or_ge i j with h6 | h6
        · have := hf i h6
          unfold fcP at this
          simp at this
          have := this h4
          omega
        · exact h6
      have := h3 j i hji hi
      omega
def fixS (a b c d : Int) (xs : List Int) (n : Nat) (t : Int) (k : Nat) : Bool := (List.range k).any fun i => inR (el xs (i * 3)) (t - 60000) t && (sideV a b c d xs n (el xs (i * 3)) == 1)
theorem fix_eq {a b c d : Int} {xs : List Int} {n : Nat} (hT : isTrk xs n = true) (t : Int) : ∀ k, k ≤ n → fixHs a b c d xs (t - 60000) t k = fixS a b c d xs n t k
  | 0, _ => rfl
  | k + 1, h => by
    have ih := fix_eq (a := a) (b := b) (c := c) (d := d) hT t k (by omega)
    have h1 := side_fix a b c d hT (show k < n by omega)
    rw [fixHs_succ, ih]
    unfold fixS
    rw [List.range_succ, List.any_append]
    simp only [List.any_cons, List.any_nil, Bool.or_false]
    rw [h1]
    rfl
def hsS (a b c d : Int) (xs : List Int) (n : Nat) (t : Int) : Bool := (sideV a b c d xs n t == 1) || (sideV a b c d xs n (t - 60000) == 1) || fixS a b c d xs n t n || crsS a b c d xs n t
theorem hs_eq {a b c d : Int} {xs : List Int} {n : Nat} (hT : isTrk xs n = true) (hl : lnB a b c d = true) (t : Int) : hsI a b c d xs n t = hsS a b c d xs n t := by
  have hn := trk_n hT
  unfold hsI hsS
  rw [crs_eq hT hl, fix_eq hT t n (Nat.le_refl _)]
  by_cases h0 : el xs 0 ≤ t - 60000
  · have hF : fstH xs t = t - 60000 := by unfold fstH; omega
    rw [hF, decide_eq_true (by omega)]
    simp
  · have hF : fstH xs t = el xs 0 := by unfold fstH; omega
    have hs : sideV a b c d xs n (t - 60000) = 0 := by
      unfold sideV lastsB
      rw [inR_no (by omega)]
      rfl
    rw [hF, hs]
    by_cases ht : el xs 0 ≤ t
    · rw [decide_eq_true ht]
      cases hS : (sideV a b c d xs n (el xs 0) == 1)
      · simp
      · have : fixS a b c d xs n t n = true := by
          unfold fixS
          rw [List.any_eq_true]
          refine ⟨0, by simp; omega, ?_⟩
          rw [Nat.zero_mul, hS, inR_yes ⟨by omega, ht⟩]
          rfl
        rw [this]
        simp
    · rw [decide_eq_false ht]
      simp
end Go.Proofs.Ytlmaecmjpbgegaa
