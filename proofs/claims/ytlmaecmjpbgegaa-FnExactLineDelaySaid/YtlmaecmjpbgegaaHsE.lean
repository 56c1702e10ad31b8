/- The plain law of hasty tracks: a track's position at a fix's time is the fix; the times of crossings do not fall. -/
import Derived.Test.YtlmaecmjpbgegaaHastyI
namespace Go.Proofs.Ytlmaecmjpbgegaa
theorem trk_lt {xs : List Int} {n : Nat} (hT : isTrk xs n = true) : ∀ d i, i + d + 1 < n → el xs (i * 3) < el xs ((i + d + 1) * 3)
  | 0, i, h => (trk_two hT h).1.2.1
  | d + 1, i, h => by
    have h1 := trk_lt hT d i (by omega)
    have h2 := (trk_two hT (k := i + d + 1) (by omega)).1.2.1
    rw [show i + (d + 1) + 1 = i + d + 1 + 1 by omega]
    omega
theorem trk_lt' {xs : List Int} {n i j : Nat} (hT : isTrk xs n = true) (h : i < j) (hj : j < n) : el xs (i * 3) < el xs (j * 3) := by
  have := trk_lt hT (j - i - 1) i (by omega)
  rwa [show i + (j - i - 1) + 1 = j by omega] at this
theorem trk_le' {xs : List Int} {n i j : Nat} (hT : isTrk xs n = true) (h : i ≤ j) (hj : j < n) : el xs (i * 3) ≤ el xs (j * 3) := by
  rcases Nat.lt_or_ge i j with h1 | h1
  · exact Int.le_of_lt (trk_lt' hT h1 hj)
  · obtain rfl : i = j := by omega
    exact Int.le_refl _
theorem posC_0 (a b d : Int) : posC a b 0 d = a := by unfold posC; simp
theorem posC_d {a b d : Int} (hd : 0 < d) : posC a b d d = b := by
  unfold posC
  rw [Int.mul_ediv_cancel _ (by omega)]
  omega
theorem lasts_fix {xs : List Int} {n i : Nat} (hT : isTrk xs n = true) (hi : i < n) : lastsB xs n (el xs (i * 3)) = true := by
  unfold lastsB
  have h1 := trk_le' hT (Nat.zero_le i) hi
  have h2 := trk_le' hT (show i ≤ n - 1 by omega) (show n - 1 < n by omega)
  rw [Nat.zero_mul] at h1
  exact inR_yes ⟨h1, h2⟩
theorem at_fix {xs : List Int} {n i : Nat} (hT : isTrk xs n = true) (hi : i < n) : atX xs n (el xs (i * 3)) = el xs (i * 3 + 1) ∧ atY xs n (el xs (i * 3)) = el xs (i * 3 + 2) := by
  obtain ⟨h1, h2, h3⟩ := leg_facts hT (lasts_fix hT hi)
  unfold atX atY
  generalize legS xs (el xs (i * 3)) (n - 1) = g at *
  have h4 : g ≤ i := by
    rcases Nat.lt_or_ge i g with h | h
    · have := trk_lt' hT h (by omega); omega
    · exact h
  have h5 : i ≤ g + 1 := by
    rcases Nat.lt_or_ge (g + 1) i with h | h
    · have := trk_lt' hT h hi; omega
    · exact h
  rcases Nat.eq_or_lt_of_le h4 with rfl | h6
  · rw [Int.sub_self]
    exact ⟨posC_0 _ _ _, posC_0 _ _ _⟩
  · obtain rfl : i = g + 1 := by omega
    have hd := trk_lt' hT (show g < g + 1 by omega) h1
    exact ⟨posC_d (by omega), posC_d (by omega)⟩
theorem side_fix (a b c d : Int) {xs : List Int} {n i : Nat} (hT : isTrk xs n = true) (hi : i < n) : sideV a b c d xs n (el xs (i * 3)) = sgn (crossV a b c d (el xs (i * 3 + 1)) (el xs (i * 3 + 2))) := by
  unfold sideV
  rw [if_pos (lasts_fix hT hi), (at_fix hT hi).1, (at_fix hT hi).2]
theorem ceil_le {dt N D : Nat} (hD : 0 < D) (hN : N ≤ D) : ((dt * N / D : Nat) : Int) + (if 0 < dt * N % D then 1 else 0) ≤ (dt : Int) := by
  have h1 : dt * N ≤ dt * D := Nat.mul_le_mul_left _ hN
  have h2 := Nat.div_add_mod (dt * N) D
  split
  · rename_i h
    have h3 : dt * N / D < dt := by
      rcases Nat.lt_or_ge (dt * N / D) dt with h4 | h4
      · exact h4
      · have h5 : D * dt ≤ D * (dt * N / D) := Nat.mul_le_mul_left _ h4
        rw [Nat.mul_comm D dt] at h5
        omega
    omega
  · have h3 : dt * N / D ≤ dt := Nat.le_trans (Nat.div_le_div_right h1) (by rw [Nat.mul_div_cancel _ hD]; exact Nat.le_refl _)
    omega
theorem tmK_bd {a b c d : Int} {xs : List Int} {n k : Nat} (hT : isTrk xs n = true) (hl : lnB a b c d = true) (hk : k + 1 < n) (hw : wyK a b c d xs k ≠ 0) : el xs (k * 3) ≤ tmK a b c d xs k ∧ tmK a b c d xs k ≤ el xs ((k + 1) * 3) := by
  obtain ⟨_, ht, hp, hq⟩ := trk_facts hT hk
  obtain ⟨h1, h2, _, _⟩ := num_place hl hp hq hw
  have h3 := ceil_le (dt := dtK xs k) h1 h2
  have h4 : ((dtK xs k : Nat) : Int) = el xs ((k + 1) * 3) - el xs (k * 3) := by unfold dtK; omega
  unfold tmK
  have h5 : (0 : Int) ≤ (if 0 < dtK xs k * nK a b c d xs k % dK a b c d xs k then 1 else 0) := by split <;> omega
  rw [Int.add_assoc]
  generalize dtK xs k * nK a b c d xs k / dK a b c d xs k = q at *
  generalize (if 0 < dtK xs k * nK a b c d xs k % dK a b c d xs k then (1 : Int) else 0) = r at *
  constructor
  · omega
  · omega
theorem el_app_l {L E : List Int} {j : Nat} (h : j < L.length) : el (L ++ E) j = el L j := by
  unfold el
  rw [List.getD_eq_getElem?_getD, List.getD_eq_getElem?_getD, List.getElem?_append_left h]
theorem el_app_r {L E : List Int} (j : Nat) : el (L ++ E) (L.length + j) = el E j := by
  unfold el
  rw [List.getD_eq_getElem?_getD, List.getD_eq_getElem?_getD, List.getElem?_append_right (by omega)]
  congr 2
  omega
theorem crL_sorted {a b c d : Int} {xs : List Int} {n : Nat} (hT : isTrk xs n = true) (hl : lnB a b c d = true) : ∀ K, K < n → ∃ m, (crL a b c d xs K).length = m * 5 ∧ (∀ j, j < m → el (crL a b c d xs K) (j * 5) ≤ el xs (K * 3)) ∧ ∀ i j, i ≤ j → j < m → el (crL a b c d xs K) (i * 5) ≤ el (crL a b c d xs K) (j * 5)
  | 0, _ => ⟨0, rfl, fun j h => absurd h (by omega), fun i j _ h => absurd h (by omega)⟩
  | K + 1, h => by
    obtain ⟨m, h1, h2, h3⟩ := crL_sorted hT hl K (by omega)
    have hlt := trk_lt' hT (show K < K + 1 by omega) h
    by_cases hw : wyK a b c d xs K = 0
    · rw [crL_no hw]
      exact ⟨m, h1, fun j hj => by have := h2 j hj; omega, h3⟩
    · obtain ⟨h4, h5⟩ := tmK_bd hT hl h hw
      rw [crL_yes hw]
      have hnew : el (crL a b c d xs K ++ crK a b c d xs K) (m * 5) = tmK a b c d xs K := by
        have := el_app_r (L := crL a b c d xs K) (E := crK a b c d xs K) 0
        rw [h1, Nat.add_zero] at this
        rw [this]
        rfl
      have hold : ∀ j, j < m → el (crL a b c d xs K ++ crK a b c d xs K) (j * 5) = el (crL a b c d xs K) (j * 5) := fun j hj => el_app_l (by rw [h1]; omega)
      refine ⟨m + 1, by rw [List.length_append, h1]; simp [crK]; omega, fun j hj => ?_, fun i j hij hj => ?_⟩
      · rcases Nat.lt_or_ge j m with hj2 | hj2
        · rw [hold j hj2]; have := h2 j hj2; omega
        · obtain rfl : j = m := by omega
          rw [hnew]; exact h5
      · rcases Nat.lt_or_ge j m with hj2 | hj2
        · rw [hold j hj2, hold i (by omega)]; exact h3 i j hij hj2
        · obtain rfl : j = m := by omega
          rcases Nat.lt_or_ge i j with hi2 | hi2
          · rw [hold i hi2, hnew]; have := h2 i hi2; omega
          · obtain rfl : i = j := by omega
            exact Int.le_refl _
end Go.Proofs.Ytlmaecmjpbgegaa
