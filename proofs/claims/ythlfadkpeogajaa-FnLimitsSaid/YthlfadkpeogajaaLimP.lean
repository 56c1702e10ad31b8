/- Plain laws: limits applied twice are limits applied once; the first boat is not late; the boats that are late are those whose finish is changed. -/
import Derived.Test.YthlfadkpeogajaaApl
namespace Go.Proofs.Ythlfadkpeogajaa
open Go.RowKit Go.WideShapes Go.ChangeShapes
def finB (xs : List Int) (j : Nat) : Prop := el xs (j * 3 + 1) = 0
theorem bestF_char {xs : List Int} : ∀ n : Nat, (bestF xs n = -1 ∧ ∀ j, j < n → ¬ finB xs j) ∨ ∃ m : Nat, bestF xs n = m ∧ m < n ∧ finB xs m ∧ ∀ j, j < n → finB xs j → el xs (m * 3 + 2) ≤ el xs (j * 3 + 2)
  | 0 => .inl ⟨rfl, fun j hj => absurd hj (by omega)⟩
  | n + 1 => by
    have ih := bestF_char (xs := xs) n
    by_cases h0 : xs.getD (n * 3 + 1) 0 = 0
    · by_cases h1 : bestF xs n < 0 ∨ xs.getD (n * 3 + 2) 0 < xs.getD ((bestF xs n).toNat * 3 + 2) 0
      · right
        refine ⟨n, bestF_yes h0 h1, by omega, h0, fun j hj hf => ?_⟩
        rcases Nat.lt_or_ge j n with hj2 | hj2
        · rcases ih with ⟨_, h2⟩ | ⟨m, h2, h3, h4, h5⟩
          · exact absurd hf (h2 j hj2)
          · have h6 := h5 j hj2 hf
            rw [h2] at h1
            simp only [Int.toNat_natCast] at h1
            have h7 : el xs (n * 3 + 2) < el xs (m * 3 + 2) := by
              rcases h1 with h1 | h1
              · omega
              · exact h1
            omega
        · obtain rfl : j = n := by omega
          exact Int.le_refl _
      · right
        rcases ih with ⟨h2, _⟩ | ⟨m, h2, h3, h4, h5⟩
        · exact absurd (.inl (by omega)) h1
        · refine ⟨m, by rw [bestF_no1 h1]; exact h2, by omega, h4, fun j hj hf => ?_⟩
          rcases Nat.lt_or_ge j n with hj2 | hj2
          · exact h5 j hj2 hf
          · obtain rfl : j = n := by omega
            rw [h2] at h1
            simp only [Int.toNat_natCast] at h1
            have : ¬ el xs (j * 3 + 2) < el xs (m * 3 + 2) := fun h => h1 (.inr h)
            omega
    · rw [bestF_no0 h0]
      rcases ih with ⟨h2, h3⟩ | ⟨m, h2, h3, h4, h5⟩
      · refine .inl ⟨h2, fun j hj => ?_⟩
        rcases Nat.lt_or_ge j n with hj2 | hj2
        · exact h3 j hj2
        · obtain rfl : j = n := by omega
          exact h0
      · refine .inr ⟨m, h2, by omega, h4, fun j hj hf => ?_⟩
        rcases Nat.lt_or_ge j n with hj2 | hj2
        · exact h5 j hj2 hf
        · obtain rfl : j = n := by omega
          exact absurd hf h0
theorem ftm_of {xs : List Int} {n m : Nat} {t : Int} (hm : m < n) (hf : finB xs m) (ht : el xs (m * 3 + 2) = t) (hall : ∀ j, j < n → finB xs j → t ≤ el xs (j * 3 + 2)) : ftm xs n = t := by
  rcases bestF_char (xs := xs) n with ⟨_, h⟩ | ⟨k, h1, h2, h3, h4⟩
  · exact absurd hf (h m hm)
  · rw [ftm_pos h1]
    have := h4 m hm hf
    have := hall k h2 h3
    omega
theorem spTo_at {t : Int} {xs : List Int} : ∀ {n k : Nat}, k < n → el (spTo t xs n) (k * 3) = el xs (k * 3) ∧ el (spTo t xs n) (k * 3 + 1) = (if lateB t xs k then 4 else el xs (k * 3 + 1)) ∧ el (spTo t xs n) (k * 3 + 2) = (if lateB t xs k then 0 else el xs (k * 3 + 2))
  | 0, k, h => absurd h (by omega)
  | n + 1, k, h => by
    have hl := spTo_len t xs n
    have old : ∀ (E : List Int) (i : Nat), i < n * 3 → el (spTo t xs n ++ E) i = el (spTo t xs n) i := fun E i hi => by
      unfold el
      rw [List.getD_eq_getElem?_getD, List.getElem?_append_left (by omega), ← List.getD_eq_getElem?_getD]
    have new : ∀ (E : List Int) (i : Nat), el (spTo t xs n ++ E) (n * 3 + i) = el E i := fun E i => by
      unfold el
      rw [List.getD_eq_getElem?_getD, List.getElem?_append_right (by omega), hl, Nat.add_sub_cancel_left, ← List.getD_eq_getElem?_getD]
    rcases Nat.lt_or_ge k n with hk | hk
    · have ih := spTo_at (t := t) (xs := xs) hk
      rw [spTo, old _ _ (by omega), old _ _ (by omega), old _ _ (by omega)]
      exact ih
    · obtain rfl : k = n := by omega
      have n0 := fun E => new E 0
      rw [Nat.add_zero] at n0
      rw [spTo, n0, new, new]
      cases hb : lateB t xs k <;> simp [el]
theorem finTo_iff {xs : List Int} {n : Nat} : finTo xs n = true ↔ ∀ j, j < n → finAt xs j = true := by
  unfold finTo
  rw [List.all_eq_true]
  simp
theorem spTo_eq {t : Int} {xs : List Int} : ∀ {n : Nat}, (∀ j, j < n → lateB t xs j = false) → spTo t xs n = xs.take (n * 3) ∨ xs.length < n * 3
  | 0, _ => .inl (by simp [spTo])
  | n + 1, h => by
    rcases spTo_eq (n := n) (fun j hj => h j (by omega)) with h1 | h1
    · rcases Nat.lt_or_ge xs.length ((n + 1) * 3) with h2 | h2
      · exact .inr h2
      · left
        have e : ∀ j, j < xs.length → xs.take (j + 1) = xs.take j ++ [el xs j] := fun j hj => by
          rw [List.take_succ_eq_append_getElem hj]
          simp [el, List.getD_eq_getElem?_getD, List.getElem?_eq_getElem hj]
        rw [spTo_no (h n (by omega)), h1, show (n + 1) * 3 = n * 3 + 1 + 1 + 1 by omega, e _ (by omega), e _ (by omega), e _ (by omega)]
        simp
    · exact .inr (by omega)
theorem lim_again {a b c : Int} {xs : List Int} {n : Nat} (hn : xs.length = n * 3) (h : alC a b c xs n = 0) :
    alC a b c (alL a b c xs n) n = 0 ∧ alL a b c (alL a b c xs n) n = alL a b c xs n ∧ finC xs n = 0 ∧ 0 ≤ bestF xs n ∧ lmC a b c xs n = 0 ∧
      (∀ m : Nat, bestF xs n = m → lateB (ftm xs n + c) xs m = false) ∧ (alL a b c xs n).length = n * 3 ∧ ftm xs n + c ≤ 2000000000 ∧ alL a b c xs n = spTo (ftm xs n + c) xs n := by
  have h1 : lmC a b c xs n = 0 := by
    by_cases h1 : lmC a b c xs n = 0
    · exact h1
    · rw [(al_1 h1).1] at h; exact absurd h h1
  have h2 : ¬ (ftm xs n < 0 ∨ b < ftm xs n) := fun h2 => by rw [(al_5 h1 h2).1] at h; cases h
  obtain ⟨h3, h4⟩ := lmC_zero h1
  have hl : 1 ≤ a ∧ a ≤ b ∧ 1 ≤ b ∧ b ≤ 1000000000 ∧ 1 ≤ c ∧ c ≤ 1000000000 := by unfold isLim at h3; exact of_decide_eq_true h3
  obtain ⟨h16, hfin⟩ := finC_zero h4
  rw [(al_0 h1 h2).2.2]
  generalize hT : ftm xs n + c = T at *
  have hb0 : 0 ≤ bestF xs n := by
    rcases bestF_char (xs := xs) n with ⟨e, _⟩ | ⟨m, e, _⟩
    · exact absurd (.inl (by rw [ftm_neg (by omega)]; omega)) h2
    · omega
  obtain ⟨m, e, hm, hfm, hall⟩ : ∃ m : Nat, bestF xs n = m ∧ m < n ∧ finB xs m ∧ ∀ j, j < n → finB xs j → el xs (m * 3 + 2) ≤ el xs (j * 3 + 2) := by
    rcases bestF_char (xs := xs) n with ⟨e, _⟩ | h
    · omega
    · exact h
  have ht := ftm_pos e
  have hml : lateB T xs m = false := by
    unfold lateB
    exact decide_eq_false (fun h => by omega)
  have hys := fun k (hk : k < n) => spTo_at (t := T) (xs := xs) hk
  have hyl := spTo_len T xs n
  generalize spTo T xs n = ys at *
  have hfy : finC ys n = 0 := by
    refine finC_ok (by omega) (finTo_iff.2 fun j hj => ?_)
    have h5 := hfin j hj
    obtain ⟨y0, y1, y2⟩ := hys j hj
    unfold finAt
    rw [el_eq, el_eq, el_eq]
    rw [y0, y1, y2]
    unfold isFin at h5 ⊢
    have h5 := of_decide_eq_true h5
    refine decide_eq_true ?_
    cases hb : lateB T xs j
    · simpa using h5
    · simp; omega
  have hty : ftm ys n = ftm xs n := by
    obtain ⟨y0, y1, y2⟩ := hys m hm
    rw [hml] at y1 y2
    refine ftm_of hm (show el ys (m * 3 + 1) = 0 by rw [y1]; exact hfm) (by rw [y2, ht]; rfl) fun j hj hf => ?_
    obtain ⟨z0, z1, z2⟩ := hys j hj
    have hf : el ys (j * 3 + 1) = 0 := hf
    rw [z1] at hf
    cases hb : lateB T xs j
    · rw [hb] at hf z2
      rw [z2, ht]
      exact hall j hj hf
    · rw [hb] at hf
      simp at hf
  have hy1 : lmC a b c ys n = 0 := by rw [lmC_yes h3]; exact hfy
  have hy2 : ¬ (ftm ys n < 0 ∨ b < ftm ys n) := by rw [hty]; exact h2
  refine ⟨(al_0 hy1 hy2).1, ?_, h4, hb0, h1, fun k hk => ?_, hyl, by omega, rfl⟩
  · rw [(al_0 hy1 hy2).2.2, hty, hT]
    rcases spTo_eq (t := T) (xs := ys) (n := n) (fun j hj => by
      obtain ⟨z0, z1, z2⟩ := hys j hj
      unfold lateB
      rw [z1, z2]
      refine decide_eq_false fun h => ?_
      cases hb : lateB T xs j
      · rw [hb] at h
        simp only [Bool.false_eq_true, if_false] at h
        have : lateB T xs j = true := by unfold lateB; exact decide_eq_true h
        rw [this] at hb; cases hb
      · rw [hb] at h
        simp at h) with h5 | h5
    · rw [h5, List.take_of_length_le (by omega)]
    · omega
  · obtain rfl : k = m := by omega
    exact hml
theorem lateTo_mem {t : Int} {xs : List Int} {n : Nat} {v : Int} : v ∈ lateTo t xs n ↔ ∃ k : Nat, v = k ∧ k < n ∧ lateB t xs k = true := by
  unfold lateTo
  simp only [List.mem_map, List.mem_filter, List.mem_range]
  constructor
  · rintro ⟨k, ⟨h1, h2⟩, rfl⟩
    exact ⟨k, rfl, h1, h2⟩
  · rintro ⟨k, rfl, h1, h2⟩
    exact ⟨k, ⟨h1, h2⟩, rfl⟩
theorem late_mem {t : Int} {xs : List Int} {n k : Nat} (hk : k < n) : decide ((k : Int) ∈ lateTo t xs n) = lateB t xs k := by
  rw [Bool.eq_iff_iff, decide_eq_true_eq, lateTo_mem]
  constructor
  · rintro ⟨j, e, _, h⟩
    obtain rfl : k = j := by omega
    exact h
  · exact fun h => ⟨k, rfl, hk, h⟩
/-- The finish of a boat is changed exactly if the boat is late. -/
theorem late_ne {t : Int} {xs : List Int} {n k : Nat} (hk : k < n) : (decide (el (spTo t xs n) (k * 3) = el xs (k * 3) ∧ el (spTo t xs n) (k * 3 + 1) = el xs (k * 3 + 1) ∧ el (spTo t xs n) (k * 3 + 2) = el xs (k * 3 + 2))) = !lateB t xs k := by
  obtain ⟨h0, h1, h2⟩ := spTo_at (t := t) (xs := xs) hk
  rw [h0, h1, h2]
  cases hb : lateB t xs k
  · simp
  · have h3 : el xs (k * 3 + 1) = 0 := by unfold lateB at hb; exact (of_decide_eq_true hb).1
    simp [h3]
end Go.Proofs.Ythlfadkpeogajaa
