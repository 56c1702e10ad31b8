/- The plain law of hasty tracks: a track's position at a fix's time is the fix; the times of crossings do not fall. The plain law of hasty tracks: the program's test and the reference's are one. The plain value of a start, and whether it is one; walks: the laws' own function on starts. -/
import Derived.Test.YteofhfefbphjdaaGreatDoorHastyI
namespace Go.Proofs.YteofhfefbphjdaaGreatDoor
theorem trk_lt {xs : List Int} {n : Nat} (hT : isTrk xs n = true) : ∀ d i, i + d + 1 < n → el xs (i * 3) < el xs ((i + d + 1) * 3)
  | 0, i, h => (trk_two hT h).1.2.1
  | d + 1, i, h => by
    have h1 := trk_lt hT d i (by omega)
    have h2 := (trk_two hT (k := i + d + 1) (by omega)).1.2.1
    rw [show i + (d + 1) + 1 = i + d + 1 + 1 by omega]
    omega
theorem trk_lt' {xs : List Int} {n i j : Nat} (hT : isTrk xs n = true) (h : i < j) (hj : j < n) : el xs (i * 3) < el xs (j * 3) := by
  have := trk_lt hT (j - i - 1) i (by omega)
  rwa [show i + (j - i - 1) + 1 = j by omega] at this
theorem trk_le' {xs : List Int} {n i j : Nat} (hT : isTrk xs n = true) (h : i ≤ j) (hj : j < n) : el xs (i * 3) ≤ el xs (j * 3) := by
  rcases Nat.lt_or_ge i j with h1 | h1
  · exact Int.le_of_lt (trk_lt' hT h1 hj)
  · obtain rfl : i = j := by omega
    exact Int.le_refl _
theorem posC_0 (a b d : Int) : posC a b 0 d = a := by unfold posC; simp
theorem posC_d {a b d : Int} (hd : 0 < d) : posC a b d d = b := by
  unfold posC
  rw [Int.mul_ediv_cancel _ (by omega)]
  omega
theorem lasts_fix {xs : List Int} {n i : Nat} (hT : isTrk xs n = true) (hi : i < n) : lastsB xs n (el xs (i * 3)) = true := by
  unfold lastsB
  have h1 := trk_le' hT (Nat.zero_le i) hi
  have h2 := trk_le' hT (show i ≤ n - 1 by omega) (show n - 1 < n by omega)
  rw [Nat.zero_mul] at h1
  exact inR_yes ⟨h1, h2⟩
theorem at_fix {xs : List Int} {n i : Nat} (hT : isTrk xs n = true) (hi : i < n) : atX xs n (el xs (i * 3)) = el xs (i * 3 + 1) ∧ atY xs n (el xs (i * 3)) = el xs (i * 3 + 2) := by
  obtain ⟨h1, h2, h3⟩ := leg_facts hT (lasts_fix hT hi)
  unfold atX atY
  generalize legS xs (el xs (i * 3)) (n - 1) = g at *
  have h4 : g ≤ i := by
    rcases Nat.lt_or_ge i g with h | h
    · have := trk_lt' hT h (by omega); omega
    · exact h
  have h5 : i ≤ g + 1 := by
    rcases Nat.lt_or_ge (g + 1) i with h | h
    · have := trk_lt' hT h hi; omega
    · exact h
  rcases Nat.eq_or_lt_of_le h4 with rfl | h6
  · rw [Int.sub_self]
    exact ⟨posC_0 _ _ _, posC_0 _ _ _⟩
  · obtain rfl : i = g + 1 := by omega
    have hd := trk_lt' hT (show g < g + 1 by omega) h1
    exact ⟨posC_d (by omega), posC_d (by omega)⟩
theorem side_fix (a b c d : Int) {xs : List Int} {n i : Nat} (hT : isTrk xs n = true) (hi : i < n) : sideV a b c d xs n (el xs (i * 3)) = sgn (crossV a b c d (el xs (i * 3 + 1)) (el xs (i * 3 + 2))) := by
  unfold sideV
  rw [if_pos (lasts_fix hT hi), (at_fix hT hi).1, (at_fix hT hi).2]
theorem ceil_le {dt N D : Nat} (hD : 0 < D) (hN : N ≤ D) : ((dt * N / D : Nat) : Int) + (if 0 < dt * N % D then 1 else 0) ≤ (dt : Int) := by
  have h1 : dt * N ≤ dt * D := Nat.mul_le_mul_left _ hN
  have h2 := Nat.div_add_mod (dt * N) D
  split
  · rename_i h
    have h3 : dt * N / D < dt := by
      rcases Nat.lt_or_ge (dt * N / D) dt with h4 | h4
      · exact h4
      · have h5 : D * dt ≤ D * (dt * N / D) := Nat.mul_le_mul_left _ h4
        rw [Nat.mul_comm D dt] at h5
        omega
    omega
  · have h3 : dt * N / D ≤ dt := Nat.le_trans (Nat.div_le_div_right h1) (by rw [Nat.mul_div_cancel _ hD]; exact Nat.le_refl _)
    omega
theorem tmK_bd {a b c d : Int} {xs : List Int} {n k : Nat} (hT : isTrk xs n = true) (hl : lnB a b c d = true) (hk : k + 1 < n) (hw : wyK a b c d xs k ≠ 0) : el xs (k * 3) ≤ tmK a b c d xs k ∧ tmK a b c d xs k ≤ el xs ((k + 1) * 3) := by
  obtain ⟨_, ht, hp, hq⟩ := trk_facts hT hk
  obtain ⟨h1, h2, _, _⟩ := num_place hl hp hq hw
  have h3 := ceil_le (dt := dtK xs k) h1 h2
  have h4 : ((dtK xs k : Nat) : Int) = el xs ((k + 1) * 3) - el xs (k * 3) := by unfold dtK; omega
  unfold tmK
  have h5 : (0 : Int) ≤ (if 0 < dtK xs k * nK a b c d xs k % dK a b c d xs k then 1 else 0) := by split <;> omega
  rw [Int.add_assoc]
  generalize dtK xs k * nK a b c d xs k / dK a b c d xs k = q at *
  generalize (if 0 < dtK xs k * nK a b c d xs k % dK a b c d xs k then (1 : Int) else 0) = r at *
  constructor
  · omega
  · omega
theorem el_app_l {L E : List Int} {j : Nat} (h : j < L.length) : el (L ++ E) j = el L j := by
  unfold el
  rw [List.getD_eq_getElem?_getD, List.getD_eq_getElem?_getD, List.getElem?_append_left h]
theorem el_app_r {L E : List Int} (j : Nat) : el (L ++ E) (L.length + j) = el E j := by
  unfold el
  rw [List.getD_eq_getElem?_getD, List.getD_eq_getElem?_getD, List.getElem?_append_right (by omega)]
  congr 2
  omega
theorem crL_sorted {a b c d : Int} {xs : List Int} {n : Nat} (hT : isTrk xs n = true) (hl : lnB a b c d = true) : ∀ K, K < n → ∃ m, (crL a b c d xs K).length = m * 5 ∧ (∀ j, j < m → el (crL a b c d xs K) (j * 5) ≤ el xs (K * 3)) ∧ ∀ i j, i ≤ j → j < m → el (crL a b c d xs K) (i * 5) ≤ el (crL a b c d xs K) (j * 5)
  | 0, _ => ⟨0, rfl, fun j h => absurd h (by omega), fun i j _ h => absurd h (by omega)⟩
  | K + 1, h => by
    obtain ⟨m, h1, h2, h3⟩ := crL_sorted hT hl K (by omega)
    have hlt := trk_lt' hT (show K < K + 1 by omega) h
    by_cases hw : wyK a b c d xs K = 0
    · rw [crL_no hw]
      exact ⟨m, h1, fun j hj => by have := h2 j hj; omega, h3⟩
    · obtain ⟨h4, h5⟩ := tmK_bd hT hl h hw
      rw [crL_yes hw]
      have hnew : el (crL a b c d xs K ++ crK a b c d xs K) (m * 5) = tmK a b c d xs K := by
        have := el_app_r (L := crL a b c d xs K) (E := crK a b c d xs K) 0
        rw [h1, Nat.add_zero] at this
        rw [this]
        rfl
      have hold : ∀ j, j < m → el (crL a b c d xs K ++ crK a b c d xs K) (j * 5) = el (crL a b c d xs K) (j * 5) := fun j hj => el_app_l (by rw [h1]; omega)
      refine ⟨m + 1, by rw [List.length_append, h1]; simp [crK]; omega, fun j hj => ?_, fun i j hij hj => ?_⟩
      · rcases Nat.lt_or_ge j m with hj2 | hj2
        · rw [hold j hj2]; have := h2 j hj2; omega
        · obtain rfl : j = m := by omega
          rw [hnew]; exact h5
      · rcases Nat.lt_or_ge j m with hj2 | hj2
        · rw [hold j hj2, hold i (by omega)]; exact h3 i j hij hj2
        · obtain rfl : j = m := by omega
          rcases Nat.lt_or_ge i j with hi2 | hi2
          · rw [hold i hi2, hnew]; have := h2 i hi2; omega
          · obtain rfl : i = j := by omega
            exact Int.le_refl _
end Go.Proofs.YteofhfefbphjdaaGreatDoor
namespace Go.Proofs.YteofhfefbphjdaaGreatDoor
theorem fcI_neg {L : List Int} {wy fr : Int} : ∀ {m : Nat}, fcI L wy fr m = -1 → ∀ j, j < m → fcP L wy fr j = false
  | 0, _, j, hj => absurd hj (by omega)
  | m + 1, h, j, hj => by
    rw [fcI] at h
    split at h
    · rename_i h0; omega
    · rename_i h0
      have hm : fcI L wy fr m = -1 := by rcases fcI_bd L wy fr m with e | ⟨q, _, e, _⟩ <;> omega
      split at h
      · omega
      · rename_i hp
        rcases Nat.lt_or_ge j m with h1 | h1
        · exact fcI_neg hm j h1
        · obtain rfl : j = m := by omega
          simpa using hp
def crsS (a b c d : Int) (xs : List Int) (n : Nat) (t : Int) : Bool := (List.range ((crL a b c d xs (n - 1)).length / 5)).any fun j => (el (crL a b c d xs (n - 1)) (j * 5 + 2) == 1) && inR (el (crL a b c d xs (n - 1)) (j * 5)) (t - 60000) t
theorem crs_eq {a b c d : Int} {xs : List Int} {n : Nat} (hT : isTrk xs n = true) (hl : lnB a b c d = true) (t : Int) : crsH a b c d xs n t = crsS a b c d xs n t := by
  have hn := trk_n hT
  obtain ⟨m, h1, _, h3⟩ := crL_sorted (n := n) hT hl (n - 1) (by omega)
  unfold crsH crsS fcV
  rw [h1, Nat.mul_div_cancel _ (by decide)]
  generalize crL a b c d xs (n - 1) = L at *
  rcases fcI_bd L 1 (t - 60000) m with e | ⟨j, hj, e, hp, hf⟩
  · rw [e]
    have hno := fcI_neg e
    symm
    rw [show (decide ((0 : Int) ≤ -1) && decide (el L ((-1 : Int).toNat * 5) ≤ t)) = false by simp, List.any_eq_false]
    intro j hj
    have := hno j (by simpa using hj)
    unfold fcP at this
    unfold inR
    intro h
    simp at h this
    have := this h.1
    omega
  · rw [e]
    have hp1 : el L (j * 5 + 2) = 1 ∧ t - 60000 ≤ el L (j * 5) := by unfold fcP at hp; simpa using hp
    rw [Bool.eq_iff_iff]
    simp only [Bool.and_eq_true, decide_eq_true_eq, Int.toNat_natCast, List.any_eq_true, List.mem_range, beq_iff_eq]
    constructor
    · rintro ⟨_, h⟩
      exact ⟨j, hj, hp1.1, inR_yes ⟨hp1.2, h⟩⟩
    · rintro ⟨i, hi, h4, h5⟩
      refine ⟨by omega, ?_⟩
      unfold inR at h5
      have h5 := of_decide_eq_true h5
      have hji : j ≤ i := by
        rcases Nat.lt_or_ge i j with h6 | h6
        · have := hf i h6
          unfold fcP at this
          simp at this
          have := this h4
          omega
        · exact h6
      have := h3 j i hji hi
      omega
def fixS (a b c d : Int) (xs : List Int) (n : Nat) (t : Int) (k : Nat) : Bool := (List.range k).any fun i => inR (el xs (i * 3)) (t - 60000) t && (sideV a b c d xs n (el xs (i * 3)) == 1)
theorem fix_eq {a b c d : Int} {xs : List Int} {n : Nat} (hT : isTrk xs n = true) (t : Int) : ∀ k, k ≤ n → fixHs a b c d xs (t - 60000) t k = fixS a b c d xs n t k
  | 0, _ => rfl
  | k + 1, h => by
    have ih := fix_eq (a := a) (b := b) (c := c) (d := d) hT t k (by omega)
    have h1 := side_fix a b c d hT (show k < n by omega)
    rw [fixHs_succ, ih]
    unfold fixS
    rw [List.range_succ, List.any_append]
    simp only [List.any_cons, List.any_nil, Bool.or_false]
    rw [h1]
    rfl
def hsS (a b c d : Int) (xs : List Int) (n : Nat) (t : Int) : Bool := (sideV a b c d xs n t == 1) || (sideV a b c d xs n (t - 60000) == 1) || fixS a b c d xs n t n || crsS a b c d xs n t
theorem hs_eq {a b c d : Int} {xs : List Int} {n : Nat} (hT : isTrk xs n = true) (hl : lnB a b c d = true) (t : Int) : hsI a b c d xs n t = hsS a b c d xs n t := by
  have hn := trk_n hT
  unfold hsI hsS
  rw [crs_eq hT hl, fix_eq hT t n (Nat.le_refl _)]
  by_cases h0 : el xs 0 ≤ t - 60000
  · have hF : fstH xs t = t - 60000 := by unfold fstH; omega
    rw [hF, decide_eq_true (by omega)]
    simp
  · have hF : fstH xs t = el xs 0 := by unfold fstH; omega
    have hs : sideV a b c d xs n (t - 60000) = 0 := by
      unfold sideV lastsB
      rw [inR_no (by omega)]
      rfl
    rw [hF, hs]
    by_cases ht : el xs 0 ≤ t
    · rw [decide_eq_true ht]
      cases hS : (sideV a b c d xs n (el xs 0) == 1)
      · simp
      · have : fixS a b c d xs n t n = true := by
          unfold fixS
          rw [List.any_eq_true]
          refine ⟨0, by simp; omega, ?_⟩
          rw [Nat.zero_mul, hS, inR_yes ⟨by omega, ht⟩]
          rfl
        rw [this]
        simp
    · rw [decide_eq_false ht]
      simp
end Go.Proofs.YteofhfefbphjdaaGreatDoor
namespace Go.Proofs.YteofhfefbphjdaaGreatDoor
open Go.RowKit Go.WideShapes Go.ChangeShapes
/-- A start: its code, the time from which it counts, its time, its penalty. -/
abbrev St4 := Int × Int × Int × Bool
def stVal (p : St4) : Value := .agg #[.int .i64 p.1, .int .i64 p.2.1, .int .i64 p.2.2.1, .bool p.2.2.2]
/-- The start by what is found on the way: hasty, early, the flag, the first crossing back, the time from which the start counts, the first crossing forward and its time, the last time, the time. -/
def stD (hs ea : Bool) (fl V1 fr V2 X lt t : Int) : St4 :=
  if hs = true ∧ fl = 3 then (8, 0, 0, false) else if hs = true ∧ fl = 2 then (6, 0, 0, false)
  else if ea = true ∧ V1 < 0 then (3, 0, 0, false) else if V2 < 0 ∨ lt < t then (if ea then 3 else 2, 0, 0, false)
  else (0, fr, X, hs && (fl == 1))
def stE (a b c d : Int) (xs : List Int) (n : Nat) (t : Int) : Bool := sideV a b c d xs n t == 1
def stFr (a b c d : Int) (xs : List Int) (n : Nat) (t : Int) : Int := if stE a b c d xs n t then el (crL a b c d xs (n - 1)) ((fcV a b c d xs n (-1) t).toNat * 5) else max t (el xs 0)
def stA (a b c d : Int) (xs : List Int) (n : Nat) (t fl : Int) : St4 :=
  stD (hsI a b c d xs n t) (stE a b c d xs n t) fl (fcV a b c d xs n (-1) t) (stFr a b c d xs n t) (fcV a b c d xs n 1 (stFr a b c d xs n t)) (el (crL a b c d xs (n - 1)) ((fcV a b c d xs n 1 (stFr a b c d xs n t)).toNat * 5)) (el xs ((n - 1) * 3)) t
theorem stD_3 {ea : Bool} {V1 fr V2 X lt t : Int} : stD true ea 3 V1 fr V2 X lt t = (8, 0, 0, false) := by simp [stD]
theorem stD_2 {ea : Bool} {V1 fr V2 X lt t : Int} : stD true ea 2 V1 fr V2 X lt t = (6, 0, 0, false) := by simp [stD]
theorem stD_e {hs : Bool} {fl V1 fr V2 X lt t : Int} (h : hs = true → fl ≠ 3 ∧ fl ≠ 2) (hV : V1 < 0) : stD hs true fl V1 fr V2 X lt t = (3, 0, 0, false) := by
  unfold stD
  rw [if_neg (fun e => (h e.1).1 e.2), if_neg (fun e => (h e.1).2 e.2), if_pos ⟨rfl, hV⟩]
theorem stD_m {hs ea : Bool} {fl V1 fr V2 X lt t : Int} (h : hs = true → fl ≠ 3 ∧ fl ≠ 2) (hV : ¬ (ea = true ∧ V1 < 0)) (h2 : V2 < 0 ∨ lt < t) : stD hs ea fl V1 fr V2 X lt t = (if ea then 3 else 2, 0, 0, false) := by
  unfold stD
  rw [if_neg (fun e => (h e.1).1 e.2), if_neg (fun e => (h e.1).2 e.2), if_neg hV, if_pos h2]
theorem stD_y {hs ea : Bool} {fl V1 fr V2 X lt t : Int} (h : hs = true → fl ≠ 3 ∧ fl ≠ 2) (hV : ¬ (ea = true ∧ V1 < 0)) (h2 : ¬ (V2 < 0 ∨ lt < t)) : stD hs ea fl V1 fr V2 X lt t = (0, fr, X, hs && (fl == 1)) := by
  unfold stD
  rw [if_neg (fun e => (h e.1).1 e.2), if_neg (fun e => (h e.1).2 e.2), if_neg hV, if_neg h2]
theorem Blk.far4 {w : World} {g b : Nat} {T : TypeId} {cs : Array Value} (h : Blk w g T cs) (hp : g ≠ b) (y0 y1 y2 y3 : Value) : Blk ((((w.setCell ⟨b, 0, none⟩ y0).setCell ⟨b, 1, none⟩ y1).setCell ⟨b, 2, none⟩ y2).setCell ⟨b, 3, none⟩ y3) g T cs :=
  (((h.far (p := ⟨b, 0, none⟩) hp y0).far (p := ⟨b, 1, none⟩) hp y1).far (p := ⟨b, 2, none⟩) hp y2).far (p := ⟨b, 3, none⟩) hp y3
end Go.Proofs.YteofhfefbphjdaaGreatDoor
