/- Plain: where the crossings of a track lie in time, and the finish of a boat. No condition. -/
import Derived.Test.YtomgdgdcpgeilaaGreatDoorMkT
import Derived.Test.YtomgdgdcpgeilaaGreatDoorMkQ
import Derived.Test.YtomgdgdcpgeilaaGreatDoorStT
import Derived.Test.YtomgdgdcpgeilaaGreatDoorStI
namespace Go.Proofs.YtomgdgdcpgeilaaGreatDoor
open Go.RowKit Go.WideShapes Go.ChangeShapes
theorem crL_ge {a b c d : Int} {xs : List Int} {n : Nat} (hT : isTrk xs n = true) (hl : lnB a b c d = true) : ∀ K, K < n → ∀ j, j * 5 < (crL a b c d xs K).length → el xs 0 ≤ el (crL a b c d xs K) (j * 5)
  | 0, _, j, hj => absurd hj (Nat.not_lt_zero _)
  | K + 1, hK, j, hj => by
    obtain ⟨m, hm, _⟩ := crL_len a b c d xs K
    by_cases h0 : wyK a b c d xs K = 0
    · rw [crL_no h0] at hj ⊢
      exact crL_ge hT hl K (by omega) j hj
    · rw [crL_yes h0] at hj ⊢
      by_cases hjm : j < m
      · rw [el_app_l (by omega)]
        exact crL_ge hT hl K (by omega) j (by omega)
      · rw [List.length_append, hm] at hj
        have h5 : (crK a b c d xs K).length = 5 := rfl
        obtain rfl : j = m := by omega
        have e0 := el_app_r (L := crL a b c d xs K) (E := crK a b c d xs K) 0
        rw [hm] at e0
        rw [show j * 5 = j * 5 + 0 from rfl, e0]
        have hb := tmK_bd hT hl hK h0
        have h00 := trk_le' hT (Nat.zero_le K) (show K < n by omega)
        rw [Nat.zero_mul] at h00
        have : el (crK a b c d xs K) 0 = tmK a b c d xs K := rfl
        omega
theorem cr_bd {a b c d : Int} {xs : List Int} {n : Nat} {wy fr : Int} (hT : isTrk xs n = true) (hl : lnB a b c d = true) (hV : 0 ≤ fcV a b c d xs n wy fr) :
    el xs 0 ≤ el (crL a b c d xs (n - 1)) ((fcV a b c d xs n wy fr).toNat * 5) ∧ el (crL a b c d xs (n - 1)) ((fcV a b c d xs n wy fr).toNat * 5) ≤ el xs ((n - 1) * 3) := by
  have hn := trk_n hT
  obtain ⟨m, hm, h1, _⟩ := crL_sorted hT hl (n - 1) (by omega)
  have e : fcV a b c d xs n wy fr = fcI (crL a b c d xs (n - 1)) wy fr m := by unfold fcV; rw [hm, Nat.mul_div_cancel _ (by decide)]
  rw [e] at hV ⊢
  rcases fcI_bd (crL a b c d xs (n - 1)) wy fr m with h | ⟨j, hj, h, _, _⟩
  · rw [h] at hV; exact absurd hV (by decide)
  · rw [h]
    have ej : ((j : Int)).toNat = j := by omega
    rw [ej]
    exact ⟨crL_ge hT hl (n - 1) (by omega) j (by omega), h1 j hj⟩
theorem tcT_bd {L ys : List Int} {m k : Nat} {fr : Int} (hT : isTrk ys m = true) (hl : lnB (el L (k * 4)) (el L (k * 4 + 1)) (el L (k * 4 + 2)) (el L (k * 4 + 3)) = true) (hV : 0 ≤ tcV L ys m k fr) : el ys 0 ≤ tcT L ys m k fr ∧ tcT L ys m k fr ≤ el ys ((m - 1) * 3) := cr_bd hT hl hV
theorem taF_bd {L ys : List Int} {m N : Nat} (hT : isTrk ys m = true) (hl : lnsOk L N) (hN : 1 ≤ N) (hok : taOk L ys m N = true) : 0 ≤ taF L ys m N ∧ taF L ys m N ≤ 1000000000 := by
  obtain ⟨k, rfl⟩ : ∃ k, N = k + 1 := ⟨N - 1, by omega⟩
  rw [taOk, Bool.and_eq_true, decide_eq_true_eq] at hok
  have hb := tcT_bd hT (hl k (by omega)) hok.2
  have hm := trk_n hT
  have t0 := trk_time hT (show 0 < m by omega)
  have t1 := trk_time hT (show m - 1 < m by omega)
  rw [Nat.zero_mul] at t0
  rw [taF]
  omega
/-- A start that counts lies within the track. -/
theorem st_from {a b c d : Int} {xs : List Int} {n : Nat} {t fl : Int} (hT : isTrk xs n = true) (hl : lnB a b c d = true) (h : (stA a b c d xs n t fl).1 = 0) : el xs 0 ≤ (stA a b c d xs n t fl).2.1 := by
  unfold stA stD at h ⊢
  by_cases h1 : hsI a b c d xs n t = true ∧ fl = 3
  · rw [if_pos h1] at h; exact absurd h (by decide)
  · rw [if_neg h1] at h ⊢
    by_cases h2 : hsI a b c d xs n t = true ∧ fl = 2
    · rw [if_pos h2] at h; exact absurd h (by decide)
    · rw [if_neg h2] at h ⊢
      by_cases h3 : stE a b c d xs n t = true ∧ fcV a b c d xs n (-1) t < 0
      · rw [if_pos h3] at h; exact absurd h (by decide)
      · rw [if_neg h3] at h ⊢
        split at h
        · exfalso
          revert h
          cases stE a b c d xs n t <;> decide
        · rename_i h4
          rw [if_neg h4]
          show el xs 0 ≤ stFr a b c d xs n t
          unfold stFr
          cases hE : stE a b c d xs n t
          · simp only [Bool.false_eq_true, if_false]
            exact Int.le_max_right _ _
          · simp only [if_true]
            rw [hE] at h3
            have h3' : ¬ fcV a b c d xs n (-1) t < 0 := fun hlt => h3 ⟨rfl, hlt⟩
            exact (cr_bd hT hl (by omega)).1
/-- The last time of a track. -/
def fnE (xs : List Int) (n : Nat) : Int := el xs ((n - 1) * 3)
/-- The finish by the lines crossed: its code and its time. -/
def fnP (L : List Int) (N : Nat) (ys : List Int) (m : Nat) (t : Int) : Int × Int := if taOk L ys m N = true ∧ t < taF L ys m N then (0, taF L ys m N - t) else (4, 0)
def fnV (a b c d : Int) (L : List Int) (N : Nat) (xs : List Int) (n : Nat) (t fl : Int) : Int × Int :=
  if (stA a b c d xs n t fl).1 = 0 then (if (stA a b c d xs n t fl).2.1 < fnE xs n then fnP L N (cuL xs n (stA a b c d xs n t fl).2.1 (fnE xs n)) (cuC xs n (stA a b c d xs n t fl).2.1 (fnE xs n)) t else (4, 0)) else ((stA a b c d xs n t fl).1, 0)
theorem fnV_no {a b c d : Int} {L : List Int} {N : Nat} {xs : List Int} {n : Nat} {t fl : Int} (h : (stA a b c d xs n t fl).1 ≠ 0) : fnV a b c d L N xs n t fl = ((stA a b c d xs n t fl).1, 0) := by unfold fnV; rw [if_neg h]
theorem fnV_late {a b c d : Int} {L : List Int} {N : Nat} {xs : List Int} {n : Nat} {t fl : Int} (h : (stA a b c d xs n t fl).1 = 0) (h2 : ¬ (stA a b c d xs n t fl).2.1 < fnE xs n) : fnV a b c d L N xs n t fl = (4, 0) := by unfold fnV; rw [if_pos h, if_neg h2]
theorem fnV_go {a b c d : Int} {L : List Int} {N : Nat} {xs : List Int} {n : Nat} {t fl : Int} (h : (stA a b c d xs n t fl).1 = 0) (h2 : (stA a b c d xs n t fl).2.1 < fnE xs n) : fnV a b c d L N xs n t fl = fnP L N (cuL xs n (stA a b c d xs n t fl).2.1 (fnE xs n)) (cuC xs n (stA a b c d xs n t fl).2.1 (fnE xs n)) t := by unfold fnV; rw [if_pos h, if_pos h2]
theorem fn_last {xs : List Int} {n : Nat} (hT : isTrk xs n = true) : lastsB xs n (fnE xs n) = true := by
  have hn := trk_n hT
  have h0 := trk_le' hT (Nat.zero_le (n - 1)) (show n - 1 < n by omega)
  rw [Nat.zero_mul] at h0
  unfold lastsB inR fnE
  rw [decide_eq_true_eq]
  exact ⟨h0, Int.le_refl _⟩
theorem fn_cut {xs : List Int} {n : Nat} {y : Int} (hy : el xs 0 ≤ y) (hlt : y < fnE xs n) : lastsB xs n y = true := by
  unfold lastsB inR
  rw [decide_eq_true_eq]
  unfold fnE at hlt
  omega
theorem Blk.set3 {w : World} {b : Nat} {T : TypeId} {x0 x1 x2 : Value} (h : Blk w b T #[x0, x1, x2]) (y0 y1 y2 : Value) : Blk (((w.setCell ⟨b, 0, none⟩ y0).setCell ⟨b, 1, none⟩ y1).setCell ⟨b, 2, none⟩ y2) b T #[y0, y1, y2] := ((h.set_ 0 y0).set_ 1 y1).set_ 2 y2
theorem Q.set3 {a w : World} {b : Nat} (h : Q a w) (hb : a.heap.size ≤ b) (y0 y1 y2 : Value) : Q a (((w.setCell ⟨b, 0, none⟩ y0).setCell ⟨b, 1, none⟩ y1).setCell ⟨b, 2, none⟩ y2) := ((h.setCell (p := ⟨b, 0, none⟩) hb y0).setCell (p := ⟨b, 1, none⟩) hb y1).setCell (p := ⟨b, 2, none⟩) hb y2
end Go.Proofs.YtomgdgdcpgeilaaGreatDoor
