/- Plain: what a finish says of the start and of the time. No condition. -/
import Derived.Test.YteofhfefbphjdaaGreatDoorMkZ
import Derived.Test.YteofhfefbphjdaaGreatDoorStO
import Derived.Test.YteofhfefbphjdaaGreatDoorTc
namespace Go.Proofs.YteofhfefbphjdaaGreatDoor
open Go.RowKit Go.WideShapes Go.ChangeShapes
theorem cuL_0 (xs : List Int) (n : Nat) (t e : Int) : el (cuL xs n t e) 0 = t := by
  unfold cuL cuH
  rw [List.append_assoc]
  rfl
/-- The last of all lines is crossed at or after the first time of the track. -/
theorem taF_ge {L ys : List Int} {m N : Nat} (hT : isTrk ys m = true) (hl : lnsOk L N) (hN : 1 ≤ N) (hok : taOk L ys m N = true) : el ys 0 ≤ taF L ys m N := by
  obtain ⟨k, rfl⟩ : ∃ k, N = k + 1 := ⟨N - 1, by omega⟩
  rw [taOk, Bool.and_eq_true, decide_eq_true_eq] at hok
  rw [taF]
  exact (tcT_bd hT (hl k (by omega)) hok.2).1
/-- A finish: the start's code, or not finished, or finished at or after the time from which the start counts. -/
theorem fn_law {a b c d : Int} {L : List Int} {N : Nat} {xs : List Int} {n : Nat} {t fl : Int} (hT : isTrk xs n = true) (hl0 : lnB a b c d = true) (hl : lnsOk L N) (hN : 1 ≤ N) (ht : 0 ≤ t ∧ t ≤ 1000000000) :
    ((stA a b c d xs n t fl).1 ≠ 0 ∧ fnV a b c d L N xs n t fl = ((stA a b c d xs n t fl).1, 0)) ∨
    ((stA a b c d xs n t fl).1 = 0 ∧ (fnV a b c d L N xs n t fl = (4, 0) ∨ ∃ x, fnV a b c d L N xs n t fl = (0, x) ∧ (1 ≤ x ∧ x ≤ 1000000000) ∧ (stA a b c d xs n t fl).2.1 ≤ x + t)) := by
  by_cases h : (stA a b c d xs n t fl).1 = 0
  · right
    refine ⟨h, ?_⟩
    by_cases hlt : (stA a b c d xs n t fl).2.1 < fnE xs n
    · rw [fnV_go h hlt]
      have hc := fn_cut (n := n) (st_from hT hl0 h) hlt
      have hTy := cut_trk hT hc rfl hlt
      unfold fnP
      by_cases hg : taOk L (cuL xs n (stA a b c d xs n t fl).2.1 (fnE xs n)) (cuC xs n (stA a b c d xs n t fl).2.1 (fnE xs n)) N = true ∧ t < taF L (cuL xs n (stA a b c d xs n t fl).2.1 (fnE xs n)) (cuC xs n (stA a b c d xs n t fl).2.1 (fnE xs n)) N
      · right
        rw [if_pos hg]
        have h1 := taF_ge hTy hl hN hg.1
        have h2 := taF_bd hTy hl hN hg.1
        have h0 : el (cuL xs n (stA a b c d xs n t fl).2.1 (el xs ((n - 1) * 3))) 0 = (stA a b c d xs n t fl).2.1 := cuL_0 ..
        rw [h0] at h1
        have hg2 := hg.2
        unfold fnE at hg2
        exact ⟨_, rfl, by unfold fnE; omega, by unfold fnE; omega⟩
      · left
        rw [if_neg hg]
    · left
      exact fnV_late h hlt
  · left
    exact ⟨h, fnV_no h⟩
theorem stD_code (hs ea : Bool) (fl V1 fr V2 X lt t : Int) : (stD hs ea fl V1 fr V2 X lt t).1 = 0 ∨ (1 ≤ (stD hs ea fl V1 fr V2 X lt t).1 ∧ (stD hs ea fl V1 fr V2 X lt t).1 ≤ 9) := by
  unfold stD
  repeat' split
  all_goals first
    | exact .inl rfl
    | exact .inr ⟨by decide, by decide⟩
/-- What a finish says, where all is well. -/
theorem ff_facts {a b c d p q r s : Int} {ms : List Mk} {xs : List Int} {n : Nat} {t fl : Int} (h : ffK a b c d p q r s ms xs n t fl = 0) :
    stK a b c d xs n t fl = 0 ∧ (0 ≤ t ∧ t ≤ 1000000000) ∧ isFin (ffV a b c d p q r s ms xs n t fl).1 (ffV a b c d p q r s ms xs n t fl).2.1 (ffV a b c d p q r s ms xs n t fl).2.2 = true ∧
    (((stA a b c d xs n t fl).1 ≠ 0 ∧ (ffV a b c d p q r s ms xs n t fl).2.1 = (stA a b c d xs n t fl).1) ∨ ((stA a b c d xs n t fl).1 = 0 ∧ ((ffV a b c d p q r s ms xs n t fl).2.1 = 4 ∨ ((ffV a b c d p q r s ms xs n t fl).2.1 = 0 ∧ (1 ≤ (ffV a b c d p q r s ms xs n t fl).2.2 ∧ (ffV a b c d p q r s ms xs n t fl).2.2 ≤ 1000000000) ∧ (stA a b c d xs n t fl).2.1 ≤ (ffV a b c d p q r s ms xs n t fl).2.2 + t)))) := by
  have h1 : fsK a b c d p q r s ms [(n, xs)] t fl = 0 := h
  obtain ⟨hc, hb, ht, hf, hall⟩ := fsK_0 h1
  obtain ⟨hl, _, _⟩ := crs_yes hc
  have hT : isTrk xs n = true := by unfold allB at hb; simpa using hb
  have hlO := clL_ok (rfl : ms.length = ms.length) hc hall
  have hst : stK a b c d xs n t fl = 0 := by unfold stK; rw [if_pos ⟨hl, hT⟩, if_pos ⟨inR_yes ht, hf⟩]
  have hV : ffV a b c d p q r s ms xs n t fl = (0, (fnV a b c d (clL a b c d p q r s ms) (ms.length + 2) xs n t fl).1, (fnV a b c d (clL a b c d p q r s ms) (ms.length + 2) xs n t fl).2) := by unfold ffV; rw [if_pos h]
  have hL := fn_law (fl := fl) hT hl hlO (by omega) ht
  have hC : (stA a b c d xs n t fl).1 = 0 ∨ (1 ≤ (stA a b c d xs n t fl).1 ∧ (stA a b c d xs n t fl).1 ≤ 9) := by unfold stA; exact stD_code ..
  rw [hV]
  dsimp only
  refine ⟨hst, ht, ?_, ?_⟩
  · rcases hL with ⟨h0, he⟩ | ⟨h0, he | ⟨x, he, hx, _⟩⟩
    · rw [he]
      simp only [isFin]
      simp
      omega
    · rw [he]; rfl
    · rw [he]
      simp only [isFin]
      simp
      omega
  · rcases hL with ⟨h0, he⟩ | ⟨h0, he | ⟨x, he, hx, hge⟩⟩
    · left; rw [he]; exact ⟨h0, rfl⟩
    · right; rw [he]; exact ⟨h0, .inl rfl⟩
    · right; rw [he]; exact ⟨h0, .inr ⟨rfl, hx, hge⟩⟩
end Go.Proofs.YteofhfefbphjdaaGreatDoor
