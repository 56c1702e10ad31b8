/- Walks: the check times of two tracks, as the program and the reference list them, for all valid arguments. -/
import Derived.Test.YteofhfefbphjdaaGreatDoorTrk
import Derived.Test.YteofhfefbphjdaaGreatDoorK
import Derived.Test.YteofhfefbphjdaaGreatDoorTc
import Derived.Deep.Cut
namespace Go.Proofs.YteofhfefbphjdaaGreatDoor
open Go.RowKit Go.WideShapes Go.ChangeShapes
theorem trk_n {xs : List Int} {n : Nat} (h : isTrk xs n = true) : 2 ≤ n ∧ n ≤ 40 := by
  unfold isTrk at h
  rw [Bool.and_eq_true] at h
  exact of_decide_eq_true h.1
theorem trk_at {xs : List Int} {n k : Nat} (h : isTrk xs n = true) (hk : k < n) : (0 ≤ el xs (k * 3) ∧ el xs (k * 3) ≤ 1000000000) ∧ ptB (el xs (k * 3 + 1)) (el xs (k * 3 + 2)) = true ∧ (k = 0 ∨ el xs ((k - 1) * 3) < el xs (k * 3)) := by
  unfold isTrk at h
  rw [Bool.and_eq_true] at h
  exact fixAt_yes (fixTo_at h.2 hk)
theorem trk_time {xs : List Int} {n k : Nat} (h : isTrk xs n = true) (hk : k < n) : 0 ≤ el xs (k * 3) ∧ el xs (k * 3) ≤ 1000000000 := (trk_at h hk).1
/-- The times from t on, in steps of s, up to u; none if there are more than the fuel lets. -/
def ckGo (s u : Int) : Nat → Int → Option (List Int)
  | 0, _ => none
  | f + 1, t => if t ≤ u then (ckGo s u f (t + s)).map (t :: ·) else some []
def ckFrom (s : Int) (xs ys : List Int) : Int := -((-(max (el xs 0) (el ys 0))) / s) * s
def ckTo (xs : List Int) (n : Nat) (ys : List Int) (m : Nat) : Int := min (el xs ((n - 1) * 3)) (el ys ((m - 1) * 3))
theorem ck_floor {s f : Int} (hs : 1 ≤ s) (hf : 0 ≤ f) : -f ≤ (-f) / s ∧ (-f) / s ≤ 0 ∧ -((-f) / s) = (f + s - 1) / s ∧ f ≤ -((-f) / s) * s ∧ -((-f) / s) * s < f + s := by
  have h1 := Int.emod_nonneg (-f) (show s ≠ 0 by omega)
  have h2 := Int.emod_lt_of_pos (-f) (show 0 < s by omega)
  have h3 := Int.mul_ediv_add_emod (-f) s
  generalize hq : (-f) / s = q at *
  generalize (-f) % s = r at *
  have h4 : q ≤ 0 := by
    rcases Int.lt_or_le 0 q with h | h
    · have : s * 1 ≤ s * q := Int.mul_le_mul_of_nonneg_left (by omega) (by omega)
      omega
    · exact h
  have h5 : -q * s = f + r := by rw [Int.neg_mul, Int.mul_comm]; omega
  refine ⟨?_, h4, ?_, by omega, by omega⟩
  · rcases Int.lt_or_le q (-f) with h | h
    · have e1 : s * q ≤ s * (-f - 1) := Int.mul_le_mul_of_nonneg_left (by omega) (by omega)
      have e2 : 1 * f ≤ s * f := Int.mul_le_mul_of_nonneg_right (by omega) hf
      rw [Int.mul_sub, Int.mul_neg] at e1
      omega
    · exact h
  · rw [show f + s - 1 = (s - 1 - r) + s * (-q) by rw [Int.mul_neg]; omega, Int.add_mul_ediv_left _ _ (by omega), Int.ediv_eq_zero_of_lt (by omega) (by omega)]
    omega
theorem ckGo_end {s u t : Int} {f : Nat} (h : ¬ t ≤ u) : ckGo s u (f + 1) t = some [] := by rw [ckGo, if_neg h]
theorem ckGo_more {s u t : Int} {f : Nat} (h : t ≤ u) : ckGo s u (f + 1) t = (ckGo s u f (t + s)).map (t :: ·) := by rw [ckGo, if_pos h]
theorem ck_step {s u T t : Int} {k : Nat} {L : List Int} (hk : k < 400) (h : t ≤ u) (hC : ckGo s u 401 T = (ckGo s u (401 - k) t).map (L ++ ·)) : ckGo s u 401 T = (ckGo s u (401 - (k + 1)) (t + s)).map ((L ++ [t]) ++ ·) := by
  rw [hC, show 401 - k = (401 - (k + 1)) + 1 by omega, ckGo_more h, Option.map_map]
  congr 1
  funext x
  simp
theorem ck_none {s u T t : Int} {L : List Int} (h : t ≤ u) (hC : ckGo s u 401 T = (ckGo s u (401 - 400) t).map (L ++ ·)) : ckGo s u 401 T = none := by
  rw [hC, show 401 - 400 = 0 + 1 from rfl, ckGo_more h]
  rfl
theorem ck_some {s u T t : Int} {k : Nat} {L : List Int} (hk : k ≤ 400) (h : ¬ t ≤ u) (hC : ckGo s u 401 T = (ckGo s u (401 - k) t).map (L ++ ·)) : ckGo s u 401 T = some L := by
  rw [hC, show 401 - k = (400 - k) + 1 by omega, ckGo_end h]
  simp
def CkPost (s u t : Int) (w : World) (e : Ending) (w' : World) : Prop :=
  match ckGo s u 401 t with
  | none => e = .returned (.tuple #[.slice none 0 0, .bool false]) ∧ Q w w'
  | some L => ∃ A c, e = .returned (.tuple #[.slice A L.length c, .bool true]) ∧ Own w' w.heap.size 2 1 (.slice A L.length c) L.length L ∧ Q w w'
theorem CkPost.none_ {s u t : Int} {w w' : World} (h : ckGo s u 401 t = none) (hq : Q w w') : CkPost s u t w (.returned (.tuple #[.slice none 0 0, .bool false])) w' := by
  unfold CkPost
  rw [h]
  exact ⟨rfl, hq⟩
theorem CkPost.some_ {s u t : Int} {w w' : World} {L : List Int} {A : Option Addr} {n c : Nat} (h : ckGo s u 401 t = some L) (ho : Own w' w.heap.size 2 1 (.slice A n c) n L) (hq : Q w w') : CkPost s u t w (.returned (.tuple #[.slice A n c, .bool true])) w' := by
  unfold CkPost
  rw [h]
  have hn : n = L.length := by have := ho.len; omega
  subst hn
  exact ⟨A, c, rfl, ho, hq⟩
def ctimC (a b d s : Int) (xs : List Int) (n : Nat) (ys : List Int) (m : Nat) : Int := if (isWat a b d s && isTrk xs n && isTrk ys m) = false then 1 else match ckGo s (ckTo xs n ys m) 401 (ckFrom s xs ys) with
  | none => 3
  | some _ => 0
def ctimL (a b d s : Int) (xs : List Int) (n : Nat) (ys : List Int) (m : Nat) : List Int := if (isWat a b d s && isTrk xs n && isTrk ys m) = false then [] else (ckGo s (ckTo xs n ys m) 401 (ckFrom s xs ys)).getD []
theorem ctim_bad {a b d s : Int} {xs ys : List Int} {n m : Nat} (h : (isWat a b d s && isTrk xs n && isTrk ys m) = false) : ctimC a b d s xs n ys m = 1 ∧ ctimL a b d s xs n ys m = [] := by simp only [ctimC, ctimL, if_pos h]; exact ⟨trivial, trivial⟩
theorem ctim_ok {a b d s : Int} {xs ys : List Int} {n m : Nat} (h : isWat a b d s = true) (h1 : isTrk xs n = true) (h2 : isTrk ys m = true) :
    ctimC a b d s xs n ys m = (match ckGo s (ckTo xs n ys m) 401 (ckFrom s xs ys) with | none => 3 | some _ => 0) ∧ ctimL a b d s xs n ys m = (ckGo s (ckTo xs n ys m) 401 (ckFrom s xs ys)).getD [] := by
  have : (isWat a b d s && isTrk xs n && isTrk ys m) = true := by rw [h, h1, h2]; rfl
  simp only [ctimC, ctimL, this]
  exact ⟨rfl, rfl⟩
theorem isWat_step {a b d s : Int} (h : isWat a b d s = true) : 1 ≤ s ∧ s ≤ 60000 := by
  have := of_decide_eq_true h
  omega
theorem ckGo_len {s u : Int} : ∀ (f : Nat) (t : Int) (L : List Int), ckGo s u f t = some L → L.length ≤ f
  | 0, _, _, h => by cases h
  | f + 1, t, L, h => by
    unfold ckGo at h
    split at h
    · cases hg : ckGo s u f (t + s) with
      | none => rw [hg] at h; cases h
      | some M =>
        rw [hg] at h
        injection h with h
        subst h
        have := ckGo_len f _ M hg
        simp only [List.length_cons]
        omega
    · injection h with h
      subst h
      simp
theorem ctimL_len (a b d s : Int) (xs : List Int) (n : Nat) (ys : List Int) (m : Nat) : (ctimL a b d s xs n ys m).length ≤ 401 := by
  unfold ctimL
  split
  · simp
  · cases hg : ckGo s (ckTo xs n ys m) 401 (ckFrom s xs ys) with
    | none => simp
    | some M => exact ckGo_len 401 _ M hg
end Go.Proofs.YteofhfefbphjdaaGreatDoor
