/- Walks: the number of a name of a finish code, as the program and the reference read it. No condition. -/
import Derived.Test.YtgdjgjkijcmkfaaDoorTa
namespace Go.Proofs.YtgdjgjkijcmkfaaDoor
open Go.RowKit Go.WideShapes Go.ChangeShapes
theorem codeName_ne {s : ByteArray} {k : Nat} (h : ∀ j : Nat, j < k → codeName j ≠ s) (hk : codeName k ≠ s) : ∀ j : Nat, j < k + 1 → codeName j ≠ s := by
  intro j hj
  rcases Nat.lt_or_ge j k with h1 | h1
  · exact h j h1
  · obtain rfl : j = k := by omega
    exact hk
/-- The number of a name: the first of 0 to 9 whose name it is. -/
def codeOf (s : ByteArray) : Int × Bool :=
  match (List.range 10).find? fun j => decide (codeName (j : Nat) = s) with
  | some j => ((j : Int), true)
  | none => (0, false)
theorem codeOf_some {s : ByteArray} {k : Nat} (hk : k < 10) (h : ∀ j : Nat, j < k → codeName j ≠ s) (he : codeName k = s) : codeOf s = ((k : Int), true) := by
  have : (List.range 10).find? (fun j => decide (codeName (j : Nat) = s)) = some k := by
    rw [List.find?_range_eq_some]
    refine ⟨by simpa using he, by simpa using hk, fun j hj => by simpa using h j hj⟩
  unfold codeOf
  rw [this]
theorem codeOf_none {s : ByteArray} (h : ∀ j : Nat, j < 10 → codeName j ≠ s) : codeOf s = (0, false) := by
  have : (List.range 10).find? (fun j => decide (codeName (j : Nat) = s)) = none := by
    rw [List.find?_eq_none]
    intro j hj
    simpa using h j (by simpa using hj)
  unfold codeOf
  rw [this]
def noneYet (s : ByteArray) (k : Nat) : Prop := ∀ j : Nat, j < k → codeName j ≠ s
theorem noneYet_step {s : ByteArray} {k : Nat} (h : noneYet s k) (he : ((codeName k).toList == s.toList) = false) : noneYet s (k + 1) := codeName_ne h fun e => by rw [e] at he; simp at he
theorem spec_ReadCode (s : ByteArray) (w : World) : Calls Tryd.prog 84 #[.string s] w fun r w' => r = .returned (.tuple #[.int .i64 (codeOf s).1, .bool (codeOf s).2]) ∧ Q w w' := by
  go_enter Tryd.func84, Tryd.ntmps84
  go_wp2_with fail
  go_loopw [4] (fun i wr => ∃ k : Nat, k ≤ 10 ∧ i = .int .i64 k ∧ noneYet s k ∧ Q w wr) (fun i _ => 10 - (intOf i).toNat)
  case atStart => exact ⟨0, by omega, rfl, fun j hj => absurd hj (by omega), Q.refl _⟩
  case round =>
    obtain ⟨k, hk, rfl, hn, hq⟩ := hrel
    by_cases hlt : k < 10
    · go_wp2_with fail
      refine (spec_CodeText _ _).mono ?_
      rintro e w1 ⟨rfl, hq1⟩
      go_wp2_with fail
      · go_ret2
        exact ⟨by rw [codeOf_some hlt hn (bytes_eq (by assumption))]; rfl, hq.trans hq1⟩
      · go_roundw
        case rel => exact ⟨k + 1, by omega, by go_num, noneYet_step hn (by assumption), hq.trans hq1⟩
        case measure => simp [intOf]; omega
    · obtain rfl : k = 10 := by omega
      go_wp2_with fail
      go_ret2
      exact ⟨by rw [codeOf_none hn]; rfl, hq⟩
theorem impl_ReadCode (s : ByteArray) (w : World) : Calls Tryd.prog 42 #[.string s] w fun r w' => r = .returned (.tuple #[.int .i64 (codeOf s).1, .bool (codeOf s).2]) ∧ Q w w' := by
  go_enter Tryd.func42, Tryd.ntmps42
  go_wp2_with fail
  go_loopw [4] (fun i wr => ∃ k : Nat, k ≤ 10 ∧ i = .int .i64 k ∧ noneYet s k ∧ Q w wr) (fun i _ => 10 - (intOf i).toNat)
  case atStart => exact ⟨0, by omega, rfl, fun j hj => absurd hj (by omega), Q.refl _⟩
  case round =>
    obtain ⟨k, hk, rfl, hn, hq⟩ := hrel
    by_cases hlt : k < 10
    · go_wp2_with fail
      refine (impl_CodeText _ _).mono ?_
      rintro e w1 ⟨rfl, hq1⟩
      go_wp2_with fail
      · go_ret2
        exact ⟨by rw [codeOf_some hlt hn (bytes_eq (by assumption))]; rfl, hq.trans hq1⟩
      · go_roundw
        case rel => exact ⟨k + 1, by omega, by go_num, noneYet_step hn (by assumption), hq.trans hq1⟩
        case measure => simp [intOf]; omega
    · obtain rfl : k = 10 := by omega
      go_wp2_with fail
      go_ret2
      exact ⟨by rw [codeOf_none hn]; rfl, hq⟩
end Go.Proofs.YtgdjgjkijcmkfaaDoor
