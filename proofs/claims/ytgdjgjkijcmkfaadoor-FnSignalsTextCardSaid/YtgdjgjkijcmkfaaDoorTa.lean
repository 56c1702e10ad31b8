/- Walks: the names of the finish codes, as the program and the reference return them. No condition. -/
import Derived.Test.YtgdjgjkijcmkfaaDoorIn
namespace Go.Proofs.YtgdjgjkijcmkfaaDoor
open Go.RowKit Go.WideShapes Go.ChangeShapes
def codeName (n : Int) : ByteArray :=
  if n = 0 then ⟨#[70, 73, 78]⟩ else if n = 1 then ⟨#[68, 78, 67]⟩ else if n = 2 then ⟨#[68, 78, 83]⟩ else if n = 3 then ⟨#[79, 67, 83]⟩ else if n = 4 then ⟨#[68, 78, 70]⟩
  else if n = 5 then ⟨#[82, 69, 84]⟩ else if n = 6 then ⟨#[68, 83, 81]⟩ else if n = 7 then ⟨#[68, 78, 69]⟩ else if n = 8 then ⟨#[66, 70, 68]⟩ else if n = 9 then ⟨#[82, 68, 71]⟩ else ⟨#[]⟩
theorem codeName_out (n : Int) (h : ¬ (0 ≤ n ∧ n ≤ 9)) : codeName n = ⟨#[]⟩ := by
  unfold codeName
  repeat rw [if_neg (by omega)]
set_option maxHeartbeats 2000000 in
theorem spec_CodeText (n : Int) (w : World) : Calls Tryd.prog 68 #[.int .i64 n] w fun e w' => e = .returned (.string (codeName n)) ∧ Below w.heap.size w w' := by
  by_cases h : 0 ≤ n ∧ n ≤ 9
  · obtain rfl | rfl | rfl | rfl | rfl | rfl | rfl | rfl | rfl | rfl : n = 0 ∨ n = 1 ∨ n = 2 ∨ n = 3 ∨ n = 4 ∨ n = 5 ∨ n = 6 ∨ n = 7 ∨ n = 8 ∨ n = 9 := by omega
    all_goals
      go_enter Tryd.func68, Tryd.ntmps68
      go_wp2_with (go_at_call 63; refine (spec_in _ _ _ _).mono ?_; rintro e w' ⟨rfl, rfl⟩)
      go_ret
      exact ⟨rfl, (Below.refl _ _).alloc (Nat.le_refl _) _⟩
  · go_enter Tryd.func68, Tryd.ntmps68
    go_wp2_with (go_at_call 63; refine (spec_in _ _ _ _).mono ?_; rintro e w' ⟨rfl, rfl⟩)
    go_ret
    exact ⟨by rw [codeName_out n h]; rfl, Below.refl _ _⟩
set_option maxHeartbeats 2000000 in
theorem impl_CodeText (n : Int) (w : World) : Calls Tryd.prog 43 #[.int .i64 n] w fun e w' => e = .returned (.string (codeName n)) ∧ Below w.heap.size w w' := by
  by_cases h : 0 ≤ n ∧ n ≤ 9
  · obtain rfl | rfl | rfl | rfl | rfl | rfl | rfl | rfl | rfl | rfl : n = 0 ∨ n = 1 ∨ n = 2 ∨ n = 3 ∨ n = 4 ∨ n = 5 ∨ n = 6 ∨ n = 7 ∨ n = 8 ∨ n = 9 := by omega
    all_goals
      go_enter Tryd.func43, Tryd.ntmps43
      go_wp2_with (go_at_call 81; refine (impl_in _ _ _ _).mono ?_; rintro e w' ⟨rfl, rfl⟩)
      go_ret
      exact ⟨rfl, (Below.refl _ _).alloc (Nat.le_refl _) _⟩
  · go_enter Tryd.func43, Tryd.ntmps43
    go_wp2_with (go_at_call 81; refine (impl_in _ _ _ _).mono ?_; rintro e w' ⟨rfl, rfl⟩)
    go_ret
    exact ⟨by rw [codeName_out n h]; rfl, (Below.refl _ _).alloc (Nat.le_refl _) _⟩
end Go.Proofs.YtgdjgjkijcmkfaaDoor
