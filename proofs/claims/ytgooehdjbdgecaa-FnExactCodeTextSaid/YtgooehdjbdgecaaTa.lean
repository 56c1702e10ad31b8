/- Walks: the names of the finish codes, as the program and the reference return them. No condition. -/
import Derived.Test.YtgooehdjbdgecaaIn
namespace Go.Proofs.Ytgooehdjbdgecaa
open Go.RowKit Go.WideShapes Go.ChangeShapes
def codeName (n : Int) : ByteArray :=
  if n = 0 then ⟨#[70, 73, 78]⟩ else if n = 1 then ⟨#[68, 78, 67]⟩ else if n = 2 then ⟨#[68, 78, 83]⟩ else if n = 3 then ⟨#[79, 67, 83]⟩ else if n = 4 then ⟨#[68, 78, 70]⟩
  else if n = 5 then ⟨#[82, 69, 84]⟩ else if n = 6 then ⟨#[68, 83, 81]⟩ else if n = 7 then ⟨#[68, 78, 69]⟩ else if n = 8 then ⟨#[66, 70, 68]⟩ else if n = 9 then ⟨#[82, 68, 71]⟩ else ⟨#[]⟩
theorem codeName_out (n : Int) (h : ¬ (0 ≤ n ∧ n ≤ 9)) : codeName n = ⟨#[]⟩ := by
  unfold codeName
  repeat rw [if_neg (by omega)]
set_option maxHeartbeats 2000000 in
theorem spec_CodeText (n : Int) (w : World) : Calls Try.prog 15 #[.int .i64 n] w fun e w' => e = .returned (.string (codeName n)) ∧ Below w.heap.size w w' := by
  by_cases h : 0 ≤ n ∧ n ≤ 9
  · obtain rfl | rfl | rfl | rfl | rfl | rfl | rfl | rfl | rfl | rfl : n = 0 ∨ n = 1 ∨ n = 2 ∨ n = 3 ∨ n = 4 ∨ n = 5 ∨ n = 6 ∨ n = 7 ∨ n = 8 ∨ n = 9 := by omega
    all_goals
      go_enter Try.func15, Try.ntmps15
      go_wp2_with (go_at_call 51; refine (spec_in _ _ _ _).mono ?_; rintro e w' ⟨rfl, rfl⟩)
      go_ret
      exact ⟨rfl, (Below.refl _ _).alloc (Nat.le_refl _) _⟩
  · go_enter Try.func15, Try.ntmps15
    go_wp2_with (go_at_call 51; refine (spec_in _ _ _ _).mono ?_; rintro e w' ⟨rfl, rfl⟩)
    go_ret
    exact ⟨by rw [codeName_out n h]; rfl, Below.refl _ _⟩
set_option maxHeartbeats 2000000 in
theorem impl_CodeText (n : Int) (w : World) : Calls Try.prog 16 #[.int .i64 n] w fun e w' => e = .returned (.string (codeName n)) ∧ Below w.heap.size w w' := by
  by_cases h : 0 ≤ n ∧ n ≤ 9
  · obtain rfl | rfl | rfl | rfl | rfl | rfl | rfl | rfl | rfl | rfl : n = 0 ∨ n = 1 ∨ n = 2 ∨ n = 3 ∨ n = 4 ∨ n = 5 ∨ n = 6 ∨ n = 7 ∨ n = 8 ∨ n = 9 := by omega
    all_goals
      go_enter Try.func16, Try.ntmps16
      go_wp2_with (go_at_call 52; refine (impl_in _ _ _ _).mono ?_; rintro e w' ⟨rfl, rfl⟩)
      go_ret
      exact ⟨rfl, (Below.refl _ _).alloc (Nat.le_refl _) _⟩
  · go_enter Try.func16, Try.ntmps16
    go_wp2_with (go_at_call 52; refine (impl_in _ _ _ _).mono ?_; rintro e w' ⟨rfl, rfl⟩)
    go_ret
    exact ⟨by rw [codeName_out n h]; rfl, (Below.refl _ _).alloc (Nat.le_refl _) _⟩
theorem law_FnExactCodeText (n : Int) (_ : -9223372036854775808 ≤ n ∧ n ≤ 9223372036854775807) (w : World) : Calls Try.prog 3 #[.int .i64 n] w fun e w' => e = .returned (.bool true) ∧ Below w.heap.size w w' := by
  go_enter Try.func3, Try.ntmps3
  go_wp2_with fail
  refine (spec_CodeText _ _).mono ?_
  rintro e w1 ⟨rfl, hb1⟩
  go_wp2_with fail
  refine (impl_CodeText _ _).mono ?_
  rintro e w2 ⟨rfl, hb2⟩
  go_wp2_with fail
  go_ret
  exact ⟨rfl, hb1.trans (hb2.mono hb1.size)⟩
end Go.Proofs.Ytgooehdjbdgecaa
