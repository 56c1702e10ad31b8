/- Walks: division rounded down and rounded up, as the program and the reference do it, for positive divisors. -/
import Derived.Test.YtkpdoikjfibflaaGreatK
namespace Go.Proofs.YtkpdoikjfibflaaGreat
open Go.RowKit Go.WideShapes Go.ChangeShapes
theorem floor_neg {a b : Int} (ha : a < 0) (hb : 0 < b) : a / b = (if a.tmod b < 0 then a.tdiv b - 1 else a.tdiv b) ∧ a ≤ a.tdiv b ∧ a.tdiv b ≤ 0 := by
  have h1 : a.tdiv b = -((-a) / b) := by
    have := Int.neg_tdiv (a := -a) (b := b)
    rw [Int.neg_neg] at this
    rw [this, Int.tdiv_eq_ediv_of_nonneg (by omega)]
  have h2 : a.tmod b = -((-a) % b) := by
    have := Int.neg_tmod (a := -a) (b := b)
    rw [Int.neg_neg] at this
    rw [this, Int.tmod_eq_emod_of_nonneg (by omega)]
  have h3 := Int.emod_nonneg (-a) (show b ≠ 0 by omega)
  have h4 := Int.emod_lt_of_pos (-a) hb
  have h5 := Int.mul_ediv_add_emod (-a) b
  have h6 : 0 ≤ (-a) / b := Int.ediv_nonneg (by omega) (by omega)
  have h7 : (-a) / b ≤ -a := Int.ediv_le_self _ (by omega)
  refine ⟨?_, by omega, by omega⟩
  rw [h1, h2]
  generalize (-a) / b = q at *
  generalize (-a) % b = r at *
  split
  · rename_i hr
    rw [show a = (b - r) + b * (-q - 1) by rw [Int.mul_sub, Int.mul_neg]; omega, Int.add_mul_ediv_left _ _ (by omega), Int.ediv_eq_zero_of_lt (by omega) (by omega)]
    omega
  · rename_i hr
    rw [show a = 0 + b * (-q) by rw [Int.mul_neg]; omega, Int.add_mul_ediv_left _ _ (by omega), Int.zero_ediv]
    omega
theorem impl_floorDiv (a b : Int) (w : World) (hb : 0 < b) (ha : -9223372036854775807 ≤ a ∧ a ≤ 9223372036854775807) (hb2 : b ≤ 9223372036854775807) :
    Calls Tryz.prog 82 #[.int .i64 a, .int .i64 b] w fun e w' => e = .returned (.int .i64 (a / b)) ∧ w = w' := by
  by_cases h0 : 0 ≤ a
  · have h1 := Int.emod_nonneg a (show b ≠ 0 by omega)
    go_enter Tryz.func82, Tryz.ntmps82
    go_wp2_with fail
    go_ret
    exact ⟨rfl, rfl⟩
  · obtain ⟨h1, h2, h3⟩ := floor_neg (show a < 0 by omega) hb
    have HE := Lib.hid h1
    by_cases hm : a.tmod b < 0
    · rw [if_pos hm] at h1
      have HE := Lib.hid h1
      clear h1
      go_enter Tryz.func82, Tryz.ntmps82
      go_wp2_with fail
      go_ret
      exact ⟨ret_int HE.out.symm, rfl⟩
    · rw [if_neg hm] at h1
      have HE := Lib.hid h1
      clear h1
      go_enter Tryz.func82, Tryz.ntmps82
      go_wp2_with fail
      go_ret
      exact ⟨ret_int HE.out.symm, rfl⟩
theorem spec_Floor (a b : Int) (w : World) (hb : 0 < b) (ha : -9223372036854775807 ≤ a ∧ a ≤ 9223372036854775807) (hb2 : b ≤ 9223372036854775807) :
    Calls Tryz.prog 126 #[.int .i64 a, .int .i64 b] w fun e w' => e = .returned (.int .i64 (a / b)) ∧ w = w' := by
  by_cases h0 : 0 ≤ a
  · have h1 := Int.emod_nonneg a (show b ≠ 0 by omega)
    go_enter Tryz.func126, Tryz.ntmps126
    go_wp2_with fail
    go_ret
    exact ⟨rfl, rfl⟩
  · obtain ⟨h1, h2, h3⟩ := floor_neg (show a < 0 by omega) hb
    by_cases hm : a.tmod b < 0
    · rw [if_pos hm] at h1
      have HE := Lib.hid h1
      clear h1
      go_enter Tryz.func126, Tryz.ntmps126
      go_wp2_with fail
      go_ret
      exact ⟨ret_int HE.out.symm, rfl⟩
    · rw [if_neg hm] at h1
      have HE := Lib.hid h1
      clear h1
      go_enter Tryz.func126, Tryz.ntmps126
      go_wp2_with fail
      go_ret
      exact ⟨ret_int HE.out.symm, rfl⟩
theorem impl_ceilDiv (a b : Int) (w : World) (hb : 0 < b) (ha : -9223372036854775807 ≤ a ∧ a ≤ 9223372036854775807) (hb2 : b ≤ 9223372036854775807) (hq : -9223372036854775807 ≤ (-a) / b) :
    Calls Tryz.prog 68 #[.int .i64 a, .int .i64 b] w fun e w' => e = .returned (.int .i64 (-((-a) / b))) ∧ w = w' := by
  have hq2 : (-a) / b ≤ 9223372036854775807 := by
    rcases Int.lt_or_le (-a) 0 with h | h
    · exact Int.le_trans (Int.le_of_lt (Int.ediv_neg_of_neg_of_pos h hb)) (by omega)
    · exact Int.le_trans (Int.ediv_le_self _ h) (by omega)
  go_enter Tryz.func68, Tryz.ntmps68
  go_wp2_with (go_at_call 82; refine (impl_floorDiv _ _ _ hb (by omega) hb2).mono ?_; rintro e w' ⟨rfl, rfl⟩)
  go_ret
  exact ⟨rfl, rfl⟩
end Go.Proofs.YtkpdoikjfibflaaGreat
