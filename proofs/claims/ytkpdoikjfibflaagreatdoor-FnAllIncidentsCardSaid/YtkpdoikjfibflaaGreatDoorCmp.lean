/- Walks: products of two numbers compared through their two halves, as the program does it. No condition. -/
import Derived.Test.YtkpdoikjfibflaaGreatDoorK
import Derived.Test.YtkpdoikjfibflaaGreatDoorShelfM
namespace Go.Proofs.YtkpdoikjfibflaaGreatDoor
open Go.RowKit Go.WideShapes Go.ChangeShapes
def hi64 (x y : Nat) : Nat := x * y / 18446744073709551616
def lo64 (x y : Nat) : Nat := x * y % 18446744073709551616
theorem mul64_any (x y : Nat) (hx : x ≤ 9223372036854775807) (hy : y ≤ 9223372036854775807) (w : World) :
    Calls Tryz.prog 136 #[.int .u64 x, .int .u64 y] w fun e w' => e = .returned (.tuple #[.int .u64 (hi64 x y : Nat), .int .u64 (lo64 x y : Nat)]) ∧ w = w' :=
  (Tryz.bits_Mul64 x y (by omega) (by omega) w).mono fun _ _ h => ⟨h.1, h.2.symm⟩
/-- -1, 0 or 1, as a * b is less than, equal to or greater than c * d. -/
def cmpI (a b c d : Int) : Int := if a * b < c * d then -1 else if a * b = c * d then 0 else 1
theorem cmpI_le {a b c d : Int} : cmpI a b c d ≤ 0 ↔ a * b ≤ c * d := by
  unfold cmpI
  split
  · omega
  · split <;> omega
theorem cmp_halves {a b c d : Nat} : (hi64 a b < hi64 c d ∨ hi64 a b = hi64 c d ∧ lo64 a b < lo64 c d ↔ a * b < c * d) ∧ (hi64 a b = hi64 c d ∧ lo64 a b = lo64 c d ↔ a * b = c * d) := by
  unfold hi64 lo64
  generalize a * b = p
  generalize c * d = q
  omega
theorem cmpI_lt {a b c d : Nat} (h : hi64 a b < hi64 c d ∨ hi64 a b = hi64 c d ∧ lo64 a b < lo64 c d) : cmpI a b c d = -1 := by
  have := (cmp_halves (a := a) (b := b) (c := c) (d := d)).1.1 h
  unfold cmpI
  rw [if_pos (by rw [← Int.natCast_mul, ← Int.natCast_mul]; omega)]
theorem cmpI_eq {a b c d : Nat} (h : hi64 a b = hi64 c d ∧ lo64 a b = lo64 c d) : cmpI a b c d = 0 := by
  have := (cmp_halves (a := a) (b := b) (c := c) (d := d)).2.1 h
  unfold cmpI
  rw [if_neg (by rw [← Int.natCast_mul, ← Int.natCast_mul]; omega), if_pos (by rw [← Int.natCast_mul, ← Int.natCast_mul]; omega)]
theorem cmpI_gt {a b c d : Nat} (h : ¬ (hi64 a b < hi64 c d ∨ hi64 a b = hi64 c d ∧ lo64 a b < lo64 c d)) (h2 : ¬ (hi64 a b = hi64 c d ∧ lo64 a b = lo64 c d)) : cmpI a b c d = 1 := by
  have h3 := mt (cmp_halves (a := a) (b := b) (c := c) (d := d)).1.2 h
  have h4 := mt (cmp_halves (a := a) (b := b) (c := c) (d := d)).2.2 h2
  unfold cmpI
  rw [if_neg (by rw [← Int.natCast_mul, ← Int.natCast_mul]; omega), if_neg (by rw [← Int.natCast_mul, ← Int.natCast_mul]; omega)]
theorem impl_cmpN (a b c d : Nat) (ha : a ≤ 9223372036854775807) (hb : b ≤ 9223372036854775807) (hc : c ≤ 9223372036854775807) (hd : d ≤ 9223372036854775807) (w : World) :
    Calls Tryz.prog 151 #[.int .i64 a, .int .i64 b, .int .i64 c, .int .i64 d] w fun e w' => e = .returned (.int .i64 (cmpI a b c d)) ∧ w = w' := by
  go_enter Tryz.func151, Tryz.ntmps151
  go_wp2_with (go_at_call 136; refine (mul64_any _ _ (by omega) (by omega) _).mono ?_; rintro e w' ⟨rfl, rfl⟩)
  all_goals go_ret
  all_goals refine ⟨ret_int ?_, rfl⟩
  all_goals (try simp only [beq_iff_eq, beq_eq_false_iff_ne, ne_eq, Int.natCast_inj] at *)
  all_goals (symm; first | exact cmpI_lt (by omega) | exact cmpI_eq (by omega) | exact cmpI_gt (by omega) (by omega))
theorem impl_cmp (a b c d : Int) (ha : 0 ≤ a ∧ a ≤ 9223372036854775807) (hb : 0 ≤ b ∧ b ≤ 9223372036854775807) (hc : 0 ≤ c ∧ c ≤ 9223372036854775807) (hd : 0 ≤ d ∧ d ≤ 9223372036854775807) (w : World) :
    Calls Tryz.prog 151 #[.int .i64 a, .int .i64 b, .int .i64 c, .int .i64 d] w fun e w' => e = .returned (.int .i64 (cmpI a b c d)) ∧ w = w' := by
  obtain ⟨a, rfl⟩ := Int.eq_ofNat_of_zero_le ha.1
  obtain ⟨b, rfl⟩ := Int.eq_ofNat_of_zero_le hb.1
  obtain ⟨c, rfl⟩ := Int.eq_ofNat_of_zero_le hc.1
  obtain ⟨d, rfl⟩ := Int.eq_ofNat_of_zero_le hd.1
  exact impl_cmpN a b c d (by omega) (by omega) (by omega) (by omega) w
end Go.Proofs.YtkpdoikjfibflaaGreatDoor
