/- Walks: products divided, as the program does it; lowest terms. No condition. -/
import Derived.Test.YtlmaecmjpbgegaaDiv
namespace Go.Proofs.Ytlmaecmjpbgegaa
open Go.RowKit Go.WideShapes Go.ChangeShapes
theorem mul64_any (x y : Nat) (hx : x ≤ 9223372036854775807) (hy : y ≤ 9223372036854775807) (w : World) :
    Calls Try.prog 138 #[.int .u64 x, .int .u64 y] w fun e w' => e = .returned (.tuple #[.int .u64 ((x * y / 18446744073709551616 : Nat) : Int), .int .u64 ((x * y % 18446744073709551616 : Nat) : Int)]) ∧ w = w' :=
  (Try.bits_Mul64 x y (by omega) (by omega) w).mono fun _ _ h => ⟨h.1, h.2.symm⟩
theorem impl_mulDiv (a b c : Nat) (ha : a ≤ 9223372036854775807) (hb : b ≤ 9223372036854775807) (hc0 : 0 < c) (hc : c ≤ 9223372036854775807) (h : a * b < c * 9223372036854775808) (w : World) :
    Calls Try.prog 124 #[.int .i64 a, .int .i64 b, .int .i64 c] w fun e w' => e = .returned (.tuple #[.int .i64 ((a * b / c : Nat) : Int), .bool (decide (0 < a * b % c))]) ∧ Q w w' := by
  have k1 := fun wv => mul64_any a b ha hb wv
  have hq : a * b / c < 9223372036854775808 := Nat.div_lt_of_lt_mul h
  have hr : a * b % c < c := Nat.mod_lt _ hc0
  have hhi : a * b / 18446744073709551616 < c := Nat.div_lt_of_lt_mul (by omega)
  have hdm : a * b / 18446744073709551616 * 18446744073709551616 + a * b % 18446744073709551616 = a * b := by omega
  have hlo : a * b % 18446744073709551616 < 18446744073709551616 := Nat.mod_lt _ (by decide)
  have k2 := fun wv => div64_any (a * b / 18446744073709551616) (a * b % 18446744073709551616) c hhi (by omega) hlo wv
  rw [hdm] at k2
  generalize a * b / 18446744073709551616 = hi at *
  generalize a * b % 18446744073709551616 = lo at *
  generalize a * b / c = q at *
  generalize a * b % c = r at *
  have K1 := Lib.hid k1
  have K2 := Lib.hid k2
  clear k1 k2 h hdm
  go_enter Try.func124, Try.ntmps124
  go_wp2_with (first | (go_at_call 139; refine (K2.out _).mono ?_; rintro e w1 ⟨rfl, q1⟩) | (go_at_call 138; refine (K1.out _).mono ?_; rintro e w' ⟨rfl, rfl⟩))
  go_ret2
  exact ⟨ret_ib (by first | rfl | (rw [IntKind.wrap_i64]; omega)) (by first | rfl | (rw [Bool.eq_iff_iff]; simp)), q1⟩
end Go.Proofs.Ytlmaecmjpbgegaa
