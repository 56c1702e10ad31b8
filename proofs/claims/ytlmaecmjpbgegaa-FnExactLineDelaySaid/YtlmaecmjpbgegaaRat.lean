/- Walks: lowest terms and division by parts, as the reference does them. -/
import Derived.Test.YtlmaecmjpbgegaaLow
import Derived.Test.YtlmaecmjpbgegaaLine
namespace Go.Proofs.Ytlmaecmjpbgegaa
open Go.RowKit Go.WideShapes Go.ChangeShapes
theorem spec_Gcd (a b : Nat) (ha : a ≤ 4611686018427387904) (hb : b ≤ 4611686018427387904) (w : World) :
    Calls Try.prog 140 #[.int .i64 a, .int .i64 b] w fun e w' => e = .returned (.int .i64 ((Nat.gcd a b : Nat) : Int)) ∧ Q w w' := by
  go_enter Try.func140, Try.ntmps140
  go_wp2_with fail
  go_loopw [0, 1] (fun u v wr => ∃ x y : Nat, u = .int .i64 x ∧ v = .int .i64 y ∧ Hid (Nat.gcd x y = Nat.gcd a b) ∧ x ≤ 4611686018427387904 ∧ y ≤ 4611686018427387904 ∧ Q w wr) (fun _ v _ => (intOf v).toNat)
  case atStart => exact ⟨a, b, rfl, rfl, Lib.hid rfl, ha, hb, Q.refl _⟩
  case round =>
    obtain ⟨x, y, rfl, rfl, HG, hx, hy, hq⟩ := hrel
    by_cases h0 : y = 0
    · subst h0
      have hg : x = Nat.gcd a b := by have := HG.out; rwa [Nat.gcd_zero_right] at this
      have HH := Lib.hid hg
      clear hg HG
      go_wp2_with fail
      go_ret
      exact ⟨by rw [← HH.out]; rfl, hq⟩
    · have hyI : ¬ (y : Int) = 0 := by omega
      have hyp : (0 : Int) < (y : Int) := by omega
      have hl : x % y < y := Nat.mod_lt _ (by omega)
      have e1 : ((x : Int)) % (y : Int) = ((x % y : Nat) : Int) := by rw [← Int.natCast_emod]
      have HG2 : Hid (Nat.gcd y (x % y) = Nat.gcd a b) := Lib.hid (gcd_step.trans HG.out)
      generalize x % y = m at *
      go_wp2_with fail
      go_roundw
      case rel => exact ⟨y, m, by simp, by rw [e1], HG2, hy, by omega, hq⟩
      case measure => rw [e1]; simp [intOf]; omega
theorem spec_Abs (n : Int) (hn : -9223372036854775807 ≤ n ∧ n ≤ 9223372036854775807) (w : World) : Calls Try.prog 141 #[.int .i64 n] w fun e w' => e = .returned (.int .i64 (n.natAbs : Nat)) ∧ w = w' := by
  rcases Int.le_total 0 n with h | h
  · have h1 : -n ≤ n := by omega
    go_enter Try.func141, Try.ntmps141
    go_wp2_with fail
    go_ret
    exact ⟨ret_int (by omega), rfl⟩
  · have h1 : n ≤ -n := by omega
    go_enter Try.func141, Try.ntmps141
    go_wp2_with fail
    go_ret
    exact ⟨ret_int (by omega), rfl⟩
set_option maxHeartbeats 1000000 in
theorem spec_Ratio (a b : Nat) (ha : a ≤ 4611686018427387904) (hb : b ≤ 4611686018427387904) (hb0 : 0 < b) (w : World) :
    Calls Try.prog 131 #[.int .i64 a, .int .i64 b] w fun e w' => e = .returned (.agg #[.int .i64 ((a / Nat.gcd a b : Nat) : Int), .int .i64 ((b / Nat.gcd a b : Nat) : Int)]) ∧ Q w w' := by
  have K1 := Lib.hid (fun wv => spec_Abs a (by omega) wv)
  have k2 := fun wv => spec_Gcd a b ha hb wv
  obtain ⟨x, hx⟩ : ∃ x, x = Nat.gcd a b := ⟨_, rfl⟩
  have hxp : 0 < x := by rw [hx]; exact Nat.gcd_pos_of_pos_right _ hb0
  have hp1 : a / x ≤ 4611686018427387904 := Nat.le_trans (Nat.div_le_self _ _) ha
  have hp2 : b / x ≤ 4611686018427387904 := Nat.le_trans (Nat.div_le_self _ _) hb
  rw [← hx] at k2
  have HP := Lib.hid (show a / x = a / Nat.gcd a b ∧ b / x = b / Nat.gcd a b by rw [hx]; exact ⟨rfl, rfl⟩)
  have K2 := Lib.hid k2
  have hxI : ¬ (x : Int) = 0 := by omega
  have hxb : ((x : Int) == 0) = false := by simpa using hxI
  have e1 : ((a : Int)) / (x : Int) = ((a / x : Nat) : Int) := by rw [← Int.natCast_ediv]
  have e2 : ((b : Int)) / (x : Int) = ((b / x : Nat) : Int) := by rw [← Int.natCast_ediv]
  generalize a / x = p at *
  generalize b / x = q at *
  have e3 : wrap64 (p : Int) = (p : Int) := by unfold wrap64; omega
  have e4 : wrap64 (q : Int) = (q : Int) := by unfold wrap64; omega
  clear hx k2 hxp
  go_enter Try.func131, Try.ntmps131
  go_wp2_with (first | (go_at_call 141; refine (K1.out _).mono ?_; rintro e w' ⟨rfl, rfl⟩; simp only [Int.natAbs_natCast]) | (go_at_call 140; refine (K2.out _).mono ?_; rintro e w1 ⟨rfl, q1⟩; have B0 := q1.boxB; have cB := B0.cell; have fB := B0.frozen))
  go_region
  all_goals go_wp2_with fail
  have F := ((((B0.set_ 0 (.int .i64 p)).set_ 1 (.int .i64 q)).drew)).cell
  have Q1 : Q w w1 := Q.trans (by (repeat (first | assumption | exact Q.refl _ | refine Q.alloc ?_ _ | refine Q.drewN ?_ _ | refine Q.drew ?_))) q1
  refine bodyPost_ret (v := .agg #[.int .i64 p, .int .i64 q]) (by simp [results, Try.results131, go_sem, F]) rfl ⟨?_, ((Q1.setCell (Nat.le_refl _) _).setCell (Nat.le_refl _) _).drew⟩
  rw [HP.out.1, HP.out.2]
theorem part_step {n N D q r S : Nat} (h : q * D + r = n / (S * 1000) * N) : (1000 * q + (r * 1000 + n / S % 1000 * N) / D) * D + (r * 1000 + n / S % 1000 * N) % D = n / S * N := by
  have h1 := Nat.div_add_mod (r * 1000 + n / S % 1000 * N) D
  have h2 : n / S = n / (S * 1000) * 1000 + n / S % 1000 := by rw [← Nat.div_div_eq_div_mul]; omega
  generalize (r * 1000 + n / S % 1000 * N) / D = x at *
  generalize (r * 1000 + n / S % 1000 * N) % D = y at *
  have h3 : (1000 * q + x) * D = 1000 * (q * D) + D * x := by rw [Nat.add_mul, Nat.mul_assoc, Nat.mul_comm x D]
  have h4 : n / S * N = n / (S * 1000) * N * 1000 + n / S % 1000 * N := by
    conv => lhs; rw [h2]
    rw [Nat.add_mul, Nat.mul_right_comm]
  rw [h3, h4]
  omega
end Go.Proofs.Ytlmaecmjpbgegaa
