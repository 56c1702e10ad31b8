/- Walks: products divided, as the program does it; lowest terms. No condition. Walks: lowest terms, as the program and the reference find them. -/
import Derived.Test.YtckmlioklnjboaaDiv
import Derived.RegionTactic
namespace Go.Proofs.Ytckmlioklnjboaa
open Go.RowKit Go.WideShapes Go.ChangeShapes
theorem mul64_any (x y : Nat) (hx : x ≤ 9223372036854775807) (hy : y ≤ 9223372036854775807) (w : World) :
    Calls Try.prog 113 #[.int .u64 x, .int .u64 y] w fun e w' => e = .returned (.tuple #[.int .u64 ((x * y / 18446744073709551616 : Nat) : Int), .int .u64 ((x * y % 18446744073709551616 : Nat) : Int)]) ∧ w = w' :=
  (Try.bits_Mul64 x y (by omega) (by omega) w).mono fun _ _ h => ⟨h.1, h.2.symm⟩
theorem impl_mulDiv (a b c : Nat) (ha : a ≤ 9223372036854775807) (hb : b ≤ 9223372036854775807) (hc0 : 0 < c) (hc : c ≤ 9223372036854775807) (h : a * b < c * 9223372036854775808) (w : World) :
    Calls Try.prog 97 #[.int .i64 a, .int .i64 b, .int .i64 c] w fun e w' => e = .returned (.tuple #[.int .i64 ((a * b / c : Nat) : Int), .bool (decide (0 < a * b % c))]) ∧ Q w w' := by
  have k1 := fun wv => mul64_any a b ha hb wv
  have hq : a * b / c < 9223372036854775808 := Nat.div_lt_of_lt_mul h
  have hr : a * b % c < c := Nat.mod_lt _ hc0
  have hhi : a * b / 18446744073709551616 < c := Nat.div_lt_of_lt_mul (by omega)
  have hdm : a * b / 18446744073709551616 * 18446744073709551616 + a * b % 18446744073709551616 = a * b := by omega
  have hlo : a * b % 18446744073709551616 < 18446744073709551616 := Nat.mod_lt _ (by decide)
  have k2 := fun wv => div64_any (a * b / 18446744073709551616) (a * b % 18446744073709551616) c hhi (by omega) hlo wv
  rw [hdm] at k2
  generalize a * b / 18446744073709551616 = hi at *
  generalize a * b % 18446744073709551616 = lo at *
  generalize a * b / c = q at *
  generalize a * b % c = r at *
  have K1 := Lib.hid k1
  have K2 := Lib.hid k2
  clear k1 k2 h hdm
  go_enter Try.func97, Try.ntmps97
  go_wp2_with (first | (go_at_call 114; refine (K2.out _).mono ?_; rintro e w1 ⟨rfl, q1⟩) | (go_at_call 113; refine (K1.out _).mono ?_; rintro e w' ⟨rfl, rfl⟩))
  go_ret2
  exact ⟨ret_ib (by first | rfl | (rw [IntKind.wrap_i64]; omega)) (by first | rfl | (rw [Bool.eq_iff_iff]; simp)), q1⟩
end Go.Proofs.Ytckmlioklnjboaa
namespace Go.Proofs.Ytckmlioklnjboaa
open Go.RowKit Go.WideShapes Go.ChangeShapes
theorem gcd_step {x y : Nat} : Nat.gcd y (x % y) = Nat.gcd x y := by rw [Nat.gcd_comm y, ← Nat.gcd_rec, Nat.gcd_comm]
set_option maxHeartbeats 1000000 in
theorem impl_lowest (a b : Nat) (ha : a ≤ 4611686018427387904) (hb : b ≤ 4611686018427387904) (hb0 : 0 < b) (w : World) :
    Calls Try.prog 112 #[.int .i64 a, .int .i64 b] w fun e w' => e = .returned (.agg #[.int .i64 ((a / Nat.gcd a b : Nat) : Int), .int .i64 ((b / Nat.gcd a b : Nat) : Int)]) ∧ Q w w' := by
  have hm : -(a : Int) ≤ (a : Int) := by omega
  have B0 := Blk.new w 52 #[.int .i64 0, .int .i64 0]
  go_enter Try.func112, Try.ntmps112
  go_wp2_with fail
  go_loopw [5, 6] (fun u v wr => ∃ x y : Nat, u = .int .i64 x ∧ v = .int .i64 y ∧ Hid (Nat.gcd x y = Nat.gcd a b) ∧ x ≤ 4611686018427387904 ∧ y ≤ 4611686018427387904 ∧ Blk wr w.heap.size 52 #[.int .i64 0, .int .i64 0] ∧ Q w wr) (fun _ v _ => (intOf v).toNat)
  case atStart => exact ⟨a, b, by simp; omega, rfl, Lib.hid rfl, ha, hb, B0, by (repeat (first | assumption | exact Q.refl _ | refine Q.alloc ?_ _ | refine Q.drewN ?_ _ | refine Q.drew ?_))⟩
  case round =>
    clear B0
    obtain ⟨x, y, rfl, rfl, HG, hx, hy, B0, hq⟩ := hrel
    by_cases h0 : y = 0
    · subst h0
      have hg : x = Nat.gcd a b := by have := HG.out; rwa [Nat.gcd_zero_right] at this
      have hxp : 0 < x := by rw [hg]; exact Nat.gcd_pos_of_pos_right _ hb0
      have hxI : ¬ (x : Int) = 0 := by omega
      have hxb : ((x : Int) == 0) = false := by simpa using hxI
      have e1 : ((a : Int)) / (x : Int) = ((a / x : Nat) : Int) := by rw [← Int.natCast_ediv]
      have e2 : ((b : Int)) / (x : Int) = ((b / x : Nat) : Int) := by rw [← Int.natCast_ediv]
      have HP := Lib.hid (show a / x = a / Nat.gcd a b ∧ b / x = b / Nat.gcd a b by rw [hg]; exact ⟨rfl, rfl⟩)
      have hp1 : a / x ≤ 4611686018427387904 := Nat.le_trans (Nat.div_le_self _ _) ha
      have hp2 : b / x ≤ 4611686018427387904 := Nat.le_trans (Nat.div_le_self _ _) hb
      clear hg HG
      have cB := B0.cell
      have fB := B0.frozen
      generalize a / x = p at *
      generalize b / x = q at *
      have e3 : wrap64 (p : Int) = (p : Int) := by unfold wrap64; omega
      have e4 : wrap64 (q : Int) = (q : Int) := by unfold wrap64; omega
      clear hx hy hxp ha hb hb0 hm
      go_wp2_with fail
      go_region
      all_goals go_wp2_with fail
      have F := ((((B0.set_ 0 (.int .i64 p)).set_ 1 (.int .i64 q)).drew)).cell
      refine bodyPost_ret (v := .agg #[.int .i64 p, .int .i64 q]) (by simp [results, Try.results112, go_sem, F]) rfl ⟨?_, ((hq.setCell (Nat.le_refl _) _).setCell (Nat.le_refl _) _).drew⟩
      rw [HP.out.1, HP.out.2]
    · have hyI : ¬ (y : Int) = 0 := by omega
      have hyb : ((y : Int) != 0) = true := by simpa using hyI
      have hl : x % y < y := Nat.mod_lt _ (by omega)
      have e1 : ((x : Int)) % (y : Int) = ((x % y : Nat) : Int) := by rw [← Int.natCast_emod]
      have HG2 : Hid (Nat.gcd y (x % y) = Nat.gcd a b) := Lib.hid (gcd_step.trans HG.out)
      generalize x % y = m at *
      go_wp2_with fail
      refine wp_region_quiet_lit (by kernel_rfl) (by kernel_rfl) ?_
      repeat (any_goals (first | go_big_quiet_step ( fail) | quiet_step ( fail) | (refine wpQuiet_step (fun K hK => ?_); go_simp; split <;> (refine hK _ ?_; clear hK K))))
      all_goals (refine wpQuiet_nil ?_; intro _ hw'; obtain ⟨nq, hw''⟩ := hw'; subst hw'')
      all_goals go_wp2_with fail
      go_roundw
      case rel => exact ⟨y, m, by simp, by rw [e1], HG2, hy, by omega, B0.q (by (repeat (first | assumption | exact Q.refl _ | refine Q.alloc ?_ _ | refine Q.drewN ?_ _ | refine Q.drew ?_))), hq.trans (by (repeat (first | assumption | exact Q.refl _ | refine Q.alloc ?_ _ | refine Q.drewN ?_ _ | refine Q.drew ?_)))⟩
      case measure => rw [e1]; simp [intOf]; omega
end Go.Proofs.Ytckmlioklnjboaa
