/- Walks: lowest terms and division by parts, as the reference does them. Walks: the place and the time of a crossing: the division by parts. -/
import Derived.Test.YtomgdgdcpgeilaaGreatDoorLow
import Derived.Test.YtomgdgdcpgeilaaGreatDoorEarly
namespace Go.Proofs.YtomgdgdcpgeilaaGreatDoor
open Go.RowKit Go.WideShapes Go.ChangeShapes
theorem spec_Gcd (a b : Nat) (ha : a ≤ 4611686018427387904) (hb : b ≤ 4611686018427387904) (w : World) :
    Calls Tryz.prog 151 #[.int .i64 a, .int .i64 b] w fun e w' => e = .returned (.int .i64 ((Nat.gcd a b : Nat) : Int)) ∧ Q w w' := by
  go_enter Tryz.func151, Tryz.ntmps151
  go_wp2_with fail
  go_loopw [0, 1] (fun u v wr => ∃ x y : Nat, u = .int .i64 x ∧ v = .int .i64 y ∧ Hid (Nat.gcd x y = Nat.gcd a b) ∧ x ≤ 4611686018427387904 ∧ y ≤ 4611686018427387904 ∧ Q w wr) (fun _ v _ => (intOf v).toNat)
  case atStart => exact ⟨a, b, rfl, rfl, Lib.hid rfl, ha, hb, Q.refl _⟩
  case round =>
    obtain ⟨x, y, rfl, rfl, HG, hx, hy, hq⟩ := hrel
    by_cases h0 : y = 0
    · subst h0
      have hg : x = Nat.gcd a b := by have := HG.out; rwa [Nat.gcd_zero_right] at this
      have HH := Lib.hid hg
      clear hg HG
      go_wp2_with fail
      go_ret
      exact ⟨by rw [← HH.out]; rfl, hq⟩
    · have hyI : ¬ (y : Int) = 0 := by omega
      have hyp : (0 : Int) < (y : Int) := by omega
      have hl : x % y < y := Nat.mod_lt _ (by omega)
      have e1 : ((x : Int)) % (y : Int) = ((x % y : Nat) : Int) := by rw [← Int.natCast_emod]
      have HG2 : Hid (Nat.gcd y (x % y) = Nat.gcd a b) := Lib.hid (gcd_step.trans HG.out)
      generalize x % y = m at *
      go_wp2_with fail
      go_roundw
      case rel => exact ⟨y, m, by simp, by rw [e1], HG2, hy, by omega, hq⟩
      case measure => rw [e1]; simp [intOf]; omega
theorem spec_Abs (n : Int) (hn : -9223372036854775807 ≤ n ∧ n ≤ 9223372036854775807) (w : World) : Calls Tryz.prog 152 #[.int .i64 n] w fun e w' => e = .returned (.int .i64 (n.natAbs : Nat)) ∧ w = w' := by
  rcases Int.le_total 0 n with h | h
  · have h1 : -n ≤ n := by omega
    go_enter Tryz.func152, Tryz.ntmps152
    go_wp2_with fail
    go_ret
    exact ⟨ret_int (by omega), rfl⟩
  · have h1 : n ≤ -n := by omega
    go_enter Tryz.func152, Tryz.ntmps152
    go_wp2_with fail
    go_ret
    exact ⟨ret_int (by omega), rfl⟩
set_option maxHeartbeats 1000000 in
theorem spec_Ratio (a b : Nat) (ha : a ≤ 4611686018427387904) (hb : b ≤ 4611686018427387904) (hb0 : 0 < b) (w : World) :
    Calls Tryz.prog 141 #[.int .i64 a, .int .i64 b] w fun e w' => e = .returned (.agg #[.int .i64 ((a / Nat.gcd a b : Nat) : Int), .int .i64 ((b / Nat.gcd a b : Nat) : Int)]) ∧ Q w w' := by
  have K1 := Lib.hid (fun wv => spec_Abs a (by omega) wv)
  have k2 := fun wv => spec_Gcd a b ha hb wv
  obtain ⟨x, hx⟩ : ∃ x, x = Nat.gcd a b := ⟨_, rfl⟩
  have hxp : 0 < x := by rw [hx]; exact Nat.gcd_pos_of_pos_right _ hb0
  have hp1 : a / x ≤ 4611686018427387904 := Nat.le_trans (Nat.div_le_self _ _) ha
  have hp2 : b / x ≤ 4611686018427387904 := Nat.le_trans (Nat.div_le_self _ _) hb
  rw [← hx] at k2
  have HP := Lib.hid (show a / x = a / Nat.gcd a b ∧ b / x = b / Nat.gcd a b by rw [hx]; exact ⟨rfl, rfl⟩)
  have K2 := Lib.hid k2
  have hxI : ¬ (x : Int) = 0 := by omega
  have hxb : ((x : Int) == 0) = false := by simpa using hxI
  have e1 : ((a : Int)) / (x : Int) = ((a / x : Nat) : Int) := by rw [← Int.natCast_ediv]
  have e2 : ((b : Int)) / (x : Int) = ((b / x : Nat) : Int) := by rw [← Int.natCast_ediv]
  generalize a / x = p at *
  generalize b / x = q at *
  have e3 : wrap64 (p : Int) = (p : Int) := by unfold wrap64; omega
  have e4 : wrap64 (q : Int) = (q : Int) := by unfold wrap64; omega
  clear hx k2 hxp
  go_enter Tryz.func141, Tryz.ntmps141
  go_wp2_with (first | (go_at_call 152; refine (K1.out _).mono ?_; rintro e w' ⟨rfl, rfl⟩; simp only [Int.natAbs_natCast]) | (go_at_call 151; refine (K2.out _).mono ?_; rintro e w1 ⟨rfl, q1⟩; have B0 := q1.boxB; have cB := B0.cell; have fB := B0.frozen))
  go_region
  all_goals go_wp2_with fail
  have F := ((((B0.set_ 0 (.int .i64 p)).set_ 1 (.int .i64 q)).drew)).cell
  have Q1 : Q w w1 := Q.trans (by (repeat (first | assumption | exact Q.refl _ | refine Q.alloc ?_ _ | refine Q.drewN ?_ _ | refine Q.drew ?_))) q1
  refine bodyPost_ret (v := .agg #[.int .i64 p, .int .i64 q]) (by simp [results, Tryz.results141, go_sem, F]) rfl ⟨?_, ((Q1.setCell (Nat.le_refl _) _).setCell (Nat.le_refl _) _).drew⟩
  rw [HP.out.1, HP.out.2]
theorem part_step {n N D q r S : Nat} (h : q * D + r = n / (S * 1000) * N) : (1000 * q + (r * 1000 + n / S % 1000 * N) / D) * D + (r * 1000 + n / S % 1000 * N) % D = n / S * N := by
  have h1 := Nat.div_add_mod (r * 1000 + n / S % 1000 * N) D
  have h2 : n / S = n / (S * 1000) * 1000 + n / S % 1000 := by rw [← Nat.div_div_eq_div_mul]; omega
  generalize (r * 1000 + n / S % 1000 * N) / D = x at *
  generalize (r * 1000 + n / S % 1000 * N) % D = y at *
  have h3 : (1000 * q + x) * D = 1000 * (q * D) + D * x := by rw [Nat.add_mul, Nat.mul_assoc, Nat.mul_comm x D]
  have h4 : n / S * N = n / (S * 1000) * N * 1000 + n / S % 1000 * N := by
    conv => lhs; rw [h2]
    rw [Nat.add_mul, Nat.mul_right_comm]
  rw [h3, h4]
  omega
end Go.Proofs.YtomgdgdcpgeilaaGreatDoor
namespace Go.Proofs.YtomgdgdcpgeilaaGreatDoor
open Go.RowKit Go.WideShapes Go.ChangeShapes
theorem wrap64_nat {n : Nat} (h : n ≤ 1000000000) : wrap64 (n : Int) = (n : Int) := by unfold wrap64; omega
def dvS (n S : Nat) : Nat := if S = 0 then n else n / (S * 1000)
def DvI (n N D S q r : Nat) : Prop := (S = 1000000000 ∨ S = 1000000 ∨ S = 1000 ∨ S = 1 ∨ S = 0) ∧ q * D + r = dvS n S * N ∧ r < D
theorem dvS_next {n S : Nat} (hS : S = 1000000000 ∨ S = 1000000 ∨ S = 1000 ∨ S = 1) : dvS n (S / 1000) = n / S := by
  unfold dvS
  rcases hS with rfl | rfl | rfl | rfl <;> simp
theorem DvI.step {n N D S q r : Nat} (h : DvI n N D S q r) (hS : S ≠ 0) : DvI n N D (S / 1000) (1000 * q + (r * 1000 + n / S % 1000 * N) / D) ((r * 1000 + n / S % 1000 * N) % D) := by
  obtain ⟨h1, h2, h3⟩ := h
  have h4 : S = 1000000000 ∨ S = 1000000 ∨ S = 1000 ∨ S = 1 := by omega
  refine ⟨by omega, ?_, Nat.mod_lt _ (by omega)⟩
  rw [dvS_next h4]
  exact part_step (by rw [h2]; unfold dvS; rw [if_neg hS])
theorem DvI.bd {n N D S q r : Nat} (h : DvI n N D S q r) (hn : n ≤ 1000000000) (hND : N ≤ D) : (S ≠ 0 → q ≤ 1000000) ∧ q ≤ 1000000000 := by
  obtain ⟨h1, h2, h3⟩ := h
  have h5 : q ≤ dvS n S := by
    have h6 : q * D ≤ dvS n S * D := Nat.le_trans (by omega) (Nat.mul_le_mul_left (dvS n S) hND)
    exact Nat.le_of_mul_le_mul_right h6 (by omega)
  have h7 : dvS n S ≤ n := by
    unfold dvS
    split
    · exact Nat.le_refl _
    · exact Nat.div_le_self _ _
  refine ⟨fun hS => Nat.le_trans h5 ?_, by omega⟩
  unfold dvS
  rw [if_neg hS]
  have h8 : S * 1000 ≥ 1000 := by omega
  exact Nat.le_trans (Nat.div_le_div_left h8 (by decide)) (by omega)
theorem DvI.done {n N D q r : Nat} (h : DvI n N D 0 q r) : q = n * N / D ∧ r = n * N % D := by
  obtain ⟨h1, h2, h3⟩ := h
  have h2 : q * D + r = n * N := h2
  rw [← h2]
  have h4 : 0 < D := by omega
  exact ⟨by rw [Nat.add_comm, Nat.add_mul_div_right _ _ h4, Nat.div_eq_of_lt h3, Nat.zero_add], by rw [Nat.add_comm, Nat.add_mul_mod_self_right, Nat.mod_eq_of_lt h3]⟩
set_option maxHeartbeats 1000000 in
theorem spec_Divide (n N D : Nat) (hn : n ≤ 1000000000) (hND : N ≤ D) (hD0 : 0 < D) (hD : D ≤ 20000000000000) (w : World) :
    Calls Tryz.prog 142 #[.int .i64 n, .agg #[.int .i64 N, .int .i64 D]] w fun e w' => e = .returned (.tuple #[.int .i64 ((n * N / D : Nat) : Int), .int .i64 ((n * N % D : Nat) : Int)]) ∧ Q w w' := by
  go_enter Tryz.func142, Tryz.ntmps142
  go_wp2_with fail
  have B0 := Blk.new w 133 #[.int .i64 N, .int .i64 D]
  go_loopw [6, 7, 8] (fun u v s wr => ∃ S q r : Nat, u = .int .i64 q ∧ v = .int .i64 r ∧ s = .int .i64 S ∧ Hid (DvI n N D S q r) ∧ Blk wr w.heap.size 133 #[.int .i64 N, .int .i64 D] ∧ Q w wr) (fun _ _ s _ => (intOf s).toNat)
  case atStart => exact ⟨1000000000, 0, 0, rfl, rfl, rfl, Lib.hid ⟨by simp, by unfold dvS; rw [if_neg (by decide), Nat.div_eq_of_lt (by omega)]; simp, hD0⟩, B0, by (repeat (first | assumption | exact Q.refl _ | refine Q.alloc ?_ _ | refine Q.drewN ?_ _ | refine Q.drew ?_))⟩
  case round =>
    clear B0
    obtain ⟨S, q, r, rfl, rfl, rfl, HI, B0, hq⟩ := hrel
    have cB := B0.cell
    by_cases h0 : S = 0
    · subst h0
      have HE := Lib.hid HI.out.done
      clear HI
      go_wp2_with fail
      go_ret2
      refine ⟨?_, hq⟩
      rw [← HE.out.1, ← HE.out.2]
      rfl
    · have hSp : (1 : Int) ≤ (S : Int) := by omega
      have hSI : ¬ (S : Int) = 0 := by omega
      have hDI : ¬ (D : Int) = 0 := by omega
      have hbd := HI.out.bd hn hND
      have hq6 := hbd.1 h0
      have hrD := HI.out.2.2
      have HS := Lib.hid (HI.out.step h0)
      have e1 : (n : Int) / (S : Int) = ((n / S : Nat) : Int) := by rw [← Int.natCast_ediv]
      have hdg : n / S % 1000 ≤ 999 := by omega
      have hds : n / S ≤ 1000000000 := Nat.le_trans (Nat.div_le_self _ _) hn
      have hm : n / S % 1000 * N ≤ 999 * 20000000000000 := Nat.mul_le_mul hdg (by omega)
      have hx : (r * 1000 + n / S % 1000 * N) / D ≤ 1000000000 := by
        have := HI.out.step h0
        have := (this.bd hn hND).2
        omega
      have hS9 : S ≤ 1000000000 := by rcases HI.out.1 with h | h | h | h | h <;> omega
      clear hbd HI
      obtain ⟨k, hk⟩ : ∃ k, k = n / S := ⟨_, rfl⟩
      rw [← hk] at e1 hdg hds hm hx HS
      obtain ⟨dg, hdge⟩ : ∃ k2, k2 = k % 1000 := ⟨_, rfl⟩
      rw [← hdge] at hdg hm hx HS
      have e2 : (k : Int) % 1000 = (dg : Int) := by omega
      obtain ⟨m, hme⟩ : ∃ k2, k2 = dg * N := ⟨_, rfl⟩
      rw [← hme] at hm hx HS
      have e3 : (dg : Int) * (N : Int) = (m : Int) := by rw [hme, Int.natCast_mul]
      obtain ⟨p, hp⟩ : ∃ p, p = r * 1000 + m := ⟨_, rfl⟩
      rw [← hp] at hx HS
      have e4 : (r : Int) * 1000 + (m : Int) = (p : Int) := by omega
      have hpb : p ≤ 20000000000000 * 1000 + 999 * 20000000000000 := by omega
      have e5 : (p : Int) / (D : Int) = ((p / D : Nat) : Int) := by rw [← Int.natCast_ediv]
      have e6 : (p : Int) % (D : Int) = ((p % D : Nat) : Int) := by rw [← Int.natCast_emod]
      have e7 : (S : Int) / 1000 = ((S / 1000 : Nat) : Int) := by omega
      have hxl : p / D ≤ 1000000000 := hx
      generalize p / D = x at *
      generalize p % D = y at *
      clear hk hdge hme hp hrD hx
      have hSs : S / 1000 < S := by omega
      generalize S / 1000 = S2 at *
      have HS8 := Lib.hid (wrap64_nat (n := S2) (Nat.le_trans (Nat.le_of_lt hSs) hS9))
      have HSS := Lib.hid hSs
      clear hS9 hSs
      go_wp2_with fail
      refine wp_region_quiet_lit (by kernel_rfl) (by kernel_rfl) ?_
      repeat (any_goals (first | go_big_quiet_step ( fail) | quiet_step ( fail) | (refine wpQuiet_step (fun K hK => ?_); go_simp; split <;> (refine hK _ ?_; clear hK K))))
      all_goals (refine wpQuiet_nil ?_; intro _ hw'; obtain ⟨nq, hw''⟩ := hw'; subst hw'')
      all_goals go_wp2_with fail
      go_roundw
      case rel => exact ⟨S2, 1000 * q + x, y, by simp, by rw [e6], by rw [HS8.out], HS, B0.q (by (repeat (first | assumption | exact Q.refl _ | refine Q.alloc ?_ _ | refine Q.drewN ?_ _ | refine Q.drew ?_))), hq.trans (by (repeat (first | assumption | exact Q.refl _ | refine Q.alloc ?_ _ | refine Q.drewN ?_ _ | refine Q.drew ?_)))⟩
      case measure => rw [HS8.out]; simp [intOf]; exact HSS.out
end Go.Proofs.YtomgdgdcpgeilaaGreatDoor
