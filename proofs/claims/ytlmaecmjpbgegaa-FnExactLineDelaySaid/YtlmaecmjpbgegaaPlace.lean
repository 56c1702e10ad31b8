/- Walks: the place and the time of a crossing: the division by parts. -/
import Derived.Test.YtlmaecmjpbgegaaRat
namespace Go.Proofs.Ytlmaecmjpbgegaa
open Go.RowKit Go.WideShapes Go.ChangeShapes
theorem wrap64_nat {n : Nat} (h : n ≤ 1000000000) : wrap64 (n : Int) = (n : Int) := by unfold wrap64; omega
def dvS (n S : Nat) : Nat := if S = 0 then n else n / (S * 1000)
def DvI (n N D S q r : Nat) : Prop := (S = 1000000000 ∨ S = 1000000 ∨ S = 1000 ∨ S = 1 ∨ S = 0) ∧ q * D + r = dvS n S * N ∧ r < D
theorem dvS_next {n S : Nat} (hS : S = 1000000000 ∨ S = 1000000 ∨ S = 1000 ∨ S = 1) : dvS n (S / 1000) = n / S := by
  unfold dvS
  rcases hS with rfl | rfl | rfl | rfl <;> simp
theorem DvI.step {n N D S q r : Nat} (h : DvI n N D S q r) (hS : S ≠ 0) : DvI n N D (S / 1000) (1000 * q + (r * 1000 + n / S % 1000 * N) / D) ((r * 1000 + n / S % 1000 * N) % D) := by
  obtain ⟨h1, h2, h3⟩ := h
  have h4 : S = 1000000000 ∨ S = 1000000 ∨ S = 1000 ∨ S = 1 := by omega
  refine ⟨by omega, ?_, Nat.mod_lt _ (by omega)⟩
  rw [dvS_next h4]
  exact part_step (by rw [h2]; unfold dvS; rw [if_neg hS])
theorem DvI.bd {n N D S q r : Nat} (h : DvI n N D S q r) (hn : n ≤ 1000000000) (hND : N ≤ D) : (S ≠ 0 → q ≤ 1000000) ∧ q ≤ 1000000000 := by
  obtain ⟨h1, h2, h3⟩ := h
  have h5 : q ≤ dvS n S := by
    have h6 : q * D ≤ dvS n S * D := Nat.le_trans (by omega) (Nat.mul_le_mul_left (dvS n S) hND)
    exact Nat.le_of_mul_le_mul_right h6 (by omega)
  have h7 : dvS n S ≤ n := by
    unfold dvS
    split
    · exact Nat.le_refl _
    · exact Nat.div_le_self _ _
  refine ⟨fun hS => Nat.le_trans h5 ?_, by omega⟩
  unfold dvS
  rw [if_neg hS]
  have h8 : S * 1000 ≥ 1000 := by omega
  exact Nat.le_trans (Nat.div_le_div_left h8 (by decide)) (by omega)
theorem DvI.done {n N D q r : Nat} (h : DvI n N D 0 q r) : q = n * N / D ∧ r = n * N % D := by
  obtain ⟨h1, h2, h3⟩ := h
  have h2 : q * D + r = n * N := h2
  rw [← h2]
  have h4 : 0 < D := by omega
  exact ⟨by rw [Nat.add_comm, Nat.add_mul_div_right _ _ h4, Nat.div_eq_of_lt h3, Nat.zero_add], by rw [Nat.add_comm, Nat.add_mul_mod_self_right, Nat.mod_eq_of_lt h3]⟩
set_option maxHeartbeats 1000000 in
theorem spec_Divide (n N D : Nat) (hn : n ≤ 1000000000) (hND : N ≤ D) (hD0 : 0 < D) (hD : D ≤ 20000000000000) (w : World) :
    Calls Try.prog 132 #[.int .i64 n, .agg #[.int .i64 N, .int .i64 D]] w fun e w' => e = .returned (.tuple #[.int .i64 ((n * N / D : Nat) : Int), .int .i64 ((n * N % D : Nat) : Int)]) ∧ Q w w' := by
  go_enter Try.func132, Try.ntmps132
  go_wp2_with fail
  have B0 := Blk.new w 77 #[.int .i64 N, .int .i64 D]
  go_loopw [6, 7, 8] (fun u v s wr => ∃ S q r : Nat, u = .int .i64 q ∧ v = .int .i64 r ∧ s = .int .i64 S ∧ Hid (DvI n N D S q r) ∧ Blk wr w.heap.size 77 #[.int .i64 N, .int .i64 D] ∧ Q w wr) (fun _ _ s _ => (intOf s).toNat)
  case atStart => exact ⟨1000000000, 0, 0, rfl, rfl, rfl, Lib.hid ⟨by simp, by unfold dvS; rw [if_neg (by decide), Nat.div_eq_of_lt (by omega)]; simp, hD0⟩, B0, by (repeat (first | assumption | exact Q.refl _ | refine Q.alloc ?_ _ | refine Q.drewN ?_ _ | refine Q.drew ?_))⟩
  case round =>
    clear B0
    obtain ⟨S, q, r, rfl, rfl, rfl, HI, B0, hq⟩ := hrel
    have cB := B0.cell
    by_cases h0 : S = 0
    · subst h0
      have HE := Lib.hid HI.out.done
      clear HI
      go_wp2_with fail
      go_ret2
      refine ⟨?_, hq⟩
      rw [← HE.out.1, ← HE.out.2]
      rfl
    · have hSp : (1 : Int) ≤ (S : Int) := by omega
      have hSI : ¬ (S : Int) = 0 := by omega
      have hDI : ¬ (D : Int) = 0 := by omega
      have hbd := HI.out.bd hn hND
      have hq6 := hbd.1 h0
      have hrD := HI.out.2.2
      have HS := Lib.hid (HI.out.step h0)
      have e1 : (n : Int) / (S : Int) = ((n / S : Nat) : Int) := by rw [← Int.natCast_ediv]
      have hdg : n / S % 1000 ≤ 999 := by omega
      have hds : n / S ≤ 1000000000 := Nat.le_trans (Nat.div_le_self _ _) hn
      have hm : n / S % 1000 * N ≤ 999 * 20000000000000 := Nat.mul_le_mul hdg (by omega)
      have hx : (r * 1000 + n / S % 1000 * N) / D ≤ 1000000000 := by
        have := HI.out.step h0
        have := (this.bd hn hND).2
        omega
      have hS9 : S ≤ 1000000000 := by rcases HI.out.1 with h | h | h | h | h <;> omega
      clear hbd HI
      obtain ⟨k, hk⟩ : ∃ k, k = n / S := ⟨_, rfl⟩
      rw [← hk] at e1 hdg hds hm hx HS
      obtain ⟨dg, hdge⟩ : ∃ k2, k2 = k % 1000 := ⟨_, rfl⟩
      rw [← hdge] at hdg hm hx HS
      have e2 : (k : Int) % 1000 = (dg : Int) := by omega
      obtain ⟨m, hme⟩ : ∃ k2, k2 = dg * N := ⟨_, rfl⟩
      rw [← hme] at hm hx HS
      have e3 : (dg : Int) * (N : Int) = (m : Int) := by rw [hme, Int.natCast_mul]
      obtain ⟨p, hp⟩ : ∃ p, p = r * 1000 + m := ⟨_, rfl⟩
      rw [← hp] at hx HS
      have e4 : (r : Int) * 1000 + (m : Int) = (p : Int) := by omega
      have hpb : p ≤ 20000000000000 * 1000 + 999 * 20000000000000 := by omega
      have e5 : (p : Int) / (D : Int) = ((p / D : Nat) : Int) := by rw [← Int.natCast_ediv]
      have e6 : (p : Int) % (D : Int) = ((p % D : Nat) : Int) := by rw [← Int.natCast_emod]
      have e7 : (S : Int) / 1000 = ((S / 1000 : Nat) : Int) := by omega
      have hxl : p / D ≤ 1000000000 := hx
      generalize p / D = x at *
      generalize p % D = y at *
      clear hk hdge hme hp hrD hx
      have hSs : S / 1000 < S := by omega
      generalize S / 1000 = S2 at *
      have HS8 := Lib.hid (wrap64_nat (n := S2) (Nat.le_trans (Nat.le_of_lt hSs) hS9))
      have HSS := Lib.hid hSs
      clear hS9 hSs
      go_wp2_with fail
      refine wp_region_quiet_lit (by kernel_rfl) (by kernel_rfl) ?_
      repeat (any_goals (first | go_big_quiet_step ( fail) | quiet_step ( fail) | (refine wpQuiet_step (fun K hK => ?_); go_simp; split <;> (refine hK _ ?_; clear hK K))))
      all_goals (refine wpQuiet_nil ?_; intro _ hw'; obtain ⟨nq, hw''⟩ := hw'; subst hw'')
      all_goals go_wp2_with fail
      go_roundw
      case rel => exact ⟨S2, 1000 * q + x, y, by simp, by rw [e6], by rw [HS8.out], HS, B0.q (by (repeat (first | assumption | exact Q.refl _ | refine Q.alloc ?_ _ | refine Q.drewN ?_ _ | refine Q.drew ?_))), hq.trans (by (repeat (first | assumption | exact Q.refl _ | refine Q.alloc ?_ _ | refine Q.drewN ?_ _ | refine Q.drew ?_)))⟩
      case measure => rw [HS8.out]; simp [intOf]; exact HSS.out
end Go.Proofs.Ytlmaecmjpbgegaa
