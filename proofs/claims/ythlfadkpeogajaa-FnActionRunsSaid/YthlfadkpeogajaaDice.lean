/- Walks: the laws' own dice. No condition. -/
import Derived.Test.YthlfadkpeogajaaDraw
import Derived.Laws.BitsAllLaws
import Derived.Deep.CutBlock
namespace Go.Proofs.Ythlfadkpeogajaa
open Go.RowKit Go.WideShapes Go.ChangeShapes
theorem wrapU_bd (x : Int) : ∃ h : Nat, IntKind.u64.wrap x = (h : Int) ∧ h < 18446744073709551616 := ⟨(IntKind.u64.wrap x).toNat, by rw [IntKind.wrap_u64]; omega, by rw [IntKind.wrap_u64]; omega⟩
def RollPost (w : World) (A : Option Addr) (n c : Nat) (e : Ending) (w' : World) : Prop := ∃ h : Nat, e = .returned (.pointer (some ⟨w.heap.size, 0, none⟩)) ∧ h < 18446744073709551616 ∧ Blk w' w.heap.size 96 #[.slice A n c, .int .i64 0, .int .u64 h] ∧ Q w w'
set_option maxHeartbeats 2000000 in
theorem roll_any (A : Option Addr) (n c : Nat) (w : World) (ha : Rd8 w A n) (hn : n ≤ 4096) : Calls Try.prog 35 #[.slice A n c, .int .u64 1701] w (RollPost w A n c) := by
  go_enter Try.func35, Try.ntmps35
  go_wp2_with fail
  go_loopw [6] (fun i wr => ∃ (k h : Nat), k ≤ n ∧ i = .int .i64 k ∧ h < 18446744073709551616 ∧ Blk wr w.heap.size 96 #[.slice A n c, .int .i64 0, .int .u64 h] ∧ Q w wr) (fun i _ => n - (intOf i).toNat)
  case atStart =>
    exact ⟨0, 13470219 + n, by omega, rfl, by omega, by have := Blk.new w 96 #[.slice A n c, .int .i64 0, .int .u64 ((13470219 + n : Nat) : Int)]; simpa using this, by (repeat (first | assumption | exact Q.refl _ | refine Q.alloc ?_ _ | refine Q.drewN ?_ _ | refine Q.drew ?_))⟩
  case round =>
    obtain ⟨k, h, hk, rfl, hh, hb, hq⟩ := hrel
    by_cases hlt : k < n
    · obtain ⟨bl, o, x, rfl, hx, hx1, hx2⟩ := (ha.q hq).at_ hlt
      have hltI : (k : Int) < (n : Int) := by omega
      have l0 := later_cell (show wr.cell? ⟨w.heap.size, 2, none⟩ = some (.int .u64 h) from hb.cell 2)
      have l1 := later_cell hx
      go_wp2_with fail
      refine wp_region_later_tail 15 (by kernel_rfl) (by kernel_rfl) ?_
      simp only [List.take_succ_cons, List.take_zero, List.drop_succ_cons, List.drop_zero]
      repeat (any_goals (first | go_big_quiet_step (fail) | quiet_step (fail) | (refine wpQuiet_step (fun K hK => ?_); go_simp; split <;> (refine hK _ ?_; clear hK K))))
      refine wpQuiet_nil ?_
      rintro w2 ⟨⟨w3, q2⟩, hw⟩
      obtain rfl : w2 = w3 := hw
      have hb2 := hb.q q2
      have c2 : w2.cell? ⟨w.heap.size, 2, none⟩ = some (.int .u64 h) := hb2.cell 2
      have f2 := hb2.frozen 2
      clear l0 l1
      go_wp2_with fail
      obtain ⟨h2, e2, hh2⟩ := wrapU_bd (IntKind.u64.wrap (IntKind.u64.wrap ((h : Int) * 1099511628211) + x) + 3)
      rw [e2]
      go_roundw
      case rel => exact ⟨k + 1, h2, by omega, by go_num, hh2, by have := hb2.set_ 2 (.int .u64 h2); simpa using this, (hq.trans q2).setCell (p := ⟨w.heap.size, 2, none⟩) (Nat.le_refl _) _⟩
      case measure => simp [intOf]; omega
    · obtain rfl : k = n := by omega
      go_wp2_with fail
      go_ret
      exact ⟨h, rfl, hh, hb, hq⟩
def BelowPost (w0 : World) (m : Nat) (e : Ending) (w' : World) : Prop := ∃ k : Nat, e = .returned (.int .i64 k) ∧ k < m ∧ Q w0 w'
set_option maxHeartbeats 4000000 in
theorem below_any (A : Option Addr) (n c g m h : Nat) (w0 w : World) (ha : Rd8 w0 A n) (hq : Q w0 w) (hg : w0.heap.size ≤ g) (hn : n ≤ 4096) (hh : h < 18446744073709551616) (hb : Blk w g 96 #[.slice A n c, .int .i64 0, .int .u64 h]) (hm : 0 < m) (hm2 : m ≤ 1000) :
    Calls Try.prog 36 #[.pointer (some ⟨g, 0, none⟩), .int .i64 m] w (BelowPost w0 m) := by
  obtain ⟨h1, e1, hh1⟩ := wrapU_bd (IntKind.u64.wrap ((h : Int) * 6364136223846793005) + 1442695040888963407)
  have hs : h1 / 8589934592 < 18446744073709551616 := by omega
  have e2 : (h1 : Int) / 8589934592 = ((h1 / 8589934592 : Nat) : Int) := by omega
  have e3 : bits BinOp.and IntKind.u64 ((h1 / 8589934592 : Nat) : Int) 16777215 = ((h1 / 8589934592 &&& 16777215 : Nat) : Int) := u64_and_nat _ 16777215 hs (by decide)
  have hv : h1 / 8589934592 &&& 16777215 ≤ 16777215 := Nat.and_le_right
  generalize h1 / 8589934592 = h3 at *
  generalize h3 &&& 16777215 = v at *
  have c0 := hb.cell
  have f0 := hb.frozen
  have hmI : ¬ (m : Int) = 0 := by omega
  have hb1 : Blk (w.setCell ⟨g, 2, none⟩ (.int .u64 h1)) g 96 #[.slice A n c, .int .i64 0, .int .u64 h1] := by have := hb.set_ 2 (.int .u64 h1); simpa using this
  have Q1 : Q w0 (w.setCell ⟨g, 2, none⟩ (.int .u64 h1)) := hq.setCell (p := ⟨g, 2, none⟩) hg _
  have HM := Lib.hid hm
  rcases Nat.eq_zero_or_pos n with h0 | hp
  · subst h0
    go_enter Try.func36, Try.ntmps36
    go_upto_region 3 with (fail)
    generalize w.setCell ⟨g, 2, none⟩ (.int .u64 h1) = w1 at *
    clear c0 f0
    have c1 := hb1.cell
    refine wp_region_quiet_lit (by kernel_rfl) (by kernel_rfl) ?_
    repeat (any_goals (first | go_big_quiet_step ( fail) | quiet_step ( fail) | (refine wpQuiet_step (fun K hK => ?_); go_simp; split <;> (refine hK _ ?_; clear hK K))))
    all_goals (refine wpQuiet_nil ?_; intro _ hw'; obtain ⟨nq, hw''⟩ := hw'; subst hw'')
    all_goals go_wp2_with fail
    go_ret
    exact ⟨v % m, ret_int (by simp), Nat.mod_lt _ HM.out, Q1.trans (by (repeat (first | assumption | exact Q.refl _ | refine Q.alloc ?_ _ | refine Q.drewN ?_ _ | refine Q.drew ?_)))⟩
  · have hpI : (0 : Int) < (n : Int) := by omega
    go_enter Try.func36, Try.ntmps36
    go_upto_region 3 with (fail)
    generalize w.setCell ⟨g, 2, none⟩ (.int .u64 h1) = w1 at *
    clear c0 f0
    have c1 := hb1.cell
    obtain ⟨bl, o, x, rfl, hx, hx1, hx2⟩ := (ha.q Q1).at_ hp
    rw [Nat.add_zero] at hx
    refine wp_region_quiet_lit (by kernel_rfl) (by kernel_rfl) ?_
    repeat (any_goals (first | go_big_quiet_step ( fail) | quiet_step ( fail) | (refine wpQuiet_step (fun K hK => ?_); go_simp; split <;> (refine hK _ ?_; clear hK K))))
    all_goals (refine wpQuiet_nil ?_; intro _ hw'; obtain ⟨nq, hw''⟩ := hw'; subst hw'')
    obtain ⟨n1, rfl⟩ : ∃ n1, n1 = nq := ⟨_, rfl⟩
    all_goals go_wp2_with fail
    refine wp_region_quiet_lit (by kernel_rfl) (by kernel_rfl) ?_
    repeat (any_goals (first | go_big_quiet_step ( fail) | quiet_step ( fail) | (refine wpQuiet_step (fun K hK => ?_); go_simp; split <;> (refine hK _ ?_; clear hK K))))
    all_goals (refine wpQuiet_nil ?_; intro _ hw'; obtain ⟨nq, hw''⟩ := hw'; subst hw'')
    have f1 := hb1.frozen
    all_goals go_wp2_with fail
    obtain ⟨y, rfl⟩ := Int.eq_ofNat_of_zero_le hx1
    go_ret
    exact ⟨(v + y) % m, ret_int (by simp), Nat.mod_lt _ HM.out, (Q1.trans (by (repeat (first | assumption | exact Q.refl _ | refine Q.alloc ?_ _ | refine Q.drewN ?_ _ | refine Q.drew ?_)))).setCell (p := ⟨g, 1, none⟩) hg _⟩
end Go.Proofs.Ythlfadkpeogajaa
