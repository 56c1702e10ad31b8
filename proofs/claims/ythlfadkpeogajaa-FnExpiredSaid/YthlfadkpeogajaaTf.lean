/- Walks: what the functions of this claim return, for all arguments. No condition. -/
import Derived.Test.YthlfadkpeogajaaTb
import Derived.Test.YthlfadkpeogajaaTc
namespace Go.Proofs.Ythlfadkpeogajaa
open Go.RowKit Go.WideShapes Go.ChangeShapes
def expC (lim : Bool) (f m t : Int) : Int := if lim = false then 1 else if ¬ (-1 ≤ f ∧ f ≤ 1000000000 ∧ -1 ≤ m ∧ m ≤ 1000000000 ∧ 0 ≤ t ∧ t ≤ 1000000000 ∧ f ≤ t ∧ m ≤ t) then 2 else if f ≠ -1 ∧ (m = -1 ∨ f < m) then 5 else 0
def expV (a b f m t : Int) : Bool := decide (m = -1 ∧ a < t ∨ a < m ∨ f = -1 ∧ b < t ∨ b < f)
theorem expC_2 {f m t : Int} (h : ¬ (-1 ≤ f ∧ f ≤ 1000000000 ∧ -1 ≤ m ∧ m ≤ 1000000000 ∧ 0 ≤ t ∧ t ≤ 1000000000 ∧ f ≤ t ∧ m ≤ t)) : expC true f m t = 2 := by simp [expC, h]
theorem expC_5 {f m t : Int} (h : -1 ≤ f ∧ f ≤ 1000000000 ∧ -1 ≤ m ∧ m ≤ 1000000000 ∧ 0 ≤ t ∧ t ≤ 1000000000 ∧ f ≤ t ∧ m ≤ t) (h2 : f ≠ -1 ∧ (m = -1 ∨ f < m)) : expC true f m t = 5 := by simp [expC, h, h2]
theorem expC_0 {f m t : Int} (h : -1 ≤ f ∧ f ≤ 1000000000 ∧ -1 ≤ m ∧ m ≤ 1000000000 ∧ 0 ≤ t ∧ t ≤ 1000000000 ∧ f ≤ t ∧ m ≤ t) (h2 : ¬ (f ≠ -1 ∧ (m = -1 ∨ f < m))) : expC true f m t = 0 := by unfold expC; rw [if_neg (by simp), if_neg (by omega), if_neg h2]
theorem end_2 {f m t : Int} {a b : Int} {v : Bool} {c : Int} (h : ¬ (-1 ≤ f ∧ f ≤ 1000000000 ∧ -1 ≤ m ∧ m ≤ 1000000000 ∧ 0 ≤ t ∧ t ≤ 1000000000 ∧ f ≤ t ∧ m ≤ t)) (hv : v = false) (hc : c = 2) :
    Ending.returned (.tuple #[.bool v, .int .i64 c]) = .returned (.tuple #[.bool (decide (expC true f m t = 0) && expV a b f m t), .int .i64 (expC true f m t)]) := by
  rw [expC_2 h, hv, hc]; rfl
theorem end_5 {f m t : Int} {a b : Int} {v : Bool} {c : Int} (h : -1 ≤ f ∧ f ≤ 1000000000 ∧ -1 ≤ m ∧ m ≤ 1000000000 ∧ 0 ≤ t ∧ t ≤ 1000000000 ∧ f ≤ t ∧ m ≤ t) (h2 : f ≠ -1 ∧ (m = -1 ∨ f < m)) (hv : v = false) (hc : c = 5) :
    Ending.returned (.tuple #[.bool v, .int .i64 c]) = .returned (.tuple #[.bool (decide (expC true f m t = 0) && expV a b f m t), .int .i64 (expC true f m t)]) := by
  rw [expC_5 h h2, hv, hc]; rfl
theorem end_0 {f m t : Int} {a b : Int} {v : Bool} {c : Int} (h : -1 ≤ f ∧ f ≤ 1000000000 ∧ -1 ≤ m ∧ m ≤ 1000000000 ∧ 0 ≤ t ∧ t ≤ 1000000000 ∧ f ≤ t ∧ m ≤ t) (h2 : ¬ (f ≠ -1 ∧ (m = -1 ∨ f < m))) (hc : c = 0) (hv : v = true ↔ (m = -1 ∧ a < t ∨ a < m ∨ f = -1 ∧ b < t ∨ b < f)) :
    Ending.returned (.tuple #[.bool v, .int .i64 c]) = .returned (.tuple #[.bool (decide (expC true f m t = 0) && expV a b f m t), .int .i64 (expC true f m t)]) := by
  rw [expC_0 h h2, hc]
  have : v = expV a b f m t := by unfold expV; rw [Bool.eq_iff_iff]; simpa using hv
  rw [this]; rfl
set_option maxHeartbeats 1000000 in
theorem spec_IsExpired (a b c f m t : Int) (w : World) : Calls Try.prog 14 #[.agg #[.int .i64 a, .int .i64 b, .int .i64 c], .int .i64 f, .int .i64 m, .int .i64 t] w fun e w' => e = .returned (.tuple #[.bool (decide (expC (isLim a b c) f m t = 0) && expV a b f m t), .int .i64 (expC (isLim a b c) f m t)]) ∧ Q w w' := by
  cases hl : isLim a b c
  · go_enter Try.func14, Try.ntmps14
    go_wp2_with fail
    refine (spec_IsLimits _ _ _ _).mono ?_
    rintro e w1 ⟨rfl, hq1⟩
    go_wp2_with fail
    go_ret2
    exact ⟨ret_bi (by simp [expC]) (by simp [expC]), ((Q.refl _).alloc _).trans hq1⟩
  · go_enter Try.func14, Try.ntmps14
    go_wp2_with fail
    have B0 := Blk.new w 25 #[.int .i64 a, .int .i64 b, .int .i64 c]
    refine (spec_IsLimits _ _ _ _).mono ?_
    rintro e w1 ⟨rfl, hq1⟩
    have c1 := (B0.q hq1).cell
    go_wp2_with (go_at_call 64; refine (spec_in _ _ _ _).mono ?_; rintro e w' ⟨rfl, rfl⟩)
    all_goals go_ret2
    all_goals refine ⟨?_, ((Q.refl _).alloc _).trans hq1⟩
    all_goals (clear c1 B0 hq1)
    all_goals (try simp only [beq_iff_eq, bne_iff_ne, ne_eq, beq_eq_false_iff_ne, bne_eq_false_iff_eq] at *)
    all_goals first | exact end_2 (by omega) rfl rfl | exact end_5 (by omega) (by omega) rfl rfl | exact end_0 (by omega) (by omega) rfl (by simp; omega)
set_option maxHeartbeats 2000000 in
theorem impl_IsExpired (a b c f m t : Int) (w : World) : Calls Try.prog 13 #[.agg #[.int .i64 a, .int .i64 b, .int .i64 c], .int .i64 f, .int .i64 m, .int .i64 t] w fun e w' => e = .returned (.tuple #[.bool (decide (expC (isLim a b c) f m t = 0) && expV a b f m t), .int .i64 (expC (isLim a b c) f m t)]) ∧ Q w w' := by
  cases hl : isLim a b c
  · go_enter Try.func13, Try.ntmps13
    go_wp2_with fail
    refine (impl_IsLimits _ _ _ _).mono ?_
    rintro e w1 ⟨rfl, hq1⟩
    go_wp2_with fail
    go_ret2
    exact ⟨ret_bi (by simp [expC]) (by simp [expC]), (((Q.refl _).alloc _).alloc _).trans hq1⟩
  · go_enter Try.func13, Try.ntmps13
    go_wp2_with fail
    have B0 := (Blk.new w 25 #[.int .i64 a, .int .i64 b, .int .i64 c]).alloc (.cells #[.int .i64 t] 2)
    have B1 := Blk.new (w.alloc (.cells #[.int .i64 a, .int .i64 b, .int .i64 c] 25)) 2 #[.int .i64 t]
    simp only [World.size_alloc] at B1
    refine (impl_IsLimits _ _ _ _).mono ?_
    rintro e w1 ⟨rfl, hq1⟩
    have c1 := (B0.q hq1).cell
    have c2 := (B1.q hq1).cell
    go_wp2_with (first | (go_at_call 60; refine (impl_in _ _ _ _).mono ?_; rintro e w' ⟨rfl, rfl⟩) | (go_at_call 61; refine (impl_isTime _ _).mono ?_; rintro e w' ⟨rfl, rfl⟩) | go_in)
    all_goals go_ret2
    all_goals refine ⟨?_, (((Q.refl _).alloc _).alloc _).trans hq1⟩
    all_goals (clear c1 c2 B0 B1 hq1)
    all_goals (try simp only [beq_iff_eq, bne_iff_ne, ne_eq, beq_eq_false_iff_ne, bne_eq_false_iff_eq] at *)
    all_goals first | exact end_2 (by omega) rfl rfl | exact end_5 (by omega) (by omega) rfl rfl | exact end_0 (by omega) (by omega) rfl (by simp; omega)
end Go.Proofs.Ythlfadkpeogajaa
