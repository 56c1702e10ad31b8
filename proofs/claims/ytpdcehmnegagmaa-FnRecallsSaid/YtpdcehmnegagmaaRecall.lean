/- Walks: whether a start is recalled as a whole, for all arguments. No condition. -/
import Derived.Test.YtpdcehmnegagmaaEboatsS
import Derived.Test.YtpdcehmnegagmaaEarlyL
import Derived.Deep.RegionHeld3
namespace Go.Proofs.Ytpdcehmnegagmaa
open Go.RowKit Go.WideShapes Go.ChangeShapes
set_option maxHeartbeats 1000000 in
theorem impl_IsRecall (a b c d : Int) (A : Option Addr) (n cc : Nat) (D : List (Nat × List Int)) (t : Int) (w : World) (ha : RdD w A D) (hD : D.length = n) (hn2 : n ≤ 9223372036854775807) :
    Calls Try.prog 16 #[.agg #[.int .i64 a, .int .i64 b, .int .i64 c, .int .i64 d], .slice A n cc, .int .i64 t] w fun e w' => e = .returned (.tuple #[.bool (rcB a b c d D t), .int .i64 (allC a b c d D t)]) ∧ Q w w' := by
  have k0 := (fun wv (h : RdD wv A D) => impl_EarlyBoats a b c d A n cc D t wv h hD hn2)
  have hN := ebL_len a b c d D t
  have HR := Lib.hid (show rcB a b c d D t = (decide (n < 2 * (ebL a b c d D t).length) && decide (allC a b c d D t = 0)) by unfold rcB; rw [hD])
  generalize rcB a b c d D t = R at *
  generalize allC a b c d D t = C at *
  generalize ebL a b c d D t = L at *
  obtain ⟨N, hl⟩ : ∃ N, N = L.length := ⟨_, rfl⟩
  rw [← hl] at k0 HR hN
  have K0 := Lib.hid k0
  clear k0 hl hD
  by_cases h1 : n < 2 * N
  · have h1I : (n : Int) < 2 * (N : Int) := by omega
    by_cases h2 : C = 0
    · subst h2
      go_enter Try.func16, Try.ntmps16
      go_wp2_with (go_at_call 15; refine (K0.out _ (ha.q (by (repeat (first | assumption | exact Q.refl _ | refine Q.alloc ?_ _ | refine Q.drewN ?_ _ | refine Q.drew ?_))))).mono ?_; rintro e w1 ⟨A1, c1, rfl, o1, q1⟩)
      go_ret2
      exact ⟨ret_bi (by rw [HR.out]; first | (simp [h1]; done) | (simp [h1]; omega)) rfl, Q.trans (by (repeat (first | assumption | exact Q.refl _ | refine Q.alloc ?_ _ | refine Q.drewN ?_ _ | refine Q.drew ?_))) q1⟩
    · have h2b : (C == 0) = false := by simpa using h2
      go_enter Try.func16, Try.ntmps16
      go_wp2_with (go_at_call 15; refine (K0.out _ (ha.q (by (repeat (first | assumption | exact Q.refl _ | refine Q.alloc ?_ _ | refine Q.drewN ?_ _ | refine Q.drew ?_))))).mono ?_; rintro e w1 ⟨A1, c1, rfl, o1, q1⟩)
      go_ret2
      exact ⟨ret_bi (by rw [HR.out]; simp [h2]) rfl, Q.trans (by (repeat (first | assumption | exact Q.refl _ | refine Q.alloc ?_ _ | refine Q.drewN ?_ _ | refine Q.drew ?_))) q1⟩
  · have h1I : ¬ (n : Int) < 2 * (N : Int) := by omega
    go_enter Try.func16, Try.ntmps16
    go_wp2_with (go_at_call 15; refine (K0.out _ (ha.q (by (repeat (first | assumption | exact Q.refl _ | refine Q.alloc ?_ _ | refine Q.drewN ?_ _ | refine Q.drew ?_))))).mono ?_; rintro e w1 ⟨A1, c1, rfl, o1, q1⟩)
    go_ret2
    exact ⟨ret_bi (by rw [HR.out]; first | (simp [h1]; done) | (simp [h1]; omega)) rfl, Q.trans (by (repeat (first | assumption | exact Q.refl _ | refine Q.alloc ?_ _ | refine Q.drewN ?_ _ | refine Q.drew ?_))) q1⟩


end Go.Proofs.Ytpdcehmnegagmaa
