/- Walks: the program's IsHasty, for all arguments. -/
import Derived.Test.YtckmlioklnjboaaHasty
namespace Go.Proofs.Ytckmlioklnjboaa
open Go.RowKit Go.WideShapes Go.ChangeShapes
def hasB (a b c d : Int) (xs : List Int) (n : Nat) (t : Int) : Bool := decide (stC a b c d xs n t = 0) && hsI a b c d xs n t
theorem stC_00 {a b c d : Int} {xs : List Int} {n : Nat} {t : Int} (h : stC a b c d xs n t = 0) : lnB a b c d = true ∧ isTrk xs n = true ∧ 0 ≤ t ∧ t ≤ 1000000000 := by
  have h1 := stC_0 h
  refine ⟨h1.1, h1.2, ?_⟩
  unfold stC at h
  rw [if_pos h1] at h
  split at h
  · rename_i h2
    exact h2
  · cases h
set_option maxHeartbeats 1000000 in
theorem impl_IsHasty (a b c d : Int) (A : Option Addr) (n cc : Nat) (xs : List Int) (t : Int) (w : World) (ha : Rd w A xs) (hn : xs.length = n * 3) (hn2 : n ≤ 9223372036854775807) :
    Calls Try.prog 17 #[.agg #[.int .i64 a, .int .i64 b, .int .i64 c, .int .i64 d], .agg #[.slice A n cc], .int .i64 t] w fun e w' => e = .returned (.tuple #[.bool (hasB a b c d xs n t), .int .i64 (stC a b c d xs n t)]) ∧ Q w w' := by
  have K1 : ∀ (wv : World) (H : Nat), wv.heap.size = H → Rd wv A xs → Calls Try.prog 38 #[.agg #[.int .i64 a, .int .i64 b, .int .i64 c, .int .i64 d], .slice (some ⟨H, 0, none⟩) 1 1, .int .i64 t, .int .i64 0] (wv.alloc (.cells #[.slice A n cc] 40)) fun e w' => e = .returned (.int .i64 (stC a b c d xs n t)) ∧ Q (wv.alloc (.cells #[.slice A n cc] 40)) w' := fun wv H hH h => by
    subst hH
    have := impl_startCode a b c d _ 1 1 [⟨A, n, cc, xs⟩] t 0 _ (rdT_one 40 (cc := cc) h hn hn2) rfl (by decide)
    rwa [scC_one] at this
  by_cases h0 : stC a b c d xs n t = 0
  · obtain ⟨h1, h2, h3⟩ := stC_00 h0
    have K2 := Lib.hid (fun wv (h : Rd wv A xs) => impl_isHasty a b c d A n cc xs t wv h hn h2 h1 h3)
    have HE := Lib.hid (show hasB a b c d xs n t = hsI a b c d xs n t by simp [hasB, h0])
    rw [h0] at K1 ⊢
    have K1 := Lib.hid K1
    clear h0 h1 h2 h3
    generalize hsI a b c d xs n t = S at *
    go_enter Try.func17, Try.ntmps17
    go_wp2_with (first | (have q0 := q1; go_at_call 45; refine (K2.out _ (ha.q (Q.trans (by (repeat (first | assumption | exact Q.refl _ | refine Q.alloc ?_ _ | refine Q.drewN ?_ _ | refine Q.drew ?_))) q0))).mono ?_; rintro e w2 ⟨rfl, q2⟩; have Q2 := q0.trans q2) | (go_at_call 38; refine (K1.out _ _ (by simp) (ha.q (by (repeat (first | assumption | exact Q.refl _ | refine Q.alloc ?_ _ | refine Q.drewN ?_ _ | refine Q.drew ?_))))).mono ?_; rintro e w1 ⟨rfl, q1⟩; have bx := q1.box3; have bx1 : ∀ i, w1.cell? ⟨w.heap.size + 1, i, none⟩ = #[Value.slice A n cc][i]? := (by simpa using q1.box2)))
    go_ret2
    exact ⟨ret_bi HE.out.symm rfl, Q.trans (by (repeat (first | assumption | exact Q.refl _ | refine Q.alloc ?_ _ | refine Q.drewN ?_ _ | refine Q.drew ?_))) Q2⟩
  · have HE := Lib.hid (show hasB a b c d xs n t = false by simp [hasB, h0])
    generalize stC a b c d xs n t = C at *
    have hC : (C == 0) = false := by simpa using h0
    have K1 := Lib.hid K1
    go_enter Try.func17, Try.ntmps17
    go_wp2_with (go_at_call 38; refine (K1.out _ _ (by simp) (ha.q (by (repeat (first | assumption | exact Q.refl _ | refine Q.alloc ?_ _ | refine Q.drewN ?_ _ | refine Q.drew ?_))))).mono ?_; rintro e w1 ⟨rfl, q1⟩)
    go_ret2
    exact ⟨ret_bi HE.out.symm rfl, Q.trans (by (repeat (first | assumption | exact Q.refl _ | refine Q.alloc ?_ _ | refine Q.drewN ?_ _ | refine Q.drew ?_))) q1⟩
end Go.Proofs.Ytckmlioklnjboaa
