/- Walks: whether a track is early, with its code, as the reference computes it. -/
import Derived.Test.YtlmaecmjpbgegaaEarlyC
namespace Go.Proofs.Ytlmaecmjpbgegaa
open Go.RowKit Go.WideShapes Go.ChangeShapes
def earB (a b c d : Int) (xs : List Int) (n : Nat) (t : Int) : Bool := decide (stC a b c d xs n t = 0) && (sideV a b c d xs n t == 1)
theorem stC_0 {a b c d : Int} {xs : List Int} {n : Nat} {t : Int} (h : stC a b c d xs n t = 0) : lnB a b c d = true ∧ isTrk xs n = true := by
  unfold stC at h
  split at h
  · assumption
  · cases h
set_option maxHeartbeats 1000000 in
theorem spec_IsEarly (a b c d : Int) (A : Option Addr) (n cc : Nat) (xs : List Int) (t : Int) (w : World) (ha : Rd w A xs) (hn : xs.length = n * 3) (hn2 : n ≤ 9223372036854775807) :
    Calls Try.prog 24 #[.agg #[.int .i64 a, .int .i64 b, .int .i64 c, .int .i64 d], .agg #[.slice A n cc], .int .i64 t] w fun e w' => e = .returned (.tuple #[.bool (earB a b c d xs n t), .int .i64 (stC a b c d xs n t)]) ∧ Q w w' := by
  have K1 := (fun wv (h : Rd wv A xs) => spec_l14Code a b c d A n cc xs t wv h hn hn2)
  by_cases h0 : stC a b c d xs n t = 0
  · obtain ⟨h1, h2⟩ := stC_0 h0
    obtain ⟨hp, hq⟩ := lnB_pts h1
    have K2 := Lib.hid (fun wv (h : Rd wv A xs) => spec_l14Side a b c d A n cc xs t wv hp hq h hn h2)
    have HE := Lib.hid (show earB a b c d xs n t = (sideV a b c d xs n t == 1) by simp [earB, h0])
    rw [h0] at K1 ⊢
    have K1 := Lib.hid K1
    clear h0 h1 h2 hp hq
    generalize sideV a b c d xs n t = S at *
    go_enter Try.func24, Try.ntmps24
    go_wp2_with (first | (have q0 := q1; go_at_call 64; refine (K2.out _ (ha.q (Q.trans (by (repeat (first | assumption | exact Q.refl _ | refine Q.alloc ?_ _ | refine Q.drewN ?_ _ | refine Q.drew ?_))) q0))).mono ?_; rintro e w2 ⟨rfl, q2⟩; have Q2 := q0.trans q2) | (go_at_call 63; refine (K1.out _ (ha.q (by (repeat (first | assumption | exact Q.refl _ | refine Q.alloc ?_ _ | refine Q.drewN ?_ _ | refine Q.drew ?_))))).mono ?_; rintro e w1 ⟨rfl, q1⟩; have bx := q1.box2; have bx1 : ∀ i, w1.cell? ⟨w.heap.size + 1, i, none⟩ = #[Value.slice A n cc][i]? := (by simpa using q1.box)))
    go_ret2
    exact ⟨ret_bi HE.out.symm rfl, Q.trans (by (repeat (first | assumption | exact Q.refl _ | refine Q.alloc ?_ _ | refine Q.drewN ?_ _ | refine Q.drew ?_))) Q2⟩
  · have HE := Lib.hid (show earB a b c d xs n t = false by simp [earB, h0])
    generalize stC a b c d xs n t = C at *
    have hC : (C == 0) = false := by simpa using h0
    have K1 := Lib.hid K1
    go_enter Try.func24, Try.ntmps24
    go_wp2_with (go_at_call 63; refine (K1.out _ (ha.q (by (repeat (first | assumption | exact Q.refl _ | refine Q.alloc ?_ _ | refine Q.drewN ?_ _ | refine Q.drew ?_))))).mono ?_; rintro e w1 ⟨rfl, q1⟩)
    go_ret2
    exact ⟨ret_bi HE.out.symm rfl, Q.trans (by (repeat (first | assumption | exact Q.refl _ | refine Q.alloc ?_ _ | refine Q.drewN ?_ _ | refine Q.drew ?_))) q1⟩
end Go.Proofs.Ytlmaecmjpbgegaa
