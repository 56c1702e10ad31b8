/- Walks: the codes of a start, as the program and the reference compute them. -/
import Derived.Test.YtlmaecmjpbgegaaEarly
namespace Go.Proofs.Ytlmaecmjpbgegaa
open Go.RowKit Go.WideShapes Go.ChangeShapes
def stC (a b c d : Int) (xs : List Int) (n : Nat) (t : Int) : Int := if lnB a b c d = true ∧ isTrk xs n = true then (if 0 ≤ t ∧ t ≤ 1000000000 then 0 else 2) else 1
set_option maxHeartbeats 1000000 in
theorem spec_l14Code (a b c d : Int) (A : Option Addr) (n cc : Nat) (xs : List Int) (t : Int) (w : World) (ha : Rd w A xs) (hn : xs.length = n * 3) (hn2 : n ≤ 9223372036854775807) :
    Calls Try.prog 63 #[.agg #[.int .i64 a, .int .i64 b, .int .i64 c, .int .i64 d], .agg #[.slice A n cc], .int .i64 t] w fun e w' => e = .returned (.int .i64 (stC a b c d xs n t)) ∧ Q w w' := by
  have K1 := (fun wv => spec_IsLine a b c d wv)
  have K2 := (fun wv (h : Rd wv A xs) => spec_IsTrack A n cc xs wv h hn hn2)
  cases h1 : lnB a b c d
  · rw [h1] at K1
    have K1 := Lib.hid K1
    have HS := Lib.hid (show stC a b c d xs n t = 1 by simp [stC, h1])
    clear h1 K2
    go_enter Try.func63, Try.ntmps63
    go_wp2_with (go_at_call 90; refine (K1.out _).mono ?_; rintro e w1 ⟨rfl, q1⟩)
    go_ret
    exact ⟨ret_int HS.out.symm, Q.trans (by (repeat (first | assumption | exact Q.refl _ | refine Q.alloc ?_ _ | refine Q.drewN ?_ _ | refine Q.drew ?_))) q1⟩
  · rw [h1] at K1
    have K1 := Lib.hid K1
    cases h2 : isTrk xs n
    · rw [h2] at K2
      have K2 := Lib.hid K2
      have HS := Lib.hid (show stC a b c d xs n t = 1 by simp [stC, h2])
      clear h1 h2
      go_enter Try.func63, Try.ntmps63
      go_wp2_with (first | (have q0 := q1; go_at_call 55; refine (K2.out _ (ha.q (Q.trans (by (repeat (first | assumption | exact Q.refl _ | refine Q.alloc ?_ _ | refine Q.drewN ?_ _ | refine Q.drew ?_))) q0))).mono ?_; rintro e w2 ⟨rfl, q2⟩; have Q2 := q0.trans q2) | (go_at_call 90; refine (K1.out _).mono ?_; rintro e w1 ⟨rfl, q1⟩; have bx1 : ∀ i, w1.cell? ⟨w.heap.size + 1, i, none⟩ = #[Value.slice A n cc][i]? := (by simpa using q1.box)))
      go_ret
      exact ⟨ret_int HS.out.symm, Q.trans (by (repeat (first | assumption | exact Q.refl _ | refine Q.alloc ?_ _ | refine Q.drewN ?_ _ | refine Q.drew ?_))) Q2⟩
    · rw [h2] at K2
      have K2 := Lib.hid K2
      have KI := Lib.hid (fun wv => spec_inR t 0 1000000000 wv)
      have HS := Lib.hid (show stC a b c d xs n t = if inR t 0 1000000000 = true then 0 else 2 by simp [stC, h1, h2, inR])
      clear h1 h2
      cases hI : inR t 0 1000000000
      all_goals rw [hI] at HS KI
      all_goals clear hI
      all_goals go_enter Try.func63, Try.ntmps63
      all_goals go_wp2_with (first | (have q0 := q1; go_at_call 55; refine (K2.out _ (ha.q (Q.trans (by (repeat (first | assumption | exact Q.refl _ | refine Q.alloc ?_ _ | refine Q.drewN ?_ _ | refine Q.drew ?_))) q0))).mono ?_; rintro e w2 ⟨rfl, q2⟩; have Q2 := q0.trans q2) | (go_at_call 80; refine (KI.out _).mono ?_; rintro e w' ⟨rfl, rfl⟩) | (go_at_call 90; refine (K1.out _).mono ?_; rintro e w1 ⟨rfl, q1⟩; have bx1 : ∀ i, w1.cell? ⟨w.heap.size + 1, i, none⟩ = #[Value.slice A n cc][i]? := (by simpa using q1.box)))
      all_goals go_ret
      · exact ⟨ret_int (by rw [HS.out]; simp), Q.trans (by (repeat (first | assumption | exact Q.refl _ | refine Q.alloc ?_ _ | refine Q.drewN ?_ _ | refine Q.drew ?_))) Q2⟩
      · exact ⟨ret_int (by rw [HS.out]; simp), Q.trans (by (repeat (first | assumption | exact Q.refl _ | refine Q.alloc ?_ _ | refine Q.drewN ?_ _ | refine Q.drew ?_))) Q2⟩
end Go.Proofs.Ytlmaecmjpbgegaa
