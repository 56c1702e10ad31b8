/- Walks: LineDelay, as the program and the reference compute it, for all arguments. -/
import Derived.Test.YtlmaecmjpbgegaaStO
namespace Go.Proofs.Ytlmaecmjpbgegaa
open Go.RowKit Go.WideShapes Go.ChangeShapes
/-- The code and the delay at the line. -/
def ldC (a b c d : Int) (xs : List Int) (n : Nat) (t : Int) : Int := if stK a b c d xs n t 0 = 0 then (if (soV a b c d xs n t 0).1 = 0 then 0 else 4) else stK a b c d xs n t 0
def ldD (a b c d : Int) (xs : List Int) (n : Nat) (t : Int) : Int := if ldC a b c d xs n t = 0 then wrap64 ((soV a b c d xs n t 0).2.2.1 - t) else 0
set_option maxHeartbeats 1000000 in
theorem impl_LineDelay (a b c d : Int) (A : Option Addr) (n cc : Nat) (xs : List Int) (t : Int) (w : World) (ha : Rd w A xs) (hn : xs.length = n * 3) (hn2 : n ≤ 9223372036854775807) :
    Calls Try.prog 38 #[.agg #[.int .i64 a, .int .i64 b, .int .i64 c, .int .i64 d], .agg #[.slice A n cc], .int .i64 t] w fun e w' => e = .returned (.tuple #[.int .i64 (ldD a b c d xs n t), .int .i64 (ldC a b c d xs n t)]) ∧ Q w w' := by
  have K1 : ∀ (wv : World) (H : Nat), wv.heap.size = H → Rd wv A xs → Calls Try.prog 66 #[.agg #[.int .i64 a, .int .i64 b, .int .i64 c, .int .i64 d], .slice (some ⟨H, 0, none⟩) 1 1, .int .i64 t, .int .i64 0] (wv.alloc (.cells #[.slice A n cc] 35)) fun e w' => e = .returned (.int .i64 (stK a b c d xs n t 0)) ∧ Q (wv.alloc (.cells #[.slice A n cc] 35)) w' := fun wv H hH h => by
    subst hH
    have := impl_startCode a b c d _ 1 1 [⟨A, n, cc, xs⟩] t 0 _ (rdT_one 35 (cc := cc) h hn hn2) rfl (by decide)
    rwa [stK_one] at this
  have C1 : Blk ((w.alloc (.cells #[.int .i64 a, .int .i64 b, .int .i64 c, .int .i64 d] 50)).alloc (.cells #[.slice A n cc] 35)) w.heap.size 50 #[.int .i64 a, .int .i64 b, .int .i64 c, .int .i64 d] := (Blk.new _ _ _).alloc _
  have C2 : Blk ((w.alloc (.cells #[.int .i64 a, .int .i64 b, .int .i64 c, .int .i64 d] 50)).alloc (.cells #[.slice A n cc] 35)) (w.heap.size + 1) 35 #[.slice A n cc] := by simpa using Blk.new (w.alloc (.cells #[.int .i64 a, .int .i64 b, .int .i64 c, .int .i64 d] 50)) 35 #[.slice A n cc]
  have QW : Q w ((w.alloc (.cells #[.int .i64 a, .int .i64 b, .int .i64 c, .int .i64 d] 50)).alloc (.cells #[.slice A n cc] 35)) := (Q.alloc (Q.refl w) _).alloc _
  by_cases h0 : stK a b c d xs n t 0 = 0
  · obtain ⟨h1, h2, h3, h4⟩ := stK_00 h0
    have K2 := (fun wv (h : Rd wv A xs) => impl_startOf a b c d A n cc xs t 0 wv h hn h2 h1 h3)
    have hE : soV a b c d xs n t 0 = stA a b c d xs n t 0 := by unfold soV; rw [if_pos h0]
    have hC := Lib.hid (show ldC a b c d xs n t = if (soV a b c d xs n t 0).1 = 0 then 0 else 4 by unfold ldC; rw [if_pos h0])
    have hD := Lib.hid (show ldD a b c d xs n t = if ldC a b c d xs n t = 0 then wrap64 ((soV a b c d xs n t 0).2.2.1 - t) else 0 from rfl)
    rw [h0] at K1
    rw [hE] at hC hD
    clear h0 h1 h2 h3 h4 hE
    generalize ldC a b c d xs n t = C at *
    generalize ldD a b c d xs n t = D at *
    generalize hpq : stA a b c d xs n t 0 = P2 at *
    obtain ⟨x, y, z, u⟩ := P2
    have K1 := Lib.hid K1
    have K2 := Lib.hid (show ∀ wv, Rd wv A xs → Calls Try.prog 71 #[.agg #[.int .i64 a, .int .i64 b, .int .i64 c, .int .i64 d], .agg #[.slice A n cc], .int .i64 t, .int .i64 0] wv fun e w' => e = .returned (.agg #[.int .i64 x, .int .i64 y, .int .i64 z, .bool u]) ∧ Q wv w' from K2)
    clear hpq
    by_cases hx : x = 0
    · subst hx
      have hC1 : Hid (C = 0) := Lib.hid (hC.out.trans rfl)
      have hD1 : Hid (D = wrap64 (z - t)) := Lib.hid (by have := hD.out; rw [hC1.out] at this; exact this)
      go_enter Try.func38, Try.ntmps38
      go_wp2_with fail
      refine (K1.out _ _ (by simp) (ha.q QW)).mono ?_
      rintro e w1 ⟨rfl, q1⟩
      have D1 := (C1.alloc _).q q1
      have d1 := D1.cell
      have D2 := (C2.alloc _).q q1
      have d2 := D2.cell
      have Q1 : Q w w1 := Q.trans (by (repeat (first | assumption | exact Q.refl _ | refine Q.alloc ?_ _ | refine Q.drewN ?_ _ | refine Q.drew ?_))) q1
      go_wp2_with fail
      refine (K2.out _ (ha.q Q1)).mono ?_
      rintro e w2 ⟨rfl, q2⟩
      clear d1 d2
      go_wp2_with fail
      go_ret2
      rw [hC1.out, hD1.out]
      exact ⟨rfl, (Q1.trans q2).alloc _⟩
    · have hC1 : Hid (C = 4) := Lib.hid (hC.out.trans (if_neg hx))
      have hD1 : Hid (D = 0) := Lib.hid (by have := hD.out; rw [hC1.out] at this; exact this)
      have hxb : (x == 0) = false := by simpa using hx
      go_enter Try.func38, Try.ntmps38
      go_wp2_with fail
      refine (K1.out _ _ (by simp) (ha.q QW)).mono ?_
      rintro e w1 ⟨rfl, q1⟩
      have D1 := (C1.alloc _).q q1
      have d1 := D1.cell
      have D2 := (C2.alloc _).q q1
      have d2 := D2.cell
      have Q1 : Q w w1 := Q.trans (by (repeat (first | assumption | exact Q.refl _ | refine Q.alloc ?_ _ | refine Q.drewN ?_ _ | refine Q.drew ?_))) q1
      go_wp2_with fail
      refine (K2.out _ (ha.q Q1)).mono ?_
      rintro e w2 ⟨rfl, q2⟩
      clear d1 d2
      go_wp2_with fail
      go_ret2
      rw [hC1.out, hD1.out]
      exact ⟨rfl, (Q1.trans q2).alloc _⟩
  · have hC : ldC a b c d xs n t = stK a b c d xs n t 0 := by unfold ldC; rw [if_neg h0]
    have hD : ldD a b c d xs n t = 0 := by unfold ldD; rw [hC, if_neg h0]
    rw [hC, hD]
    clear hC hD
    generalize stK a b c d xs n t 0 = C at *
    have hC : (C == 0) = false := by simpa using h0
    have K1 := Lib.hid K1
    go_enter Try.func38, Try.ntmps38
    go_wp2_with fail
    refine (K1.out _ _ (by simp) (ha.q QW)).mono ?_
    rintro e w1 ⟨rfl, q1⟩
    have Q1 : Q w w1 := Q.trans (by (repeat (first | assumption | exact Q.refl _ | refine Q.alloc ?_ _ | refine Q.drewN ?_ _ | refine Q.drew ?_))) q1
    go_wp2_with fail
    go_ret2
    exact ⟨rfl, Q1⟩
set_option maxHeartbeats 1000000 in
theorem spec_LineDelay (a b c d : Int) (A : Option Addr) (n cc : Nat) (xs : List Int) (t : Int) (w : World) (ha : Rd w A xs) (hn : xs.length = n * 3) (hn2 : n ≤ 9223372036854775807) :
    Calls Try.prog 37 #[.agg #[.int .i64 a, .int .i64 b, .int .i64 c, .int .i64 d], .agg #[.slice A n cc], .int .i64 t] w fun e w' => e = .returned (.tuple #[.int .i64 (ldD a b c d xs n t), .int .i64 (ldC a b c d xs n t)]) ∧ Q w w' := by
  have K1 := Lib.hid (fun wv (h : Rd wv A xs) => spec_StartOf a b c d A n cc xs t 0 wv h hn hn2)
  have QW : Q w ((w.alloc (.cells #[.int .i64 a, .int .i64 b, .int .i64 c, .int .i64 d] 50)).alloc (.cells #[.slice A n cc] 35)) := (Q.alloc (Q.refl w) _).alloc _
  have hC := Lib.hid (show ldC a b c d xs n t = if stK a b c d xs n t 0 = 0 then (if (soV a b c d xs n t 0).1 = 0 then 0 else 4) else stK a b c d xs n t 0 from rfl)
  have hD := Lib.hid (show ldD a b c d xs n t = if ldC a b c d xs n t = 0 then wrap64 ((soV a b c d xs n t 0).2.2.1 - t) else 0 from rfl)
  generalize ldC a b c d xs n t = C at *
  generalize ldD a b c d xs n t = D at *
  generalize stK a b c d xs n t 0 = S at *
  generalize soV a b c d xs n t 0 = P2 at *
  obtain ⟨x, y, z, u⟩ := P2
  have K1 := Lib.hid (show ∀ wv, Rd wv A xs → Calls Try.prog 39 #[.agg #[.int .i64 a, .int .i64 b, .int .i64 c, .int .i64 d], .agg #[.slice A n cc], .int .i64 t, .int .i64 0] wv fun e w' => e = .returned (.tuple #[.agg #[.int .i64 x, .int .i64 y, .int .i64 z, .bool u], .int .i64 S]) ∧ Q wv w' from K1.out)
  by_cases h0 : S = 0
  · subst h0
    by_cases hx : x = 0
    · subst hx
      have hC1 : Hid (C = 0) := Lib.hid (hC.out.trans rfl)
      have hD1 : Hid (D = wrap64 (z - t)) := Lib.hid (by have := hD.out; rw [hC1.out] at this; exact this)
      go_enter Try.func37, Try.ntmps37
      go_wp2_with fail
      refine (K1.out _ (ha.q QW)).mono ?_
      rintro e w1 ⟨rfl, q1⟩
      go_wp2_with fail
      go_ret2
      rw [hC1.out, hD1.out]
      exact ⟨rfl, (QW.trans q1).alloc _⟩
    · have hC1 : Hid (C = 4) := Lib.hid (hC.out.trans (if_neg hx))
      have hD1 : Hid (D = 0) := Lib.hid (by have := hD.out; rw [hC1.out] at this; exact this)
      have hxb : (x == 0) = false := by simpa using hx
      go_enter Try.func37, Try.ntmps37
      go_wp2_with fail
      refine (K1.out _ (ha.q QW)).mono ?_
      rintro e w1 ⟨rfl, q1⟩
      go_wp2_with fail
      go_ret2
      rw [hC1.out, hD1.out]
      exact ⟨rfl, (QW.trans q1).alloc _⟩
  · have hSb : (S == 0) = false := by simpa using h0
    have hC1 : Hid (C = S) := Lib.hid (hC.out.trans (if_neg h0))
    have hD1 : Hid (D = 0) := Lib.hid (by have := hD.out; rw [hC1.out, if_neg h0] at this; exact this)
    go_enter Try.func37, Try.ntmps37
    go_wp2_with fail
    refine (K1.out _ (ha.q QW)).mono ?_
    rintro e w1 ⟨rfl, q1⟩
    go_wp2_with fail
    go_ret2
    rw [hC1.out, hD1.out]
    exact ⟨rfl, (QW.trans q1).alloc _⟩
end Go.Proofs.Ytlmaecmjpbgegaa
