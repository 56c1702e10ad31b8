/- The plain value of a start, and whether it is one; walks: the laws' own function on starts. -/
import Derived.Test.YtlmaecmjpbgegaaHsF
namespace Go.Proofs.Ytlmaecmjpbgegaa
open Go.RowKit Go.WideShapes Go.ChangeShapes
/-- A start: its code, the time from which it counts, its time, its penalty. -/
abbrev St4 := Int × Int × Int × Bool
def stVal (p : St4) : Value := .agg #[.int .i64 p.1, .int .i64 p.2.1, .int .i64 p.2.2.1, .bool p.2.2.2]
/-- The start by what is found on the way: hasty, early, the flag, the first crossing back, the time from which the start counts, the first crossing forward and its time, the last time, the time. -/
def stD (hs ea : Bool) (fl V1 fr V2 X lt t : Int) : St4 :=
  if hs = true ∧ fl = 3 then (8, 0, 0, false) else if hs = true ∧ fl = 2 then (6, 0, 0, false)
  else if ea = true ∧ V1 < 0 then (3, 0, 0, false) else if V2 < 0 ∨ lt < t then (if ea then 3 else 2, 0, 0, false)
  else (0, fr, X, hs && (fl == 1))
def stE (a b c d : Int) (xs : List Int) (n : Nat) (t : Int) : Bool := sideV a b c d xs n t == 1
def stFr (a b c d : Int) (xs : List Int) (n : Nat) (t : Int) : Int := if stE a b c d xs n t then el (crL a b c d xs (n - 1)) ((fcV a b c d xs n (-1) t).toNat * 5) else max t (el xs 0)
def stA (a b c d : Int) (xs : List Int) (n : Nat) (t fl : Int) : St4 :=
  stD (hsI a b c d xs n t) (stE a b c d xs n t) fl (fcV a b c d xs n (-1) t) (stFr a b c d xs n t) (fcV a b c d xs n 1 (stFr a b c d xs n t)) (el (crL a b c d xs (n - 1)) ((fcV a b c d xs n 1 (stFr a b c d xs n t)).toNat * 5)) (el xs ((n - 1) * 3)) t
theorem stD_3 {ea : Bool} {V1 fr V2 X lt t : Int} : stD true ea 3 V1 fr V2 X lt t = (8, 0, 0, false) := by simp [stD]
theorem stD_2 {ea : Bool} {V1 fr V2 X lt t : Int} : stD true ea 2 V1 fr V2 X lt t = (6, 0, 0, false) := by simp [stD]
theorem stD_e {hs : Bool} {fl V1 fr V2 X lt t : Int} (h : hs = true → fl ≠ 3 ∧ fl ≠ 2) (hV : V1 < 0) : stD hs true fl V1 fr V2 X lt t = (3, 0, 0, false) := by
  unfold stD
  rw [if_neg (fun e => (h e.1).1 e.2), if_neg (fun e => (h e.1).2 e.2), if_pos ⟨rfl, hV⟩]
theorem stD_m {hs ea : Bool} {fl V1 fr V2 X lt t : Int} (h : hs = true → fl ≠ 3 ∧ fl ≠ 2) (hV : ¬ (ea = true ∧ V1 < 0)) (h2 : V2 < 0 ∨ lt < t) : stD hs ea fl V1 fr V2 X lt t = (if ea then 3 else 2, 0, 0, false) := by
  unfold stD
  rw [if_neg (fun e => (h e.1).1 e.2), if_neg (fun e => (h e.1).2 e.2), if_neg hV, if_pos h2]
theorem stD_y {hs ea : Bool} {fl V1 fr V2 X lt t : Int} (h : hs = true → fl ≠ 3 ∧ fl ≠ 2) (hV : ¬ (ea = true ∧ V1 < 0)) (h2 : ¬ (V2 < 0 ∨ lt < t)) : stD hs ea fl V1 fr V2 X lt t = (0, fr, X, hs && (fl == 1)) := by
  unfold stD
  rw [if_neg (fun e => (h e.1).1 e.2), if_neg (fun e => (h e.1).2 e.2), if_neg hV, if_neg h2]
set_option maxHeartbeats 1000000 in
theorem eqStart_same (p : St4) (w : World) : Calls Try.prog 41 #[stVal p, stVal p] w fun e w' => e = .returned (.bool true) ∧ Q w w' := by
  obtain ⟨x, y, z, u⟩ := p
  show Calls Try.prog 41 #[.agg #[.int .i64 x, .int .i64 y, .int .i64 z, .bool u], .agg #[.int .i64 x, .int .i64 y, .int .i64 z, .bool u]] w _
  go_enter Try.func41, Try.ntmps41
  go_wp2_with fail
  all_goals go_ret
  all_goals first | exact ⟨ret_bool (by simp_all), ((Q.refl _).alloc _).alloc _⟩ | (exfalso; simp_all; done)
end Go.Proofs.Ytlmaecmjpbgegaa
