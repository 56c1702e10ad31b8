/- Words: segments that meet, points on a segment and near it, as the program and the reference tell them (plain). -/
import Derived.Test.YtadljkdjlpmllaaTurn
import Derived.Test.YtadljkdjlpmllaaGeo
namespace Go.Proofs.Ytadljkdjlpmllaa
/-- Within the box of a segment. -/
def onB (a b c d e f : Int) : Bool := decide (min a c ≤ e ∧ e ≤ max a c) && decide (min b d ≤ f ∧ f ≤ max b d)
def onS (a b c d e f : Int) : Bool := (sgn (crossV a b c d e f) == 0) && decide ((e - a) * (e - c) + (f - b) * (f - d) ≤ 0)
theorem sgn_0 (n : Int) : (sgn n == 0) = decide (n = 0) := by
  unfold sgn
  rcases Int.lt_trichotomy n 0 with h | h | h
  · rw [if_neg (by omega), if_pos h]; simp; omega
  · subst h; simp
  · rw [if_pos h]; simp; omega
theorem on_eq {a b c d : Int} (h : ¬ (a = c ∧ b = d)) (e f : Int) : ((sgn (crossV a b c d e f) == 0) && onB a b c d e f) = onS a b c d e f := by
  unfold onS
  rw [sgn_0]
  by_cases hc : crossV a b c d e f = 0
  · rw [decide_eq_true hc, Bool.true_and, Bool.true_and]
    unfold onB
    rw [← Bool.decide_and]
    congr 1
    apply propext
    have h1 := on_box (dx := c - a) (dy := d - b) (ux := e - a) (uy := f - b) (fun e => h ⟨by omega, by omega⟩) (by unfold crossV at hc; exact hc)
    have h2 := between_iff (a := a) (b := c) (p := e)
    have h3 := between_iff (a := b) (b := d) (p := f)
    rw [← h2, ← h3, ← h1]
    rw [show e - c = e - a - (c - a) by omega, show f - d = f - b - (d - b) by omega]
  · rw [decide_eq_false hc, Bool.false_and, Bool.false_and]
/-- Two segments have a common point. -/
def meetV (a b c d e f g h : Int) : Bool :=
  (decide (sgn (crossV a b c d e f) * sgn (crossV a b c d g h) < 0) && decide (sgn (crossV e f g h a b) * sgn (crossV e f g h c d) < 0)) || onS a b c d e f || onS a b c d g h || onS e f g h a b || onS e f g h c d
def sqD (a b c d : Int) : Int := (a - c) * (a - c) + (b - d) * (b - d)
def farV (a b c d e f : Int) : Int := (e - a) * (c - a) + (f - b) * (d - b)
/-- Within a distance of a segment. -/
def nearB (a b c d e f D : Int) : Bool := decide (sqD a b e f ≤ D * D) || decide (sqD c d e f ≤ D * D) || (decide (0 < farV a b c d e f) && decide (farV a b c d e f < sqD a b c d) && decide (crossV a b c d e f * crossV a b c d e f ≤ D * D * sqD a b c d))
theorem nearB_iff (a b c d e f D : Int) : nearB a b c d e f D = decide (if farV a b c d e f ≤ 0 then sqD a b e f ≤ D * D else if sqD a b c d ≤ farV a b c d e f then sqD c d e f ≤ D * D else crossV a b c d e f * crossV a b c d e f ≤ D * D * sqD a b c d) := by
  have h := near_iff (dx := c - a) (dy := d - b) (ux := e - a) (uy := f - b) (D := D * D)
  have e1 : sqD a b e f = (e - a) * (e - a) + (f - b) * (f - b) := by unfold sqD; grind
  have e2 : sqD c d e f = (e - a - (c - a)) * (e - a - (c - a)) + (f - b - (d - b)) * (f - b - (d - b)) := by unfold sqD; grind
  have e3 : sqD a b c d = (c - a) * (c - a) + (d - b) * (d - b) := by unfold sqD; grind
  have e4 : farV a b c d e f = (e - a) * (c - a) + (f - b) * (d - b) := rfl
  have e5 : crossV a b c d e f = (c - a) * (f - b) - (d - b) * (e - a) := rfl
  rw [← e1, ← e2, ← e3, ← e4, ← e5] at h
  unfold nearB
  rw [← Bool.decide_and, ← Bool.decide_and, ← Bool.decide_or, ← Bool.decide_or]
  congr 1
  apply propext
  rw [h]
  grind
end Go.Proofs.Ytadljkdjlpmllaa
