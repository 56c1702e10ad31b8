/- Words: segments that meet, points on a segment and near it, as the program and the reference tell them (plain). Words: headings, hulls and near hulls of tracks at a time (plain). -/
import Derived.Test.YtkpdoikjfibflaaGreatDoorEarly
import Derived.Test.YtkpdoikjfibflaaGreatDoorRoot
namespace Go.Proofs.YtkpdoikjfibflaaGreatDoor
/-- Within the box of a segment. -/
def onB (a b c d e f : Int) : Bool := decide (min a c ≤ e ∧ e ≤ max a c) && decide (min b d ≤ f ∧ f ≤ max b d)
def onS (a b c d e f : Int) : Bool := (sgn (crossV a b c d e f) == 0) && decide ((e - a) * (e - c) + (f - b) * (f - d) ≤ 0)
theorem sgn_0 (n : Int) : (sgn n == 0) = decide (n = 0) := by
  unfold sgn
  rcases Int.lt_trichotomy n 0 with h | h | h
  · rw [if_neg (by omega), if_pos h]; simp; omega
  · subst h; simp
  · rw [if_pos h]; simp; omega
theorem on_eq {a b c d : Int} (h : ¬ (a = c ∧ b = d)) (e f : Int) : ((sgn (crossV a b c d e f) == 0) && onB a b c d e f) = onS a b c d e f := by
  unfold onS
  rw [sgn_0]
  by_cases hc : crossV a b c d e f = 0
  · rw [decide_eq_true hc, Bool.true_and, Bool.true_and]
    unfold onB
    rw [← Bool.decide_and]
    congr 1
    apply propext
    have h1 := on_box (dx := c - a) (dy := d - b) (ux := e - a) (uy := f - b) (fun e => h ⟨by omega, by omega⟩) (by unfold crossV at hc; exact hc)
    have h2 := between_iff (a := a) (b := c) (p := e)
    have h3 := between_iff (a := b) (b := d) (p := f)
    rw [← h2, ← h3, ← h1]
    rw [show e - c = e - a - (c - a) by omega, show f - d = f - b - (d - b) by omega]
  · rw [decide_eq_false hc, Bool.false_and, Bool.false_and]
/-- Two segments have a common point. -/
def meetV (a b c d e f g h : Int) : Bool :=
  (decide (sgn (crossV a b c d e f) * sgn (crossV a b c d g h) < 0) && decide (sgn (crossV e f g h a b) * sgn (crossV e f g h c d) < 0)) || onS a b c d e f || onS a b c d g h || onS e f g h a b || onS e f g h c d
def sqD (a b c d : Int) : Int := (a - c) * (a - c) + (b - d) * (b - d)
def farV (a b c d e f : Int) : Int := (e - a) * (c - a) + (f - b) * (d - b)
/-- Within a distance of a segment. -/
def nearB (a b c d e f D : Int) : Bool := decide (sqD a b e f ≤ D * D) || decide (sqD c d e f ≤ D * D) || (decide (0 < farV a b c d e f) && decide (farV a b c d e f < sqD a b c d) && decide (crossV a b c d e f * crossV a b c d e f ≤ D * D * sqD a b c d))
theorem nearB_iff (a b c d e f D : Int) : nearB a b c d e f D = decide (if farV a b c d e f ≤ 0 then sqD a b e f ≤ D * D else if sqD a b c d ≤ farV a b c d e f then sqD c d e f ≤ D * D else crossV a b c d e f * crossV a b c d e f ≤ D * D * sqD a b c d) := by
  have h := near_iff (dx := c - a) (dy := d - b) (ux := e - a) (uy := f - b) (D := D * D)
  have e1 : sqD a b e f = (e - a) * (e - a) + (f - b) * (f - b) := by unfold sqD; grind
  have e2 : sqD c d e f = (e - a - (c - a)) * (e - a - (c - a)) + (f - b - (d - b)) * (f - b - (d - b)) := by unfold sqD; grind
  have e3 : sqD a b c d = (c - a) * (c - a) + (d - b) * (d - b) := by unfold sqD; grind
  have e4 : farV a b c d e f = (e - a) * (c - a) + (f - b) * (d - b) := rfl
  have e5 : crossV a b c d e f = (c - a) * (f - b) - (d - b) * (e - a) := rfl
  rw [← e1, ← e2, ← e3, ← e4, ← e5] at h
  unfold nearB
  rw [← Bool.decide_and, ← Bool.decide_and, ← Bool.decide_or, ← Bool.decide_or]
  congr 1
  apply propext
  rw [h]
  grind
end Go.Proofs.YtkpdoikjfibflaaGreatDoor
namespace Go.Proofs.YtkpdoikjfibflaaGreatDoor
def hdX (xs : List Int) (n : Nat) (t : Int) : Int := el xs ((legS xs t (n - 1) + 1) * 3 + 1) - el xs (legS xs t (n - 1) * 3 + 1)
def hdY (xs : List Int) (n : Nat) (t : Int) : Int := el xs ((legS xs t (n - 1) + 1) * 3 + 2) - el xs (legS xs t (n - 1) * 3 + 2)
/-- The code of a heading. -/
def hdC (xs : List Int) (n : Nat) (t : Int) : Int := if isTrk xs n = true then (if lastsB xs n t = true then (if hdX xs n t = 0 ∧ hdY xs n t = 0 then 5 else 0) else 2) else 1
/-- The code of a hull. -/
def huC (xs : List Int) (n : Nat) (t l : Int) : Int := if isTrk xs n = true then (if 1 ≤ l ∧ l ≤ 1000 then hdC xs n t else 2) else 1
/-- A coordinate of a stern. -/
def snV (b h l x y : Int) : Int := b - h * l / rt (x * x + y * y)
/-- Two hulls from stern to bow are near. -/
def hnB (a b c d e f g h D : Int) : Bool := meetV a b c d e f g h || nearB a b c d e f D || nearB a b c d g h D || nearB e f g h a b D || nearB e f g h c d D
def snX (xs : List Int) (n : Nat) (t l : Int) : Int := snV (atX xs n t) (hdX xs n t) l (hdX xs n t) (hdY xs n t)
def snY (xs : List Int) (n : Nat) (t l : Int) : Int := snV (atY xs n t) (hdY xs n t) l (hdX xs n t) (hdY xs n t)
def naB (l D : Int) (xs : List Int) (n : Nat) (ys : List Int) (m : Nat) (t : Int) : Bool :=
  decide (huC xs n t l = 0) && decide (huC ys m t l = 0) && lnB (snX xs n t l) (snY xs n t l) (atX xs n t) (atY xs n t) && lnB (snX ys m t l) (snY ys m t l) (atX ys m t) (atY ys m t) &&
    hnB (snX xs n t l) (snY xs n t l) (atX xs n t) (atY xs n t) (snX ys m t l) (snY ys m t l) (atX ys m t) (atY ys m t) D
theorem hd_bd {xs : List Int} {n : Nat} {t : Int} (hT : isTrk xs n = true) (hl : lastsB xs n t = true) : (-2000000 ≤ hdX xs n t ∧ hdX xs n t ≤ 2000000) ∧ (-2000000 ≤ hdY xs n t ∧ hdY xs n t ≤ 2000000) := by
  obtain ⟨h1, _, _⟩ := leg_facts hT hl
  have h2 := trk_at hT (show legS xs t (n - 1) < n by omega)
  have h3 := trk_at hT h1
  have p2 := pt_of h2.2.1
  have p3 := pt_of h3.2.1
  unfold pt at p2 p3
  unfold hdX hdY
  omega
end Go.Proofs.YtkpdoikjfibflaaGreatDoor
