/- Words: headings, hulls and near hulls of tracks at a time (plain). -/
import Derived.Test.YtadljkdjlpmllaaLine
import Derived.Test.YtadljkdjlpmllaaNrP
namespace Go.Proofs.Ytadljkdjlpmllaa
def hdX (xs : List Int) (n : Nat) (t : Int) : Int := el xs ((legS xs t (n - 1) + 1) * 3 + 1) - el xs (legS xs t (n - 1) * 3 + 1)
def hdY (xs : List Int) (n : Nat) (t : Int) : Int := el xs ((legS xs t (n - 1) + 1) * 3 + 2) - el xs (legS xs t (n - 1) * 3 + 2)
/-- The code of a heading. -/
def hdC (xs : List Int) (n : Nat) (t : Int) : Int := if isTrk xs n = true then (if lastsB xs n t = true then (if hdX xs n t = 0 ∧ hdY xs n t = 0 then 5 else 0) else 2) else 1
/-- The code of a hull. -/
def huC (xs : List Int) (n : Nat) (t l : Int) : Int := if isTrk xs n = true then (if 1 ≤ l ∧ l ≤ 1000 then hdC xs n t else 2) else 1
/-- A coordinate of a stern. -/
def snV (b h l x y : Int) : Int := b - h * l / rt (x * x + y * y)
/-- Two hulls from stern to bow are near. -/
def hnB (a b c d e f g h D : Int) : Bool := meetV a b c d e f g h || nearB a b c d e f D || nearB a b c d g h D || nearB e f g h a b D || nearB e f g h c d D
def snX (xs : List Int) (n : Nat) (t l : Int) : Int := snV (atX xs n t) (hdX xs n t) l (hdX xs n t) (hdY xs n t)
def snY (xs : List Int) (n : Nat) (t l : Int) : Int := snV (atY xs n t) (hdY xs n t) l (hdX xs n t) (hdY xs n t)
def naB (l D : Int) (xs : List Int) (n : Nat) (ys : List Int) (m : Nat) (t : Int) : Bool :=
  decide (huC xs n t l = 0) && decide (huC ys m t l = 0) && lnB (snX xs n t l) (snY xs n t l) (atX xs n t) (atY xs n t) && lnB (snX ys m t l) (snY ys m t l) (atX ys m t) (atY ys m t) &&
    hnB (snX xs n t l) (snY xs n t l) (atX xs n t) (atY xs n t) (snX ys m t l) (snY ys m t l) (atX ys m t) (atY ys m t) D
theorem hd_bd {xs : List Int} {n : Nat} {t : Int} (hT : isTrk xs n = true) (hl : lastsB xs n t = true) : (-2000000 ≤ hdX xs n t ∧ hdX xs n t ≤ 2000000) ∧ (-2000000 ≤ hdY xs n t ∧ hdY xs n t ≤ 2000000) := by
  obtain ⟨h1, _, _⟩ := leg_facts hT hl
  have h2 := trk_at hT (show legS xs t (n - 1) < n by omega)
  have h3 := trk_at hT h1
  have p2 := pt_of h2.2.1
  have p3 := pt_of h3.2.1
  unfold pt at p2 p3
  unfold hdX hdY
  omega
end Go.Proofs.Ytadljkdjlpmllaa
