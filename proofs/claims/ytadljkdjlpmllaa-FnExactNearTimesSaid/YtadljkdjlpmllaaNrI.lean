/- Walks: codes of times, and valid headings and hulls, as the program and the reference tell them. No condition. -/
import Derived.Test.YtadljkdjlpmllaaNrH
namespace Go.Proofs.Ytadljkdjlpmllaa
open Go.RowKit Go.WideShapes Go.ChangeShapes
/-- The code of a time at a valid track. -/
def tmC (xs : List Int) (n : Nat) (t : Int) : Int := if lastsB xs n t = true then 0 else 2
theorem impl_trackCode (A : Option Addr) (n c : Nat) (xs : List Int) (t : Int) (w : World) (ha : Rd w A xs) (hn : xs.length = n * 3) (hT : isTrk xs n = true) :
    Calls Try.prog 75 #[.agg #[.slice A n c], .int .i64 t] w fun e w' => e = .returned (.int .i64 (tmC xs n t)) ∧ Q w w' := by
  have hn40 := trk_40 hT
  have k1 := fun wv (h : Rd wv A xs) => impl_IsTrack A n c xs wv h hn (by omega)
  rw [hT] at k1
  have k2 := fun wv (h : Rd wv A xs) => impl_lasts A n c xs t wv h hn hT
  have HO := Lib.hid (show tmC xs n t = if lastsB xs n t = true then 0 else 2 from rfl)
  generalize tmC xs n t = O at *
  generalize lastsB xs n t = L at *
  have K1 := Lib.hid k1
  have K2 := Lib.hid k2
  have B1 := Blk.new w 35 #[.slice A n c]
  have Q0 : Q w (w.alloc (.cells #[.slice A n c] 35)) := by (repeat (first | assumption | exact Q.refl _ | refine Q.alloc ?_ _ | refine Q.drewN ?_ _ | refine Q.drew ?_))
  clear k1 k2 hT hn
  go_enter Try.func75, Try.ntmps75
  go_wp2_with fail
  refine (K1.out _ (ha.q Q0)).mono ?_
  rintro e1 w1 ⟨rfl, q1⟩
  have c1 := (B1.q q1).cell
  go_wp2_with fail
  refine (K2.out _ (ha.q (Q0.trans q1))).mono ?_
  rintro e2 w2 ⟨rfl, q2⟩
  cases L
  · go_wp2_with fail
    go_ret
    exact ⟨by rw [HO.out]; rfl, (Q0.trans q1).trans q2⟩
  · go_wp2_with fail
    go_ret
    exact ⟨by rw [HO.out]; rfl, (Q0.trans q1).trans q2⟩
/-- The reference's leg at a time, of a valid track that lasts then. -/
theorem spec_LegAt (A : Option Addr) (n c : Nat) (xs : List Int) (t : Int) (w : World) (ha : Rd w A xs) (hn : xs.length = n * 3) (hT : isTrk xs n = true) :
    Calls Try.prog 59 #[.agg #[.slice A n c], .int .i64 t] w fun e w' => e = .returned (.tuple #[.int .i64 (if lastsB xs n t = true then ((legS xs t (n - 1) : Nat) : Int) else 0), .int .i64 (tmC xs n t)]) ∧ Q w w' := by
  have hn40 := trk_40 hT
  have k1 := fun wv (h : Rd wv A xs) => spec_IsTrack A n c xs wv h hn (by omega)
  rw [hT] at k1
  have k2 := fun wv (h : Rd wv A xs) => spec_l03Lasts A n c xs t wv h hn hT
  have k3 := fun wv (h : Rd wv A xs) => spec_l03Leg A n c xs t wv h hn hT
  have HO := Lib.hid (show tmC xs n t = if lastsB xs n t = true then 0 else 2 from rfl)
  generalize tmC xs n t = O at *
  generalize lastsB xs n t = L at *
  generalize legS xs t (n - 1) = k at *
  have K1 := Lib.hid k1
  have K2 := Lib.hid k2
  have K3 := Lib.hid k3
  have B1 := Blk.new w 35 #[.slice A n c]
  have Q0 : Q w (w.alloc (.cells #[.slice A n c] 35)) := by (repeat (first | assumption | exact Q.refl _ | refine Q.alloc ?_ _ | refine Q.drewN ?_ _ | refine Q.drew ?_))
  clear k1 k2 k3 hT hn
  go_enter Try.func59, Try.ntmps59
  go_wp2_with fail
  refine (K1.out _ (ha.q Q0)).mono ?_
  rintro e1 w1 ⟨rfl, q1⟩
  have c1 := (B1.q q1).cell
  go_wp2_with fail
  refine (K2.out _ (ha.q (Q0.trans q1))).mono ?_
  rintro e2 w2 ⟨rfl, q2⟩
  cases L
  · go_wp2_with fail
    go_ret2
    exact ⟨by rw [HO.out]; rfl, (Q0.trans q1).trans q2⟩
  · have c2 := ((B1.q q1).q q2).cell
    go_wp2_with fail
    refine (K3.out _ (ha.q ((Q0.trans q1).trans q2))).mono ?_
    rintro e3 w3 ⟨rfl, q3⟩
    go_wp2_with fail
    go_ret2
    exact ⟨by rw [HO.out]; rfl, ((Q0.trans q1).trans q2).trans q3⟩
theorem impl_isHeading1 (x y : Int) (w : World) (h : hdOk x y) : Calls Try.prog 88 #[.agg #[.int .i64 x, .int .i64 y]] w fun e w' => e = .returned (.bool true) ∧ Q w w' := by
  obtain ⟨⟨h1, h2⟩, h3⟩ := h
  have k1 := fun wv => impl_inR x (-2000000) 2000000 wv
  have k2 := fun wv => impl_inR y (-2000000) 2000000 wv
  rw [inR_yes h1] at k1
  rw [inR_yes h2] at k2
  have K1 := Lib.hid k1
  have K2 := Lib.hid k2
  clear k1 k2
  go_enter Try.func88, Try.ntmps88
  go_wp2_with fail
  refine (K1.out _).mono ?_
  rintro e1 w1 ⟨rfl, rfl⟩
  go_wp2_with fail
  refine (K2.out _).mono ?_
  rintro e2 w2 ⟨rfl, rfl⟩
  by_cases hx : x = 0
  · subst hx
    have hy : (y == 0) = false := by simp; omega
    go_wp2_with fail
    go_ret
    exact ⟨rfl, by (repeat (first | assumption | exact Q.refl _ | refine Q.alloc ?_ _ | refine Q.drewN ?_ _ | refine Q.drew ?_))⟩
  · have hxb : (x == 0) = false := by simpa using hx
    go_wp2_with fail
    go_ret
    exact ⟨rfl, by (repeat (first | assumption | exact Q.refl _ | refine Q.alloc ?_ _ | refine Q.drewN ?_ _ | refine Q.drew ?_))⟩
theorem spec_l08Heading1 (x y : Int) (w : World) (h : hdOk x y) : Calls Try.prog 63 #[.agg #[.int .i64 x, .int .i64 y]] w fun e w' => e = .returned (.bool true) ∧ Q w w' := by
  obtain ⟨⟨h1, h2⟩, h3⟩ := h
  have k1 := fun wv => spec_inR x (-2000000) 2000000 wv
  have k2 := fun wv => spec_inR y (-2000000) 2000000 wv
  rw [inR_yes h1] at k1
  rw [inR_yes h2] at k2
  have K1 := Lib.hid k1
  have K2 := Lib.hid k2
  clear k1 k2
  go_enter Try.func63, Try.ntmps63
  go_wp2_with fail
  refine (K1.out _).mono ?_
  rintro e1 w1 ⟨rfl, rfl⟩
  go_wp2_with fail
  refine (K2.out _).mono ?_
  rintro e2 w2 ⟨rfl, rfl⟩
  by_cases hx : x = 0
  · subst hx
    have hy : (y == 0) = false := by simp; omega
    go_wp2_with fail
    go_ret
    exact ⟨rfl, by (repeat (first | assumption | exact Q.refl _ | refine Q.alloc ?_ _ | refine Q.drewN ?_ _ | refine Q.drew ?_))⟩
  · have hxb : (x == 0) = false := by simpa using hx
    go_wp2_with fail
    go_ret
    exact ⟨rfl, by (repeat (first | assumption | exact Q.refl _ | refine Q.alloc ?_ _ | refine Q.drewN ?_ _ | refine Q.drew ?_))⟩
/-- A valid hull. -/
theorem impl_IsHull1 (a b x y l : Int) (w : World) (hp : pt a b) (h : hdOk x y) (hl : 1 ≤ l ∧ l ≤ 1000) : Calls Try.prog 78 #[.agg #[.int .i64 a, .int .i64 b, .int .i64 x, .int .i64 y, .int .i64 l]] w fun e w' => e = .returned (.bool true) ∧ Q w w' := by
  have k1 := fun wv => impl_IsPoint a b wv
  rw [pt_B hp] at k1
  have K1 := Lib.hid k1
  have K2 := Lib.hid (fun wv => impl_isHeading1 x y wv h)
  have k3 := fun wv => impl_inR l 1 1000 wv
  rw [inR_yes hl] at k3
  have K3 := Lib.hid k3
  have B1 := bx5 w a b x y l
  have Q0 : Q w (w.alloc (.cells #[.int .i64 a, .int .i64 b, .int .i64 x, .int .i64 y, .int .i64 l] 56)) := by (repeat (first | assumption | exact Q.refl _ | refine Q.alloc ?_ _ | refine Q.drewN ?_ _ | refine Q.drew ?_))
  clear k1 k3 h hp hl
  go_enter Try.func78, Try.ntmps78
  go_wp2_with fail
  refine (K1.out _).mono ?_
  rintro e1 w1 ⟨rfl, q1⟩
  have c1 := (B1.q q1).cell
  go_wp2_with fail
  refine (K2.out _).mono ?_
  rintro e2 w2 ⟨rfl, q2⟩
  have c2 := ((B1.q q1).q q2).cell
  go_wp2_with fail
  refine (K3.out _).mono ?_
  rintro e3 w3 ⟨rfl, rfl⟩
  go_wp2_with fail
  go_ret
  exact ⟨rfl, (Q0.trans q1).trans q2⟩
/-- A valid hull. -/
theorem spec_IsHull1 (a b x y l : Int) (w : World) (hp : pt a b) (h : hdOk x y) (hl : 1 ≤ l ∧ l ≤ 1000) : Calls Try.prog 42 #[.agg #[.int .i64 a, .int .i64 b, .int .i64 x, .int .i64 y, .int .i64 l]] w fun e w' => e = .returned (.bool true) ∧ Q w w' := by
  have k1 := fun wv => spec_IsPoint a b wv
  rw [pt_B hp] at k1
  have K1 := Lib.hid k1
  have K2 := Lib.hid (fun wv => spec_l08Heading1 x y wv h)
  have k3 := fun wv => spec_inR l 1 1000 wv
  rw [inR_yes hl] at k3
  have K3 := Lib.hid k3
  have B1 := bx5 w a b x y l
  have Q0 : Q w (w.alloc (.cells #[.int .i64 a, .int .i64 b, .int .i64 x, .int .i64 y, .int .i64 l] 56)) := by (repeat (first | assumption | exact Q.refl _ | refine Q.alloc ?_ _ | refine Q.drewN ?_ _ | refine Q.drew ?_))
  clear k1 k3 h hp hl
  go_enter Try.func42, Try.ntmps42
  go_wp2_with fail
  refine (K1.out _).mono ?_
  rintro e1 w1 ⟨rfl, q1⟩
  have c1 := (B1.q q1).cell
  go_wp2_with fail
  refine (K2.out _).mono ?_
  rintro e2 w2 ⟨rfl, q2⟩
  have c2 := ((B1.q q1).q q2).cell
  go_wp2_with fail
  refine (K3.out _).mono ?_
  rintro e3 w3 ⟨rfl, rfl⟩
  go_wp2_with fail
  go_ret
  exact ⟨rfl, (Q0.trans q1).trans q2⟩
end Go.Proofs.Ytadljkdjlpmllaa
