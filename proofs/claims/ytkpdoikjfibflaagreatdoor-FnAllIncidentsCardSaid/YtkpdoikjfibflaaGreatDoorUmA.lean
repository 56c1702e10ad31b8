/- Words: tacks, manoeuvres, turning, clear astern, rulings and incidents (plain). No condition. Walks: winds, tacks and scalar products, as the program and the reference tell them. No condition. -/
import Derived.Test.YtkpdoikjfibflaaGreatDoorNrQ
import Derived.Test.YtkpdoikjfibflaaGreatDoorCmp
import Derived.Test.YtkpdoikjfibflaaGreatDoorNrG
namespace Go.Proofs.YtkpdoikjfibflaaGreatDoor
def wnd (x y : Int) : Prop := (-1000 ≤ x ∧ x ≤ 1000) ∧ (-1000 ≤ y ∧ y ≤ 1000)
def wnB (x y : Int) : Bool := inR x (-1000) 1000 && inR y (-1000) 1000 && !(decide (x = 0) && decide (y = 0))
def hd2 (x y : Int) : Prop := (-2000000 ≤ x ∧ x ≤ 2000000) ∧ (-2000000 ≤ y ∧ y ≤ 2000000)
/-- The tack of a heading. -/
def tkV (wx wy x y : Int) : Int := if x * wy - y * wx < 0 then 1 else if 0 < x * wy - y * wx then 2 else 0
theorem tkV_any (wx wy x y : Int) : tkV wx wy x y = 0 ∨ tkV wx wy x y = 1 ∨ tkV wx wy x y = 2 := by
  unfold tkV
  split
  · exact .inr (.inl rfl)
  · split
    · exact .inr (.inr rfl)
    · exact .inl rfl
theorem tkV_ne {wx wy x y : Int} (h : tkV wx wy x y ≠ 0) : ¬ (x = 0 ∧ y = 0) := by
  rintro ⟨rfl, rfl⟩
  apply h
  unfold tkV
  simp
/-- How far a heading leads with the wind. -/
def alV (wx wy x y : Int) : Int := (x * wx + y * wy) / rt (x * x + y * y)
def lgX (xs : List Int) (k : Nat) : Int := el xs ((k + 1) * 3 + 1) - el xs (k * 3 + 1)
def lgY (xs : List Int) (k : Nat) : Int := el xs ((k + 1) * 3 + 2) - el xs (k * 3 + 2)
/-- The manoeuvre at fix k + 1. -/
def mnK (wx wy : Int) (xs : List Int) (k : Nat) : List Int :=
  if tkV wx wy (lgX xs k) (lgY xs k) = 0 ∨ tkV wx wy (lgX xs (k + 1)) (lgY xs (k + 1)) = 0 ∨ tkV wx wy (lgX xs k) (lgY xs k) = tkV wx wy (lgX xs (k + 1)) (lgY xs (k + 1)) then []
  else [((k + 1 : Nat) : Int), if alV wx wy (lgX xs k) (lgY xs k) + alV wx wy (lgX xs (k + 1)) (lgY xs (k + 1)) < 0 then 1 else 2]
/-- The manoeuvres at the first k inner fixes. -/
def mnTo (wx wy : Int) (xs : List Int) : Nat → List Int
  | 0 => []
  | k + 1 => mnTo wx wy xs k ++ mnK wx wy xs k
theorem mnTo_facts (wx wy : Int) (xs : List Int) : ∀ k, ∃ c, c ≤ k ∧ (mnTo wx wy xs k).length = c * 2 ∧ ∀ j, j < c → ∃ q : Nat, el (mnTo wx wy xs k) (j * 2) = q ∧ 1 ≤ q ∧ q ≤ k
  | 0 => ⟨0, Nat.le_refl _, rfl, fun j h => by omega⟩
  | k + 1 => by
    obtain ⟨c, h1, h2, h3⟩ := mnTo_facts wx wy xs k
    unfold mnTo mnK
    split
    · refine ⟨c, by omega, by simpa using h2, fun j hj => ?_⟩
      obtain ⟨q, h4, h5, h6⟩ := h3 j hj
      exact ⟨q, by simpa using h4, h5, by omega⟩
    · refine ⟨c + 1, by omega, by simp [h2]; omega, fun j hj => ?_⟩
      by_cases e : j < c
      · obtain ⟨q, h4, h5, h6⟩ := h3 j e
        refine ⟨q, ?_, h5, by omega⟩
        rw [← h4]
        unfold el
        rw [List.getD_eq_getElem?_getD, List.getD_eq_getElem?_getD, List.getElem?_append_left (by omega)]
      · have e : j = c := by omega
        subst e
        refine ⟨k + 1, ?_, by omega, by omega⟩
        unfold el
        rw [List.getD_eq_getElem?_getD, List.getElem?_append_right (by omega), h2]
        simp
/-- A manoeuvre among the first j of the rows L lies near a time. -/
def tuTo (xs L : List Int) (t sp : Int) : Nat → Bool
  | 0 => false
  | j + 1 => tuTo xs L t sp j || inR (el xs ((el L (j * 2)).toNat * 3) - t) (-sp) sp
theorem tuTo_yes {xs L : List Int} {t sp : Int} {j : Nat} : ∀ {c : Nat}, j < c → inR (el xs ((el L (j * 2)).toNat * 3) - t) (-sp) sp = true → tuTo xs L t sp c = true
  | c + 1, h, hi => by
    rw [tuTo]
    by_cases e : j = c
    · subst e; rw [hi]; simp
    · rw [tuTo_yes (by omega) hi]; rfl
def tuB (wx wy : Int) (xs : List Int) (n : Nat) (t sp : Int) : Bool := tuTo xs (mnTo wx wy xs (n - 2)) t sp ((mnTo wx wy xs (n - 2)).length / 2)
/-- b is clear astern of a. -/
def aheV (a b x y c d : Int) : Int := (c - a) * x + (d - b) * y
def clB (a b x y l c d : Int) : Bool := decide (aheV a b x y c d < 0) && decide (l * l * (x * x + y * y) < aheV a b x y c d * aheV a b x y c d)
theorem cl_root {d n : Int} (hd : d < 0) (hn : 0 ≤ n) : decide (n < d * d) = decide (rt n < -d) := by
  have h := rt_le_iff hn (show 0 ≤ -d by omega)
  have e : -d * -d = d * d := by rw [Int.neg_mul_neg]
  rw [e] at h
  exact decide_eq_decide.2 ⟨fun k => by omega, fun k => by omega⟩
def ovV (a b x y l a' b' x' y' l' : Int) : Int := (if clB a b x y l a' b' = true then 1 else 0) + (if clB a' b' x' y' l' a b = true then 2 else 0)
/-- The hull to windward. -/
def scV (wx wy a b : Int) : Int := a * wx + b * wy
def wwV (wx wy a b a' b' : Int) : Int := if scV wx wy a b < scV wx wy a' b' then 1 else if scV wx wy a' b' < scV wx wy a b then 2 else 0
/-- The ruling: who keeps clear, and why. -/
def ruV (ta tb : Bool) (x y o v : Int) : Int × Int :=
  if ta != tb then (if ta then (1, 1) else (2, 1)) else if ta = true ∨ x = 0 ∨ y = 0 then (0, 5) else if x ≠ y then (x, 2) else if o = 1 then (2, 3) else if o = 2 then (1, 3) else if o = 3 then (0, 5) else if 0 < v then (v, 4) else (0, 5)
/-- The ruling for two tracks at a time. -/
def ruT (wx wy l sp : Int) (xs : List Int) (n : Nat) (ys : List Int) (m : Nat) (t : Int) : Int × Int :=
  ruV (tuB wx wy xs n t sp) (tuB wx wy ys m t sp) (tkV wx wy (hdX xs n t) (hdY xs n t)) (tkV wx wy (hdX ys m t) (hdY ys m t))
    (ovV (atX xs n t) (atY xs n t) (hdX xs n t) (hdY xs n t) l (atX ys m t) (atY ys m t) (hdX ys m t) (hdY ys m t) l) (wwV wx wy (atX xs n t) (atY xs n t) (atX ys m t) (atY ys m t))
theorem ruV_keeper (ta tb : Bool) (x y o v : Int) (hx : x = 0 ∨ x = 1 ∨ x = 2) (hv : v = 0 ∨ v = 1 ∨ v = 2) : (ruV ta tb x y o v).1 = 0 ∨ (ruV ta tb x y o v).1 = 1 ∨ (ruV ta tb x y o v).1 = 2 := by
  unfold ruV
  repeat' split
  all_goals first | (exact .inl rfl) | (exact .inr (.inl rfl)) | (exact .inr (.inr rfl)) | exact hx | exact hv
theorem wwV_any (wx wy a b a' b' : Int) : wwV wx wy a b a' b' = 0 ∨ wwV wx wy a b a' b' = 1 ∨ wwV wx wy a b a' b' = 2 := by
  unfold wwV
  split
  · exact .inr (.inl rfl)
  · split
    · exact .inr (.inr rfl)
    · exact .inl rfl
theorem ruT_keeper (wx wy l sp : Int) (xs : List Int) (n : Nat) (ys : List Int) (m : Nat) (t : Int) : (ruT wx wy l sp xs n ys m t).1 = 0 ∨ (ruT wx wy l sp xs n ys m t).1 = 1 ∨ (ruT wx wy l sp xs n ys m t).1 = 2 :=
  ruV_keeper _ _ _ _ _ _ (tkV_any _ _ _ _) (wwV_any _ _ _ _ _ _)
/-- An incident. -/
def evR (r : Int × Int) (t f s : Int) : List Int := if 0 < r.1 then [t, f, s, if r.1 = 2 then s else f, r.2] else [t, f, s, -1, 5]
theorem evR_len (r : Int × Int) (t f s : Int) : (evR r t f s).length = 5 := by unfold evR; split <;> rfl
/-- The incidents at the first k of the times L: near, but not at the time before. -/
def icK (p : Int → Bool) (ev : Int → List Int) (L : List Int) (k : Nat) : List Int := if p (el L k) = true ∧ ¬ (0 < k ∧ p (el L (k - 1)) = true) then ev (el L k) else []
def icTo (p : Int → Bool) (ev : Int → List Int) (L : List Int) : Nat → List Int
  | 0 => []
  | k + 1 => icTo p ev L k ++ icK p ev L k
def beB (p : Int → Bool) (L : List Int) (k : Nat) : Bool := decide (0 < k) && p (el L (k - 1))
theorem beB_0 (p : Int → Bool) (L : List Int) : beB p L 0 = false := rfl
theorem beB_succ (p : Int → Bool) (L : List Int) (k : Nat) : beB p L (k + 1) = p (el L k) := by simp [beB]
theorem icK_no {p : Int → Bool} {ev : Int → List Int} {L : List Int} {k : Nat} (h : p (el L k) = false) : icK p ev L k = [] := by unfold icK; rw [if_neg (by rw [h]; simp)]
theorem icK_be {p : Int → Bool} {ev : Int → List Int} {L : List Int} {k : Nat} (h : beB p L k = true) : icK p ev L k = [] := by
  unfold icK
  have : 0 < k ∧ p (el L (k - 1)) = true := by simpa [beB] using h
  rw [if_neg (fun e => e.2 this)]
theorem icK_yes {p : Int → Bool} {ev : Int → List Int} {L : List Int} {k : Nat} (h : p (el L k) = true) (hb : beB p L k = false) : icK p ev L k = ev (el L k) := by
  unfold icK
  rw [if_pos ⟨h, fun e => by have : beB p L k = true := by simp [beB, e.1, e.2]
                             rw [this] at hb; cases hb⟩]
theorem icTo_len {p : Int → Bool} {ev : Int → List Int} {L : List Int} (he : ∀ t, (ev t).length = 5) : ∀ k, ∃ c, c ≤ k ∧ (icTo p ev L k).length = c * 5
  | 0 => ⟨0, Nat.le_refl _, rfl⟩
  | k + 1 => by
    obtain ⟨c, h1, h2⟩ := icTo_len (p := p) (L := L) he k
    unfold icTo icK
    split
    · exact ⟨c + 1, by omega, by rw [List.length_append, h2, he]; omega⟩
    · exact ⟨c, by omega, by simpa using h2⟩
end Go.Proofs.YtkpdoikjfibflaaGreatDoor
namespace Go.Proofs.YtkpdoikjfibflaaGreatDoor
open Go.RowKit Go.WideShapes Go.ChangeShapes
theorem bxWP (w : World) (wx wy x y : Int) : Blk ((w.alloc (.cells #[.int .i64 wx, .int .i64 wy] 25)).alloc (.cells #[.int .i64 x, .int .i64 y] 78)) w.heap.size 25 #[.int .i64 wx, .int .i64 wy] ∧
    Blk ((w.alloc (.cells #[.int .i64 wx, .int .i64 wy] 25)).alloc (.cells #[.int .i64 x, .int .i64 y] 78)) (w.heap.size + 1) 78 #[.int .i64 x, .int .i64 y] :=
  ⟨(Blk.new _ _ _).alloc _, by simpa using Blk.new (w.alloc (.cells #[.int .i64 wx, .int .i64 wy] 25)) 78 #[.int .i64 x, .int .i64 y]⟩
theorem wnd_hd {x y : Int} (h : wnd x y) : hd2 x y := by unfold wnd at h; unfold hd2; omega
theorem wnB_wnd {x y : Int} (h : wnB x y = true) : wnd x y := by
  have h' : (inR x (-1000) 1000 = true ∧ inR y (-1000) 1000 = true) ∧ ¬ (x = 0 ∧ y = 0) := by
    unfold wnB at h
    rw [Bool.and_eq_true, Bool.and_eq_true] at h
    refine ⟨h.1, ?_⟩
    rintro ⟨rfl, rfl⟩
    simp at h
  unfold inR at h'
  unfold wnd
  simp at h'
  omega
theorem tkV_1 {wx wy x y : Int} (h : x * wy - y * wx < 0) : tkV wx wy x y = 1 := if_pos h
theorem tkV_2 {wx wy x y : Int} (h : 0 < x * wy - y * wx) : tkV wx wy x y = 2 := by unfold tkV; rw [if_neg (by omega), if_pos h]
theorem tkV_0 {wx wy x y : Int} (h : x * wy - y * wx = 0) : tkV wx wy x y = 0 := by unfold tkV; rw [if_neg (by omega), if_neg (by omega)]
theorem impl_IsWind (x y : Int) (w : World) : Calls Tryz.prog 16 #[.agg #[.int .i64 x, .int .i64 y]] w fun e w' => e = .returned (.bool (wnB x y)) ∧ Q w w' := by
  have K1 := Lib.hid (fun wv => impl_inR x (-1000) 1000 wv)
  have K2 := Lib.hid (fun wv => impl_inR y (-1000) 1000 wv)
  have HW := Lib.hid (show wnB x y = (inR x (-1000) 1000 && inR y (-1000) 1000 && !(decide (x = 0) && decide (y = 0))) from rfl)
  generalize wnB x y = W at *
  generalize inR x (-1000) 1000 = r1 at *
  generalize inR y (-1000) 1000 = r2 at *
  cases r1
  · go_enter Tryz.func16, Tryz.ntmps16
    go_wp2_with fail
    refine (K1.out _).mono ?_
    rintro e1 w1 ⟨rfl, rfl⟩
    go_wp2_with fail
    go_ret
    exact ⟨ret_bool (by rw [HW.out]; rfl), by (repeat (first | assumption | exact Q.refl _ | refine Q.alloc ?_ _ | refine Q.drewN ?_ _ | refine Q.drew ?_))⟩
  · cases r2
    · go_enter Tryz.func16, Tryz.ntmps16
      go_wp2_with fail
      refine (K1.out _).mono ?_
      rintro e1 w1 ⟨rfl, rfl⟩
      go_wp2_with fail
      refine (K2.out _).mono ?_
      rintro e2 w2 ⟨rfl, rfl⟩
      go_wp2_with fail
      go_ret
      exact ⟨ret_bool (by rw [HW.out]; rfl), by (repeat (first | assumption | exact Q.refl _ | refine Q.alloc ?_ _ | refine Q.drewN ?_ _ | refine Q.drew ?_))⟩
    · by_cases hx : x = 0
      · by_cases hy : y = 0
        · subst hx hy
          go_enter Tryz.func16, Tryz.ntmps16
          go_wp2_with fail
          refine (K1.out _).mono ?_
          rintro e1 w1 ⟨rfl, rfl⟩
          go_wp2_with fail
          refine (K2.out _).mono ?_
          rintro e2 w2 ⟨rfl, rfl⟩
          go_wp2_with fail
          go_ret
          exact ⟨ret_bool (by rw [HW.out]; rfl), by (repeat (first | assumption | exact Q.refl _ | refine Q.alloc ?_ _ | refine Q.drewN ?_ _ | refine Q.drew ?_))⟩
        · have hyb : (y == 0) = false := by simpa using hy
          subst hx
          go_enter Tryz.func16, Tryz.ntmps16
          go_wp2_with fail
          refine (K1.out _).mono ?_
          rintro e1 w1 ⟨rfl, rfl⟩
          go_wp2_with fail
          refine (K2.out _).mono ?_
          rintro e2 w2 ⟨rfl, rfl⟩
          go_wp2_with fail
          go_ret
          exact ⟨ret_bool (by rw [HW.out]; simp [hy]), by (repeat (first | assumption | exact Q.refl _ | refine Q.alloc ?_ _ | refine Q.drewN ?_ _ | refine Q.drew ?_))⟩
      · have hxb : (x == 0) = false := by simpa using hx
        go_enter Tryz.func16, Tryz.ntmps16
        go_wp2_with fail
        refine (K1.out _).mono ?_
        rintro e1 w1 ⟨rfl, rfl⟩
        go_wp2_with fail
        refine (K2.out _).mono ?_
        rintro e2 w2 ⟨rfl, rfl⟩
        go_wp2_with fail
        go_ret
        exact ⟨ret_bool (by rw [HW.out]; simp [hx]), by (repeat (first | assumption | exact Q.refl _ | refine Q.alloc ?_ _ | refine Q.drewN ?_ _ | refine Q.drew ?_))⟩
theorem spec_IsWind (x y : Int) (w : World) : Calls Tryz.prog 23 #[.agg #[.int .i64 x, .int .i64 y]] w fun e w' => e = .returned (.bool (wnB x y)) ∧ Q w w' := by
  have K1 := Lib.hid (fun wv => spec_inR x (-1000) 1000 wv)
  have K2 := Lib.hid (fun wv => spec_inR y (-1000) 1000 wv)
  have HW := Lib.hid (show wnB x y = (inR x (-1000) 1000 && inR y (-1000) 1000 && !(decide (x = 0) && decide (y = 0))) from rfl)
  generalize wnB x y = W at *
  generalize inR x (-1000) 1000 = r1 at *
  generalize inR y (-1000) 1000 = r2 at *
  cases r1
  · go_enter Tryz.func23, Tryz.ntmps23
    go_wp2_with fail
    refine (K1.out _).mono ?_
    rintro e1 w1 ⟨rfl, rfl⟩
    go_wp2_with fail
    go_ret
    exact ⟨ret_bool (by rw [HW.out]; rfl), by (repeat (first | assumption | exact Q.refl _ | refine Q.alloc ?_ _ | refine Q.drewN ?_ _ | refine Q.drew ?_))⟩
  · cases r2
    · go_enter Tryz.func23, Tryz.ntmps23
      go_wp2_with fail
      refine (K1.out _).mono ?_
      rintro e1 w1 ⟨rfl, rfl⟩
      go_wp2_with fail
      refine (K2.out _).mono ?_
      rintro e2 w2 ⟨rfl, rfl⟩
      go_wp2_with fail
      go_ret
      exact ⟨ret_bool (by rw [HW.out]; rfl), by (repeat (first | assumption | exact Q.refl _ | refine Q.alloc ?_ _ | refine Q.drewN ?_ _ | refine Q.drew ?_))⟩
    · by_cases hx : x = 0
      · by_cases hy : y = 0
        · subst hx hy
          go_enter Tryz.func23, Tryz.ntmps23
          go_wp2_with fail
          refine (K1.out _).mono ?_
          rintro e1 w1 ⟨rfl, rfl⟩
          go_wp2_with fail
          refine (K2.out _).mono ?_
          rintro e2 w2 ⟨rfl, rfl⟩
          go_wp2_with fail
          go_ret
          exact ⟨ret_bool (by rw [HW.out]; rfl), by (repeat (first | assumption | exact Q.refl _ | refine Q.alloc ?_ _ | refine Q.drewN ?_ _ | refine Q.drew ?_))⟩
        · have hyb : (y == 0) = false := by simpa using hy
          subst hx
          go_enter Tryz.func23, Tryz.ntmps23
          go_wp2_with fail
          refine (K1.out _).mono ?_
          rintro e1 w1 ⟨rfl, rfl⟩
          go_wp2_with fail
          refine (K2.out _).mono ?_
          rintro e2 w2 ⟨rfl, rfl⟩
          go_wp2_with fail
          go_ret
          exact ⟨ret_bool (by rw [HW.out]; simp [hy]), by (repeat (first | assumption | exact Q.refl _ | refine Q.alloc ?_ _ | refine Q.drewN ?_ _ | refine Q.drew ?_))⟩
      · have hxb : (x == 0) = false := by simpa using hx
        go_enter Tryz.func23, Tryz.ntmps23
        go_wp2_with fail
        refine (K1.out _).mono ?_
        rintro e1 w1 ⟨rfl, rfl⟩
        go_wp2_with fail
        refine (K2.out _).mono ?_
        rintro e2 w2 ⟨rfl, rfl⟩
        go_wp2_with fail
        go_ret
        exact ⟨ret_bool (by rw [HW.out]; simp [hx]), by (repeat (first | assumption | exact Q.refl _ | refine Q.alloc ?_ _ | refine Q.drewN ?_ _ | refine Q.drew ?_))⟩
theorem impl_tackOf (wx wy x y : Int) (w : World) (hw : wnd wx wy) (hh : hd2 x y) :
    Calls Tryz.prog 76 #[.agg #[.int .i64 wx, .int .i64 wy], .agg #[.int .i64 x, .int .i64 y]] w fun e w' => e = .returned (.int .i64 (tkV wx wy x y)) ∧ Q w w' := by
  have m1 := mul_2M hh.1 (wnd_hd hw).2
  have m2 := mul_2M hh.2 (wnd_hd hw).1
  rcases Int.lt_trichotomy (x * wy - y * wx) 0 with h | h | h
  · have HE := Lib.hid (tkV_1 h)
    generalize tkV wx wy x y = T at *
    go_enter Tryz.func76, Tryz.ntmps76
    go_wp2_with fail
    go_ret
    exact ⟨ret_int HE.out.symm, by (repeat (first | assumption | exact Q.refl _ | refine Q.alloc ?_ _ | refine Q.drewN ?_ _ | refine Q.drew ?_))⟩
  · have HE := Lib.hid (tkV_0 h)
    generalize tkV wx wy x y = T at *
    go_enter Tryz.func76, Tryz.ntmps76
    go_wp2_with fail
    go_ret
    exact ⟨ret_int HE.out.symm, by (repeat (first | assumption | exact Q.refl _ | refine Q.alloc ?_ _ | refine Q.drewN ?_ _ | refine Q.drew ?_))⟩
  · have HE := Lib.hid (tkV_2 h)
    generalize tkV wx wy x y = T at *
    go_enter Tryz.func76, Tryz.ntmps76
    go_wp2_with fail
    go_ret
    exact ⟨ret_int HE.out.symm, by (repeat (first | assumption | exact Q.refl _ | refine Q.alloc ?_ _ | refine Q.drewN ?_ _ | refine Q.drew ?_))⟩
theorem impl_scalar (wx wy x y : Int) (w : World) (hw : wnd wx wy) (hh : hd2 x y) :
    Calls Tryz.prog 113 #[.agg #[.int .i64 wx, .int .i64 wy], .agg #[.int .i64 x, .int .i64 y]] w fun e w' => e = .returned (.int .i64 (x * wx + y * wy)) ∧ Q w w' := by
  have m1 := mul_2M hh.1 (wnd_hd hw).1
  have m2 := mul_2M hh.2 (wnd_hd hw).2
  clear hw hh
  go_enter Tryz.func113, Tryz.ntmps113
  go_wp2_with fail
  go_ret
  exact ⟨rfl, by (repeat (first | assumption | exact Q.refl _ | refine Q.alloc ?_ _ | refine Q.drewN ?_ _ | refine Q.drew ?_))⟩
theorem spec_Vector (wx wy : Int) (w : World) : Calls Tryz.prog 133 #[.agg #[.int .i64 wx, .int .i64 wy]] w fun e w' => e = .returned (.agg #[.int .i64 wx, .int .i64 wy]) ∧ Q w w' := by
  go_enter Tryz.func133, Tryz.ntmps133
  go_wp2
  exact bodyPost_ret (v := .agg #[.int .i64 wx, .int .i64 wy]) (by simp [results, Tryz.results133, go_sem]) rfl ⟨rfl, by (repeat (first | assumption | exact Q.refl _ | refine Q.alloc ?_ _ | refine Q.drewN ?_ _ | refine Q.drew ?_))⟩
theorem spec_l08Tack (wx wy x y : Int) (w : World) (hw : wnd wx wy) (hh : hd2 x y) :
    Calls Tryz.prog 89 #[.agg #[.int .i64 wx, .int .i64 wy], .agg #[.int .i64 x, .int .i64 y]] w fun e w' => e = .returned (.int .i64 (tkV wx wy x y)) ∧ Q w w' := by
  have K1 := Lib.hid (fun wv => spec_Vector wx wy wv)
  have K2 := Lib.hid (fun wv => spec_Cross x y wx wy wv hh (wnd_hd hw))
  have k3 := fun wv => spec_Sign (x * wy - y * wx) wv
  obtain ⟨B1, B2⟩ := bxWP w wx wy x y
  have L1 := later_cells B1.cell B1.lt
  have L2 := later_cells B2.cell B2.lt
  clear B1 B2 hw hh
  rcases Int.lt_trichotomy (x * wy - y * wx) 0 with h | h | h
  · have HE := Lib.hid (tkV_1 h)
    have hs : sgn (x * wy - y * wx) = -1 := by unfold sgn; first | rw [if_neg (by omega), if_pos (by omega)] | rw [if_neg (by omega), if_neg (by omega)] | rw [if_pos (by omega)]
    rw [hs] at k3
    have K3 := Lib.hid k3
    clear k3 hs h
    generalize tkV wx wy x y = T at *
    generalize x * wy - y * wx = CC at *
    go_enter Tryz.func89, Tryz.ntmps89
    go_wp2_with fail
    refine wp_region_later_lit (by kernel_rfl) (by kernel_rfl) ?_
    repeat (any_goals (first | go_big_quiet_step ((first | (go_at_call 133; with_reducible exact later_call (K1.out _)) | (go_at_call 128; with_reducible exact later_call (K2.out _)) | (go_at_call 132; with_reducible exact later_same (K3.out _)))) | quiet_step ((first | (go_at_call 133; with_reducible exact later_call (K1.out _)) | (go_at_call 128; with_reducible exact later_call (K2.out _)) | (go_at_call 132; with_reducible exact later_same (K3.out _)))) | (refine wpQuiet_step (fun K hK => ?_); go_simp; split <;> (refine hK _ ?_; clear hK K))))
    all_goals (refine wpQuiet_nil ?_; rintro _ ⟨⟨w2, q2⟩, rfl⟩; try dsimp only)
    all_goals go_wp2_with fail
    go_ret
    exact ⟨ret_int HE.out.symm, Q.trans (by (repeat (first | assumption | exact Q.refl _ | refine Q.alloc ?_ _ | refine Q.drewN ?_ _ | refine Q.drew ?_))) q2⟩
  · have HE := Lib.hid (tkV_0 h)
    have hs : sgn (x * wy - y * wx) = 0 := by unfold sgn; first | rw [if_neg (by omega), if_pos (by omega)] | rw [if_neg (by omega), if_neg (by omega)] | rw [if_pos (by omega)]
    rw [hs] at k3
    have K3 := Lib.hid k3
    clear k3 hs h
    generalize tkV wx wy x y = T at *
    generalize x * wy - y * wx = CC at *
    go_enter Tryz.func89, Tryz.ntmps89
    go_wp2_with fail
    refine wp_region_later_lit (by kernel_rfl) (by kernel_rfl) ?_
    repeat (any_goals (first | go_big_quiet_step ((first | (go_at_call 133; with_reducible exact later_call (K1.out _)) | (go_at_call 128; with_reducible exact later_call (K2.out _)) | (go_at_call 132; with_reducible exact later_same (K3.out _)))) | quiet_step ((first | (go_at_call 133; with_reducible exact later_call (K1.out _)) | (go_at_call 128; with_reducible exact later_call (K2.out _)) | (go_at_call 132; with_reducible exact later_same (K3.out _)))) | (refine wpQuiet_step (fun K hK => ?_); go_simp; split <;> (refine hK _ ?_; clear hK K))))
    all_goals (refine wpQuiet_nil ?_; rintro _ ⟨⟨w2, q2⟩, rfl⟩; try dsimp only)
    all_goals go_wp2_with fail
    go_ret
    exact ⟨ret_int HE.out.symm, Q.trans (by (repeat (first | assumption | exact Q.refl _ | refine Q.alloc ?_ _ | refine Q.drewN ?_ _ | refine Q.drew ?_))) q2⟩
  · have HE := Lib.hid (tkV_2 h)
    have hs : sgn (x * wy - y * wx) = 1 := by unfold sgn; first | rw [if_neg (by omega), if_pos (by omega)] | rw [if_neg (by omega), if_neg (by omega)] | rw [if_pos (by omega)]
    rw [hs] at k3
    have K3 := Lib.hid k3
    clear k3 hs h
    generalize tkV wx wy x y = T at *
    generalize x * wy - y * wx = CC at *
    go_enter Tryz.func89, Tryz.ntmps89
    go_wp2_with fail
    refine wp_region_later_lit (by kernel_rfl) (by kernel_rfl) ?_
    repeat (any_goals (first | go_big_quiet_step ((first | (go_at_call 133; with_reducible exact later_call (K1.out _)) | (go_at_call 128; with_reducible exact later_call (K2.out _)) | (go_at_call 132; with_reducible exact later_same (K3.out _)))) | quiet_step ((first | (go_at_call 133; with_reducible exact later_call (K1.out _)) | (go_at_call 128; with_reducible exact later_call (K2.out _)) | (go_at_call 132; with_reducible exact later_same (K3.out _)))) | (refine wpQuiet_step (fun K hK => ?_); go_simp; split <;> (refine hK _ ?_; clear hK K))))
    all_goals (refine wpQuiet_nil ?_; rintro _ ⟨⟨w2, q2⟩, rfl⟩; try dsimp only)
    all_goals go_wp2_with fail
    go_ret
    exact ⟨ret_int HE.out.symm, Q.trans (by (repeat (first | assumption | exact Q.refl _ | refine Q.alloc ?_ _ | refine Q.drewN ?_ _ | refine Q.drew ?_))) q2⟩
theorem al_bd {wx wy x y : Int} (hw : wnd wx wy) (hh : hdOk x y) : (-4000000000 ≤ x * wx + y * wy ∧ x * wx + y * wy ≤ 4000000000) ∧ (1 ≤ rt (x * x + y * y) ∧ rt (x * x + y * y) ≤ 2828427) := by
  refine ⟨?_, rt_pos1 hh⟩
  have m (a b : Int) (ha : -2000000 ≤ a ∧ a ≤ 2000000) (hb : -1000 ≤ b ∧ b ≤ 1000) : -2000000000 ≤ a * b ∧ a * b ≤ 2000000000 := by
    rcases Int.le_total 0 b with h | h
    · have h1 : a * b ≤ 2000000 * b := Int.mul_le_mul_of_nonneg_right ha.2 h
      have h2 : (-2000000) * b ≤ a * b := Int.mul_le_mul_of_nonneg_right ha.1 h
      omega
    · have h1 : a * (-b) ≤ 2000000 * (-b) := Int.mul_le_mul_of_nonneg_right ha.2 (by omega)
      have h2 : (-2000000) * (-b) ≤ a * (-b) := Int.mul_le_mul_of_nonneg_right ha.1 (by omega)
      have e1 : a * (-b) = -(a * b) := Int.mul_neg a b
      rw [e1] at h1 h2
      omega
  have h1 := m x wx hh.1.1 hw.1
  have h2 := m y wy hh.1.2 hw.2
  omega
theorem al_div {p r : Int} (hp : -4000000000 ≤ p ∧ p ≤ 4000000000) (hr : 1 ≤ r) : -4000000000 ≤ p / r ∧ p / r ≤ 4000000000 := by
  constructor
  · refine (Int.le_ediv_iff_mul_le (by omega)).2 ?_
    have : (4000000000 : Int) * 1 ≤ 4000000000 * r := Int.mul_le_mul_of_nonneg_left hr (by decide)
    omega
  · refine Int.le_trans (Int.ediv_le_ediv (by omega) hp.2) ?_
    exact Int.ediv_le_self _ (by decide)
theorem alV_bd {wx wy x y : Int} (hw : wnd wx wy) (hh : hdOk x y) : -4000000000 ≤ alV wx wy x y ∧ alV wx wy x y ≤ 4000000000 := al_div (al_bd hw hh).1 (al_bd hw hh).2.1
theorem spec_l08Along (wx wy x y : Int) (w : World) (hw : wnd wx wy) (hh : hdOk x y) :
    Calls Tryz.prog 166 #[.agg #[.int .i64 wx, .int .i64 wy], .agg #[.int .i64 x, .int .i64 y]] w fun e w' => e = .returned (.int .i64 (alV wx wy x y)) ∧ Q w w' := by
  obtain ⟨h1, h2⟩ := al_bd hw hh
  obtain ⟨m1, m2⟩ := hd_sq hh
  have K1 := Lib.hid (fun wv => spec_Vector wx wy wv)
  have K2 := Lib.hid (fun wv => spec_DotV x y wx wy wv hh.1 (wnd_hd hw))
  have K3 := Lib.hid (fun wv => spec_DotV x y x y wv hh.1 hh.1)
  have K4 := Lib.hid (fun wv => spec_Root (x * x + y * y) wv (by omega) (by omega))
  have K5 := Lib.hid (fun wv => spec_Floor (x * wx + y * wy) (rt (x * x + y * y)) wv (by omega) (by omega) (by omega))
  have HE := Lib.hid (show alV wx wy x y = (x * wx + y * wy) / rt (x * x + y * y) from rfl)
  obtain ⟨B1, B2⟩ := bxWP w wx wy x y
  have L1 := later_cells B1.cell B1.lt
  have L2 := later_cells B2.cell B2.lt
  clear B1 B2 hw hh h1 h2 m1 m2
  generalize alV wx wy x y = T at *
  generalize rt (x * x + y * y) = R at *
  generalize x * wx + y * wy = P at *
  generalize x * x + y * y = SS at *
  go_enter Tryz.func166, Tryz.ntmps166
  go_wp2_with fail
  refine wp_region_later_lit (by kernel_rfl) (by kernel_rfl) ?_
  repeat (any_goals (first | go_big_quiet_step ((first | (go_at_call 133; with_reducible exact later_call (K1.out _)) | (go_at_call 126; first | with_reducible exact later_call (K2.out _) | with_reducible exact later_call (K3.out _)) | (go_at_call 154; with_reducible exact later_same (K4.out _)) | (go_at_call 121; with_reducible exact later_same (K5.out _)))) | quiet_step ((first | (go_at_call 133; with_reducible exact later_call (K1.out _)) | (go_at_call 126; first | with_reducible exact later_call (K2.out _) | with_reducible exact later_call (K3.out _)) | (go_at_call 154; with_reducible exact later_same (K4.out _)) | (go_at_call 121; with_reducible exact later_same (K5.out _)))) | (refine wpQuiet_step (fun K hK => ?_); go_simp; split <;> (refine hK _ ?_; clear hK K))))
  all_goals (refine wpQuiet_nil ?_; rintro _ ⟨⟨w2, q2⟩, rfl⟩; try dsimp only)
  all_goals go_wp2_with fail
  go_ret
  exact ⟨ret_int HE.out.symm, Q.trans (by (repeat (first | assumption | exact Q.refl _ | refine Q.alloc ?_ _ | refine Q.drewN ?_ _ | refine Q.drew ?_))) q2⟩
end Go.Proofs.YtkpdoikjfibflaaGreatDoor
