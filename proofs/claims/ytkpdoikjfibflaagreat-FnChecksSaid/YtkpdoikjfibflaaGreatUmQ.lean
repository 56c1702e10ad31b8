/- Words: tacks, manoeuvres, turning, clear astern, rulings and incidents (plain). No condition. -/
import Derived.Test.YtkpdoikjfibflaaGreatNrQ
import Derived.Test.YtkpdoikjfibflaaGreatCmp
namespace Go.Proofs.YtkpdoikjfibflaaGreat
def wnd (x y : Int) : Prop := (-1000 ≤ x ∧ x ≤ 1000) ∧ (-1000 ≤ y ∧ y ≤ 1000)
def wnB (x y : Int) : Bool := inR x (-1000) 1000 && inR y (-1000) 1000 && !(decide (x = 0) && decide (y = 0))
def hd2 (x y : Int) : Prop := (-2000000 ≤ x ∧ x ≤ 2000000) ∧ (-2000000 ≤ y ∧ y ≤ 2000000)
/-- The tack of a heading. -/
def tkV (wx wy x y : Int) : Int := if x * wy - y * wx < 0 then 1 else if 0 < x * wy - y * wx then 2 else 0
theorem tkV_any (wx wy x y : Int) : tkV wx wy x y = 0 ∨ tkV wx wy x y = 1 ∨ tkV wx wy x y = 2 := by
  unfold tkV
  split
  · exact .inr (.inl rfl)
  · split
    · exact .inr (.inr rfl)
    · exact .inl rfl
theorem tkV_ne {wx wy x y : Int} (h : tkV wx wy x y ≠ 0) : ¬ (x = 0 ∧ y = 0) := by
  rintro ⟨rfl, rfl⟩
  apply h
  unfold tkV
  simp
/-- How far a heading leads with the wind. -/
def alV (wx wy x y : Int) : Int := (x * wx + y * wy) / rt (x * x + y * y)
def lgX (xs : List Int) (k : Nat) : Int := el xs ((k + 1) * 3 + 1) - el xs (k * 3 + 1)
def lgY (xs : List Int) (k : Nat) : Int := el xs ((k + 1) * 3 + 2) - el xs (k * 3 + 2)
/-- The manoeuvre at fix k + 1. -/
def mnK (wx wy : Int) (xs : List Int) (k : Nat) : List Int :=
  if tkV wx wy (lgX xs k) (lgY xs k) = 0 ∨ tkV wx wy (lgX xs (k + 1)) (lgY xs (k + 1)) = 0 ∨ tkV wx wy (lgX xs k) (lgY xs k) = tkV wx wy (lgX xs (k + 1)) (lgY xs (k + 1)) then []
  else [((k + 1 : Nat) : Int), if alV wx wy (lgX xs k) (lgY xs k) + alV wx wy (lgX xs (k + 1)) (lgY xs (k + 1)) < 0 then 1 else 2]
/-- The manoeuvres at the first k inner fixes. -/
def mnTo (wx wy : Int) (xs : List Int) : Nat → List Int
  | 0 => []
  | k + 1 => mnTo wx wy xs k ++ mnK wx wy xs k
theorem mnTo_facts (wx wy : Int) (xs : List Int) : ∀ k, ∃ c, c ≤ k ∧ (mnTo wx wy xs k).length = c * 2 ∧ ∀ j, j < c → ∃ q : Nat, el (mnTo wx wy xs k) (j * 2) = q ∧ 1 ≤ q ∧ q ≤ k
  | 0 => ⟨0, Nat.le_refl _, rfl, fun j h => by omega⟩
  | k + 1 => by
    obtain ⟨c, h1, h2, h3⟩ := mnTo_facts wx wy xs k
    unfold mnTo mnK
    split
    · refine ⟨c, by omega, by simpa using h2, fun j hj => ?_⟩
      obtain ⟨q, h4, h5, h6⟩ := h3 j hj
      exact ⟨q, by simpa using h4, h5, by omega⟩
    · refine ⟨c + 1, by omega, by simp [h2]; omega, fun j hj => ?_⟩
      by_cases e : j < c
      · obtain ⟨q, h4, h5, h6⟩ := h3 j e
        refine ⟨q, ?_, h5, by omega⟩
        rw [← h4]
        unfold el
        rw [List.getD_eq_getElem?_getD, List.getD_eq_getElem?_getD, List.getElem?_append_left (by omega)]
      · have e : j = c := by omega
        subst e
        refine ⟨k + 1, ?_, by omega, by omega⟩
        unfold el
        rw [List.getD_eq_getElem?_getD, List.getElem?_append_right (by omega), h2]
        simp
/-- A manoeuvre among the first j of the rows L lies near a time. -/
def tuTo (xs L : List Int) (t sp : Int) : Nat → Bool
  | 0 => false
  | j + 1 => tuTo xs L t sp j || inR (el xs ((el L (j * 2)).toNat * 3) - t) (-sp) sp
theorem tuTo_yes {xs L : List Int} {t sp : Int} {j : Nat} : ∀ {c : Nat}, j < c → inR (el xs ((el L (j * 2)).toNat * 3) - t) (-sp) sp = true → tuTo xs L t sp c = true
  | c + 1, h, hi => by
    rw [tuTo]
    by_cases e : j = c
    · subst e; rw [hi]; simp
    · rw [tuTo_yes (by omega) hi]; rfl
def tuB (wx wy : Int) (xs : List Int) (n : Nat) (t sp : Int) : Bool := tuTo xs (mnTo wx wy xs (n - 2)) t sp ((mnTo wx wy xs (n - 2)).length / 2)
/-- b is clear astern of a. -/
def aheV (a b x y c d : Int) : Int := (c - a) * x + (d - b) * y
def clB (a b x y l c d : Int) : Bool := decide (aheV a b x y c d < 0) && decide (l * l * (x * x + y * y) < aheV a b x y c d * aheV a b x y c d)
theorem cl_root {d n : Int} (hd : d < 0) (hn : 0 ≤ n) : decide (n < d * d) = decide (rt n < -d) := by
  have h := rt_le_iff hn (show 0 ≤ -d by omega)
  have e : -d * -d = d * d := by rw [Int.neg_mul_neg]
  rw [e] at h
  exact decide_eq_decide.2 ⟨fun k => by omega, fun k => by omega⟩
def ovV (a b x y l a' b' x' y' l' : Int) : Int := (if clB a b x y l a' b' = true then 1 else 0) + (if clB a' b' x' y' l' a b = true then 2 else 0)
/-- The hull to windward. -/
def scV (wx wy a b : Int) : Int := a * wx + b * wy
def wwV (wx wy a b a' b' : Int) : Int := if scV wx wy a b < scV wx wy a' b' then 1 else if scV wx wy a' b' < scV wx wy a b then 2 else 0
/-- The ruling: who keeps clear, and why. -/
def ruV (ta tb : Bool) (x y o v : Int) : Int × Int :=
  if ta != tb then (if ta then (1, 1) else (2, 1)) else if ta = true ∨ x = 0 ∨ y = 0 then (0, 5) else if x ≠ y then (x, 2) else if o = 1 then (2, 3) else if o = 2 then (1, 3) else if o = 3 then (0, 5) else if 0 < v then (v, 4) else (0, 5)
/-- The ruling for two tracks at a time. -/
def ruT (wx wy l sp : Int) (xs : List Int) (n : Nat) (ys : List Int) (m : Nat) (t : Int) : Int × Int :=
  ruV (tuB wx wy xs n t sp) (tuB wx wy ys m t sp) (tkV wx wy (hdX xs n t) (hdY xs n t)) (tkV wx wy (hdX ys m t) (hdY ys m t))
    (ovV (atX xs n t) (atY xs n t) (hdX xs n t) (hdY xs n t) l (atX ys m t) (atY ys m t) (hdX ys m t) (hdY ys m t) l) (wwV wx wy (atX xs n t) (atY xs n t) (atX ys m t) (atY ys m t))
theorem ruV_keeper (ta tb : Bool) (x y o v : Int) (hx : x = 0 ∨ x = 1 ∨ x = 2) (hv : v = 0 ∨ v = 1 ∨ v = 2) : (ruV ta tb x y o v).1 = 0 ∨ (ruV ta tb x y o v).1 = 1 ∨ (ruV ta tb x y o v).1 = 2 := by
  unfold ruV
  repeat' split
  all_goals first | (exact .inl rfl) | (exact .inr (.inl rfl)) | (exact .inr (.inr rfl)) | exact hx | exact hv
theorem wwV_any (wx wy a b a' b' : Int) : wwV wx wy a b a' b' = 0 ∨ wwV wx wy a b a' b' = 1 ∨ wwV wx wy a b a' b' = 2 := by
  unfold wwV
  split
  · exact .inr (.inl rfl)
  · split
    · exact .inr (.inr rfl)
    · exact .inl rfl
theorem ruT_keeper (wx wy l sp : Int) (xs : List Int) (n : Nat) (ys : List Int) (m : Nat) (t : Int) : (ruT wx wy l sp xs n ys m t).1 = 0 ∨ (ruT wx wy l sp xs n ys m t).1 = 1 ∨ (ruT wx wy l sp xs n ys m t).1 = 2 :=
  ruV_keeper _ _ _ _ _ _ (tkV_any _ _ _ _) (wwV_any _ _ _ _ _ _)
/-- An incident. -/
def evR (r : Int × Int) (t f s : Int) : List Int := if 0 < r.1 then [t, f, s, if r.1 = 2 then s else f, r.2] else [t, f, s, -1, 5]
theorem evR_len (r : Int × Int) (t f s : Int) : (evR r t f s).length = 5 := by unfold evR; split <;> rfl
/-- The incidents at the first k of the times L: near, but not at the time before. -/
def icK (p : Int → Bool) (ev : Int → List Int) (L : List Int) (k : Nat) : List Int := if p (el L k) = true ∧ ¬ (0 < k ∧ p (el L (k - 1)) = true) then ev (el L k) else []
def icTo (p : Int → Bool) (ev : Int → List Int) (L : List Int) : Nat → List Int
  | 0 => []
  | k + 1 => icTo p ev L k ++ icK p ev L k
def beB (p : Int → Bool) (L : List Int) (k : Nat) : Bool := decide (0 < k) && p (el L (k - 1))
theorem beB_0 (p : Int → Bool) (L : List Int) : beB p L 0 = false := rfl
theorem beB_succ (p : Int → Bool) (L : List Int) (k : Nat) : beB p L (k + 1) = p (el L k) := by simp [beB]
theorem icK_no {p : Int → Bool} {ev : Int → List Int} {L : List Int} {k : Nat} (h : p (el L k) = false) : icK p ev L k = [] := by unfold icK; rw [if_neg (by rw [h]; simp)]
theorem icK_be {p : Int → Bool} {ev : Int → List Int} {L : List Int} {k : Nat} (h : beB p L k = true) : icK p ev L k = [] := by
  unfold icK
  have : 0 < k ∧ p (el L (k - 1)) = true := by simpa [beB] using h
  rw [if_neg (fun e => e.2 this)]
theorem icK_yes {p : Int → Bool} {ev : Int → List Int} {L : List Int} {k : Nat} (h : p (el L k) = true) (hb : beB p L k = false) : icK p ev L k = ev (el L k) := by
  unfold icK
  rw [if_pos ⟨h, fun e => by have : beB p L k = true := by simp [beB, e.1, e.2]
                             rw [this] at hb; cases hb⟩]
theorem icTo_len {p : Int → Bool} {ev : Int → List Int} {L : List Int} (he : ∀ t, (ev t).length = 5) : ∀ k, ∃ c, c ≤ k ∧ (icTo p ev L k).length = c * 5
  | 0 => ⟨0, Nat.le_refl _, rfl⟩
  | k + 1 => by
    obtain ⟨c, h1, h2⟩ := icTo_len (p := p) (L := L) he k
    unfold icTo icK
    split
    · exact ⟨c + 1, by omega, by rw [List.length_append, h2, he]; omega⟩
    · exact ⟨c, by omega, by simpa using h2⟩
end Go.Proofs.YtkpdoikjfibflaaGreat
