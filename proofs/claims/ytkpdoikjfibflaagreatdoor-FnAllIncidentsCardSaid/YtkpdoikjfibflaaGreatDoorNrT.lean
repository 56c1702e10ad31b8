/- Walks: slices.IndexFunc and slices.DeleteFunc of whole numbers with a function that makes blocks of its own, and the function that tells whether two tracks are not near. No condition. Walks: slices.DeleteFunc of whole numbers with a function that makes blocks of its own. No condition. Walks: the check times at which two tracks are near, as the program and the reference make them. No condition. -/
import Derived.Test.YtkpdoikjfibflaaGreatDoorNrO
import Derived.Lib.SliceRun
import Derived.Test.YtkpdoikjfibflaaGreatDoorCheck
namespace Go.Proofs.YtkpdoikjfibflaaGreatDoor
open Go.RowKit Go.WideShapes Go.ChangeShapes
/-- The row of L while it is filtered: i are kept, j are looked at. -/
structure KI (p : Int → Bool) (L M : List Int) (i j : Nat) : Prop where
  len : M.length = L.length
  le : i ≤ j
  low : M.take i = (L.take j).filter p
  high : ∀ t, j ≤ t → el M t = el L t
theorem el_get {L : List Int} {j : Nat} (h : j < L.length) : el L j = L[j] := by unfold el; rw [List.getD_eq_getElem?_getD, List.getElem?_eq_getElem h]; rfl
theorem el_set_ne {L : List Int} {i t : Nat} (u : Int) (h : i ≠ t) : el (L.set i u) t = el L t := by unfold el; rw [List.getD_eq_getElem?_getD, List.getD_eq_getElem?_getD, List.getElem?_set_ne h]
theorem take_succ_el {L : List Int} {j : Nat} (h : j < L.length) : L.take (j + 1) = L.take j ++ [el L j] := by rw [List.take_succ_eq_append_getElem h, el_get h]
theorem KI.keep {p : Int → Bool} {L M : List Int} {i j : Nat} (h : KI p L M i j) (hj : j < L.length) (hp : p (el L j) = true) : KI p L (M.set i (el L j)) (i + 1) (j + 1) where
  len := by simp [h.len]
  le := by have := h.le; omega
  low := by
    have h1 : i < M.length := by have := h.le; have := h.len; omega
    rw [take_succ_el (by simpa using h1), take_succ_el hj, List.filter_append, ← h.low, List.take_set_of_le (Nat.le_refl i)]
    congr 1
    rw [el_get (by simpa using h1)]
    simp [hp]
  high := fun t ht => by rw [el_set_ne _ (by have := h.le; omega)]; exact h.high t (by omega)
theorem KI.skip {p : Int → Bool} {L M : List Int} {i j : Nat} (h : KI p L M i j) (hj : j < L.length) (hp : p (el L j) = false) : KI p L M i (j + 1) where
  len := h.len
  le := by have := h.le; omega
  low := by rw [take_succ_el hj, List.filter_append, ← h.low]; simp [hp]
  high := fun t ht => h.high t (by omega)
theorem KI.start {p : Int → Bool} {L : List Int} {k : Nat} (hk : k < L.length) (hp : p (el L k) = false) (hall : ∀ j, j < k → p (el L j) = true) : KI p L L k (k + 1) where
  len := rfl
  le := by omega
  low := by
    rw [take_succ_el hk, List.filter_append]
    have : (L.take k).filter p = L.take k := List.filter_eq_self.2 fun x hx => by
      obtain ⟨j, hj, rfl⟩ := List.mem_iff_getElem.1 hx
      have hjk : j < k := by simp at hj; omega
      rw [List.getElem_take, ← el_get (by omega)]
      exact hall j hjk
    rw [this]
    simp [hp]
  high := fun _ _ => rfl
theorem KI.done {p : Int → Bool} {L M : List Int} {i : Nat} (h : KI p L M i L.length) : M.take i = L.filter p := by rw [h.low, List.take_length]
theorem KI.all {p : Int → Bool} {L : List Int} (hall : ∀ j, j < L.length → p (el L j) = true) : L.filter p = L := List.filter_eq_self.2 fun x hx => by
  obtain ⟨j, hj, rfl⟩ := List.mem_iff_getElem.1 hx
  rw [← el_get hj]
  exact hall j hj
/-- Rows that are written from a place on. -/
theorem Own.setCells {B : Nat} {e : TypeId} {n c g : Nat} (z : Int) : ∀ (m o : Nat) (w : World) (M : List Int), Own w B e 1 (.slice (some ⟨g, 0, none⟩) n c) n M →
    ∃ M', Own (w.setCells g o (List.replicate m (.int .i64 z))) B e 1 (.slice (some ⟨g, 0, none⟩) n c) n M' ∧ M'.take o = M.take o
  | 0, _, _, M, h => ⟨M, h, rfl⟩
  | m + 1, o, w, M, h => by
    obtain ⟨M', h1, h2⟩ := Own.setCells z m (o + 1) _ _ (h.stored o z)
    refine ⟨M', h1, ?_⟩
    have h3 := congrArg (List.take o) h2
    rw [List.take_take, List.take_take, Nat.min_eq_left (by omega), List.take_set_of_le (Nat.le_refl o)] at h3
    exact h3
theorem Q.setCells {a : World} {g : Nat} (hg : a.heap.size ≤ g) : ∀ (vs : List Value) (o : Nat) (w : World), Q a w → Q a (w.setCells g o vs)
  | [], _, _, h => h
  | v :: r, o, _, h => Q.setCells hg r (o + 1) _ (h.setCell (p := ⟨g, o, none⟩) hg v)
theorem Own.cut {w : World} {B : Nat} {e : TypeId} {n c g : Nat} {M : List Int} (h : Own w B e 1 (.slice (some ⟨g, 0, none⟩) n c) n M) {i : Nat} (hi : i ≤ n) : Own w B e 1 (.slice (some ⟨g, 0, none⟩) i c) i (M.take i) := by
  have hl := h.len
  refine ⟨by simp; omega, ?_⟩
  rcases h.2 with ⟨h1, _⟩ | ⟨g', cap, cur, h1, hg, hh, hn, hcm, hcs, hx⟩
  · cases h1
  · injection h1 with h1 _ h3
    subst h3
    refine .inr ⟨g', c, cur, by rw [h1], hg, hh, by omega, hcm, hcs, ?_⟩
    rw [List.map_take, ← hx, List.take_take]
    congr 1
    omega
/-- What a function value needs to stay as it is: C holds on while blocks are made, and while the row in block g is written. -/
structure Stays (C : World → Prop) (g : Nat) : Prop where
  q : ∀ w w', C w → Q w w' → C w'
  set : ∀ w i u, C w → C (w.setCell ⟨g, i, none⟩ u)
/-- A call of slices.IndexFunc tells the first place where p does not hold. -/
def IxR (p : Int → Bool) (L : List Int) (n : Nat) (w : World) (e : Ending) (w' : World) : Prop :=
  Q w w' ∧ ((∃ k : Nat, k < n ∧ e = .returned (.int .i64 k) ∧ p (el L k) = false ∧ ∀ j, j < k → p (el L j) = true) ∨ (e = .returned (.int .i64 (-1)) ∧ ∀ j, j < n → p (el L j) = true))
/-- A call of slices.DeleteFunc keeps those for which p holds. -/
def DfR (p : Int → Bool) (L : List Int) (B : Nat) (w0 : World) (e : Ending) (w' : World) : Prop :=
  ∃ A k c, e = .returned (.slice A k c) ∧ Own w' B 2 1 (.slice A k c) k (L.filter p) ∧ Q w0 w'
end Go.Proofs.YtkpdoikjfibflaaGreatDoor
namespace Go.Proofs.YtkpdoikjfibflaaGreatDoor
open Go.RowKit Go.WideShapes Go.ChangeShapes
end Go.Proofs.YtkpdoikjfibflaaGreatDoor
namespace Go.Proofs.YtkpdoikjfibflaaGreatDoor
open Go.RowKit Go.WideShapes Go.ChangeShapes
/-- What the function value of NearTimes reads. -/
def NC (gx g1 g2 : Nat) (a b d s : Int) (A1 : Option Addr) (n c1 : Nat) (xs : List Int) (A2 : Option Addr) (m c2 : Nat) (ys : List Int) (w : World) : Prop :=
  Blk w gx 27 #[.int .i64 a, .int .i64 b, .int .i64 d, .int .i64 s] ∧ Blk w g1 37 #[.slice A1 n c1] ∧ Blk w g2 37 #[.slice A2 m c2] ∧ Rd w A1 xs ∧ Rd w A2 ys
theorem NC.q {gx g1 g2 : Nat} {a b d s : Int} {A1 A2 : Option Addr} {n c1 m c2 : Nat} {xs ys : List Int} : ∀ w w', NC gx g1 g2 a b d s A1 n c1 xs A2 m c2 ys w → Q w w' → NC gx g1 g2 a b d s A1 n c1 xs A2 m c2 ys w' :=
  fun _ _ h q => ⟨h.1.q q, h.2.1.q q, h.2.2.1.q q, h.2.2.2.1.q q, h.2.2.2.2.q q⟩
theorem Rd.setFar {w : World} {A : Option Addr} {xs : List Int} {g : Nat} (h : Rd w A xs) (hA : ∀ a, A = some a → a.block ≠ g) (i : Nat) (u : Value) : Rd (w.setCell ⟨g, i, none⟩ u) A xs :=
  h.grown (grown_set (grown_refl w (some g)) i u) fun a ha he => by injection he with he; exact hA a ha he
theorem NC.stays {gx g1 g2 g : Nat} {a b d s : Int} {A1 A2 : Option Addr} {n c1 m c2 : Nat} {xs ys : List Int} (h0 : gx ≠ g) (h1 : g1 ≠ g) (h2 : g2 ≠ g) (hA1 : ∀ a, A1 = some a → a.block ≠ g) (hA2 : ∀ a, A2 = some a → a.block ≠ g) :
    Stays (NC gx g1 g2 a b d s A1 n c1 xs A2 m c2 ys) g where
  q := NC.q
  set := fun _ i u h => ⟨h.1.far (p := ⟨g, i, none⟩) h0 u, h.2.1.far (p := ⟨g, i, none⟩) h1 u, h.2.2.1.far (p := ⟨g, i, none⟩) h2 u, h.2.2.2.1.setFar hA1 i u, h.2.2.2.2.setFar hA2 i u⟩
theorem Rd.lt3 {w : World} {A : Option Addr} {xs : List Int} {n : Nat} (h : Rd w A xs) (hn : xs.length = n * 3) (hT : isTrk xs n = true) : ∀ a, A = some a → a.block < w.heap.size := by
  have h2 : 2 ≤ n := by
    have : (decide (2 ≤ n ∧ n ≤ 40) && fixTo xs n) = true := hT
    simp at this
    omega
  obtain ⟨b, o, rfl, g0, _, _⟩ := h.at3 hn (show 0 < n by omega)
  rintro a ha
  injection ha with ha
  subst ha
  exact World.block_lt_of_cell? w _ g0
/-- The near times. -/
def ntL (a b d s : Int) (xs : List Int) (n : Nat) (ys : List Int) (m : Nat) : List Int := (ctimL a b d s xs n ys m).filter (naR a d xs n ys m)
theorem ntL_len (a b d s : Int) (xs : List Int) (n : Nat) (ys : List Int) (m : Nat) : (ntL a b d s xs n ys m).length ≤ 401 := Nat.le_trans (List.length_filter_le _ _) (ctimL_len a b d s xs n ys m)
theorem ctim_no {a b d s : Int} {xs ys : List Int} {n m : Nat} (h : ¬ ctimC a b d s xs n ys m = 0) : ctimL a b d s xs n ys m = [] := by
  cases hv : (isWat a b d s && isTrk xs n && isTrk ys m)
  · exact (ctim_bad hv).2
  · have hv' : (isWat a b d s = true ∧ isTrk xs n = true) ∧ isTrk ys m = true := by simpa using hv
    obtain ⟨e1, e2⟩ := ctim_ok hv'.1.1 hv'.1.2 hv'.2
    rw [e1] at h
    rw [e2]
    cases hg : ckGo s (ckTo xs n ys m) 401 (ckFrom s xs ys) with
    | none => rfl
    | some L => rw [hg] at h; exact absurd rfl h
theorem ctim_yes {a b d s : Int} {xs ys : List Int} {n m : Nat} (h : ctimC a b d s xs n ys m = 0) : isWat a b d s = true ∧ isTrk xs n = true ∧ isTrk ys m = true := by
  cases hv : (isWat a b d s && isTrk xs n && isTrk ys m)
  · rw [(ctim_bad hv).1] at h; cases h
  · have hv' : (isWat a b d s = true ∧ isTrk xs n = true) ∧ isTrk ys m = true := by simpa using hv
    exact ⟨hv'.1.1, hv'.1.2, hv'.2⟩
/-- Those of the first k that p holds. -/
def fiTo (p : Int → Bool) (L : List Int) (k : Nat) : List Int := (L.take k).filter p
theorem fiTo_no {p : Int → Bool} {L : List Int} {k : Nat} (hk : k < L.length) (h : p (el L k) = false) : fiTo p L (k + 1) = fiTo p L k := by unfold fiTo; rw [take_succ_el hk, List.filter_append]; simp [h]
theorem fiTo_yes {p : Int → Bool} {L : List Int} {k : Nat} (hk : k < L.length) (h : p (el L k) = true) : fiTo p L (k + 1) = fiTo p L k ++ [el L k] := by unfold fiTo; rw [take_succ_el hk, List.filter_append]; simp [h]
theorem fiTo_len (p : Int → Bool) (L : List Int) (k : Nat) : (fiTo p L k).length ≤ k := Nat.le_trans (List.length_filter_le _ _) (by simp; omega)
theorem fiTo_all (p : Int → Bool) (L : List Int) : fiTo p L L.length = L.filter p := by unfold fiTo; rw [List.take_length]
end Go.Proofs.YtkpdoikjfibflaaGreatDoor
