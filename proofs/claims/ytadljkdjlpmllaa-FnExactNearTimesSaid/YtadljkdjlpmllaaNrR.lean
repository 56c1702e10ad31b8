/- Walks: slices.IndexFunc and slices.DeleteFunc of whole numbers with a function that makes blocks of its own, and the function that tells whether two tracks are not near. No condition. -/
import Derived.Test.YtadljkdjlpmllaaNrO
import Derived.Lib.SliceRun
namespace Go.Proofs.Ytadljkdjlpmllaa
open Go.RowKit Go.WideShapes Go.ChangeShapes
/-- The row of L while it is filtered: i are kept, j are looked at. -/
structure KI (p : Int → Bool) (L M : List Int) (i j : Nat) : Prop where
  len : M.length = L.length
  le : i ≤ j
  low : M.take i = (L.take j).filter p
  high : ∀ t, j ≤ t → el M t = el L t
theorem el_get {L : List Int} {j : Nat} (h : j < L.length) : el L j = L[j] := by unfold el; rw [List.getD_eq_getElem?_getD, List.getElem?_eq_getElem h]; rfl
theorem el_set_ne {L : List Int} {i t : Nat} (u : Int) (h : i ≠ t) : el (L.set i u) t = el L t := by unfold el; rw [List.getD_eq_getElem?_getD, List.getD_eq_getElem?_getD, List.getElem?_set_ne h]
theorem take_succ_el {L : List Int} {j : Nat} (h : j < L.length) : L.take (j + 1) = L.take j ++ [el L j] := by rw [List.take_succ_eq_append_getElem h, el_get h]
theorem KI.keep {p : Int → Bool} {L M : List Int} {i j : Nat} (h : KI p L M i j) (hj : j < L.length) (hp : p (el L j) = true) : KI p L (M.set i (el L j)) (i + 1) (j + 1) where
  len := by simp [h.len]
  le := by have := h.le; omega
  low := by
    have h1 : i < M.length := by have := h.le; have := h.len; omega
    rw [take_succ_el (by simpa using h1), take_succ_el hj, List.filter_append, ← h.low, List.take_set_of_le (Nat.le_refl i)]
    congr 1
    rw [el_get (by simpa using h1)]
    simp [hp]
  high := fun t ht => by rw [el_set_ne _ (by have := h.le; omega)]; exact h.high t (by omega)
theorem KI.skip {p : Int → Bool} {L M : List Int} {i j : Nat} (h : KI p L M i j) (hj : j < L.length) (hp : p (el L j) = false) : KI p L M i (j + 1) where
  len := h.len
  le := by have := h.le; omega
  low := by rw [take_succ_el hj, List.filter_append, ← h.low]; simp [hp]
  high := fun t ht => h.high t (by omega)
theorem KI.start {p : Int → Bool} {L : List Int} {k : Nat} (hk : k < L.length) (hp : p (el L k) = false) (hall : ∀ j, j < k → p (el L j) = true) : KI p L L k (k + 1) where
  len := rfl
  le := by omega
  low := by
    rw [take_succ_el hk, List.filter_append]
    have : (L.take k).filter p = L.take k := List.filter_eq_self.2 fun x hx => by
      obtain ⟨j, hj, rfl⟩ := List.mem_iff_getElem.1 hx
      have hjk : j < k := by simp at hj; omega
      rw [List.getElem_take, ← el_get (by omega)]
      exact hall j hjk
    rw [this]
    simp [hp]
  high := fun _ _ => rfl
theorem KI.done {p : Int → Bool} {L M : List Int} {i : Nat} (h : KI p L M i L.length) : M.take i = L.filter p := by rw [h.low, List.take_length]
theorem KI.all {p : Int → Bool} {L : List Int} (hall : ∀ j, j < L.length → p (el L j) = true) : L.filter p = L := List.filter_eq_self.2 fun x hx => by
  obtain ⟨j, hj, rfl⟩ := List.mem_iff_getElem.1 hx
  rw [← el_get hj]
  exact hall j hj
/-- Rows that are written from a place on. -/
theorem Own.setCells {B : Nat} {e : TypeId} {n c g : Nat} (z : Int) : ∀ (m o : Nat) (w : World) (M : List Int), Own w B e 1 (.slice (some ⟨g, 0, none⟩) n c) n M →
    ∃ M', Own (w.setCells g o (List.replicate m (.int .i64 z))) B e 1 (.slice (some ⟨g, 0, none⟩) n c) n M' ∧ M'.take o = M.take o
  | 0, _, _, M, h => ⟨M, h, rfl⟩
  | m + 1, o, w, M, h => by
    obtain ⟨M', h1, h2⟩ := Own.setCells z m (o + 1) _ _ (h.stored o z)
    refine ⟨M', h1, ?_⟩
    have h3 := congrArg (List.take o) h2
    rw [List.take_take, List.take_take, Nat.min_eq_left (by omega), List.take_set_of_le (Nat.le_refl o)] at h3
    exact h3
theorem Q.setCells {a : World} {g : Nat} (hg : a.heap.size ≤ g) : ∀ (vs : List Value) (o : Nat) (w : World), Q a w → Q a (w.setCells g o vs)
  | [], _, _, h => h
  | v :: r, o, _, h => Q.setCells hg r (o + 1) _ (h.setCell (p := ⟨g, o, none⟩) hg v)
theorem Own.cut {w : World} {B : Nat} {e : TypeId} {n c g : Nat} {M : List Int} (h : Own w B e 1 (.slice (some ⟨g, 0, none⟩) n c) n M) {i : Nat} (hi : i ≤ n) : Own w B e 1 (.slice (some ⟨g, 0, none⟩) i c) i (M.take i) := by
  have hl := h.len
  refine ⟨by simp; omega, ?_⟩
  rcases h.2 with ⟨h1, _⟩ | ⟨g', cap, cur, h1, hg, hh, hn, hcm, hcs, hx⟩
  · cases h1
  · injection h1 with h1 _ h3
    subst h3
    refine .inr ⟨g', c, cur, by rw [h1], hg, hh, by omega, hcm, hcs, ?_⟩
    rw [List.map_take, ← hx, List.take_take]
    congr 1
    omega
/-- What a function value needs to stay as it is: C holds on while blocks are made, and while the row in block g is written. -/
structure Stays (C : World → Prop) (g : Nat) : Prop where
  q : ∀ w w', C w → Q w w' → C w'
  set : ∀ w i u, C w → C (w.setCell ⟨g, i, none⟩ u)
/-- A call of slices.IndexFunc tells the first place where p does not hold. -/
def IxR (p : Int → Bool) (L : List Int) (n : Nat) (w : World) (e : Ending) (w' : World) : Prop :=
  Q w w' ∧ ((∃ k : Nat, k < n ∧ e = .returned (.int .i64 k) ∧ p (el L k) = false ∧ ∀ j, j < k → p (el L j) = true) ∨ (e = .returned (.int .i64 (-1)) ∧ ∀ j, j < n → p (el L j) = true))
theorem run_IndexFunc (fn : Nat) (lb : Array Value) (p : Int → Bool) (C : World → Prop) (hC : ∀ w w', C w → Q w w' → C w') (ef : ∀ args w, (callFunc fn args).run Try.prog w = .ok (.enter fn args) w)
    (K : ∀ w t, C w → Calls Try.prog fn (#[.int .i64 t] ++ lb) w fun e w' => e = .returned (.bool (!p t)) ∧ Q w w')
    (A : Option Addr) (n c : Nat) (L : List Int) (w : World) (ha : Rd w A L) (hn : L.length = n) (hn2 : n ≤ 9223372036854775807) (hc : C w) :
    Calls Try.prog 33 #[.slice A n c, .func (.func fn) #[] lb] w (IxR p L n w) := by
  have KK := Lib.hid K
  have HC := Lib.hid hC
  clear K hC
  go_enter Try.func33, Try.ntmps33
  go_wp2_with fail
  go_loopw [8] (fun i wr => ∃ k : Nat, k ≤ n ∧ i = .int .i64 k ∧ (∀ j, j < k → p (el L j) = true) ∧ Q w wr) (fun i _ => n - (intOf i).toNat)
  case atStart => exact ⟨0, by omega, rfl, fun j hj => absurd hj (by omega), by (repeat (first | assumption | exact Q.refl _ | refine Q.alloc ?_ _ | refine Q.drewN ?_ _ | refine Q.drew ?_))⟩
  case round =>
    obtain ⟨k, hk, rfl, hall, hq⟩ := hrel
    have HA := Lib.hid hall
    clear hall
    by_cases hlt : k < n
    · obtain ⟨b, o, rfl, g0⟩ := (ha.q hq).at1 hn hlt
      have hltI : (k : Int) < (n : Int) := by omega
      have k1 := KK.out wr (el L k) (HC.out _ _ hc hq)
      obtain ⟨u, hu⟩ : ∃ u, u = el L k := ⟨_, rfl⟩
      rw [← hu] at g0 k1
      cases hp : p u
      · rw [hp] at k1
        have HP := Lib.hid hp
        have HU := Lib.hid hu
        clear hp hu
        go_wp2_with (go_at_fn fn; refine k1.mono ?_; rintro e w1 ⟨rfl, q1⟩)
        go_ret
        exact ⟨hq.trans q1, .inl ⟨k, hlt, rfl, by rw [← HU.out]; exact HP.out, HA.out⟩⟩
      · rw [hp] at k1
        have HP := Lib.hid hp
        have HU := Lib.hid hu
        clear hp hu
        go_wp2_with (go_at_fn fn; refine k1.mono ?_; rintro e w1 ⟨rfl, q1⟩)
        go_roundw
        case rel =>
          refine ⟨k + 1, by omega, by go_num, fun j hj => ?_, hq.trans q1⟩
          rcases Nat.lt_or_ge j k with h | h
          · exact HA.out j h
          · obtain rfl : j = k := by omega
            rw [← HU.out]; exact HP.out
        case measure => simp [intOf]; omega
    · obtain rfl : k = n := by omega
      go_wp2_with fail
      go_ret
      exact ⟨hq, .inr ⟨rfl, HA.out⟩⟩
/-- A call of slices.DeleteFunc keeps those for which p holds. -/
def DfR (p : Int → Bool) (L : List Int) (B : Nat) (w0 : World) (e : Ending) (w' : World) : Prop :=
  ∃ A k c, e = .returned (.slice A k c) ∧ Own w' B 2 1 (.slice A k c) k (L.filter p) ∧ Q w0 w'
end Go.Proofs.Ytadljkdjlpmllaa
