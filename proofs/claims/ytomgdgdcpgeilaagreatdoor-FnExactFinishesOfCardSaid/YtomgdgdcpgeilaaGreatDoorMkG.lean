/- Walks: the rounding lines of a course, as the program and the reference make them. No condition. -/
import Derived.Test.YtomgdgdcpgeilaaGreatDoorMkF
import Derived.Test.YtomgdgdcpgeilaaGreatDoorNrA
namespace Go.Proofs.YtomgdgdcpgeilaaGreatDoor
open Go.RowKit Go.WideShapes Go.ChangeShapes
theorem crs_yes {a b c d p q r s : Int} {ms : List Mk} (h : crsB a b c d p q r s ms = true) : lnB a b c d = true ∧ lnB p q r s = true ∧ (1 ≤ ms.length ∧ ms.length ≤ 8) ∧ (∀ k, k < ms.length → mkB (mx ms k) = true) ∧ adjNo (stL a b c d p q r s ms) (ms.length + 2) := by
  unfold crsB at h
  simp only [Bool.and_eq_true, decide_eq_true_eq] at h
  obtain ⟨h1, h2, h3, h4, h5, h6⟩ := h
  refine ⟨h1, h2, ⟨h3, h4⟩, fun k hk => ?_, adjNoB_iff.1 h6⟩
  have := List.all_eq_true.1 h5 k (List.mem_range.2 hk)
  unfold mkOk at this
  rw [Bool.and_eq_true] at this
  exact this.1
theorem mkB_bd {m : Mk} (h : mkB m = true) : pt m.x m.y ∧ (m.sd = 1 ∨ m.sd = 2) ∧ (1 ≤ m.zn ∧ m.zn ≤ 5000) := by
  unfold mkB ptB inR at h
  simp only [Bool.and_eq_true, decide_eq_true_eq] at h
  unfold pt
  omega
/-- Station k. -/
def stX (a c : Int) (ms : List Mk) (k : Nat) : Int := if k = 0 then mdX a c else (mx ms (k - 1)).x
def stY (b d : Int) (ms : List Mk) (k : Nat) : Int := if k = 0 then mdX b d else (mx ms (k - 1)).y
theorem elA_lt {L E : List Int} {j : Nat} (h : j < L.length) : el (L ++ E) j = el L j := by unfold el; rw [List.getD_eq_getElem?_getD, List.getD_eq_getElem?_getD, List.getElem?_append_left h]
theorem elA_ge {L E : List Int} {j : Nat} : el (L ++ E) (L.length + j) = el E j := by unfold el; rw [List.getD_eq_getElem?_getD, List.getD_eq_getElem?_getD, List.getElem?_append_right (by omega), Nat.add_sub_cancel_left]
theorem stTo_el (a b c d : Int) (ms : List Mk) : ∀ k j, j ≤ k → el (stTo a b c d ms k) (j * 2) = stX a c ms j ∧ el (stTo a b c d ms k) (j * 2 + 1) = stY b d ms j
  | 0, j, hj => by obtain rfl : j = 0 := (by omega); exact ⟨rfl, rfl⟩
  | k + 1, j, hj => by
    have hl := stTo_len a b c d ms k
    rw [stTo]
    by_cases h : j ≤ k
    · obtain ⟨h1, h2⟩ := stTo_el a b c d ms k j h
      rw [elA_lt (by omega), elA_lt (by omega)]
      exact ⟨h1, h2⟩
    · obtain rfl : j = k + 1 := by omega
      have e0 := elA_ge (L := stTo a b c d ms k) (E := [(mx ms k).x, (mx ms k).y]) (j := 0)
      have e1 := elA_ge (L := stTo a b c d ms k) (E := [(mx ms k).x, (mx ms k).y]) (j := 1)
      rw [hl] at e0 e1
      exact ⟨e0, e1⟩
theorem stL_el {a b c d p q r s : Int} {ms : List Mk} {j : Nat} (hj : j ≤ ms.length) : el (stL a b c d p q r s ms) (j * 2) = stX a c ms j ∧ el (stL a b c d p q r s ms) (j * 2 + 1) = stY b d ms j := by
  obtain ⟨h1, h2⟩ := stTo_el a b c d ms ms.length j hj
  have hl := stTo_len a b c d ms ms.length
  unfold stL
  rw [elA_lt (by omega), elA_lt (by omega)]
  exact ⟨h1, h2⟩
def rlX (a c : Int) (ms : List Mk) (k : Nat) : Int := (mx ms k).x - stX a c ms k
def rlY (b d : Int) (ms : List Mk) (k : Nat) : Int := (mx ms k).y - stY b d ms k
def rlN (a b c d : Int) (ms : List Mk) (k : Nat) : Int := rt (rlX a c ms k * rlX a c ms k + rlY b d ms k * rlY b d ms k)
def rlW (ms : List Mk) (k : Nat) : Int := if (mx ms k).sd = 2 then -(10 * (mx ms k).zn) else 10 * (mx ms k).zn
def rlE (a b c d : Int) (ms : List Mk) (k : Nat) : Int := (mx ms k).x + rlY b d ms k * rlW ms k / rlN a b c d ms k
def rlF (a b c d : Int) (ms : List Mk) (k : Nat) : Int := (mx ms k).y - rlX a c ms k * rlW ms k / rlN a b c d ms k
/-- The rounding line of mark k. -/
def rlL (a b c d : Int) (ms : List Mk) (k : Nat) : Int × Int × Int × Int := if (mx ms k).sd = 2 then (rlE a b c d ms k, rlF a b c d ms k, (mx ms k).x, (mx ms k).y) else ((mx ms k).x, (mx ms k).y, rlE a b c d ms k, rlF a b c d ms k)
theorem mdX_bd {x y : Int} (hx : -1000000 ≤ x ∧ x ≤ 1000000) (hy : -1000000 ≤ y ∧ y ≤ 1000000) : -1000000 ≤ mdX x y ∧ mdX x y ≤ 1000000 := by unfold mdX; omega
theorem mul_bdW {x y : Int} (hx : -2000000 ≤ x ∧ x ≤ 2000000) (hy : -50000 ≤ y ∧ y ≤ 50000) : -100000000000 ≤ x * y ∧ x * y ≤ 100000000000 := by
  have h1 : x * y ≤ 2000000 * 50000 := by
    rcases Int.le_total 0 y with h | h
    · exact Int.le_trans (Int.mul_le_mul_of_nonneg_right hx.2 h) (by omega)
    · have : x * y ≤ (-2000000) * y := by rw [Int.mul_comm x y, Int.mul_comm (-2000000) y]; exact Int.mul_le_mul_of_nonpos_left h hx.1
      omega
  have h2 : -(2000000 * 50000) ≤ x * y := by
    rcases Int.le_total 0 y with h | h
    · have : (-2000000) * y ≤ x * y := Int.mul_le_mul_of_nonneg_right hx.1 h
      omega
    · have : 2000000 * y ≤ x * y := by rw [Int.mul_comm x y, Int.mul_comm 2000000 y]; exact Int.mul_le_mul_of_nonpos_left h hx.2
      omega
  omega
theorem div_bdW {x n : Int} (hn : 1 ≤ n) (hx : -100000000000 ≤ x ∧ x ≤ 100000000000) : -100000000000 ≤ x / n ∧ x / n ≤ 100000000000 := by
  constructor
  · refine (Int.le_ediv_iff_mul_le (by omega)).2 ?_
    have : (-100000000000) * n ≤ (-100000000000) * 1 := Int.mul_le_mul_of_nonpos_left (by omega) hn
    omega
  · rcases Int.le_total 0 x with h | h
    · exact Int.le_trans (Int.ediv_le_self _ h) hx.2
    · have := Int.ediv_le_ediv (show (0 : Int) < n by omega) h
      rw [Int.zero_ediv] at this
      omega
theorem sq_bd {x : Int} (hx : -2000000 ≤ x ∧ x ≤ 2000000) : 0 ≤ x * x ∧ x * x ≤ 4000000000000 := by
  have h0 : 0 ≤ x * x := by rcases Int.le_total 0 x with h | h; exact Int.mul_nonneg h h; exact Int.mul_nonneg_of_nonpos_of_nonpos h h
  refine ⟨h0, ?_⟩
  rcases Int.le_total 0 x with h | h
  · have := Int.mul_le_mul hx.2 hx.2 h (by decide : (0 : Int) ≤ 2000000)
    omega
  · have := Int.mul_le_mul (show -x ≤ 2000000 by omega) (show -x ≤ 2000000 by omega) (show (0 : Int) ≤ -x by omega) (by decide : (0 : Int) ≤ 2000000)
    rw [Int.neg_mul_neg] at this
    omega
theorem rl_facts {a b c d p q r s : Int} {ms : List Mk} (h : crsB a b c d p q r s ms = true) {k : Nat} (hk : k < ms.length) :
    pt (mx ms k).x (mx ms k).y ∧ pt (stX a c ms k) (stY b d ms k) ∧ ((-2000000 ≤ rlX a c ms k ∧ rlX a c ms k ≤ 2000000) ∧ (-2000000 ≤ rlY b d ms k ∧ rlY b d ms k ≤ 2000000)) ∧ (1 ≤ rlN a b c d ms k ∧ rlN a b c d ms k ≤ 2828427) ∧ ((mx ms k).sd = 1 ∨ (mx ms k).sd = 2) ∧ (1 ≤ (mx ms k).zn ∧ (mx ms k).zn ≤ 5000) ∧ (-50000 ≤ rlW ms k ∧ rlW ms k ≤ 50000) := by
  obtain ⟨h1, h2, h3, h4, h5⟩ := crs_yes h
  obtain ⟨g1, g2, g3⟩ := mkB_bd (h4 k hk)
  have hS : pt (stX a c ms k) (stY b d ms k) := by
    have hb := lnB_bd h1
    unfold bd4 at hb
    unfold stX stY
    by_cases h0 : k = 0
    · rw [if_pos h0, if_pos h0]
      have m1 := mdX_bd (x := a) (y := c) (by omega) (by omega)
      have m2 := mdX_bd (x := b) (y := d) (by omega) (by omega)
      unfold pt
      omega
    · rw [if_neg h0, if_neg h0]
      exact (mkB_bd (h4 (k - 1) (by omega))).1
  have hXY : (-2000000 ≤ rlX a c ms k ∧ rlX a c ms k ≤ 2000000) ∧ (-2000000 ≤ rlY b d ms k ∧ rlY b d ms k ≤ 2000000) := by
    unfold rlX rlY
    unfold pt at g1 hS
    omega
  have hne : ¬ (rlX a c ms k = 0 ∧ rlY b d ms k = 0) := by
    intro h0
    refine h5 k (by omega) ⟨?_, ?_⟩
    · rw [(stL_el (show k ≤ ms.length by omega)).1, (stL_el (show k + 1 ≤ ms.length by omega)).1]
      have e : stX a c ms (k + 1) = (mx ms k).x := by unfold stX; rw [if_neg (by omega), Nat.add_sub_cancel]
      rw [e]
      have := h0.1
      unfold rlX at this
      omega
    · rw [(stL_el (show k ≤ ms.length by omega)).2, (stL_el (show k + 1 ≤ ms.length by omega)).2]
      have e : stY b d ms (k + 1) = (mx ms k).y := by unfold stY; rw [if_neg (by omega), Nat.add_sub_cancel]
      rw [e]
      have := h0.2
      unfold rlY at this
      omega
  have s1 := sq_bd hXY.1
  have s2 := sq_bd hXY.2
  refine ⟨g1, hS, hXY, ⟨rt_one hne, rt_mono_bd (by omega) (by decide) (by omega)⟩, g2, g3, ?_⟩
  unfold rlW
  split <;> omega
end Go.Proofs.YtomgdgdcpgeilaaGreatDoor
