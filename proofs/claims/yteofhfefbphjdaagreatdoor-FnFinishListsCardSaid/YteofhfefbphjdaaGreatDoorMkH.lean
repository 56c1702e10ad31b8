/- Walks: the rounding lines of a course, as the program and the reference make them. No condition. Walks: the rounding lines of a course, as the program makes them. No condition. -/
import Derived.Test.YteofhfefbphjdaaGreatDoorMkF
import Derived.Test.YteofhfefbphjdaaGreatDoorNrA
import Derived.Deep.RegionHeld3
import Derived.Deep.CutBlock
namespace Go.Proofs.YteofhfefbphjdaaGreatDoor
open Go.RowKit Go.WideShapes Go.ChangeShapes
theorem crs_yes {a b c d p q r s : Int} {ms : List Mk} (h : crsB a b c d p q r s ms = true) : lnB a b c d = true ∧ lnB p q r s = true ∧ (1 ≤ ms.length ∧ ms.length ≤ 8) ∧ (∀ k, k < ms.length → mkB (mx ms k) = true) ∧ adjNo (stL a b c d p q r s ms) (ms.length + 2) := by
  unfold crsB at h
  simp only [Bool.and_eq_true, decide_eq_true_eq] at h
  obtain ⟨h1, h2, h3, h4, h5, h6⟩ := h
  refine ⟨h1, h2, ⟨h3, h4⟩, fun k hk => ?_, adjNoB_iff.1 h6⟩
  have := List.all_eq_true.1 h5 k (List.mem_range.2 hk)
  unfold mkOk at this
  rw [Bool.and_eq_true] at this
  exact this.1
theorem mkB_bd {m : Mk} (h : mkB m = true) : pt m.x m.y ∧ (m.sd = 1 ∨ m.sd = 2) ∧ (1 ≤ m.zn ∧ m.zn ≤ 5000) := by
  unfold mkB ptB inR at h
  simp only [Bool.and_eq_true, decide_eq_true_eq] at h
  unfold pt
  omega
/-- Station k. -/
def stX (a c : Int) (ms : List Mk) (k : Nat) : Int := if k = 0 then mdX a c else (mx ms (k - 1)).x
def stY (b d : Int) (ms : List Mk) (k : Nat) : Int := if k = 0 then mdX b d else (mx ms (k - 1)).y
theorem elA_lt {L E : List Int} {j : Nat} (h : j < L.length) : el (L ++ E) j = el L j := by unfold el; rw [List.getD_eq_getElem?_getD, List.getD_eq_getElem?_getD, List.getElem?_append_left h]
theorem elA_ge {L E : List Int} {j : Nat} : el (L ++ E) (L.length + j) = el E j := by unfold el; rw [List.getD_eq_getElem?_getD, List.getD_eq_getElem?_getD, List.getElem?_append_right (by omega), Nat.add_sub_cancel_left]
theorem stTo_el (a b c d : Int) (ms : List Mk) : ∀ k j, j ≤ k → el (stTo a b c d ms k) (j * 2) = stX a c ms j ∧ el (stTo a b c d ms k) (j * 2 + 1) = stY b d ms j
  | 0, j, hj => by obtain rfl : j = 0 := (by omega); exact ⟨rfl, rfl⟩
  | k + 1, j, hj => by
    have hl := stTo_len a b c d ms k
    rw [stTo]
    by_cases h : j ≤ k
    · obtain ⟨h1, h2⟩ := stTo_el a b c d ms k j h
      rw [elA_lt (by omega), elA_lt (by omega)]
      exact ⟨h1, h2⟩
    · obtain rfl : j = k + 1 := by omega
      have e0 := elA_ge (L := stTo a b c d ms k) (E := [(mx ms k).x, (mx ms k).y]) (j := 0)
      have e1 := elA_ge (L := stTo a b c d ms k) (E := [(mx ms k).x, (mx ms k).y]) (j := 1)
      rw [hl] at e0 e1
      exact ⟨e0, e1⟩
theorem stL_el {a b c d p q r s : Int} {ms : List Mk} {j : Nat} (hj : j ≤ ms.length) : el (stL a b c d p q r s ms) (j * 2) = stX a c ms j ∧ el (stL a b c d p q r s ms) (j * 2 + 1) = stY b d ms j := by
  obtain ⟨h1, h2⟩ := stTo_el a b c d ms ms.length j hj
  have hl := stTo_len a b c d ms ms.length
  unfold stL
  rw [elA_lt (by omega), elA_lt (by omega)]
  exact ⟨h1, h2⟩
def rlX (a c : Int) (ms : List Mk) (k : Nat) : Int := (mx ms k).x - stX a c ms k
def rlY (b d : Int) (ms : List Mk) (k : Nat) : Int := (mx ms k).y - stY b d ms k
def rlN (a b c d : Int) (ms : List Mk) (k : Nat) : Int := rt (rlX a c ms k * rlX a c ms k + rlY b d ms k * rlY b d ms k)
def rlW (ms : List Mk) (k : Nat) : Int := if (mx ms k).sd = 2 then -(10 * (mx ms k).zn) else 10 * (mx ms k).zn
def rlE (a b c d : Int) (ms : List Mk) (k : Nat) : Int := (mx ms k).x + rlY b d ms k * rlW ms k / rlN a b c d ms k
def rlF (a b c d : Int) (ms : List Mk) (k : Nat) : Int := (mx ms k).y - rlX a c ms k * rlW ms k / rlN a b c d ms k
/-- The rounding line of mark k. -/
def rlL (a b c d : Int) (ms : List Mk) (k : Nat) : Int × Int × Int × Int := if (mx ms k).sd = 2 then (rlE a b c d ms k, rlF a b c d ms k, (mx ms k).x, (mx ms k).y) else ((mx ms k).x, (mx ms k).y, rlE a b c d ms k, rlF a b c d ms k)
theorem mdX_bd {x y : Int} (hx : -1000000 ≤ x ∧ x ≤ 1000000) (hy : -1000000 ≤ y ∧ y ≤ 1000000) : -1000000 ≤ mdX x y ∧ mdX x y ≤ 1000000 := by unfold mdX; omega
theorem mul_bdW {x y : Int} (hx : -2000000 ≤ x ∧ x ≤ 2000000) (hy : -50000 ≤ y ∧ y ≤ 50000) : -100000000000 ≤ x * y ∧ x * y ≤ 100000000000 := by
  have h1 : x * y ≤ 2000000 * 50000 := by
    rcases Int.le_total 0 y with h | h
    · exact Int.le_trans (Int.mul_le_mul_of_nonneg_right hx.2 h) (by omega)
    · have : x * y ≤ (-2000000) * y := by rw [Int.mul_comm x y, Int.mul_comm (-2000000) y]; exact Int.mul_le_mul_of_nonpos_left h hx.1
      omega
  have h2 : -(2000000 * 50000) ≤ x * y := by
    rcases Int.le_total 0 y with h | h
    · have : (-2000000) * y ≤ x * y := Int.mul_le_mul_of_nonneg_right hx.1 h
      omega
    · have : 2000000 * y ≤ x * y := by rw [Int.mul_comm x y, Int.mul_comm 2000000 y]; exact Int.mul_le_mul_of_nonpos_left h hx.2
      omega
  omega
theorem div_bdW {x n : Int} (hn : 1 ≤ n) (hx : -100000000000 ≤ x ∧ x ≤ 100000000000) : -100000000000 ≤ x / n ∧ x / n ≤ 100000000000 := by
  constructor
  · refine (Int.le_ediv_iff_mul_le (by omega)).2 ?_
    have : (-100000000000) * n ≤ (-100000000000) * 1 := Int.mul_le_mul_of_nonpos_left (by omega) hn
    omega
  · rcases Int.le_total 0 x with h | h
    · exact Int.le_trans (Int.ediv_le_self _ h) hx.2
    · have := Int.ediv_le_ediv (show (0 : Int) < n by omega) h
      rw [Int.zero_ediv] at this
      omega
theorem sq_bd {x : Int} (hx : -2000000 ≤ x ∧ x ≤ 2000000) : 0 ≤ x * x ∧ x * x ≤ 4000000000000 := by
  have h0 : 0 ≤ x * x := by rcases Int.le_total 0 x with h | h; exact Int.mul_nonneg h h; exact Int.mul_nonneg_of_nonpos_of_nonpos h h
  refine ⟨h0, ?_⟩
  rcases Int.le_total 0 x with h | h
  · have := Int.mul_le_mul hx.2 hx.2 h (by decide : (0 : Int) ≤ 2000000)
    omega
  · have := Int.mul_le_mul (show -x ≤ 2000000 by omega) (show -x ≤ 2000000 by omega) (show (0 : Int) ≤ -x by omega) (by decide : (0 : Int) ≤ 2000000)
    rw [Int.neg_mul_neg] at this
    omega
theorem rl_facts {a b c d p q r s : Int} {ms : List Mk} (h : crsB a b c d p q r s ms = true) {k : Nat} (hk : k < ms.length) :
    pt (mx ms k).x (mx ms k).y ∧ pt (stX a c ms k) (stY b d ms k) ∧ ((-2000000 ≤ rlX a c ms k ∧ rlX a c ms k ≤ 2000000) ∧ (-2000000 ≤ rlY b d ms k ∧ rlY b d ms k ≤ 2000000)) ∧ (1 ≤ rlN a b c d ms k ∧ rlN a b c d ms k ≤ 2828427) ∧ ((mx ms k).sd = 1 ∨ (mx ms k).sd = 2) ∧ (1 ≤ (mx ms k).zn ∧ (mx ms k).zn ≤ 5000) ∧ (-50000 ≤ rlW ms k ∧ rlW ms k ≤ 50000) := by
  obtain ⟨h1, h2, h3, h4, h5⟩ := crs_yes h
  obtain ⟨g1, g2, g3⟩ := mkB_bd (h4 k hk)
  have hS : pt (stX a c ms k) (stY b d ms k) := by
    have hb := lnB_bd h1
    unfold bd4 at hb
    unfold stX stY
    by_cases h0 : k = 0
    · rw [if_pos h0, if_pos h0]
      have m1 := mdX_bd (x := a) (y := c) (by omega) (by omega)
      have m2 := mdX_bd (x := b) (y := d) (by omega) (by omega)
      unfold pt
      omega
    · rw [if_neg h0, if_neg h0]
      exact (mkB_bd (h4 (k - 1) (by omega))).1
  have hXY : (-2000000 ≤ rlX a c ms k ∧ rlX a c ms k ≤ 2000000) ∧ (-2000000 ≤ rlY b d ms k ∧ rlY b d ms k ≤ 2000000) := by
    unfold rlX rlY
    unfold pt at g1 hS
    omega
  have hne : ¬ (rlX a c ms k = 0 ∧ rlY b d ms k = 0) := by
    intro h0
    refine h5 k (by omega) ⟨?_, ?_⟩
    · rw [(stL_el (show k ≤ ms.length by omega)).1, (stL_el (show k + 1 ≤ ms.length by omega)).1]
      have e : stX a c ms (k + 1) = (mx ms k).x := by unfold stX; rw [if_neg (by omega), Nat.add_sub_cancel]
      rw [e]
      have := h0.1
      unfold rlX at this
      omega
    · rw [(stL_el (show k ≤ ms.length by omega)).2, (stL_el (show k + 1 ≤ ms.length by omega)).2]
      have e : stY b d ms (k + 1) = (mx ms k).y := by unfold stY; rw [if_neg (by omega), Nat.add_sub_cancel]
      rw [e]
      have := h0.2
      unfold rlY at this
      omega
  have s1 := sq_bd hXY.1
  have s2 := sq_bd hXY.2
  refine ⟨g1, hS, hXY, ⟨rt_one hne, rt_mono_bd (by omega) (by decide) (by omega)⟩, g2, g3, ?_⟩
  unfold rlW
  split <;> omega
end Go.Proofs.YteofhfefbphjdaaGreatDoor
namespace Go.Proofs.YteofhfefbphjdaaGreatDoor
open Go.RowKit Go.WideShapes Go.ChangeShapes
theorem Blk.newZ {w : World} {g : Nat} {T : TypeId} {cs : Array Value} (hz : w.heap.size = g) : Blk (w.alloc (.cells cs T)) g T cs := by subst hz; exact Blk.new _ _ _
theorem Blk.new1 (w : World) (o : Obj) (T : TypeId) (cs : Array Value) : Blk ((w.alloc o).alloc (.cells cs T)) (w.heap.size + 1) T cs := Blk.newZ (by simp)
theorem Blk.set2 {w : World} {b : Nat} {T : TypeId} {x0 x1 : Value} (h : Blk w b T #[x0, x1]) (y0 y1 : Value) : Blk ((w.setCell ⟨b, 0, none⟩ y0).setCell ⟨b, 1, none⟩ y1) b T #[y0, y1] := (h.set_ 0 y0).set_ 1 y1
theorem Blk.set4R {w : World} {b : Nat} {T : TypeId} {x0 x1 x2 x3 : Value} (h : Blk w b T #[x0, x1, x2, x3]) (y0 y1 y2 y3 : Value) : Blk ((((w.setCell ⟨b, 0, none⟩ y0).setCell ⟨b, 1, none⟩ y1).setCell ⟨b, 2, none⟩ y2).setCell ⟨b, 3, none⟩ y3) b T #[y0, y1, y2, y3] := (((h.set_ 0 y0).set_ 1 y1).set_ 2 y2).set_ 3 y3
theorem Blk.set5 {w : World} {b : Nat} {T : TypeId} {x0 x1 x2 x3 x4 : Value} (h : Blk w b T #[x0, x1, x2, x3, x4]) (y0 y1 y2 y3 y4 : Value) : Blk (((((w.setCell ⟨b, 0, none⟩ y0).setCell ⟨b, 1, none⟩ y1).setCell ⟨b, 2, none⟩ y2).setCell ⟨b, 3, none⟩ y3).setCell ⟨b, 4, none⟩ y4) b T #[y0, y1, y2, y3, y4] := ((((h.set_ 0 y0).set_ 1 y1).set_ 2 y2).set_ 3 y3).set_ 4 y4
theorem Blk.far2 {w : World} {g b : Nat} {T : TypeId} {cs : Array Value} (h : Blk w g T cs) (hp : g ≠ b) (y0 y1 : Value) : Blk ((w.setCell ⟨b, 0, none⟩ y0).setCell ⟨b, 1, none⟩ y1) g T cs := (h.far (p := ⟨b, 0, none⟩) hp y0).far (p := ⟨b, 1, none⟩) hp y1
theorem Blk.far5 {w : World} {g b : Nat} {T : TypeId} {cs : Array Value} (h : Blk w g T cs) (hp : g ≠ b) (y0 y1 y2 y3 y4 : Value) : Blk (((((w.setCell ⟨b, 0, none⟩ y0).setCell ⟨b, 1, none⟩ y1).setCell ⟨b, 2, none⟩ y2).setCell ⟨b, 3, none⟩ y3).setCell ⟨b, 4, none⟩ y4) g T cs := (((h.far2 hp y0 y1).far (p := ⟨b, 2, none⟩) hp y2).far (p := ⟨b, 3, none⟩) hp y3).far (p := ⟨b, 4, none⟩) hp y4
theorem Q.set2 {a w : World} {b : Nat} (h : Q a w) (hb : a.heap.size ≤ b) (y0 y1 : Value) : Q a ((w.setCell ⟨b, 0, none⟩ y0).setCell ⟨b, 1, none⟩ y1) := (h.setCell (p := ⟨b, 0, none⟩) hb y0).setCell (p := ⟨b, 1, none⟩) hb y1
theorem Q.set5 {a w : World} {b : Nat} (h : Q a w) (hb : a.heap.size ≤ b) (y0 y1 y2 y3 y4 : Value) : Q a (((((w.setCell ⟨b, 0, none⟩ y0).setCell ⟨b, 1, none⟩ y1).setCell ⟨b, 2, none⟩ y2).setCell ⟨b, 3, none⟩ y3).setCell ⟨b, 4, none⟩ y4) := (((h.set2 hb y0 y1).setCell (p := ⟨b, 2, none⟩) hb y2).setCell (p := ⟨b, 3, none⟩) hb y3).setCell (p := ⟨b, 4, none⟩) hb y4
set_option linter.unusedSimpArgs false in
set_option linter.unusedVariables false in
set_option maxRecDepth 100000 in
set_option maxHeartbeats 8000000 in
theorem impl_roundingLine (a b c d p q r s : Int) (A : Option Addr) (n cc : Nat) (ms : List Mk) (w : World) (ha : RdM w A ms) (hn : ms.length = n) (hc : crsB a b c d p q r s ms = true) (k : Nat) (hk : k < n) :
    Calls Tryz.prog 54 #[.agg #[.int .i64 a, .int .i64 b, .int .i64 c, .int .i64 d, .int .i64 p, .int .i64 q, .int .i64 r, .int .i64 s, .slice A n cc], .int .i64 k] w fun e w' => e = .returned (.agg #[.int .i64 (rlL a b c d ms k).1, .int .i64 (rlL a b c d ms k).2.1, .int .i64 (rlL a b c d ms k).2.2.1, .int .i64 (rlL a b c d ms k).2.2.2]) ∧ Q w w' := by
  obtain ⟨g1, hS, hXY, hN, hsd, hzn, hW⟩ := rl_facts hc (show k < ms.length by omega)
  obtain ⟨hl1, hl2, hlen, _, _⟩ := crs_yes hc
  have hb1 := lnB_bd hl1
  have hb2 := lnB_bd hl2
  have hSL := stL_el (a := a) (b := b) (c := c) (d := d) (p := p) (q := q) (r := r) (s := s) (show k ≤ ms.length by omega)
  have hSLn := stL_len a b c d p q r s ms
  have KS := Lib.hid (fun wv (h : RdM wv A ms) => impl_stations a b c d p q r s A n cc ms wv h hn (by omega) (by unfold bd4 at *; omega) (by unfold bd4 at *; omega))
  obtain ⟨b1, o1, rfl, g0', g1', g2', g3', g4', hsz⟩ := ha.at_ hn hk
  have HXe := Lib.hid (show rlX a c ms k = (mx ms k).x - stX a c ms k from rfl)
  have HYe := Lib.hid (show rlY b d ms k = (mx ms k).y - stY b d ms k from rfl)
  have HNe := Lib.hid (show rlN a b c d ms k = rt (rlX a c ms k * rlX a c ms k + rlY b d ms k * rlY b d ms k) from rfl)
  have HWe := Lib.hid (show rlW ms k = if (mx ms k).sd = 2 then -(10 * (mx ms k).zn) else 10 * (mx ms k).zn from rfl)
  have HEe := Lib.hid (show rlE a b c d ms k = (mx ms k).x + rlY b d ms k * rlW ms k / rlN a b c d ms k from rfl)
  have HFe := Lib.hid (show rlF a b c d ms k = (mx ms k).y - rlX a c ms k * rlW ms k / rlN a b c d ms k from rfl)
  have HLe := Lib.hid (show rlL a b c d ms k = if (mx ms k).sd = 2 then (rlE a b c d ms k, rlF a b c d ms k, (mx ms k).x, (mx ms k).y) else ((mx ms k).x, (mx ms k).y, rlE a b c d ms k, rlF a b c d ms k) from rfl)
  have HS1 := Lib.hid hSL.1
  have HS2 := Lib.hid hSL.2
  have HSn := Lib.hid hSLn
  have HNn := Lib.hid hn
  have hq1 := sq_bd hXY.1
  have hq2 := sq_bd hXY.2
  have hm1 := mul_bdW hXY.2 hW
  have hm2 := mul_bdW hXY.1 hW
  have hd1 := div_bdW hN.1 hm1
  have hd2 := div_bdW hN.1 hm2
  unfold pt at g1 hS
  generalize rlL a b c d ms k = LL at *
  generalize rlE a b c d ms k = E at *
  generalize rlF a b c d ms k = F at *
  generalize rlX a c ms k = X at *
  generalize rlY b d ms k = Y at *
  generalize rlN a b c d ms k = NN at *
  generalize rlW ms k = W at *
  generalize stX a c ms k = SX at *
  generalize stY b d ms k = SY at *
  generalize stL a b c d p q r s ms = SL at *
  obtain ⟨m, hm⟩ : ∃ m, m = mx ms k := ⟨_, rfl⟩
  rw [← hm] at HXe HYe HWe HEe HFe HLe g1 hsd hzn g0' g1' g2' g3' g4'
  have KR := Lib.hid (fun wv => impl_rootOf (X * X + Y * Y) wv (by omega) (by omega))
  rw [← HNe.out] at KR
  have KF1 := Lib.hid (fun wv => impl_floorDiv (Y * W) NN wv (by omega) (by omega) (by omega))
  have KF2 := Lib.hid (fun wv => impl_floorDiv (X * W) NN wv (by omega) (by omega) (by omega))
  obtain ⟨w0, hw0⟩ : ∃ w0, w0 = (w.alloc (.cells #[.int .i64 a, .int .i64 b, .int .i64 c, .int .i64 d, .int .i64 p, .int .i64 q, .int .i64 r, .int .i64 s, .slice (some ⟨b1, o1, none⟩) n cc] 30)).alloc (.cells #[.int .i64 0, .int .i64 0, .int .i64 0, .int .i64 0] 27) := ⟨_, rfl⟩
  have Q0 : Q w w0 := by rw [hw0]; (repeat (first | assumption | exact Q.refl _ | refine Q.alloc ?_ _ | refine Q.drewN ?_ _ | refine Q.drew ?_))
  have B0 : Blk w0 w.heap.size 30 #[.int .i64 a, .int .i64 b, .int .i64 c, .int .i64 d, .int .i64 p, .int .i64 q, .int .i64 r, .int .i64 s, .slice (some ⟨b1, o1, none⟩) n cc] := by rw [hw0]; exact (Blk.new _ _ _).alloc _
  have R0 : Blk w0 (w.heap.size + 1) 27 #[.int .i64 0, .int .i64 0, .int .i64 0, .int .i64 0] := by rw [hw0]; exact Blk.new1 _ _ _ _
  have HW0 := Lib.hid hw0
  have haw := ha.q Q0
  have hS' : ∀ w', Q w0 w' → (Q w0 w' ∧ w'.cell? ⟨w.heap.size, 0, none⟩ = some (.int .i64 a) ∧ w'.cell? ⟨w.heap.size, 1, none⟩ = some (.int .i64 b) ∧ w'.cell? ⟨w.heap.size, 2, none⟩ = some (.int .i64 c) ∧ w'.cell? ⟨w.heap.size, 3, none⟩ = some (.int .i64 d) ∧ w'.cell? ⟨w.heap.size, 4, none⟩ = some (.int .i64 p) ∧ w'.cell? ⟨w.heap.size, 5, none⟩ = some (.int .i64 q) ∧ w'.cell? ⟨w.heap.size, 6, none⟩ = some (.int .i64 r) ∧ w'.cell? ⟨w.heap.size, 7, none⟩ = some (.int .i64 s) ∧ w'.cell? ⟨w.heap.size, 8, none⟩ = some (.slice (some ⟨b1, o1, none⟩) n cc) ∧ w'.cell? ⟨b1, o1 + k * 5, none⟩ = some (.string m.nm) ∧ w'.cell? ⟨b1, o1 + k * 5 + 1, none⟩ = some (.int .i64 m.x) ∧ w'.cell? ⟨b1, o1 + k * 5 + 2, none⟩ = some (.int .i64 m.y) ∧ w'.cell? ⟨b1, o1 + k * 5 + 3, none⟩ = some (.int .i64 m.sd) ∧ w'.cell? ⟨b1, o1 + k * 5 + 4, none⟩ = some (.int .i64 m.zn)) := fun w' q => ⟨q, (B0.q q).cell 0, (B0.q q).cell 1, (B0.q q).cell 2, (B0.q q).cell 3, (B0.q q).cell 4, (B0.q q).cell 5, (B0.q q).cell 6, (B0.q q).cell 7, (B0.q q).cell 8, q.cell (Q0.cell g0'), q.cell (Q0.cell g1'), q.cell (Q0.cell g2'), q.cell (Q0.cell g3'), q.cell (Q0.cell g4')⟩
  have hkI : (k : Int) < (n : Int) := by omega
  have hk2I : (k : Int) < ((n + 2 : Nat) : Int) := by omega
  have hk2J : (k : Int) < (n : Int) + 2 := by omega
  have hk0 : (0 : Int) ≤ (k : Int) := by omega
  have hsdI := hsd
  have lR := R0.lt
  clear hw0 ha hm hc hSL hSLn hn hl1 hl2 hb1 hb2 HNe
  go_enter Tryz.func54, Tryz.ntmps54
  go_wp2_with fail
  rw [← HW0.out]
  go_cut [5, 6] from 12 (fun u v wc => ∃ bp bm, u = .pointer (some ⟨bp, 0, none⟩) ∧ v = .pointer (some ⟨bm, 0, none⟩) ∧ w.heap.size + 1 < bp ∧ Blk wc bp 25 #[.int .i64 SX, .int .i64 SY] ∧ Blk wc bm 85 #[.string m.nm, .int .i64 m.x, .int .i64 m.y, .int .i64 m.sd, .int .i64 m.zn] ∧ Blk wc (w.heap.size + 1) 27 #[.int .i64 0, .int .i64 0, .int .i64 0, .int .i64 0] ∧ Q w0 wc)
  case first =>
    clear hq1 hq2 hm1 hm2 hd1 hd2 KR KF1 KF2 HXe HYe HWe HEe HFe HLe
    refine wp_region_noPanic ?_
    refine wp_region_held_drew (S := (fun w' => Q w0 w' ∧ w'.cell? ⟨w.heap.size, 0, none⟩ = some (.int .i64 a) ∧ w'.cell? ⟨w.heap.size, 1, none⟩ = some (.int .i64 b) ∧ w'.cell? ⟨w.heap.size, 2, none⟩ = some (.int .i64 c) ∧ w'.cell? ⟨w.heap.size, 3, none⟩ = some (.int .i64 d) ∧ w'.cell? ⟨w.heap.size, 4, none⟩ = some (.int .i64 p) ∧ w'.cell? ⟨w.heap.size, 5, none⟩ = some (.int .i64 q) ∧ w'.cell? ⟨w.heap.size, 6, none⟩ = some (.int .i64 r) ∧ w'.cell? ⟨w.heap.size, 7, none⟩ = some (.int .i64 s) ∧ w'.cell? ⟨w.heap.size, 8, none⟩ = some (.slice (some ⟨b1, o1, none⟩) n cc) ∧ w'.cell? ⟨b1, o1 + k * 5, none⟩ = some (.string m.nm) ∧ w'.cell? ⟨b1, o1 + k * 5 + 1, none⟩ = some (.int .i64 m.x) ∧ w'.cell? ⟨b1, o1 + k * 5 + 2, none⟩ = some (.int .i64 m.y) ∧ w'.cell? ⟨b1, o1 + k * 5 + 3, none⟩ = some (.int .i64 m.sd) ∧ w'.cell? ⟨b1, o1 + k * 5 + 4, none⟩ = some (.int .i64 m.zn))) (by kernel_rfl) ?_ (fun hHeld => ?_)
    · (try dsimp only); first | with_reducible exact hS' _ QR | with_reducible (refine hS' _ ?_; repeat first | assumption | exact Q.refl _ | refine Q.alloc ?_ _ | refine Q.setCell ?_ (by (try simp only); first | exact Nat.le_refl _ | assumption | omega) _ | refine Q.drew ?_)
    refine wpAnyH_take (i := 0) (v := ?v0x1) rfl (by kernel_rfl) (by kernel_rfl) (by kernel_rfl) (fun _ _ _ h => h) (Or.inl ⟨by rfl, ?y0x1⟩) (by assumption) ?t0x1
    case y0x1 => (intro w hSw; (try dsimp only at hSw); go_simp; try with_reducible rfl)
    case t0x1 =>
      try simp only [Act.put, List.setIfInBounds_toArray, List.set_cons_zero, List.set_cons_succ]
      refine wpAnyH_take (i := 2) (v := ?v2x2) rfl (by kernel_rfl) (by kernel_rfl) (by kernel_rfl) (fun _ _ _ h => h) (Or.inl ⟨by rfl, ?y2x2⟩) (by assumption) ?t2x2
      case y2x2 => (intro w hSw; (try dsimp only at hSw); go_simp; try with_reducible rfl)
      case t2x2 =>
        try simp only [Act.put, List.setIfInBounds_toArray, List.set_cons_zero, List.set_cons_succ]
        refine wpAnyH_take (i := 5) (v := ?v5x3) rfl (by kernel_rfl) (by kernel_rfl) (by kernel_rfl) (fun _ _ _ h => h) (Or.inl ⟨by rfl, ?y5x3⟩) (by assumption) ?t5x3
        case y5x3 => (intro w hSw; (try dsimp only at hSw); go_simp; try with_reducible rfl)
        case t5x3 =>
          try simp only [Act.put, List.setIfInBounds_toArray, List.set_cons_zero, List.set_cons_succ]
          refine wpAnyH_take (i := 6) (v := ?v6x4) rfl (by kernel_rfl) (by kernel_rfl) (by kernel_rfl) (fun _ _ _ h => h) (Or.inl ⟨by rfl, ?y6x4⟩) (by assumption) ?t6x4
          case y6x4 => (intro w hSw; (try dsimp only at hSw); go_simp; try with_reducible rfl)
          case t6x4 =>
            try simp only [Act.put, List.setIfInBounds_toArray, List.set_cons_zero, List.set_cons_succ]
            refine wpAnyH_take (i := 7) (v := ?v7x5) rfl (by kernel_rfl) (by kernel_rfl) (by kernel_rfl) (fun _ _ _ h => h) (Or.inl ⟨by rfl, ?y7x5⟩) (by assumption) ?t7x5
            case y7x5 => (intro w hSw; (try dsimp only at hSw); go_simp; try with_reducible rfl)
            case t7x5 =>
              try simp only [Act.put, List.setIfInBounds_toArray, List.set_cons_zero, List.set_cons_succ]
              refine wpAnyH_take (i := 8) (v := ?v8x6) rfl (by kernel_rfl) (by kernel_rfl) (by kernel_rfl) (fun _ _ _ h => h) (Or.inl ⟨by rfl, ?y8x6⟩) (by assumption) ?t8x6
              case y8x6 => (intro w hSw; (try dsimp only at hSw); go_simp; try with_reducible rfl)
              case t8x6 =>
                try simp only [Act.put, List.setIfInBounds_toArray, List.set_cons_zero, List.set_cons_succ]
                refine wpAnyH_take (i := 9) (v := ?v9x7) rfl (by kernel_rfl) (by kernel_rfl) (by kernel_rfl) (fun _ _ _ h => h) (Or.inl ⟨by rfl, ?y9x7⟩) (by assumption) ?t9x7
                case y9x7 => (intro w hSw; (try dsimp only at hSw); go_simp; try with_reducible rfl)
                case t9x7 =>
                  try simp only [Act.put, List.setIfInBounds_toArray, List.set_cons_zero, List.set_cons_succ]
                  refine wpAnyH_ready (rs := [1, 10, 11]) (by kernel_rfl) (by simp) ?_
                  refine AllReadyH.cons rfl (fun K hK => ?_) ?_
                  · go_simp
                    (first | (go_at_call 49; refine (KS.out _ (haw.q (by ((repeat (first | with_reducible assumption | with_reducible exact Q.refl _ | with_reducible refine Q.alloc ?_ _ | with_reducible refine Q.setCell ?_ (by (try simp only); first | with_reducible exact Nat.le_refl _ | with_reducible assumption | omega) _ | with_reducible refine Q.drew ?_)); done)))).mono ?_; rintro e5 w5 ⟨AS, cS, rfl, oS, q5⟩; obtain ⟨gS, rfl, hB⟩ := oS.split (show 0 < n + 2 by omega); have lS : gS < w5.heap.size := (oS.lt gS rfl).2; have hB2 := hB; simp only [World.size_alloc, World.size_drew] at hB2; (first | (have nS : gS ≠ w0.heap.size := ?hb; (case hb => omega)) | skip); (first | (have nS' : gS ≠ w0.heap.size + 1 := ?hb; (case hb => omega)) | skip); have QR : Q w0 w5 := Q.trans (by ((repeat (first | with_reducible assumption | with_reducible exact Q.refl _ | with_reducible refine Q.alloc ?_ _ | with_reducible refine Q.setCell ?_ (by (try simp only); first | with_reducible exact Nat.le_refl _ | with_reducible assumption | omega) _ | with_reducible refine Q.drew ?_)); done)) q5; have x0 : w5.cell? ⟨gS, k * 2, none⟩ = some (.int .i64 SX) := (oS.cell (by have := HSn.out; have := HNn.out; omega)).trans (by rw [show SL.getD (k * 2) 0 = el SL (k * 2) from rfl, HS1.out]); have y0 : w5.cell? ⟨gS, k * 2 + 1, none⟩ = some (.int .i64 SY) := (oS.cell (by have := HSn.out; have := HNn.out; omega)).trans (by rw [show SL.getD (k * 2 + 1) 0 = el SL (k * 2 + 1) from rfl, HS2.out]); have z5 := q5.size; have zR := QR.size; have hle1 : w0.heap.size ≤ w0.heap.size + 1 := Nat.le_succ _; have hne1 : w0.heap.size ≠ w0.heap.size + 1 := Nat.ne_of_lt (Nat.lt_succ_self _); have hne2 : w0.heap.size + 1 ≠ w0.heap.size := fun h => hne1 h.symm; (first | (have BP : Blk w5 w0.heap.size 25 #[.int .i64 0, .int .i64 0] := ?hb; (case hb => (refine Blk.q ?_ q5; (repeat (first | exact Blk.new _ _ _ | exact Blk.drew (Blk.new _ _ _) | exact Blk.new1 _ _ _ _ | refine Blk.alloc ?_ _ | refine Blk.far ?_ (by simp) _)); done))) | (have BP : Blk w5 (w0.heap.size + 1) 25 #[.int .i64 0, .int .i64 0] := ?hb; (case hb => (refine Blk.q ?_ q5; (repeat (first | exact Blk.new _ _ _ | exact Blk.drew (Blk.new _ _ _) | exact Blk.new1 _ _ _ _ | refine Blk.alloc ?_ _ | refine Blk.far ?_ (by simp) _)); done))) | skip); (first | (have BM : Blk w5 w0.heap.size 85 #[.string ByteArray.empty, .int .i64 0, .int .i64 0, .int .i64 0, .int .i64 0] := ?hb; (case hb => (refine Blk.q ?_ q5; (repeat (first | exact Blk.new _ _ _ | exact Blk.drew (Blk.new _ _ _) | exact Blk.new1 _ _ _ _ | refine Blk.alloc ?_ _ | refine Blk.far ?_ (by simp) _)); done))) | (have BM : Blk w5 w0.heap.size 85 #[.string m.nm, .int .i64 m.x, .int .i64 m.y, .int .i64 m.sd, .int .i64 m.zn] := ?hb; (case hb => (refine Blk.q ?_ q5; (repeat (first | exact Blk.new _ _ _ | exact Blk.drew (Blk.new _ _ _) | exact Blk.new1 _ _ _ _ | refine Blk.alloc ?_ _ | refine Blk.far ?_ (by simp) _)); done))) | (have BM : Blk w5 (w0.heap.size + 1) 85 #[.string ByteArray.empty, .int .i64 0, .int .i64 0, .int .i64 0, .int .i64 0] := ?hb; (case hb => (refine Blk.q ?_ q5; (repeat (first | exact Blk.new _ _ _ | exact Blk.drew (Blk.new _ _ _) | exact Blk.new1 _ _ _ _ | refine Blk.alloc ?_ _ | refine Blk.far ?_ (by simp) _)); done))) | (have BM : Blk w5 (w0.heap.size + 1) 85 #[.string m.nm, .int .i64 m.x, .int .i64 m.y, .int .i64 m.sd, .int .i64 m.zn] := ?hb; (case hb => (refine Blk.q ?_ q5; (repeat (first | exact Blk.new _ _ _ | exact Blk.drew (Blk.new _ _ _) | exact Blk.new1 _ _ _ _ | refine Blk.alloc ?_ _ | refine Blk.far ?_ (by simp) _)); done))) | skip); (first | (have bpc := BP.cell; have bpf := BP.frozen; have bpl := BP.lt) | skip); (first | (have bmc := BM.cell; have bmf := BM.frozen; have bml := BM.lt) | skip); generalize w0.heap.size + 1 = b1x at *))
                    refine hK.out _ _ ?_ (fun hHeld => ?_)
                    · (try dsimp only); first | with_reducible exact hS' _ QR | with_reducible (refine hS' _ ?_; repeat first | assumption | exact Q.refl _ | refine Q.alloc ?_ _ | refine Q.setCell ?_ (by (try simp only); first | exact Nat.le_refl _ | assumption | omega) _ | refine Q.drew ?_)
                    clear hK K
                    refine wpAnyH_take (i := 3) (v := ?v3x8) rfl (by kernel_rfl) (by kernel_rfl) (by kernel_rfl) (fun _ _ _ h => h) (Or.inl ⟨by rfl, ?y3x8⟩) (by assumption) ?t3x8
                    case y3x8 => (intro w hSw; (try dsimp only at hSw); go_simp; try with_reducible rfl)
                    case t3x8 =>
                      try simp only [Act.put, List.setIfInBounds_toArray, List.set_cons_zero, List.set_cons_succ]
                      refine wpAnyH_ready (rs := [4, 10, 11]) (by kernel_rfl) (by simp) ?_
                      refine AllReadyH.cons rfl (fun K hK => ?_) ?_
                      · go_simp
                        refine hK.out _ _ ?_ (fun hHeld => ?_)
                        · (try dsimp only); first | with_reducible exact hS' _ QR | with_reducible (refine hS' _ ?_; repeat first | assumption | exact Q.refl _ | refine Q.alloc ?_ _ | refine Q.setCell ?_ (by (try simp only); first | exact Nat.le_refl _ | assumption | omega) _ | refine Q.drew ?_)
                        clear hK K
                        refine wpAnyH_ready (rs := [10, 11]) (by kernel_rfl) (by simp) ?_
                        refine AllReadyH.cons rfl (fun K hK => ?_) ?_
                        · go_simp
                          refine hK.out _ _ ?_ (fun hHeld => ?_)
                          · (try dsimp only); first | with_reducible exact hS' _ QR | with_reducible (refine hS' _ ?_; repeat first | assumption | exact Q.refl _ | refine Q.alloc ?_ _ | refine Q.setCell ?_ (by (try simp only); first | exact Nat.le_refl _ | assumption | omega) _ | refine Q.drew ?_)
                          clear hK K
                          refine wpAnyH_ready (rs := [11]) (by kernel_rfl) (by simp) ?_
                          refine AllReadyH.cons rfl (fun K hK => ?_) ?_
                          · go_simp
                            refine hK.out _ _ ?_ (fun hHeld => ?_)
                            · (try dsimp only); first | with_reducible exact hS' _ QR | with_reducible (refine hS' _ ?_; repeat first | assumption | exact Q.refl _ | refine Q.alloc ?_ _ | refine Q.setCell ?_ (by (try simp only); first | exact Nat.le_refl _ | assumption | omega) _ | refine Q.drew ?_)
                            clear hK K
                            refine wpAnyH_ready (rs := [12]) (by kernel_rfl) (by simp) ?_
                            refine AllReadyH.cons rfl (fun K hK => ?_) ?_
                            · go_simp
                              refine hK.out _ _ ?_ (fun hHeld => ?_)
                              · (try dsimp only); first | with_reducible exact hS' _ QR | with_reducible (refine hS' _ ?_; repeat first | assumption | exact Q.refl _ | refine Q.alloc ?_ _ | refine Q.setCell ?_ (by (try simp only); first | exact Nat.le_refl _ | assumption | omega) _ | refine Q.drew ?_)
                              clear hK K
                              refine wpAnyH_ready (rs := [13]) (by kernel_rfl) (by simp) ?_
                              refine AllReadyH.cons rfl (fun K hK => ?_) ?_
                              · go_simp
                                refine hK.out _ _ ?_ (fun hHeld => ?_)
                                · (try dsimp only); first | with_reducible exact hS' _ QR | with_reducible (refine hS' _ ?_; repeat first | assumption | exact Q.refl _ | refine Q.alloc ?_ _ | refine Q.setCell ?_ (by (try simp only); first | exact Nat.le_refl _ | assumption | omega) _ | refine Q.drew ?_)
                                clear hK K
                                refine wpAnyH_done (by kernel_rfl) ?_ _
                                refine NoPanic.normal ?_
                                go_wp2_with fail
                                go_meet
                                all_goals (have RW := R0.q QR; (first | (have PS := BP.set2 (.int .i64 SX) (.int .i64 SY)) | skip); (first | (have BM3 := BM.set5 (.string m.nm) (.int .i64 m.x) (.int .i64 m.y) (.int .i64 m.sd) (.int .i64 m.zn)) | skip))
                                all_goals refine ⟨_, _, rfl, rfl, ?_, ?_, ?_, ?_, ?_⟩
                                all_goals first
                                  | (clear QR; omega)
                                  | with_reducible exact (Blk.new _ _ _).alloc _
                                  | with_reducible exact Blk.new1 _ _ _ _
                                  | with_reducible exact PS.alloc _
                                  | with_reducible exact PS.far5 (by with_reducible first | assumption | omega) _ _ _ _ _
                                  | (with_reducible refine Blk.newZ ?_; simp; done)
                                  | with_reducible exact (BM.far2 (by with_reducible first | assumption | omega) _ _).set5 _ _ _ _ _
                                  | with_reducible exact BM3.alloc _
                                  | with_reducible exact (RW.alloc _).alloc _
                                  | with_reducible exact (RW.far2 (by clear QR; omega) _ _).alloc _
                                  | with_reducible exact (RW.far2 (by clear QR; omega) _ _).far5 (by clear QR; omega) _ _ _ _ _
                                  | with_reducible exact (RW.far5 (by clear QR; omega) _ _ _ _ _).alloc _
                                  | with_reducible exact (QR.alloc _).alloc _
                                  | with_reducible exact (QR.set2 (by first | with_reducible exact Nat.le_refl _ | with_reducible assumption) _ _).alloc _
                                  | with_reducible exact (QR.set5 (by first | with_reducible exact Nat.le_refl _ | with_reducible assumption) _ _ _ _ _).alloc _
                                  | with_reducible exact (QR.set2 (by first | with_reducible exact Nat.le_refl _ | with_reducible assumption) _ _).set5 (by first | with_reducible exact Nat.le_refl _ | with_reducible assumption) _ _ _ _ _
                              exact AllReadyH.nil
                            exact AllReadyH.nil
                          exact AllReadyH.nil
                        refine AllReadyH.cons rfl (fun K hK => ?_) ?_
                        · go_simp
                          refine hK.out _ _ ?_ (fun hHeld => ?_)
                          · (try dsimp only); first | with_reducible exact hS' _ QR | with_reducible (refine hS' _ ?_; repeat first | assumption | exact Q.refl _ | refine Q.alloc ?_ _ | refine Q.setCell ?_ (by (try simp only); first | exact Nat.le_refl _ | assumption | omega) _ | refine Q.drew ?_)
                          clear hK K
                          refine wpAnyH_ready (rs := [10]) (by kernel_rfl) (by simp) ?_
                          refine AllReadyH.cons rfl (fun K hK => ?_) ?_
                          · go_simp
                            refine hK.out _ _ ?_ (fun hHeld => ?_)
                            · (try dsimp only); first | with_reducible exact hS' _ QR | with_reducible (refine hS' _ ?_; repeat first | assumption | exact Q.refl _ | refine Q.alloc ?_ _ | refine Q.setCell ?_ (by (try simp only); first | exact Nat.le_refl _ | assumption | omega) _ | refine Q.drew ?_)
                            clear hK K
                            refine wpAnyH_ready (rs := [12]) (by kernel_rfl) (by simp) ?_
                            refine AllReadyH.cons rfl (fun K hK => ?_) ?_
                            · go_simp
                              refine hK.out _ _ ?_ (fun hHeld => ?_)
                              · (try dsimp only); first | with_reducible exact hS' _ QR | with_reducible (refine hS' _ ?_; repeat first | assumption | exact Q.refl _ | refine Q.alloc ?_ _ | refine Q.setCell ?_ (by (try simp only); first | exact Nat.le_refl _ | assumption | omega) _ | refine Q.drew ?_)
                              clear hK K
                              refine wpAnyH_ready (rs := [13]) (by kernel_rfl) (by simp) ?_
                              refine AllReadyH.cons rfl (fun K hK => ?_) ?_
                              · go_simp
                                refine hK.out _ _ ?_ (fun hHeld => ?_)
                                · (try dsimp only); first | with_reducible exact hS' _ QR | with_reducible (refine hS' _ ?_; repeat first | assumption | exact Q.refl _ | refine Q.alloc ?_ _ | refine Q.setCell ?_ (by (try simp only); first | exact Nat.le_refl _ | assumption | omega) _ | refine Q.drew ?_)
                                clear hK K
                                refine wpAnyH_done (by kernel_rfl) ?_ _
                                refine NoPanic.normal ?_
                                go_wp2_with fail
                                go_meet
                                all_goals (have RW := R0.q QR; (first | (have PS := BP.set2 (.int .i64 SX) (.int .i64 SY)) | skip); (first | (have BM3 := BM.set5 (.string m.nm) (.int .i64 m.x) (.int .i64 m.y) (.int .i64 m.sd) (.int .i64 m.zn)) | skip))
                                all_goals refine ⟨_, _, rfl, rfl, ?_, ?_, ?_, ?_, ?_⟩
                                all_goals first
                                  | (clear QR; omega)
                                  | with_reducible exact (Blk.new _ _ _).alloc _
                                  | with_reducible exact Blk.new1 _ _ _ _
                                  | with_reducible exact PS.alloc _
                                  | with_reducible exact PS.far5 (by with_reducible first | assumption | omega) _ _ _ _ _
                                  | (with_reducible refine Blk.newZ ?_; simp; done)
                                  | with_reducible exact (BM.far2 (by with_reducible first | assumption | omega) _ _).set5 _ _ _ _ _
                                  | with_reducible exact BM3.alloc _
                                  | with_reducible exact (RW.alloc _).alloc _
                                  | with_reducible exact (RW.far2 (by clear QR; omega) _ _).alloc _
                                  | with_reducible exact (RW.far2 (by clear QR; omega) _ _).far5 (by clear QR; omega) _ _ _ _ _
                                  | with_reducible exact (RW.far5 (by clear QR; omega) _ _ _ _ _).alloc _
                                  | with_reducible exact (QR.alloc _).alloc _
                                  | with_reducible exact (QR.set2 (by first | with_reducible exact Nat.le_refl _ | with_reducible assumption) _ _).alloc _
                                  | with_reducible exact (QR.set5 (by first | with_reducible exact Nat.le_refl _ | with_reducible assumption) _ _ _ _ _).alloc _
                                  | with_reducible exact (QR.set2 (by first | with_reducible exact Nat.le_refl _ | with_reducible assumption) _ _).set5 (by first | with_reducible exact Nat.le_refl _ | with_reducible assumption) _ _ _ _ _
                              exact AllReadyH.nil
                            exact AllReadyH.nil
                          exact AllReadyH.nil
                        exact AllReadyH.nil
                      refine AllReadyH.cons rfl (fun K hK => ?_) ?_
                      · go_simp
                        refine hK.out _ _ ?_ (fun hHeld => ?_)
                        · (try dsimp only); first | with_reducible exact hS' _ QR | with_reducible (refine hS' _ ?_; repeat first | assumption | exact Q.refl _ | refine Q.alloc ?_ _ | refine Q.setCell ?_ (by (try simp only); first | exact Nat.le_refl _ | assumption | omega) _ | refine Q.drew ?_)
                        clear hK K
                        refine wpAnyH_ready (rs := [4, 11]) (by kernel_rfl) (by simp) ?_
                        refine AllReadyH.cons rfl (fun K hK => ?_) ?_
                        · go_simp
                          refine hK.out _ _ ?_ (fun hHeld => ?_)
                          · (try dsimp only); first | with_reducible exact hS' _ QR | with_reducible (refine hS' _ ?_; repeat first | assumption | exact Q.refl _ | refine Q.alloc ?_ _ | refine Q.setCell ?_ (by (try simp only); first | exact Nat.le_refl _ | assumption | omega) _ | refine Q.drew ?_)
                          clear hK K
                          refine wpAnyH_ready (rs := [11]) (by kernel_rfl) (by simp) ?_
                          refine AllReadyH.cons rfl (fun K hK => ?_) ?_
                          · go_simp
                            refine hK.out _ _ ?_ (fun hHeld => ?_)
                            · (try dsimp only); first | with_reducible exact hS' _ QR | with_reducible (refine hS' _ ?_; repeat first | assumption | exact Q.refl _ | refine Q.alloc ?_ _ | refine Q.setCell ?_ (by (try simp only); first | exact Nat.le_refl _ | assumption | omega) _ | refine Q.drew ?_)
                            clear hK K
                            refine wpAnyH_ready (rs := [12]) (by kernel_rfl) (by simp) ?_
                            refine AllReadyH.cons rfl (fun K hK => ?_) ?_
                            · go_simp
                              refine hK.out _ _ ?_ (fun hHeld => ?_)
                              · (try dsimp only); first | with_reducible exact hS' _ QR | with_reducible (refine hS' _ ?_; repeat first | assumption | exact Q.refl _ | refine Q.alloc ?_ _ | refine Q.setCell ?_ (by (try simp only); first | exact Nat.le_refl _ | assumption | omega) _ | refine Q.drew ?_)
                              clear hK K
                              refine wpAnyH_ready (rs := [13]) (by kernel_rfl) (by simp) ?_
                              refine AllReadyH.cons rfl (fun K hK => ?_) ?_
                              · go_simp
                                refine hK.out _ _ ?_ (fun hHeld => ?_)
                                · (try dsimp only); first | with_reducible exact hS' _ QR | with_reducible (refine hS' _ ?_; repeat first | assumption | exact Q.refl _ | refine Q.alloc ?_ _ | refine Q.setCell ?_ (by (try simp only); first | exact Nat.le_refl _ | assumption | omega) _ | refine Q.drew ?_)
                                clear hK K
                                refine wpAnyH_done (by kernel_rfl) ?_ _
                                refine NoPanic.normal ?_
                                go_wp2_with fail
                                go_meet
                                all_goals (have RW := R0.q QR; (first | (have PS := BP.set2 (.int .i64 SX) (.int .i64 SY)) | skip); (first | (have BM3 := BM.set5 (.string m.nm) (.int .i64 m.x) (.int .i64 m.y) (.int .i64 m.sd) (.int .i64 m.zn)) | skip))
                                all_goals refine ⟨_, _, rfl, rfl, ?_, ?_, ?_, ?_, ?_⟩
                                all_goals first
                                  | (clear QR; omega)
                                  | with_reducible exact (Blk.new _ _ _).alloc _
                                  | with_reducible exact Blk.new1 _ _ _ _
                                  | with_reducible exact PS.alloc _
                                  | with_reducible exact PS.far5 (by with_reducible first | assumption | omega) _ _ _ _ _
                                  | (with_reducible refine Blk.newZ ?_; simp; done)
                                  | with_reducible exact (BM.far2 (by with_reducible first | assumption | omega) _ _).set5 _ _ _ _ _
                                  | with_reducible exact BM3.alloc _
                                  | with_reducible exact (RW.alloc _).alloc _
                                  | with_reducible exact (RW.far2 (by clear QR; omega) _ _).alloc _
                                  | with_reducible exact (RW.far2 (by clear QR; omega) _ _).far5 (by clear QR; omega) _ _ _ _ _
                                  | with_reducible exact (RW.far5 (by clear QR; omega) _ _ _ _ _).alloc _
                                  | with_reducible exact (QR.alloc _).alloc _
                                  | with_reducible exact (QR.set2 (by first | with_reducible exact Nat.le_refl _ | with_reducible assumption) _ _).alloc _
                                  | with_reducible exact (QR.set5 (by first | with_reducible exact Nat.le_refl _ | with_reducible assumption) _ _ _ _ _).alloc _
                                  | with_reducible exact (QR.set2 (by first | with_reducible exact Nat.le_refl _ | with_reducible assumption) _ _).set5 (by first | with_reducible exact Nat.le_refl _ | with_reducible assumption) _ _ _ _ _
                              exact AllReadyH.nil
                            exact AllReadyH.nil
                          exact AllReadyH.nil
                        refine AllReadyH.cons rfl (fun K hK => ?_) ?_
                        · go_simp
                          refine hK.out _ _ ?_ (fun hHeld => ?_)
                          · (try dsimp only); first | with_reducible exact hS' _ QR | with_reducible (refine hS' _ ?_; repeat first | assumption | exact Q.refl _ | refine Q.alloc ?_ _ | refine Q.setCell ?_ (by (try simp only); first | exact Nat.le_refl _ | assumption | omega) _ | refine Q.drew ?_)
                          clear hK K
                          refine wpAnyH_ready (rs := [4]) (by kernel_rfl) (by simp) ?_
                          refine AllReadyH.cons rfl (fun K hK => ?_) ?_
                          · go_simp
                            refine hK.out _ _ ?_ (fun hHeld => ?_)
                            · (try dsimp only); first | with_reducible exact hS' _ QR | with_reducible (refine hS' _ ?_; repeat first | assumption | exact Q.refl _ | refine Q.alloc ?_ _ | refine Q.setCell ?_ (by (try simp only); first | exact Nat.le_refl _ | assumption | omega) _ | refine Q.drew ?_)
                            clear hK K
                            refine wpAnyH_ready (rs := [12]) (by kernel_rfl) (by simp) ?_
                            refine AllReadyH.cons rfl (fun K hK => ?_) ?_
                            · go_simp
                              refine hK.out _ _ ?_ (fun hHeld => ?_)
                              · (try dsimp only); first | with_reducible exact hS' _ QR | with_reducible (refine hS' _ ?_; repeat first | assumption | exact Q.refl _ | refine Q.alloc ?_ _ | refine Q.setCell ?_ (by (try simp only); first | exact Nat.le_refl _ | assumption | omega) _ | refine Q.drew ?_)
                              clear hK K
                              refine wpAnyH_ready (rs := [13]) (by kernel_rfl) (by simp) ?_
                              refine AllReadyH.cons rfl (fun K hK => ?_) ?_
                              · go_simp
                                refine hK.out _ _ ?_ (fun hHeld => ?_)
                                · (try dsimp only); first | with_reducible exact hS' _ QR | with_reducible (refine hS' _ ?_; repeat first | assumption | exact Q.refl _ | refine Q.alloc ?_ _ | refine Q.setCell ?_ (by (try simp only); first | exact Nat.le_refl _ | assumption | omega) _ | refine Q.drew ?_)
                                clear hK K
                                refine wpAnyH_done (by kernel_rfl) ?_ _
                                refine NoPanic.normal ?_
                                go_wp2_with fail
                                go_meet
                                all_goals (have RW := R0.q QR; (first | (have PS := BP.set2 (.int .i64 SX) (.int .i64 SY)) | skip); (first | (have BM3 := BM.set5 (.string m.nm) (.int .i64 m.x) (.int .i64 m.y) (.int .i64 m.sd) (.int .i64 m.zn)) | skip))
                                all_goals refine ⟨_, _, rfl, rfl, ?_, ?_, ?_, ?_, ?_⟩
                                all_goals first
                                  | (clear QR; omega)
                                  | with_reducible exact (Blk.new _ _ _).alloc _
                                  | with_reducible exact Blk.new1 _ _ _ _
                                  | with_reducible exact PS.alloc _
                                  | with_reducible exact PS.far5 (by with_reducible first | assumption | omega) _ _ _ _ _
                                  | (with_reducible refine Blk.newZ ?_; simp; done)
                                  | with_reducible exact (BM.far2 (by with_reducible first | assumption | omega) _ _).set5 _ _ _ _ _
                                  | with_reducible exact BM3.alloc _
                                  | with_reducible exact (RW.alloc _).alloc _
                                  | with_reducible exact (RW.far2 (by clear QR; omega) _ _).alloc _
                                  | with_reducible exact (RW.far2 (by clear QR; omega) _ _).far5 (by clear QR; omega) _ _ _ _ _
                                  | with_reducible exact (RW.far5 (by clear QR; omega) _ _ _ _ _).alloc _
                                  | with_reducible exact (QR.alloc _).alloc _
                                  | with_reducible exact (QR.set2 (by first | with_reducible exact Nat.le_refl _ | with_reducible assumption) _ _).alloc _
                                  | with_reducible exact (QR.set5 (by first | with_reducible exact Nat.le_refl _ | with_reducible assumption) _ _ _ _ _).alloc _
                                  | with_reducible exact (QR.set2 (by first | with_reducible exact Nat.le_refl _ | with_reducible assumption) _ _).set5 (by first | with_reducible exact Nat.le_refl _ | with_reducible assumption) _ _ _ _ _
                              exact AllReadyH.nil
                            exact AllReadyH.nil
                          exact AllReadyH.nil
                        exact AllReadyH.nil
                      refine AllReadyH.cons rfl (fun K hK => ?_) ?_
                      · go_simp
                        refine hK.out _ _ ?_ (fun hHeld => ?_)
                        · (try dsimp only); first | with_reducible exact hS' _ QR | with_reducible (refine hS' _ ?_; repeat first | assumption | exact Q.refl _ | refine Q.alloc ?_ _ | refine Q.setCell ?_ (by (try simp only); first | exact Nat.le_refl _ | assumption | omega) _ | refine Q.drew ?_)
                        clear hK K
                        refine wpAnyH_ready (rs := [4, 10]) (by kernel_rfl) (by simp) ?_
                        refine AllReadyH.cons rfl (fun K hK => ?_) ?_
                        · go_simp
                          refine hK.out _ _ ?_ (fun hHeld => ?_)
                          · (try dsimp only); first | with_reducible exact hS' _ QR | with_reducible (refine hS' _ ?_; repeat first | assumption | exact Q.refl _ | refine Q.alloc ?_ _ | refine Q.setCell ?_ (by (try simp only); first | exact Nat.le_refl _ | assumption | omega) _ | refine Q.drew ?_)
                          clear hK K
                          refine wpAnyH_ready (rs := [10]) (by kernel_rfl) (by simp) ?_
                          refine AllReadyH.cons rfl (fun K hK => ?_) ?_
                          · go_simp
                            refine hK.out _ _ ?_ (fun hHeld => ?_)
                            · (try dsimp only); first | with_reducible exact hS' _ QR | with_reducible (refine hS' _ ?_; repeat first | assumption | exact Q.refl _ | refine Q.alloc ?_ _ | refine Q.setCell ?_ (by (try simp only); first | exact Nat.le_refl _ | assumption | omega) _ | refine Q.drew ?_)
                            clear hK K
                            refine wpAnyH_ready (rs := [12]) (by kernel_rfl) (by simp) ?_
                            refine AllReadyH.cons rfl (fun K hK => ?_) ?_
                            · go_simp
                              refine hK.out _ _ ?_ (fun hHeld => ?_)
                              · (try dsimp only); first | with_reducible exact hS' _ QR | with_reducible (refine hS' _ ?_; repeat first | assumption | exact Q.refl _ | refine Q.alloc ?_ _ | refine Q.setCell ?_ (by (try simp only); first | exact Nat.le_refl _ | assumption | omega) _ | refine Q.drew ?_)
                              clear hK K
                              refine wpAnyH_ready (rs := [13]) (by kernel_rfl) (by simp) ?_
                              refine AllReadyH.cons rfl (fun K hK => ?_) ?_
                              · go_simp
                                refine hK.out _ _ ?_ (fun hHeld => ?_)
                                · (try dsimp only); first | with_reducible exact hS' _ QR | with_reducible (refine hS' _ ?_; repeat first | assumption | exact Q.refl _ | refine Q.alloc ?_ _ | refine Q.setCell ?_ (by (try simp only); first | exact Nat.le_refl _ | assumption | omega) _ | refine Q.drew ?_)
                                clear hK K
                                refine wpAnyH_done (by kernel_rfl) ?_ _
                                refine NoPanic.normal ?_
                                go_wp2_with fail
                                go_meet
                                all_goals (have RW := R0.q QR; (first | (have PS := BP.set2 (.int .i64 SX) (.int .i64 SY)) | skip); (first | (have BM3 := BM.set5 (.string m.nm) (.int .i64 m.x) (.int .i64 m.y) (.int .i64 m.sd) (.int .i64 m.zn)) | skip))
                                all_goals refine ⟨_, _, rfl, rfl, ?_, ?_, ?_, ?_, ?_⟩
                                all_goals first
                                  | (clear QR; omega)
                                  | with_reducible exact (Blk.new _ _ _).alloc _
                                  | with_reducible exact Blk.new1 _ _ _ _
                                  | with_reducible exact PS.alloc _
                                  | with_reducible exact PS.far5 (by with_reducible first | assumption | omega) _ _ _ _ _
                                  | (with_reducible refine Blk.newZ ?_; simp; done)
                                  | with_reducible exact (BM.far2 (by with_reducible first | assumption | omega) _ _).set5 _ _ _ _ _
                                  | with_reducible exact BM3.alloc _
                                  | with_reducible exact (RW.alloc _).alloc _
                                  | with_reducible exact (RW.far2 (by clear QR; omega) _ _).alloc _
                                  | with_reducible exact (RW.far2 (by clear QR; omega) _ _).far5 (by clear QR; omega) _ _ _ _ _
                                  | with_reducible exact (RW.far5 (by clear QR; omega) _ _ _ _ _).alloc _
                                  | with_reducible exact (QR.alloc _).alloc _
                                  | with_reducible exact (QR.set2 (by first | with_reducible exact Nat.le_refl _ | with_reducible assumption) _ _).alloc _
                                  | with_reducible exact (QR.set5 (by first | with_reducible exact Nat.le_refl _ | with_reducible assumption) _ _ _ _ _).alloc _
                                  | with_reducible exact (QR.set2 (by first | with_reducible exact Nat.le_refl _ | with_reducible assumption) _ _).set5 (by first | with_reducible exact Nat.le_refl _ | with_reducible assumption) _ _ _ _ _
                              exact AllReadyH.nil
                            exact AllReadyH.nil
                          exact AllReadyH.nil
                        refine AllReadyH.cons rfl (fun K hK => ?_) ?_
                        · go_simp
                          refine hK.out _ _ ?_ (fun hHeld => ?_)
                          · (try dsimp only); first | with_reducible exact hS' _ QR | with_reducible (refine hS' _ ?_; repeat first | assumption | exact Q.refl _ | refine Q.alloc ?_ _ | refine Q.setCell ?_ (by (try simp only); first | exact Nat.le_refl _ | assumption | omega) _ | refine Q.drew ?_)
                          clear hK K
                          refine wpAnyH_ready (rs := [4]) (by kernel_rfl) (by simp) ?_
                          refine AllReadyH.cons rfl (fun K hK => ?_) ?_
                          · go_simp
                            refine hK.out _ _ ?_ (fun hHeld => ?_)
                            · (try dsimp only); first | with_reducible exact hS' _ QR | with_reducible (refine hS' _ ?_; repeat first | assumption | exact Q.refl _ | refine Q.alloc ?_ _ | refine Q.setCell ?_ (by (try simp only); first | exact Nat.le_refl _ | assumption | omega) _ | refine Q.drew ?_)
                            clear hK K
                            refine wpAnyH_ready (rs := [12]) (by kernel_rfl) (by simp) ?_
                            refine AllReadyH.cons rfl (fun K hK => ?_) ?_
                            · go_simp
                              refine hK.out _ _ ?_ (fun hHeld => ?_)
                              · (try dsimp only); first | with_reducible exact hS' _ QR | with_reducible (refine hS' _ ?_; repeat first | assumption | exact Q.refl _ | refine Q.alloc ?_ _ | refine Q.setCell ?_ (by (try simp only); first | exact Nat.le_refl _ | assumption | omega) _ | refine Q.drew ?_)
                              clear hK K
                              refine wpAnyH_ready (rs := [13]) (by kernel_rfl) (by simp) ?_
                              refine AllReadyH.cons rfl (fun K hK => ?_) ?_
                              · go_simp
                                refine hK.out _ _ ?_ (fun hHeld => ?_)
                                · (try dsimp only); first | with_reducible exact hS' _ QR | with_reducible (refine hS' _ ?_; repeat first | assumption | exact Q.refl _ | refine Q.alloc ?_ _ | refine Q.setCell ?_ (by (try simp only); first | exact Nat.le_refl _ | assumption | omega) _ | refine Q.drew ?_)
                                clear hK K
                                refine wpAnyH_done (by kernel_rfl) ?_ _
                                refine NoPanic.normal ?_
                                go_wp2_with fail
                                go_meet
                                all_goals (have RW := R0.q QR; (first | (have PS := BP.set2 (.int .i64 SX) (.int .i64 SY)) | skip); (first | (have BM3 := BM.set5 (.string m.nm) (.int .i64 m.x) (.int .i64 m.y) (.int .i64 m.sd) (.int .i64 m.zn)) | skip))
                                all_goals refine ⟨_, _, rfl, rfl, ?_, ?_, ?_, ?_, ?_⟩
                                all_goals first
                                  | (clear QR; omega)
                                  | with_reducible exact (Blk.new _ _ _).alloc _
                                  | with_reducible exact Blk.new1 _ _ _ _
                                  | with_reducible exact PS.alloc _
                                  | with_reducible exact PS.far5 (by with_reducible first | assumption | omega) _ _ _ _ _
                                  | (with_reducible refine Blk.newZ ?_; simp; done)
                                  | with_reducible exact (BM.far2 (by with_reducible first | assumption | omega) _ _).set5 _ _ _ _ _
                                  | with_reducible exact BM3.alloc _
                                  | with_reducible exact (RW.alloc _).alloc _
                                  | with_reducible exact (RW.far2 (by clear QR; omega) _ _).alloc _
                                  | with_reducible exact (RW.far2 (by clear QR; omega) _ _).far5 (by clear QR; omega) _ _ _ _ _
                                  | with_reducible exact (RW.far5 (by clear QR; omega) _ _ _ _ _).alloc _
                                  | with_reducible exact (QR.alloc _).alloc _
                                  | with_reducible exact (QR.set2 (by first | with_reducible exact Nat.le_refl _ | with_reducible assumption) _ _).alloc _
                                  | with_reducible exact (QR.set5 (by first | with_reducible exact Nat.le_refl _ | with_reducible assumption) _ _ _ _ _).alloc _
                                  | with_reducible exact (QR.set2 (by first | with_reducible exact Nat.le_refl _ | with_reducible assumption) _ _).set5 (by first | with_reducible exact Nat.le_refl _ | with_reducible assumption) _ _ _ _ _
                              exact AllReadyH.nil
                            exact AllReadyH.nil
                          exact AllReadyH.nil
                        exact AllReadyH.nil
                      exact AllReadyH.nil
                  refine AllReadyH.cons rfl (fun K hK => ?_) ?_
                  · go_simp
                    refine hK.out _ _ ?_ (fun hHeld => ?_)
                    · (try dsimp only); first | with_reducible exact hS' _ QR | with_reducible (refine hS' _ ?_; repeat first | assumption | exact Q.refl _ | refine Q.alloc ?_ _ | refine Q.setCell ?_ (by (try simp only); first | exact Nat.le_refl _ | assumption | omega) _ | refine Q.drew ?_)
                    clear hK K
                    refine wpAnyH_ready (rs := [1, 11]) (by kernel_rfl) (by simp) ?_
                    refine AllReadyH.cons rfl (fun K hK => ?_) ?_
                    · go_simp
                      (first | (go_at_call 49; refine (KS.out _ (haw.q (by ((repeat (first | with_reducible assumption | with_reducible exact Q.refl _ | with_reducible refine Q.alloc ?_ _ | with_reducible refine Q.setCell ?_ (by (try simp only); first | with_reducible exact Nat.le_refl _ | with_reducible assumption | omega) _ | with_reducible refine Q.drew ?_)); done)))).mono ?_; rintro e5 w5 ⟨AS, cS, rfl, oS, q5⟩; obtain ⟨gS, rfl, hB⟩ := oS.split (show 0 < n + 2 by omega); have lS : gS < w5.heap.size := (oS.lt gS rfl).2; have hB2 := hB; simp only [World.size_alloc, World.size_drew] at hB2; (first | (have nS : gS ≠ w0.heap.size := ?hb; (case hb => omega)) | skip); (first | (have nS' : gS ≠ w0.heap.size + 1 := ?hb; (case hb => omega)) | skip); have QR : Q w0 w5 := Q.trans (by ((repeat (first | with_reducible assumption | with_reducible exact Q.refl _ | with_reducible refine Q.alloc ?_ _ | with_reducible refine Q.setCell ?_ (by (try simp only); first | with_reducible exact Nat.le_refl _ | with_reducible assumption | omega) _ | with_reducible refine Q.drew ?_)); done)) q5; have x0 : w5.cell? ⟨gS, k * 2, none⟩ = some (.int .i64 SX) := (oS.cell (by have := HSn.out; have := HNn.out; omega)).trans (by rw [show SL.getD (k * 2) 0 = el SL (k * 2) from rfl, HS1.out]); have y0 : w5.cell? ⟨gS, k * 2 + 1, none⟩ = some (.int .i64 SY) := (oS.cell (by have := HSn.out; have := HNn.out; omega)).trans (by rw [show SL.getD (k * 2 + 1) 0 = el SL (k * 2 + 1) from rfl, HS2.out]); have z5 := q5.size; have zR := QR.size; have hle1 : w0.heap.size ≤ w0.heap.size + 1 := Nat.le_succ _; have hne1 : w0.heap.size ≠ w0.heap.size + 1 := Nat.ne_of_lt (Nat.lt_succ_self _); have hne2 : w0.heap.size + 1 ≠ w0.heap.size := fun h => hne1 h.symm; (first | (have BP : Blk w5 w0.heap.size 25 #[.int .i64 0, .int .i64 0] := ?hb; (case hb => (refine Blk.q ?_ q5; (repeat (first | exact Blk.new _ _ _ | exact Blk.drew (Blk.new _ _ _) | exact Blk.new1 _ _ _ _ | refine Blk.alloc ?_ _ | refine Blk.far ?_ (by simp) _)); done))) | (have BP : Blk w5 (w0.heap.size + 1) 25 #[.int .i64 0, .int .i64 0] := ?hb; (case hb => (refine Blk.q ?_ q5; (repeat (first | exact Blk.new _ _ _ | exact Blk.drew (Blk.new _ _ _) | exact Blk.new1 _ _ _ _ | refine Blk.alloc ?_ _ | refine Blk.far ?_ (by simp) _)); done))) | skip); (first | (have BM : Blk w5 w0.heap.size 85 #[.string ByteArray.empty, .int .i64 0, .int .i64 0, .int .i64 0, .int .i64 0] := ?hb; (case hb => (refine Blk.q ?_ q5; (repeat (first | exact Blk.new _ _ _ | exact Blk.drew (Blk.new _ _ _) | exact Blk.new1 _ _ _ _ | refine Blk.alloc ?_ _ | refine Blk.far ?_ (by simp) _)); done))) | (have BM : Blk w5 w0.heap.size 85 #[.string m.nm, .int .i64 m.x, .int .i64 m.y, .int .i64 m.sd, .int .i64 m.zn] := ?hb; (case hb => (refine Blk.q ?_ q5; (repeat (first | exact Blk.new _ _ _ | exact Blk.drew (Blk.new _ _ _) | exact Blk.new1 _ _ _ _ | refine Blk.alloc ?_ _ | refine Blk.far ?_ (by simp) _)); done))) | (have BM : Blk w5 (w0.heap.size + 1) 85 #[.string ByteArray.empty, .int .i64 0, .int .i64 0, .int .i64 0, .int .i64 0] := ?hb; (case hb => (refine Blk.q ?_ q5; (repeat (first | exact Blk.new _ _ _ | exact Blk.drew (Blk.new _ _ _) | exact Blk.new1 _ _ _ _ | refine Blk.alloc ?_ _ | refine Blk.far ?_ (by simp) _)); done))) | (have BM : Blk w5 (w0.heap.size + 1) 85 #[.string m.nm, .int .i64 m.x, .int .i64 m.y, .int .i64 m.sd, .int .i64 m.zn] := ?hb; (case hb => (refine Blk.q ?_ q5; (repeat (first | exact Blk.new _ _ _ | exact Blk.drew (Blk.new _ _ _) | exact Blk.new1 _ _ _ _ | refine Blk.alloc ?_ _ | refine Blk.far ?_ (by simp) _)); done))) | skip); (first | (have bpc := BP.cell; have bpf := BP.frozen; have bpl := BP.lt) | skip); (first | (have bmc := BM.cell; have bmf := BM.frozen; have bml := BM.lt) | skip); generalize w0.heap.size + 1 = b1x at *))
                      refine hK.out _ _ ?_ (fun hHeld => ?_)
                      · (try dsimp only); first | with_reducible exact hS' _ QR | with_reducible (refine hS' _ ?_; repeat first | assumption | exact Q.refl _ | refine Q.alloc ?_ _ | refine Q.setCell ?_ (by (try simp only); first | exact Nat.le_refl _ | assumption | omega) _ | refine Q.drew ?_)
                      clear hK K
                      refine wpAnyH_take (i := 3) (v := ?v3x9) rfl (by kernel_rfl) (by kernel_rfl) (by kernel_rfl) (fun _ _ _ h => h) (Or.inl ⟨by rfl, ?y3x9⟩) (by assumption) ?t3x9
                      case y3x9 => (intro w hSw; (try dsimp only at hSw); go_simp; try with_reducible rfl)
                      case t3x9 =>
                        try simp only [Act.put, List.setIfInBounds_toArray, List.set_cons_zero, List.set_cons_succ]
                        refine wpAnyH_ready (rs := [4, 11]) (by kernel_rfl) (by simp) ?_
                        refine AllReadyH.cons rfl (fun K hK => ?_) ?_
                        · go_simp
                          refine hK.out _ _ ?_ (fun hHeld => ?_)
                          · (try dsimp only); first | with_reducible exact hS' _ QR | with_reducible (refine hS' _ ?_; repeat first | assumption | exact Q.refl _ | refine Q.alloc ?_ _ | refine Q.setCell ?_ (by (try simp only); first | exact Nat.le_refl _ | assumption | omega) _ | refine Q.drew ?_)
                          clear hK K
                          refine wpAnyH_ready (rs := [11]) (by kernel_rfl) (by simp) ?_
                          refine AllReadyH.cons rfl (fun K hK => ?_) ?_
                          · go_simp
                            refine hK.out _ _ ?_ (fun hHeld => ?_)
                            · (try dsimp only); first | with_reducible exact hS' _ QR | with_reducible (refine hS' _ ?_; repeat first | assumption | exact Q.refl _ | refine Q.alloc ?_ _ | refine Q.setCell ?_ (by (try simp only); first | exact Nat.le_refl _ | assumption | omega) _ | refine Q.drew ?_)
                            clear hK K
                            refine wpAnyH_ready (rs := [12]) (by kernel_rfl) (by simp) ?_
                            refine AllReadyH.cons rfl (fun K hK => ?_) ?_
                            · go_simp
                              refine hK.out _ _ ?_ (fun hHeld => ?_)
                              · (try dsimp only); first | with_reducible exact hS' _ QR | with_reducible (refine hS' _ ?_; repeat first | assumption | exact Q.refl _ | refine Q.alloc ?_ _ | refine Q.setCell ?_ (by (try simp only); first | exact Nat.le_refl _ | assumption | omega) _ | refine Q.drew ?_)
                              clear hK K
                              refine wpAnyH_ready (rs := [13]) (by kernel_rfl) (by simp) ?_
                              refine AllReadyH.cons rfl (fun K hK => ?_) ?_
                              · go_simp
                                refine hK.out _ _ ?_ (fun hHeld => ?_)
                                · (try dsimp only); first | with_reducible exact hS' _ QR | with_reducible (refine hS' _ ?_; repeat first | assumption | exact Q.refl _ | refine Q.alloc ?_ _ | refine Q.setCell ?_ (by (try simp only); first | exact Nat.le_refl _ | assumption | omega) _ | refine Q.drew ?_)
                                clear hK K
                                refine wpAnyH_done (by kernel_rfl) ?_ _
                                refine NoPanic.normal ?_
                                go_wp2_with fail
                                go_meet
                                all_goals (have RW := R0.q QR; (first | (have PS := BP.set2 (.int .i64 SX) (.int .i64 SY)) | skip); (first | (have BM3 := BM.set5 (.string m.nm) (.int .i64 m.x) (.int .i64 m.y) (.int .i64 m.sd) (.int .i64 m.zn)) | skip))
                                all_goals refine ⟨_, _, rfl, rfl, ?_, ?_, ?_, ?_, ?_⟩
                                all_goals first
                                  | (clear QR; omega)
                                  | with_reducible exact (Blk.new _ _ _).alloc _
                                  | with_reducible exact Blk.new1 _ _ _ _
                                  | with_reducible exact PS.alloc _
                                  | with_reducible exact PS.far5 (by with_reducible first | assumption | omega) _ _ _ _ _
                                  | (with_reducible refine Blk.newZ ?_; simp; done)
                                  | with_reducible exact (BM.far2 (by with_reducible first | assumption | omega) _ _).set5 _ _ _ _ _
                                  | with_reducible exact BM3.alloc _
                                  | with_reducible exact (RW.alloc _).alloc _
                                  | with_reducible exact (RW.far2 (by clear QR; omega) _ _).alloc _
                                  | with_reducible exact (RW.far2 (by clear QR; omega) _ _).far5 (by clear QR; omega) _ _ _ _ _
                                  | with_reducible exact (RW.far5 (by clear QR; omega) _ _ _ _ _).alloc _
                                  | with_reducible exact (QR.alloc _).alloc _
                                  | with_reducible exact (QR.set2 (by first | with_reducible exact Nat.le_refl _ | with_reducible assumption) _ _).alloc _
                                  | with_reducible exact (QR.set5 (by first | with_reducible exact Nat.le_refl _ | with_reducible assumption) _ _ _ _ _).alloc _
                                  | with_reducible exact (QR.set2 (by first | with_reducible exact Nat.le_refl _ | with_reducible assumption) _ _).set5 (by first | with_reducible exact Nat.le_refl _ | with_reducible assumption) _ _ _ _ _
                              exact AllReadyH.nil
                            exact AllReadyH.nil
                          exact AllReadyH.nil
                        refine AllReadyH.cons rfl (fun K hK => ?_) ?_
                        · go_simp
                          refine hK.out _ _ ?_ (fun hHeld => ?_)
                          · (try dsimp only); first | with_reducible exact hS' _ QR | with_reducible (refine hS' _ ?_; repeat first | assumption | exact Q.refl _ | refine Q.alloc ?_ _ | refine Q.setCell ?_ (by (try simp only); first | exact Nat.le_refl _ | assumption | omega) _ | refine Q.drew ?_)
                          clear hK K
                          refine wpAnyH_ready (rs := [4]) (by kernel_rfl) (by simp) ?_
                          refine AllReadyH.cons rfl (fun K hK => ?_) ?_
                          · go_simp
                            refine hK.out _ _ ?_ (fun hHeld => ?_)
                            · (try dsimp only); first | with_reducible exact hS' _ QR | with_reducible (refine hS' _ ?_; repeat first | assumption | exact Q.refl _ | refine Q.alloc ?_ _ | refine Q.setCell ?_ (by (try simp only); first | exact Nat.le_refl _ | assumption | omega) _ | refine Q.drew ?_)
                            clear hK K
                            refine wpAnyH_ready (rs := [12]) (by kernel_rfl) (by simp) ?_
                            refine AllReadyH.cons rfl (fun K hK => ?_) ?_
                            · go_simp
                              refine hK.out _ _ ?_ (fun hHeld => ?_)
                              · (try dsimp only); first | with_reducible exact hS' _ QR | with_reducible (refine hS' _ ?_; repeat first | assumption | exact Q.refl _ | refine Q.alloc ?_ _ | refine Q.setCell ?_ (by (try simp only); first | exact Nat.le_refl _ | assumption | omega) _ | refine Q.drew ?_)
                              clear hK K
                              refine wpAnyH_ready (rs := [13]) (by kernel_rfl) (by simp) ?_
                              refine AllReadyH.cons rfl (fun K hK => ?_) ?_
                              · go_simp
                                refine hK.out _ _ ?_ (fun hHeld => ?_)
                                · (try dsimp only); first | with_reducible exact hS' _ QR | with_reducible (refine hS' _ ?_; repeat first | assumption | exact Q.refl _ | refine Q.alloc ?_ _ | refine Q.setCell ?_ (by (try simp only); first | exact Nat.le_refl _ | assumption | omega) _ | refine Q.drew ?_)
                                clear hK K
                                refine wpAnyH_done (by kernel_rfl) ?_ _
                                refine NoPanic.normal ?_
                                go_wp2_with fail
                                go_meet
                                all_goals (have RW := R0.q QR; (first | (have PS := BP.set2 (.int .i64 SX) (.int .i64 SY)) | skip); (first | (have BM3 := BM.set5 (.string m.nm) (.int .i64 m.x) (.int .i64 m.y) (.int .i64 m.sd) (.int .i64 m.zn)) | skip))
                                all_goals refine ⟨_, _, rfl, rfl, ?_, ?_, ?_, ?_, ?_⟩
                                all_goals first
                                  | (clear QR; omega)
                                  | with_reducible exact (Blk.new _ _ _).alloc _
                                  | with_reducible exact Blk.new1 _ _ _ _
                                  | with_reducible exact PS.alloc _
                                  | with_reducible exact PS.far5 (by with_reducible first | assumption | omega) _ _ _ _ _
                                  | (with_reducible refine Blk.newZ ?_; simp; done)
                                  | with_reducible exact (BM.far2 (by with_reducible first | assumption | omega) _ _).set5 _ _ _ _ _
                                  | with_reducible exact BM3.alloc _
                                  | with_reducible exact (RW.alloc _).alloc _
                                  | with_reducible exact (RW.far2 (by clear QR; omega) _ _).alloc _
                                  | with_reducible exact (RW.far2 (by clear QR; omega) _ _).far5 (by clear QR; omega) _ _ _ _ _
                                  | with_reducible exact (RW.far5 (by clear QR; omega) _ _ _ _ _).alloc _
                                  | with_reducible exact (QR.alloc _).alloc _
                                  | with_reducible exact (QR.set2 (by first | with_reducible exact Nat.le_refl _ | with_reducible assumption) _ _).alloc _
                                  | with_reducible exact (QR.set5 (by first | with_reducible exact Nat.le_refl _ | with_reducible assumption) _ _ _ _ _).alloc _
                                  | with_reducible exact (QR.set2 (by first | with_reducible exact Nat.le_refl _ | with_reducible assumption) _ _).set5 (by first | with_reducible exact Nat.le_refl _ | with_reducible assumption) _ _ _ _ _
                              exact AllReadyH.nil
                            exact AllReadyH.nil
                          exact AllReadyH.nil
                        exact AllReadyH.nil
                    refine AllReadyH.cons rfl (fun K hK => ?_) ?_
                    · go_simp
                      refine hK.out _ _ ?_ (fun hHeld => ?_)
                      · (try dsimp only); first | with_reducible exact hS' _ QR | with_reducible (refine hS' _ ?_; repeat first | assumption | exact Q.refl _ | refine Q.alloc ?_ _ | refine Q.setCell ?_ (by (try simp only); first | exact Nat.le_refl _ | assumption | omega) _ | refine Q.drew ?_)
                      clear hK K
                      refine wpAnyH_ready (rs := [1]) (by kernel_rfl) (by simp) ?_
                      refine AllReadyH.cons rfl (fun K hK => ?_) ?_
                      · go_simp
                        (first | (go_at_call 49; refine (KS.out _ (haw.q (by ((repeat (first | with_reducible assumption | with_reducible exact Q.refl _ | with_reducible refine Q.alloc ?_ _ | with_reducible refine Q.setCell ?_ (by (try simp only); first | with_reducible exact Nat.le_refl _ | with_reducible assumption | omega) _ | with_reducible refine Q.drew ?_)); done)))).mono ?_; rintro e5 w5 ⟨AS, cS, rfl, oS, q5⟩; obtain ⟨gS, rfl, hB⟩ := oS.split (show 0 < n + 2 by omega); have lS : gS < w5.heap.size := (oS.lt gS rfl).2; have hB2 := hB; simp only [World.size_alloc, World.size_drew] at hB2; (first | (have nS : gS ≠ w0.heap.size := ?hb; (case hb => omega)) | skip); (first | (have nS' : gS ≠ w0.heap.size + 1 := ?hb; (case hb => omega)) | skip); have QR : Q w0 w5 := Q.trans (by ((repeat (first | with_reducible assumption | with_reducible exact Q.refl _ | with_reducible refine Q.alloc ?_ _ | with_reducible refine Q.setCell ?_ (by (try simp only); first | with_reducible exact Nat.le_refl _ | with_reducible assumption | omega) _ | with_reducible refine Q.drew ?_)); done)) q5; have x0 : w5.cell? ⟨gS, k * 2, none⟩ = some (.int .i64 SX) := (oS.cell (by have := HSn.out; have := HNn.out; omega)).trans (by rw [show SL.getD (k * 2) 0 = el SL (k * 2) from rfl, HS1.out]); have y0 : w5.cell? ⟨gS, k * 2 + 1, none⟩ = some (.int .i64 SY) := (oS.cell (by have := HSn.out; have := HNn.out; omega)).trans (by rw [show SL.getD (k * 2 + 1) 0 = el SL (k * 2 + 1) from rfl, HS2.out]); have z5 := q5.size; have zR := QR.size; have hle1 : w0.heap.size ≤ w0.heap.size + 1 := Nat.le_succ _; have hne1 : w0.heap.size ≠ w0.heap.size + 1 := Nat.ne_of_lt (Nat.lt_succ_self _); have hne2 : w0.heap.size + 1 ≠ w0.heap.size := fun h => hne1 h.symm; (first | (have BP : Blk w5 w0.heap.size 25 #[.int .i64 0, .int .i64 0] := ?hb; (case hb => (refine Blk.q ?_ q5; (repeat (first | exact Blk.new _ _ _ | exact Blk.drew (Blk.new _ _ _) | exact Blk.new1 _ _ _ _ | refine Blk.alloc ?_ _ | refine Blk.far ?_ (by simp) _)); done))) | (have BP : Blk w5 (w0.heap.size + 1) 25 #[.int .i64 0, .int .i64 0] := ?hb; (case hb => (refine Blk.q ?_ q5; (repeat (first | exact Blk.new _ _ _ | exact Blk.drew (Blk.new _ _ _) | exact Blk.new1 _ _ _ _ | refine Blk.alloc ?_ _ | refine Blk.far ?_ (by simp) _)); done))) | skip); (first | (have BM : Blk w5 w0.heap.size 85 #[.string ByteArray.empty, .int .i64 0, .int .i64 0, .int .i64 0, .int .i64 0] := ?hb; (case hb => (refine Blk.q ?_ q5; (repeat (first | exact Blk.new _ _ _ | exact Blk.drew (Blk.new _ _ _) | exact Blk.new1 _ _ _ _ | refine Blk.alloc ?_ _ | refine Blk.far ?_ (by simp) _)); done))) | (have BM : Blk w5 w0.heap.size 85 #[.string m.nm, .int .i64 m.x, .int .i64 m.y, .int .i64 m.sd, .int .i64 m.zn] := ?hb; (case hb => (refine Blk.q ?_ q5; (repeat (first | exact Blk.new _ _ _ | exact Blk.drew (Blk.new _ _ _) | exact Blk.new1 _ _ _ _ | refine Blk.alloc ?_ _ | refine Blk.far ?_ (by simp) _)); done))) | (have BM : Blk w5 (w0.heap.size + 1) 85 #[.string ByteArray.empty, .int .i64 0, .int .i64 0, .int .i64 0, .int .i64 0] := ?hb; (case hb => (refine Blk.q ?_ q5; (repeat (first | exact Blk.new _ _ _ | exact Blk.drew (Blk.new _ _ _) | exact Blk.new1 _ _ _ _ | refine Blk.alloc ?_ _ | refine Blk.far ?_ (by simp) _)); done))) | (have BM : Blk w5 (w0.heap.size + 1) 85 #[.string m.nm, .int .i64 m.x, .int .i64 m.y, .int .i64 m.sd, .int .i64 m.zn] := ?hb; (case hb => (refine Blk.q ?_ q5; (repeat (first | exact Blk.new _ _ _ | exact Blk.drew (Blk.new _ _ _) | exact Blk.new1 _ _ _ _ | refine Blk.alloc ?_ _ | refine Blk.far ?_ (by simp) _)); done))) | skip); (first | (have bpc := BP.cell; have bpf := BP.frozen; have bpl := BP.lt) | skip); (first | (have bmc := BM.cell; have bmf := BM.frozen; have bml := BM.lt) | skip); generalize w0.heap.size + 1 = b1x at *))
                        refine hK.out _ _ ?_ (fun hHeld => ?_)
                        · (try dsimp only); first | with_reducible exact hS' _ QR | with_reducible (refine hS' _ ?_; repeat first | assumption | exact Q.refl _ | refine Q.alloc ?_ _ | refine Q.setCell ?_ (by (try simp only); first | exact Nat.le_refl _ | assumption | omega) _ | refine Q.drew ?_)
                        clear hK K
                        refine wpAnyH_take (i := 3) (v := ?v3x10) rfl (by kernel_rfl) (by kernel_rfl) (by kernel_rfl) (fun _ _ _ h => h) (Or.inl ⟨by rfl, ?y3x10⟩) (by assumption) ?t3x10
                        case y3x10 => (intro w hSw; (try dsimp only at hSw); go_simp; try with_reducible rfl)
                        case t3x10 =>
                          try simp only [Act.put, List.setIfInBounds_toArray, List.set_cons_zero, List.set_cons_succ]
                          refine wpAnyH_ready (rs := [4]) (by kernel_rfl) (by simp) ?_
                          refine AllReadyH.cons rfl (fun K hK => ?_) ?_
                          · go_simp
                            refine hK.out _ _ ?_ (fun hHeld => ?_)
                            · (try dsimp only); first | with_reducible exact hS' _ QR | with_reducible (refine hS' _ ?_; repeat first | assumption | exact Q.refl _ | refine Q.alloc ?_ _ | refine Q.setCell ?_ (by (try simp only); first | exact Nat.le_refl _ | assumption | omega) _ | refine Q.drew ?_)
                            clear hK K
                            refine wpAnyH_ready (rs := [12]) (by kernel_rfl) (by simp) ?_
                            refine AllReadyH.cons rfl (fun K hK => ?_) ?_
                            · go_simp
                              refine hK.out _ _ ?_ (fun hHeld => ?_)
                              · (try dsimp only); first | with_reducible exact hS' _ QR | with_reducible (refine hS' _ ?_; repeat first | assumption | exact Q.refl _ | refine Q.alloc ?_ _ | refine Q.setCell ?_ (by (try simp only); first | exact Nat.le_refl _ | assumption | omega) _ | refine Q.drew ?_)
                              clear hK K
                              refine wpAnyH_ready (rs := [13]) (by kernel_rfl) (by simp) ?_
                              refine AllReadyH.cons rfl (fun K hK => ?_) ?_
                              · go_simp
                                refine hK.out _ _ ?_ (fun hHeld => ?_)
                                · (try dsimp only); first | with_reducible exact hS' _ QR | with_reducible (refine hS' _ ?_; repeat first | assumption | exact Q.refl _ | refine Q.alloc ?_ _ | refine Q.setCell ?_ (by (try simp only); first | exact Nat.le_refl _ | assumption | omega) _ | refine Q.drew ?_)
                                clear hK K
                                refine wpAnyH_done (by kernel_rfl) ?_ _
                                refine NoPanic.normal ?_
                                go_wp2_with fail
                                go_meet
                                all_goals (have RW := R0.q QR; (first | (have PS := BP.set2 (.int .i64 SX) (.int .i64 SY)) | skip); (first | (have BM3 := BM.set5 (.string m.nm) (.int .i64 m.x) (.int .i64 m.y) (.int .i64 m.sd) (.int .i64 m.zn)) | skip))
                                all_goals refine ⟨_, _, rfl, rfl, ?_, ?_, ?_, ?_, ?_⟩
                                all_goals first
                                  | (clear QR; omega)
                                  | with_reducible exact (Blk.new _ _ _).alloc _
                                  | with_reducible exact Blk.new1 _ _ _ _
                                  | with_reducible exact PS.alloc _
                                  | with_reducible exact PS.far5 (by with_reducible first | assumption | omega) _ _ _ _ _
                                  | (with_reducible refine Blk.newZ ?_; simp; done)
                                  | with_reducible exact (BM.far2 (by with_reducible first | assumption | omega) _ _).set5 _ _ _ _ _
                                  | with_reducible exact BM3.alloc _
                                  | with_reducible exact (RW.alloc _).alloc _
                                  | with_reducible exact (RW.far2 (by clear QR; omega) _ _).alloc _
                                  | with_reducible exact (RW.far2 (by clear QR; omega) _ _).far5 (by clear QR; omega) _ _ _ _ _
                                  | with_reducible exact (RW.far5 (by clear QR; omega) _ _ _ _ _).alloc _
                                  | with_reducible exact (QR.alloc _).alloc _
                                  | with_reducible exact (QR.set2 (by first | with_reducible exact Nat.le_refl _ | with_reducible assumption) _ _).alloc _
                                  | with_reducible exact (QR.set5 (by first | with_reducible exact Nat.le_refl _ | with_reducible assumption) _ _ _ _ _).alloc _
                                  | with_reducible exact (QR.set2 (by first | with_reducible exact Nat.le_refl _ | with_reducible assumption) _ _).set5 (by first | with_reducible exact Nat.le_refl _ | with_reducible assumption) _ _ _ _ _
                              exact AllReadyH.nil
                            exact AllReadyH.nil
                          exact AllReadyH.nil
                      exact AllReadyH.nil
                    exact AllReadyH.nil
                  refine AllReadyH.cons rfl (fun K hK => ?_) ?_
                  · go_simp
                    refine hK.out _ _ ?_ (fun hHeld => ?_)
                    · (try dsimp only); first | with_reducible exact hS' _ QR | with_reducible (refine hS' _ ?_; repeat first | assumption | exact Q.refl _ | refine Q.alloc ?_ _ | refine Q.setCell ?_ (by (try simp only); first | exact Nat.le_refl _ | assumption | omega) _ | refine Q.drew ?_)
                    clear hK K
                    refine wpAnyH_ready (rs := [1, 10]) (by kernel_rfl) (by simp) ?_
                    refine AllReadyH.cons rfl (fun K hK => ?_) ?_
                    · go_simp
                      (first | (go_at_call 49; refine (KS.out _ (haw.q (by ((repeat (first | with_reducible assumption | with_reducible exact Q.refl _ | with_reducible refine Q.alloc ?_ _ | with_reducible refine Q.setCell ?_ (by (try simp only); first | with_reducible exact Nat.le_refl _ | with_reducible assumption | omega) _ | with_reducible refine Q.drew ?_)); done)))).mono ?_; rintro e5 w5 ⟨AS, cS, rfl, oS, q5⟩; obtain ⟨gS, rfl, hB⟩ := oS.split (show 0 < n + 2 by omega); have lS : gS < w5.heap.size := (oS.lt gS rfl).2; have hB2 := hB; simp only [World.size_alloc, World.size_drew] at hB2; (first | (have nS : gS ≠ w0.heap.size := ?hb; (case hb => omega)) | skip); (first | (have nS' : gS ≠ w0.heap.size + 1 := ?hb; (case hb => omega)) | skip); have QR : Q w0 w5 := Q.trans (by ((repeat (first | with_reducible assumption | with_reducible exact Q.refl _ | with_reducible refine Q.alloc ?_ _ | with_reducible refine Q.setCell ?_ (by (try simp only); first | with_reducible exact Nat.le_refl _ | with_reducible assumption | omega) _ | with_reducible refine Q.drew ?_)); done)) q5; have x0 : w5.cell? ⟨gS, k * 2, none⟩ = some (.int .i64 SX) := (oS.cell (by have := HSn.out; have := HNn.out; omega)).trans (by rw [show SL.getD (k * 2) 0 = el SL (k * 2) from rfl, HS1.out]); have y0 : w5.cell? ⟨gS, k * 2 + 1, none⟩ = some (.int .i64 SY) := (oS.cell (by have := HSn.out; have := HNn.out; omega)).trans (by rw [show SL.getD (k * 2 + 1) 0 = el SL (k * 2 + 1) from rfl, HS2.out]); have z5 := q5.size; have zR := QR.size; have hle1 : w0.heap.size ≤ w0.heap.size + 1 := Nat.le_succ _; have hne1 : w0.heap.size ≠ w0.heap.size + 1 := Nat.ne_of_lt (Nat.lt_succ_self _); have hne2 : w0.heap.size + 1 ≠ w0.heap.size := fun h => hne1 h.symm; (first | (have BP : Blk w5 w0.heap.size 25 #[.int .i64 0, .int .i64 0] := ?hb; (case hb => (refine Blk.q ?_ q5; (repeat (first | exact Blk.new _ _ _ | exact Blk.drew (Blk.new _ _ _) | exact Blk.new1 _ _ _ _ | refine Blk.alloc ?_ _ | refine Blk.far ?_ (by simp) _)); done))) | (have BP : Blk w5 (w0.heap.size + 1) 25 #[.int .i64 0, .int .i64 0] := ?hb; (case hb => (refine Blk.q ?_ q5; (repeat (first | exact Blk.new _ _ _ | exact Blk.drew (Blk.new _ _ _) | exact Blk.new1 _ _ _ _ | refine Blk.alloc ?_ _ | refine Blk.far ?_ (by simp) _)); done))) | skip); (first | (have BM : Blk w5 w0.heap.size 85 #[.string ByteArray.empty, .int .i64 0, .int .i64 0, .int .i64 0, .int .i64 0] := ?hb; (case hb => (refine Blk.q ?_ q5; (repeat (first | exact Blk.new _ _ _ | exact Blk.drew (Blk.new _ _ _) | exact Blk.new1 _ _ _ _ | refine Blk.alloc ?_ _ | refine Blk.far ?_ (by simp) _)); done))) | (have BM : Blk w5 w0.heap.size 85 #[.string m.nm, .int .i64 m.x, .int .i64 m.y, .int .i64 m.sd, .int .i64 m.zn] := ?hb; (case hb => (refine Blk.q ?_ q5; (repeat (first | exact Blk.new _ _ _ | exact Blk.drew (Blk.new _ _ _) | exact Blk.new1 _ _ _ _ | refine Blk.alloc ?_ _ | refine Blk.far ?_ (by simp) _)); done))) | (have BM : Blk w5 (w0.heap.size + 1) 85 #[.string ByteArray.empty, .int .i64 0, .int .i64 0, .int .i64 0, .int .i64 0] := ?hb; (case hb => (refine Blk.q ?_ q5; (repeat (first | exact Blk.new _ _ _ | exact Blk.drew (Blk.new _ _ _) | exact Blk.new1 _ _ _ _ | refine Blk.alloc ?_ _ | refine Blk.far ?_ (by simp) _)); done))) | (have BM : Blk w5 (w0.heap.size + 1) 85 #[.string m.nm, .int .i64 m.x, .int .i64 m.y, .int .i64 m.sd, .int .i64 m.zn] := ?hb; (case hb => (refine Blk.q ?_ q5; (repeat (first | exact Blk.new _ _ _ | exact Blk.drew (Blk.new _ _ _) | exact Blk.new1 _ _ _ _ | refine Blk.alloc ?_ _ | refine Blk.far ?_ (by simp) _)); done))) | skip); (first | (have bpc := BP.cell; have bpf := BP.frozen; have bpl := BP.lt) | skip); (first | (have bmc := BM.cell; have bmf := BM.frozen; have bml := BM.lt) | skip); generalize w0.heap.size + 1 = b1x at *))
                      refine hK.out _ _ ?_ (fun hHeld => ?_)
                      · (try dsimp only); first | with_reducible exact hS' _ QR | with_reducible (refine hS' _ ?_; repeat first | assumption | exact Q.refl _ | refine Q.alloc ?_ _ | refine Q.setCell ?_ (by (try simp only); first | exact Nat.le_refl _ | assumption | omega) _ | refine Q.drew ?_)
                      clear hK K
                      refine wpAnyH_take (i := 3) (v := ?v3x11) rfl (by kernel_rfl) (by kernel_rfl) (by kernel_rfl) (fun _ _ _ h => h) (Or.inl ⟨by rfl, ?y3x11⟩) (by assumption) ?t3x11
                      case y3x11 => (intro w hSw; (try dsimp only at hSw); go_simp; try with_reducible rfl)
                      case t3x11 =>
                        try simp only [Act.put, List.setIfInBounds_toArray, List.set_cons_zero, List.set_cons_succ]
                        refine wpAnyH_ready (rs := [4, 10]) (by kernel_rfl) (by simp) ?_
                        refine AllReadyH.cons rfl (fun K hK => ?_) ?_
                        · go_simp
                          refine hK.out _ _ ?_ (fun hHeld => ?_)
                          · (try dsimp only); first | with_reducible exact hS' _ QR | with_reducible (refine hS' _ ?_; repeat first | assumption | exact Q.refl _ | refine Q.alloc ?_ _ | refine Q.setCell ?_ (by (try simp only); first | exact Nat.le_refl _ | assumption | omega) _ | refine Q.drew ?_)
                          clear hK K
                          refine wpAnyH_ready (rs := [10]) (by kernel_rfl) (by simp) ?_
                          refine AllReadyH.cons rfl (fun K hK => ?_) ?_
                          · go_simp
                            refine hK.out _ _ ?_ (fun hHeld => ?_)
                            · (try dsimp only); first | with_reducible exact hS' _ QR | with_reducible (refine hS' _ ?_; repeat first | assumption | exact Q.refl _ | refine Q.alloc ?_ _ | refine Q.setCell ?_ (by (try simp only); first | exact Nat.le_refl _ | assumption | omega) _ | refine Q.drew ?_)
                            clear hK K
                            refine wpAnyH_ready (rs := [12]) (by kernel_rfl) (by simp) ?_
                            refine AllReadyH.cons rfl (fun K hK => ?_) ?_
                            · go_simp
                              refine hK.out _ _ ?_ (fun hHeld => ?_)
                              · (try dsimp only); first | with_reducible exact hS' _ QR | with_reducible (refine hS' _ ?_; repeat first | assumption | exact Q.refl _ | refine Q.alloc ?_ _ | refine Q.setCell ?_ (by (try simp only); first | exact Nat.le_refl _ | assumption | omega) _ | refine Q.drew ?_)
                              clear hK K
                              refine wpAnyH_ready (rs := [13]) (by kernel_rfl) (by simp) ?_
                              refine AllReadyH.cons rfl (fun K hK => ?_) ?_
                              · go_simp
                                refine hK.out _ _ ?_ (fun hHeld => ?_)
                                · (try dsimp only); first | with_reducible exact hS' _ QR | with_reducible (refine hS' _ ?_; repeat first | assumption | exact Q.refl _ | refine Q.alloc ?_ _ | refine Q.setCell ?_ (by (try simp only); first | exact Nat.le_refl _ | assumption | omega) _ | refine Q.drew ?_)
                                clear hK K
                                refine wpAnyH_done (by kernel_rfl) ?_ _
                                refine NoPanic.normal ?_
                                go_wp2_with fail
                                go_meet
                                all_goals (have RW := R0.q QR; (first | (have PS := BP.set2 (.int .i64 SX) (.int .i64 SY)) | skip); (first | (have BM3 := BM.set5 (.string m.nm) (.int .i64 m.x) (.int .i64 m.y) (.int .i64 m.sd) (.int .i64 m.zn)) | skip))
                                all_goals refine ⟨_, _, rfl, rfl, ?_, ?_, ?_, ?_, ?_⟩
                                all_goals first
                                  | (clear QR; omega)
                                  | with_reducible exact (Blk.new _ _ _).alloc _
                                  | with_reducible exact Blk.new1 _ _ _ _
                                  | with_reducible exact PS.alloc _
                                  | with_reducible exact PS.far5 (by with_reducible first | assumption | omega) _ _ _ _ _
                                  | (with_reducible refine Blk.newZ ?_; simp; done)
                                  | with_reducible exact (BM.far2 (by with_reducible first | assumption | omega) _ _).set5 _ _ _ _ _
                                  | with_reducible exact BM3.alloc _
                                  | with_reducible exact (RW.alloc _).alloc _
                                  | with_reducible exact (RW.far2 (by clear QR; omega) _ _).alloc _
                                  | with_reducible exact (RW.far2 (by clear QR; omega) _ _).far5 (by clear QR; omega) _ _ _ _ _
                                  | with_reducible exact (RW.far5 (by clear QR; omega) _ _ _ _ _).alloc _
                                  | with_reducible exact (QR.alloc _).alloc _
                                  | with_reducible exact (QR.set2 (by first | with_reducible exact Nat.le_refl _ | with_reducible assumption) _ _).alloc _
                                  | with_reducible exact (QR.set5 (by first | with_reducible exact Nat.le_refl _ | with_reducible assumption) _ _ _ _ _).alloc _
                                  | with_reducible exact (QR.set2 (by first | with_reducible exact Nat.le_refl _ | with_reducible assumption) _ _).set5 (by first | with_reducible exact Nat.le_refl _ | with_reducible assumption) _ _ _ _ _
                              exact AllReadyH.nil
                            exact AllReadyH.nil
                          exact AllReadyH.nil
                        refine AllReadyH.cons rfl (fun K hK => ?_) ?_
                        · go_simp
                          refine hK.out _ _ ?_ (fun hHeld => ?_)
                          · (try dsimp only); first | with_reducible exact hS' _ QR | with_reducible (refine hS' _ ?_; repeat first | assumption | exact Q.refl _ | refine Q.alloc ?_ _ | refine Q.setCell ?_ (by (try simp only); first | exact Nat.le_refl _ | assumption | omega) _ | refine Q.drew ?_)
                          clear hK K
                          refine wpAnyH_ready (rs := [4]) (by kernel_rfl) (by simp) ?_
                          refine AllReadyH.cons rfl (fun K hK => ?_) ?_
                          · go_simp
                            refine hK.out _ _ ?_ (fun hHeld => ?_)
                            · (try dsimp only); first | with_reducible exact hS' _ QR | with_reducible (refine hS' _ ?_; repeat first | assumption | exact Q.refl _ | refine Q.alloc ?_ _ | refine Q.setCell ?_ (by (try simp only); first | exact Nat.le_refl _ | assumption | omega) _ | refine Q.drew ?_)
                            clear hK K
                            refine wpAnyH_ready (rs := [12]) (by kernel_rfl) (by simp) ?_
                            refine AllReadyH.cons rfl (fun K hK => ?_) ?_
                            · go_simp
                              refine hK.out _ _ ?_ (fun hHeld => ?_)
                              · (try dsimp only); first | with_reducible exact hS' _ QR | with_reducible (refine hS' _ ?_; repeat first | assumption | exact Q.refl _ | refine Q.alloc ?_ _ | refine Q.setCell ?_ (by (try simp only); first | exact Nat.le_refl _ | assumption | omega) _ | refine Q.drew ?_)
                              clear hK K
                              refine wpAnyH_ready (rs := [13]) (by kernel_rfl) (by simp) ?_
                              refine AllReadyH.cons rfl (fun K hK => ?_) ?_
                              · go_simp
                                refine hK.out _ _ ?_ (fun hHeld => ?_)
                                · (try dsimp only); first | with_reducible exact hS' _ QR | with_reducible (refine hS' _ ?_; repeat first | assumption | exact Q.refl _ | refine Q.alloc ?_ _ | refine Q.setCell ?_ (by (try simp only); first | exact Nat.le_refl _ | assumption | omega) _ | refine Q.drew ?_)
                                clear hK K
                                refine wpAnyH_done (by kernel_rfl) ?_ _
                                refine NoPanic.normal ?_
                                go_wp2_with fail
                                go_meet
                                all_goals (have RW := R0.q QR; (first | (have PS := BP.set2 (.int .i64 SX) (.int .i64 SY)) | skip); (first | (have BM3 := BM.set5 (.string m.nm) (.int .i64 m.x) (.int .i64 m.y) (.int .i64 m.sd) (.int .i64 m.zn)) | skip))
                                all_goals refine ⟨_, _, rfl, rfl, ?_, ?_, ?_, ?_, ?_⟩
                                all_goals first
                                  | (clear QR; omega)
                                  | with_reducible exact (Blk.new _ _ _).alloc _
                                  | with_reducible exact Blk.new1 _ _ _ _
                                  | with_reducible exact PS.alloc _
                                  | with_reducible exact PS.far5 (by with_reducible first | assumption | omega) _ _ _ _ _
                                  | (with_reducible refine Blk.newZ ?_; simp; done)
                                  | with_reducible exact (BM.far2 (by with_reducible first | assumption | omega) _ _).set5 _ _ _ _ _
                                  | with_reducible exact BM3.alloc _
                                  | with_reducible exact (RW.alloc _).alloc _
                                  | with_reducible exact (RW.far2 (by clear QR; omega) _ _).alloc _
                                  | with_reducible exact (RW.far2 (by clear QR; omega) _ _).far5 (by clear QR; omega) _ _ _ _ _
                                  | with_reducible exact (RW.far5 (by clear QR; omega) _ _ _ _ _).alloc _
                                  | with_reducible exact (QR.alloc _).alloc _
                                  | with_reducible exact (QR.set2 (by first | with_reducible exact Nat.le_refl _ | with_reducible assumption) _ _).alloc _
                                  | with_reducible exact (QR.set5 (by first | with_reducible exact Nat.le_refl _ | with_reducible assumption) _ _ _ _ _).alloc _
                                  | with_reducible exact (QR.set2 (by first | with_reducible exact Nat.le_refl _ | with_reducible assumption) _ _).set5 (by first | with_reducible exact Nat.le_refl _ | with_reducible assumption) _ _ _ _ _
                              exact AllReadyH.nil
                            exact AllReadyH.nil
                          exact AllReadyH.nil
                        exact AllReadyH.nil
                    refine AllReadyH.cons rfl (fun K hK => ?_) ?_
                    · go_simp
                      refine hK.out _ _ ?_ (fun hHeld => ?_)
                      · (try dsimp only); first | with_reducible exact hS' _ QR | with_reducible (refine hS' _ ?_; repeat first | assumption | exact Q.refl _ | refine Q.alloc ?_ _ | refine Q.setCell ?_ (by (try simp only); first | exact Nat.le_refl _ | assumption | omega) _ | refine Q.drew ?_)
                      clear hK K
                      refine wpAnyH_ready (rs := [1]) (by kernel_rfl) (by simp) ?_
                      refine AllReadyH.cons rfl (fun K hK => ?_) ?_
                      · go_simp
                        (first | (go_at_call 49; refine (KS.out _ (haw.q (by ((repeat (first | with_reducible assumption | with_reducible exact Q.refl _ | with_reducible refine Q.alloc ?_ _ | with_reducible refine Q.setCell ?_ (by (try simp only); first | with_reducible exact Nat.le_refl _ | with_reducible assumption | omega) _ | with_reducible refine Q.drew ?_)); done)))).mono ?_; rintro e5 w5 ⟨AS, cS, rfl, oS, q5⟩; obtain ⟨gS, rfl, hB⟩ := oS.split (show 0 < n + 2 by omega); have lS : gS < w5.heap.size := (oS.lt gS rfl).2; have hB2 := hB; simp only [World.size_alloc, World.size_drew] at hB2; (first | (have nS : gS ≠ w0.heap.size := ?hb; (case hb => omega)) | skip); (first | (have nS' : gS ≠ w0.heap.size + 1 := ?hb; (case hb => omega)) | skip); have QR : Q w0 w5 := Q.trans (by ((repeat (first | with_reducible assumption | with_reducible exact Q.refl _ | with_reducible refine Q.alloc ?_ _ | with_reducible refine Q.setCell ?_ (by (try simp only); first | with_reducible exact Nat.le_refl _ | with_reducible assumption | omega) _ | with_reducible refine Q.drew ?_)); done)) q5; have x0 : w5.cell? ⟨gS, k * 2, none⟩ = some (.int .i64 SX) := (oS.cell (by have := HSn.out; have := HNn.out; omega)).trans (by rw [show SL.getD (k * 2) 0 = el SL (k * 2) from rfl, HS1.out]); have y0 : w5.cell? ⟨gS, k * 2 + 1, none⟩ = some (.int .i64 SY) := (oS.cell (by have := HSn.out; have := HNn.out; omega)).trans (by rw [show SL.getD (k * 2 + 1) 0 = el SL (k * 2 + 1) from rfl, HS2.out]); have z5 := q5.size; have zR := QR.size; have hle1 : w0.heap.size ≤ w0.heap.size + 1 := Nat.le_succ _; have hne1 : w0.heap.size ≠ w0.heap.size + 1 := Nat.ne_of_lt (Nat.lt_succ_self _); have hne2 : w0.heap.size + 1 ≠ w0.heap.size := fun h => hne1 h.symm; (first | (have BP : Blk w5 w0.heap.size 25 #[.int .i64 0, .int .i64 0] := ?hb; (case hb => (refine Blk.q ?_ q5; (repeat (first | exact Blk.new _ _ _ | exact Blk.drew (Blk.new _ _ _) | exact Blk.new1 _ _ _ _ | refine Blk.alloc ?_ _ | refine Blk.far ?_ (by simp) _)); done))) | (have BP : Blk w5 (w0.heap.size + 1) 25 #[.int .i64 0, .int .i64 0] := ?hb; (case hb => (refine Blk.q ?_ q5; (repeat (first | exact Blk.new _ _ _ | exact Blk.drew (Blk.new _ _ _) | exact Blk.new1 _ _ _ _ | refine Blk.alloc ?_ _ | refine Blk.far ?_ (by simp) _)); done))) | skip); (first | (have BM : Blk w5 w0.heap.size 85 #[.string ByteArray.empty, .int .i64 0, .int .i64 0, .int .i64 0, .int .i64 0] := ?hb; (case hb => (refine Blk.q ?_ q5; (repeat (first | exact Blk.new _ _ _ | exact Blk.drew (Blk.new _ _ _) | exact Blk.new1 _ _ _ _ | refine Blk.alloc ?_ _ | refine Blk.far ?_ (by simp) _)); done))) | (have BM : Blk w5 w0.heap.size 85 #[.string m.nm, .int .i64 m.x, .int .i64 m.y, .int .i64 m.sd, .int .i64 m.zn] := ?hb; (case hb => (refine Blk.q ?_ q5; (repeat (first | exact Blk.new _ _ _ | exact Blk.drew (Blk.new _ _ _) | exact Blk.new1 _ _ _ _ | refine Blk.alloc ?_ _ | refine Blk.far ?_ (by simp) _)); done))) | (have BM : Blk w5 (w0.heap.size + 1) 85 #[.string ByteArray.empty, .int .i64 0, .int .i64 0, .int .i64 0, .int .i64 0] := ?hb; (case hb => (refine Blk.q ?_ q5; (repeat (first | exact Blk.new _ _ _ | exact Blk.drew (Blk.new _ _ _) | exact Blk.new1 _ _ _ _ | refine Blk.alloc ?_ _ | refine Blk.far ?_ (by simp) _)); done))) | (have BM : Blk w5 (w0.heap.size + 1) 85 #[.string m.nm, .int .i64 m.x, .int .i64 m.y, .int .i64 m.sd, .int .i64 m.zn] := ?hb; (case hb => (refine Blk.q ?_ q5; (repeat (first | exact Blk.new _ _ _ | exact Blk.drew (Blk.new _ _ _) | exact Blk.new1 _ _ _ _ | refine Blk.alloc ?_ _ | refine Blk.far ?_ (by simp) _)); done))) | skip); (first | (have bpc := BP.cell; have bpf := BP.frozen; have bpl := BP.lt) | skip); (first | (have bmc := BM.cell; have bmf := BM.frozen; have bml := BM.lt) | skip); generalize w0.heap.size + 1 = b1x at *))
                        refine hK.out _ _ ?_ (fun hHeld => ?_)
                        · (try dsimp only); first | with_reducible exact hS' _ QR | with_reducible (refine hS' _ ?_; repeat first | assumption | exact Q.refl _ | refine Q.alloc ?_ _ | refine Q.setCell ?_ (by (try simp only); first | exact Nat.le_refl _ | assumption | omega) _ | refine Q.drew ?_)
                        clear hK K
                        refine wpAnyH_take (i := 3) (v := ?v3x12) rfl (by kernel_rfl) (by kernel_rfl) (by kernel_rfl) (fun _ _ _ h => h) (Or.inl ⟨by rfl, ?y3x12⟩) (by assumption) ?t3x12
                        case y3x12 => (intro w hSw; (try dsimp only at hSw); go_simp; try with_reducible rfl)
                        case t3x12 =>
                          try simp only [Act.put, List.setIfInBounds_toArray, List.set_cons_zero, List.set_cons_succ]
                          refine wpAnyH_ready (rs := [4]) (by kernel_rfl) (by simp) ?_
                          refine AllReadyH.cons rfl (fun K hK => ?_) ?_
                          · go_simp
                            refine hK.out _ _ ?_ (fun hHeld => ?_)
                            · (try dsimp only); first | with_reducible exact hS' _ QR | with_reducible (refine hS' _ ?_; repeat first | assumption | exact Q.refl _ | refine Q.alloc ?_ _ | refine Q.setCell ?_ (by (try simp only); first | exact Nat.le_refl _ | assumption | omega) _ | refine Q.drew ?_)
                            clear hK K
                            refine wpAnyH_ready (rs := [12]) (by kernel_rfl) (by simp) ?_
                            refine AllReadyH.cons rfl (fun K hK => ?_) ?_
                            · go_simp
                              refine hK.out _ _ ?_ (fun hHeld => ?_)
                              · (try dsimp only); first | with_reducible exact hS' _ QR | with_reducible (refine hS' _ ?_; repeat first | assumption | exact Q.refl _ | refine Q.alloc ?_ _ | refine Q.setCell ?_ (by (try simp only); first | exact Nat.le_refl _ | assumption | omega) _ | refine Q.drew ?_)
                              clear hK K
                              refine wpAnyH_ready (rs := [13]) (by kernel_rfl) (by simp) ?_
                              refine AllReadyH.cons rfl (fun K hK => ?_) ?_
                              · go_simp
                                refine hK.out _ _ ?_ (fun hHeld => ?_)
                                · (try dsimp only); first | with_reducible exact hS' _ QR | with_reducible (refine hS' _ ?_; repeat first | assumption | exact Q.refl _ | refine Q.alloc ?_ _ | refine Q.setCell ?_ (by (try simp only); first | exact Nat.le_refl _ | assumption | omega) _ | refine Q.drew ?_)
                                clear hK K
                                refine wpAnyH_done (by kernel_rfl) ?_ _
                                refine NoPanic.normal ?_
                                go_wp2_with fail
                                go_meet
                                all_goals (have RW := R0.q QR; (first | (have PS := BP.set2 (.int .i64 SX) (.int .i64 SY)) | skip); (first | (have BM3 := BM.set5 (.string m.nm) (.int .i64 m.x) (.int .i64 m.y) (.int .i64 m.sd) (.int .i64 m.zn)) | skip))
                                all_goals refine ⟨_, _, rfl, rfl, ?_, ?_, ?_, ?_, ?_⟩
                                all_goals first
                                  | (clear QR; omega)
                                  | with_reducible exact (Blk.new _ _ _).alloc _
                                  | with_reducible exact Blk.new1 _ _ _ _
                                  | with_reducible exact PS.alloc _
                                  | with_reducible exact PS.far5 (by with_reducible first | assumption | omega) _ _ _ _ _
                                  | (with_reducible refine Blk.newZ ?_; simp; done)
                                  | with_reducible exact (BM.far2 (by with_reducible first | assumption | omega) _ _).set5 _ _ _ _ _
                                  | with_reducible exact BM3.alloc _
                                  | with_reducible exact (RW.alloc _).alloc _
                                  | with_reducible exact (RW.far2 (by clear QR; omega) _ _).alloc _
                                  | with_reducible exact (RW.far2 (by clear QR; omega) _ _).far5 (by clear QR; omega) _ _ _ _ _
                                  | with_reducible exact (RW.far5 (by clear QR; omega) _ _ _ _ _).alloc _
                                  | with_reducible exact (QR.alloc _).alloc _
                                  | with_reducible exact (QR.set2 (by first | with_reducible exact Nat.le_refl _ | with_reducible assumption) _ _).alloc _
                                  | with_reducible exact (QR.set5 (by first | with_reducible exact Nat.le_refl _ | with_reducible assumption) _ _ _ _ _).alloc _
                                  | with_reducible exact (QR.set2 (by first | with_reducible exact Nat.le_refl _ | with_reducible assumption) _ _).set5 (by first | with_reducible exact Nat.le_refl _ | with_reducible assumption) _ _ _ _ _
                              exact AllReadyH.nil
                            exact AllReadyH.nil
                          exact AllReadyH.nil
                      exact AllReadyH.nil
                    exact AllReadyH.nil
                  exact AllReadyH.nil
  case rest =>
    clear KS haw hS' HS1 HS2 HSn lR B0 R0
    obtain ⟨bp, bm, rfl, rfl, hbp, BP, BM, RL, Q1⟩ := hcut
    have cP := BP.cell
    have cM := BM.cell
    have v1 : IntKind.i64.wrap (m.x - SX) = X := by rw [IntKind.wrap_i64, HXe.out]; omega
    have v2 : IntKind.i64.wrap (m.y - SY) = Y := by rw [IntKind.wrap_i64, HYe.out]; omega
    have v3 : IntKind.i64.wrap (X * X) = X * X := by rw [IntKind.wrap_i64]; omega
    have v4 : IntKind.i64.wrap (Y * Y) = Y * Y := by rw [IntKind.wrap_i64]; omega
    have v5 : IntKind.i64.wrap (X * X + Y * Y) = X * X + Y * Y := by rw [IntKind.wrap_i64]; omega
    have v6 : IntKind.i64.wrap (10 * m.zn) = 10 * m.zn := by rw [IntKind.wrap_i64]; omega
    have v7 : IntKind.i64.wrap (-(10 * m.zn)) = -(10 * m.zn) := by rw [IntKind.wrap_i64]; omega
    have v8 : IntKind.i64.wrap (Y * W) = Y * W := by rw [IntKind.wrap_i64]; omega
    have v9 : IntKind.i64.wrap (X * W) = X * W := by rw [IntKind.wrap_i64]; omega
    have va : IntKind.i64.wrap (m.x + Y * W / NN) = E := by rw [IntKind.wrap_i64, HEe.out]; omega
    have vb : IntKind.i64.wrap (m.y - X * W / NN) = F := by rw [IntKind.wrap_i64, HFe.out]; omega
    clear hq1 hq2 hm1 hm2 hd1 hd2
    go_wp2_with fail
    go_region
    go_wp2_with fail
    replace BP := BP.drew
    replace BM := BM.drew
    replace RL := RL.drew
    replace Q1 := Q1.drew
    clear cP cM
    generalize wc.drew = wd at *
    have cM := BM.cell
    refine wp_region_quiet_lit (by kernel_rfl) (by kernel_rfl) ?_
    repeat (any_goals (first | go_big_quiet_step ( (go_at_call 83; exact Calls.quiet_of_same ((KR.out _).mono fun _ _ h => ⟨h.1, h.2.symm⟩))) | quiet_step ( (go_at_call 83; exact Calls.quiet_of_same ((KR.out _).mono fun _ _ h => ⟨h.1, h.2.symm⟩))) | (refine wpQuiet_step (fun K hK => ?_); go_simp; split <;> (refine hK _ ?_; clear hK K))))
    all_goals (refine wpQuiet_nil ?_; intro _ hw'; obtain ⟨nq, hw''⟩ := hw'; subst hw'')
    replace BP := BP.drewN nq
    replace BM := BM.drewN nq
    replace RL := RL.drewN nq
    replace Q1 := Q1.drewN nq
    clear cM
    generalize wd.drewN nq = we at *
    generalize 10 * m.zn = Z at *
    rcases hsd with hs | hs
    · have hWv : W = Z := by rw [HWe.out, if_neg (by omega)]
      have hLL : LL = (m.x, m.y, E, F) := by rw [HLe.out, if_neg (by omega)]
      subst hWv
      clear HXe HYe HWe HEe HFe HLe KR hsdI v1 v2 v3 v4 v5 v6
      rw [hs] at BM
      have cM := BM.cell
      have lM := BM.lt
      go_upto_region 6 with (fail)
      have ln1 : bm ≠ we.heap.size := Nat.ne_of_lt BM.lt
      have y1 : we.cell? ⟨bm, 1, none⟩ = some (.int .i64 m.x) := BM.cell 1
      have y2 : we.cell? ⟨bm, 2, none⟩ = some (.int .i64 m.y) := BM.cell 2
      go_region_held3 (fun w' => w'.cell? ⟨bm, 1, none⟩ = some (.int .i64 m.x) ∧ w'.cell? ⟨bm, 2, none⟩ = some (.int .i64 m.y)) (go_keep) (first | (go_at_call 84; first | (with_reducible refine (KF1.out _).mono ?_; rintro e7 w7 ⟨rfl, rfl⟩) | (with_reducible refine (KF2.out _).mono ?_; rintro e7 w7 ⟨rfl, rfl⟩)))
      all_goals
        clear y1 y2 ln1 cM lM
        have BE : Blk ((we.alloc (.cells #[.int .i64 E, .int .i64 F] 25)).drew) we.heap.size 25 #[.int .i64 E, .int .i64 F] := (Blk.new _ _ _).drew
        replace BM := (BM.alloc (.cells #[.int .i64 E, .int .i64 F] 25)).drew
        replace RL := (RL.alloc (.cells #[.int .i64 E, .int .i64 F] 25)).drew
        replace Q1 := (Q1.alloc (.cells #[.int .i64 E, .int .i64 F] 25)).drew
        generalize (we.alloc (.cells #[.int .i64 E, .int .i64 F] 25)).drew = wf at *
        have cM := BM.cell
        have cE := BE.cell
        have cR := RL.cell
        have fR := RL.frozen
        have lR := RL.lt
        go_wp2_with fail
        have bf := (RL.set4R (.int .i64 m.x) (.int .i64 m.y) (.int .i64 E) (.int .i64 F)).cell
        exact bodyPost_ret (v := .agg #[.int .i64 m.x, .int .i64 m.y, .int .i64 E, .int .i64 F]) (by simp [results, Tryz.results54, go_sem, bf]) rfl ⟨by rw [hLL], (((((Q0.trans Q1).setCell (p := ⟨w.heap.size + 1, 0, none⟩) (Nat.le_add_right _ 1) _).setCell (p := ⟨w.heap.size + 1, 1, none⟩) (Nat.le_add_right _ 1) _).setCell (p := ⟨w.heap.size + 1, 2, none⟩) (Nat.le_add_right _ 1) _).setCell (p := ⟨w.heap.size + 1, 3, none⟩) (Nat.le_add_right _ 1) _)⟩
    have hWv : W = -Z := by rw [HWe.out, if_pos hs]
    have hLL : LL = (E, F, m.x, m.y) := by rw [HLe.out, if_pos hs]
    replace v7 := v7.trans hWv.symm
    clear hWv
    clear HXe HYe HWe HEe HFe HLe KR hsdI v1 v2 v3 v4 v5 v6
    rw [hs] at BM
    have cM := BM.cell
    have lM := BM.lt
    go_upto_region 6 with (fail)
    have ln1 : bm ≠ we.heap.size := Nat.ne_of_lt BM.lt
    have y1 : we.cell? ⟨bm, 1, none⟩ = some (.int .i64 m.x) := BM.cell 1
    have y2 : we.cell? ⟨bm, 2, none⟩ = some (.int .i64 m.y) := BM.cell 2
    go_region_held3 (fun w' => w'.cell? ⟨bm, 1, none⟩ = some (.int .i64 m.x) ∧ w'.cell? ⟨bm, 2, none⟩ = some (.int .i64 m.y)) (go_keep) (first | (go_at_call 84; first | (with_reducible refine (KF1.out _).mono ?_; rintro e7 w7 ⟨rfl, rfl⟩) | (with_reducible refine (KF2.out _).mono ?_; rintro e7 w7 ⟨rfl, rfl⟩)))
    all_goals
      clear y1 y2 ln1 cM lM
      have BE : Blk ((we.alloc (.cells #[.int .i64 E, .int .i64 F] 25)).drew) we.heap.size 25 #[.int .i64 E, .int .i64 F] := (Blk.new _ _ _).drew
      replace BM := (BM.alloc (.cells #[.int .i64 E, .int .i64 F] 25)).drew
      replace RL := (RL.alloc (.cells #[.int .i64 E, .int .i64 F] 25)).drew
      replace Q1 := (Q1.alloc (.cells #[.int .i64 E, .int .i64 F] 25)).drew
      generalize (we.alloc (.cells #[.int .i64 E, .int .i64 F] 25)).drew = wf at *
      have cM := BM.cell
      have cE := BE.cell
      have cR := RL.cell
      have fR := RL.frozen
      have lR := RL.lt
      go_wp2_with fail
      have bf := (RL.set4R (.int .i64 E) (.int .i64 F) (.int .i64 m.x) (.int .i64 m.y)).cell
      exact bodyPost_ret (v := .agg #[.int .i64 E, .int .i64 F, .int .i64 m.x, .int .i64 m.y]) (by simp [results, Tryz.results54, go_sem, bf]) rfl ⟨by rw [hLL], (((((Q0.trans Q1).setCell (p := ⟨w.heap.size + 1, 0, none⟩) (Nat.le_add_right _ 1) _).setCell (p := ⟨w.heap.size + 1, 1, none⟩) (Nat.le_add_right _ 1) _).setCell (p := ⟨w.heap.size + 1, 2, none⟩) (Nat.le_add_right _ 1) _).setCell (p := ⟨w.heap.size + 1, 3, none⟩) (Nat.le_add_right _ 1) _)⟩
end Go.Proofs.YteofhfefbphjdaaGreatDoor
