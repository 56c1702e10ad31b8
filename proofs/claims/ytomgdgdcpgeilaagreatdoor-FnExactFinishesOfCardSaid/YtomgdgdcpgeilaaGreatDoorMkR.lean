/- Walks: courses and their marks in the laws (measured, copied, equal), for all arguments. No condition. -/
import Derived.Test.YtomgdgdcpgeilaaGreatDoorMkB
import Derived.Test.YtomgdgdcpgeilaaGreatDoorEarlyL
import Derived.Test.YtomgdgdcpgeilaaGreatDoorTdsT
namespace Go.Proofs.YtomgdgdcpgeilaaGreatDoor
open Go.RowKit Go.WideShapes Go.ChangeShapes
theorem szMark_any (m : Mk) (hs : m.nm.size ≤ maxLen) (l : Int) (w : World) (h0 : 0 ≤ l) (h1 : l ≤ 1048576) : Calls Tryz.prog 57 #[.agg #[.string m.nm, .int .i64 m.x, .int .i64 m.y, .int .i64 m.sd, .int .i64 m.zn], .int .i64 l] w fun r w' => r = .returned (.int .i64 (if (m.nm.size : Int) ≤ l then l - m.nm.size else -1)) ∧ Q w w' := by
  have hsI : (m.nm.size : Int) ≤ 9223372036854775807 := by unfold maxLen at hs; omega
  by_cases h : (m.nm.size : Int) ≤ l
  · rw [if_pos h]
    have hlo : ¬ l - (m.nm.size : Int) < 0 := by omega
    go_enter Tryz.func57, Tryz.ntmps57
    go_wp2_with fail
    go_ret
    exact ⟨rfl, by (repeat (first | assumption | exact Q.refl _ | refine Q.alloc ?_ _ | refine Q.drewN ?_ _ | refine Q.drew ?_))⟩
  · rw [if_neg h]
    have hlo : l - (m.nm.size : Int) < 0 := by omega
    go_enter Tryz.func57, Tryz.ntmps57
    go_wp2_with fail
    go_ret
    exact ⟨rfl, by (repeat (first | assumption | exact Q.refl _ | refine Q.alloc ?_ _ | refine Q.drewN ?_ _ | refine Q.drew ?_))⟩
/-- The letters of the names of marks. -/
def tmN (ms : List Mk) : Nat := (ms.map fun m => m.nm.size).sum
theorem tmN_take {ms : List Mk} {k : Nat} (hk : k < ms.length) : tmN (ms.take (k + 1)) = tmN (ms.take k) + (mx ms k).nm.size := by
  unfold tmN mx
  rw [List.take_add_one, List.getElem?_eq_getElem hk, List.map_append, List.sum_append, List.getD_eq_getElem?_getD, List.getElem?_eq_getElem hk]
  simp
theorem tmN_le (ms : List Mk) (k : Nat) : tmN (ms.take k) ≤ tmN ms := by
  have h : tmN ms = tmN (ms.take k) + tmN (ms.drop k) := by
    unfold tmN
    rw [← List.sum_append, ← List.map_append, List.take_append_drop]
  omega
set_option maxHeartbeats 1000000 in
theorem szMarkS_any (A : Option Addr) (n c : Nat) (ms : List Mk) (l : Int) (w : World) (ha : RdM w A ms) (hD : ms.length = n) (h0 : 0 ≤ l) (h1 : l ≤ 1048576) (hn : n ≤ 9223372036854775807) :
    Calls Tryz.prog 32 #[.slice A n c, .int .i64 l] w fun r w' => r = .returned (.int .i64 (if ((n + tmN ms : Nat) : Int) ≤ l then l - (n + tmN ms : Nat) else -1)) ∧ Q w w' := by
  have HD := Lib.hid hD
  clear hD
  by_cases hnl : (n : Int) ≤ l
  · obtain ⟨R, hR⟩ : ∃ R, R = (if ((n + tmN ms : Nat) : Int) ≤ l then l - (n + tmN ms : Nat) else -1) := ⟨_, rfl⟩
    rw [← hR]
    have HR := Lib.hid hR
    clear hR
    go_enter Tryz.func32, Tryz.ntmps32
    go_wp2_with fail
    go_loopw [1, 5] (fun v i wr => ∃ (k : Nat) (l1 : Int), k ≤ n ∧ i = .int .i64 k ∧ v = .int .i64 l1 ∧ Hid (l1 = l - n - (tmN (ms.take k) : Nat)) ∧ 0 ≤ l1 ∧ l1 ≤ 1048576 ∧ Q w wr) (fun _ i _ => n - (intOf i).toNat)
    case atStart => exact ⟨0, l - n, by omega, rfl, rfl, Lib.hid (by simp [tmN]), by omega, by omega, Q.refl _⟩
    case round =>
      obtain ⟨k, l1, hk, rfl, rfl, HL, hl0, hl1, hq⟩ := hrel
      by_cases hlt : k < n
      · have hltI : (k : Int) < (n : Int) := by omega
        obtain ⟨b, o, rfl, g0, g1, g2, g3, g4, hm⟩ := (ha.q hq).at_ HD.out hlt
        have k0 := szMark_any (mx ms k) hm l1
        have HT := Lib.hid (tmN_take (ms := ms) (k := k) (by rw [HD.out]; exact hlt))
        have HU := Lib.hid (tmN_le ms (k + 1))
        generalize mx ms k = m at *
        by_cases hml : (m.nm.size : Int) ≤ l1
        · rw [if_pos hml] at k0
          have K0 := Lib.hid k0
          clear k0
          have hlo : ¬ l1 - (m.nm.size : Int) < 0 := by omega
          go_wp2_with (go_at_call 57; refine (K0.out _ hl0 hl1).mono ?_; rintro e w1 ⟨rfl, q1⟩)
          go_roundw
          case rel => exact ⟨k + 1, l1 - m.nm.size, by omega, by go_num, by go_num, Lib.hid (by have := HL.out; have := HT.out; omega), by omega, by omega, hq.trans q1⟩
          case measure => simp [intOf]; omega
        · rw [if_neg hml] at k0
          have K0 := Lib.hid k0
          clear k0
          go_wp2_with (go_at_call 57; refine (K0.out _ hl0 hl1).mono ?_; rintro e w1 ⟨rfl, q1⟩)
          go_ret
          exact ⟨ret_int (by rw [HR.out, if_neg (by have := HL.out; have := HT.out; have := HU.out; omega)]), hq.trans q1⟩
      · obtain rfl : k = n := by omega
        go_wp2_with fail
        go_ret
        exact ⟨ret_int (by rw [HR.out]; have := HL.out; rw [List.take_of_length_le (by rw [HD.out]; omega)] at this; rw [if_pos (by omega)]; omega), hq⟩
  · rw [if_neg (by omega)]
    go_enter Tryz.func32, Tryz.ntmps32
    go_wp2_with fail
    go_ret
    exact ⟨rfl, Q.refl _⟩
theorem szCourse_any (a b c d p q r s : Int) (A : Option Addr) (n cc : Nat) (ms : List Mk) (l : Int) (w : World) (ha : RdM w A ms) (hD : ms.length = n) (h0 : 0 ≤ l) (h1 : l ≤ 1048576) (hn : n ≤ 9223372036854775807) :
    Calls Tryz.prog 7 #[.agg #[.int .i64 a, .int .i64 b, .int .i64 c, .int .i64 d, .int .i64 p, .int .i64 q, .int .i64 r, .int .i64 s, .slice A n cc], .int .i64 l] w fun e w' => e = .returned (.int .i64 (if ((n + tmN ms : Nat) : Int) ≤ l then l - (n + tmN ms : Nat) else -1)) ∧ Q w w' := by
  have K0 := fun wv (h : RdM wv A ms) => szMarkS_any A n cc ms l wv h hD h0 h1 hn
  by_cases h : ((n + tmN ms : Nat) : Int) ≤ l
  · rw [if_pos h]
    rw [if_pos h] at K0
    have hlo : ¬ l - ((n + tmN ms : Nat) : Int) < 0 := by omega
    generalize l - ((n + tmN ms : Nat) : Int) = R at *
    have K0 := Lib.hid K0
    go_enter Tryz.func7, Tryz.ntmps7
    go_wp2_with (go_at_call 32; refine (K0.out _ (ha.q (by (repeat (first | assumption | exact Q.refl _ | refine Q.alloc ?_ _ | refine Q.drewN ?_ _ | refine Q.drew ?_))))).mono ?_; rintro e w1 ⟨rfl, q1⟩)
    go_ret
    exact ⟨rfl, Q.trans (by (repeat (first | assumption | exact Q.refl _ | refine Q.alloc ?_ _ | refine Q.drewN ?_ _ | refine Q.drew ?_))) q1⟩
  · rw [if_neg h]
    rw [if_neg h] at K0
    have K0 := Lib.hid K0
    go_enter Tryz.func7, Tryz.ntmps7
    go_wp2_with (go_at_call 32; refine (K0.out _ (ha.q (by (repeat (first | assumption | exact Q.refl _ | refine Q.alloc ?_ _ | refine Q.drewN ?_ _ | refine Q.drew ?_))))).mono ?_; rintro e w1 ⟨rfl, q1⟩)
    go_ret
    exact ⟨rfl, Q.trans (by (repeat (first | assumption | exact Q.refl _ | refine Q.alloc ?_ _ | refine Q.drewN ?_ _ | refine Q.drew ?_))) q1⟩
set_option maxHeartbeats 1000000 in
theorem toMark_any (m : Mk) (w : World) : Calls Tryz.prog 66 #[.agg #[.string m.nm, .int .i64 m.x, .int .i64 m.y, .int .i64 m.sd, .int .i64 m.zn]] w fun e w' => e = .returned (.agg #[.string m.nm, .int .i64 m.x, .int .i64 m.y, .int .i64 m.sd, .int .i64 m.zn]) ∧ Q w w' := by
  have K1 := Lib.hid (fun wv => toPoint_any m.x m.y wv)
  obtain ⟨W, hW⟩ : ∃ W, W = ((w.alloc (.cells #[.string m.nm, .int .i64 m.x, .int .i64 m.y, .int .i64 m.sd, .int .i64 m.zn] 109)).alloc (.cells #[.string ⟨#[]⟩, .int .i64 0, .int .i64 0, .int .i64 0, .int .i64 0] 120)).alloc (.cells #[.string m.nm, .int .i64 0, .int .i64 0, .int .i64 0, .int .i64 0] 120) := ⟨_, rfl⟩
  have B0 : Blk W w.heap.size 109 #[.string m.nm, .int .i64 m.x, .int .i64 m.y, .int .i64 m.sd, .int .i64 m.zn] := by rw [hW]; exact ((Blk.new _ _ _).alloc _).alloc _
  have B1 : Blk W (w.heap.size + 1) 120 #[.string ⟨#[]⟩, .int .i64 0, .int .i64 0, .int .i64 0, .int .i64 0] := by rw [hW]; exact Blk.alloc (by simpa using Blk.new (w.alloc (.cells #[.string m.nm, .int .i64 m.x, .int .i64 m.y, .int .i64 m.sd, .int .i64 m.zn] 109)) 120 #[.string ⟨#[]⟩, .int .i64 0, .int .i64 0, .int .i64 0, .int .i64 0]) _
  have B2 : Blk W (w.heap.size + 1 + 1) 120 #[.string m.nm, .int .i64 0, .int .i64 0, .int .i64 0, .int .i64 0] := by rw [hW]; simpa using Blk.new ((w.alloc (.cells #[.string m.nm, .int .i64 m.x, .int .i64 m.y, .int .i64 m.sd, .int .i64 m.zn] 109)).alloc (.cells #[.string ⟨#[]⟩, .int .i64 0, .int .i64 0, .int .i64 0, .int .i64 0] 120)) 120 #[.string m.nm, .int .i64 0, .int .i64 0, .int .i64 0, .int .i64 0]
  have Q0 : Q w W := by rw [hW]; (repeat (first | assumption | exact Q.refl _ | refine Q.alloc ?_ _ | refine Q.drewN ?_ _ | refine Q.drew ?_))
  have HW := Lib.hid hW
  clear hW
  go_enter Tryz.func66, Tryz.ntmps66
  go_wp2_with fail
  rw [← HW.out]
  refine (K1.out _).mono ?_
  rintro e1 w1 ⟨rfl, q1⟩
  replace B0 := B0.q q1
  replace B1 := B1.q q1
  replace B2 := B2.q q1
  replace Q0 := Q0.trans q1
  clear q1
  have c0 := B0.cell
  have l0 := B0.lt
  have c1 := B1.cell
  have f1 := B1.frozen
  have l1 := B1.lt
  have c2 := B2.cell
  have f2 := B2.frozen
  have l2 := B2.lt
  go_wp2_with fail
  have G := ((((B1.far (p := ⟨w.heap.size + 1 + 1, 1, none⟩) (by simp) (.int .i64 m.x)).far (p := ⟨w.heap.size + 1 + 1, 2, none⟩) (by simp) (.int .i64 m.y)).far (p := ⟨w.heap.size + 1 + 1, 3, none⟩) (by simp) (.int .i64 m.sd)).far (p := ⟨w.heap.size + 1 + 1, 4, none⟩) (by simp) (.int .i64 m.zn))
  have F := (((((G.set_ 0 (.string m.nm)).set_ 1 (.int .i64 m.x)).set_ 2 (.int .i64 m.y)).set_ 3 (.int .i64 m.sd)).set_ 4 (.int .i64 m.zn)).cell
  have QG : Q w ((((w1.setCell ⟨w.heap.size + 1 + 1, 1, none⟩ (.int .i64 m.x)).setCell ⟨w.heap.size + 1 + 1, 2, none⟩ (.int .i64 m.y)).setCell ⟨w.heap.size + 1 + 1, 3, none⟩ (.int .i64 m.sd)).setCell ⟨w.heap.size + 1 + 1, 4, none⟩ (.int .i64 m.zn)) := (((Q0.setCell (p := ⟨w.heap.size + 1 + 1, 1, none⟩) (Nat.le_add_right _ 2) _).setCell (p := ⟨w.heap.size + 1 + 1, 2, none⟩) (Nat.le_add_right _ 2) _).setCell (p := ⟨w.heap.size + 1 + 1, 3, none⟩) (Nat.le_add_right _ 2) _).setCell (p := ⟨w.heap.size + 1 + 1, 4, none⟩) (Nat.le_add_right _ 2) _
  refine bodyPost_ret (v := .agg #[.string m.nm, .int .i64 m.x, .int .i64 m.y, .int .i64 m.sd, .int .i64 m.zn]) (by simp [results, Tryz.results66, go_sem, F]) rfl ⟨rfl, ?_⟩
  exact (((((QG.setCell (p := ⟨w.heap.size + 1, 0, none⟩) (Nat.le_add_right _ 1) _).setCell (p := ⟨w.heap.size + 1, 1, none⟩) (Nat.le_add_right _ 1) _).setCell (p := ⟨w.heap.size + 1, 2, none⟩) (Nat.le_add_right _ 1) _).setCell (p := ⟨w.heap.size + 1, 3, none⟩) (Nat.le_add_right _ 1) _).setCell (p := ⟨w.heap.size + 1, 4, none⟩) (Nat.le_add_right _ 1) _)
theorem infoMark : (Tryz.prog.info? 120).map (fun i => (i.zero, i.size, i.bytes)) = some (some (.agg #[.string ByteArray.empty, .int .i64 0, .int .i64 0, .int .i64 0, .int .i64 0]), 5, 48) := by kernel_rfl
/-- k marks of n are copied. -/
def MkC9 (w wr : World) (n k : Nat) (ms : List Mk) : Prop :=
  ∃ vs : List Value, wr.ownsRow w.heap.size 120 5 (.slice (some ⟨w.heap.size, 0, none⟩) n n) n vs ∧ vs.length = n * 5 ∧
    ∀ j, j < k → vs[j * 5]? = some (.string (mx ms j).nm) ∧ vs[j * 5 + 1]? = some (.int .i64 (mx ms j).x) ∧ vs[j * 5 + 2]? = some (.int .i64 (mx ms j).y) ∧ vs[j * 5 + 3]? = some (.int .i64 (mx ms j).sd) ∧ vs[j * 5 + 4]? = some (.int .i64 (mx ms j).zn)
theorem MkC9.q {w wr w' : World} {n k : Nat} {ms : List Mk} (h : MkC9 w wr n k ms) (hq : Q wr w') : MkC9 w w' n k ms := by
  obtain ⟨vs, h0, h1, h2⟩ := h
  exact ⟨vs, ownsRow_q h0 hq, h1, h2⟩
theorem MkC9.frozen {w wr : World} {n k : Nat} {ms : List Mk} (h : MkC9 w wr n k ms) (j : Nat) : wr.frozen? ⟨w.heap.size, j, none⟩ = false := by
  obtain ⟨vs, h0, h1, h2⟩ := h
  exact World.ownsRow.frozenAt h0 j
theorem MkC9.cell {w wr : World} {n k : Nat} {ms : List Mk} (h : MkC9 w wr n k ms) (i : Nat) (hi : i < n * 5) : ∃ u, wr.cell? ⟨w.heap.size, i, none⟩ = some u := by
  obtain ⟨vs, h0, h1, h2⟩ := h
  exact ⟨vs[i]'(by omega), by rw [World.ownsRow.cellAt h0 i hi, List.getElem?_eq_getElem]⟩
theorem set_far {vs : List Value} {i j : Nat} {u : Value} (h : i ≠ j) : (vs.set i u)[j]? = vs[j]? := List.getElem?_set_ne h
theorem set_at {vs : List Value} {i : Nat} {u : Value} (h : i < vs.length) : (vs.set i u)[i]? = some u := by rw [List.getElem?_set_self h]
theorem MkC9.step {w wr : World} {n k : Nat} {ms : List Mk} (h : MkC9 w wr n k ms) (hk : k < n) : MkC9 w (((((wr.setCell ⟨w.heap.size, k * 5, none⟩ (.string (mx ms k).nm)).setCell ⟨w.heap.size, k * 5 + 1, none⟩ (.int .i64 (mx ms k).x)).setCell ⟨w.heap.size, k * 5 + 2, none⟩ (.int .i64 (mx ms k).y)).setCell ⟨w.heap.size, k * 5 + 3, none⟩ (.int .i64 (mx ms k).sd)).setCell ⟨w.heap.size, k * 5 + 4, none⟩ (.int .i64 (mx ms k).zn)) n (k + 1) ms := by
  obtain ⟨vs, h0, h1, h2⟩ := h
  have s0 := (World.ownsRow.stored h0 (k * 5) (.string (mx ms k).nm)).1
  have s1 := (World.ownsRow.stored s0 (k * 5 + 1) (.int .i64 (mx ms k).x)).1
  have s2 := (World.ownsRow.stored s1 (k * 5 + 2) (.int .i64 (mx ms k).y)).1
  have s3 := (World.ownsRow.stored s2 (k * 5 + 3) (.int .i64 (mx ms k).sd)).1
  have s4 := (World.ownsRow.stored s3 (k * 5 + 4) (.int .i64 (mx ms k).zn)).1
  refine ⟨_, s4, by simpa using h1, fun j hj => ?_⟩
  by_cases hjk : j = k
  · subst hjk
    refine ⟨?_, ?_, ?_, ?_, ?_⟩
    · rw [set_far (by omega), set_far (by omega), set_far (by omega), set_far (by omega), set_at (by first | omega | (simp only [List.length_set]; omega))]
    · rw [set_far (by omega), set_far (by omega), set_far (by omega), set_at (by first | omega | (simp only [List.length_set]; omega))]
    · rw [set_far (by omega), set_far (by omega), set_at (by first | omega | (simp only [List.length_set]; omega))]
    · rw [set_far (by omega), set_at (by first | omega | (simp only [List.length_set]; omega))]
    · rw [set_at (by first | omega | (simp only [List.length_set]; omega))]
  · obtain ⟨a0, a1, a2, a3, a4⟩ := h2 j (by omega)
    refine ⟨?_, ?_, ?_, ?_, ?_⟩ <;> rw [set_far (by omega), set_far (by omega), set_far (by omega), set_far (by omega), set_far (by omega)] <;> assumption
theorem MkC9.done {w wr : World} {n : Nat} {ms : List Mk} (h : MkC9 w wr n n ms) (hD : ms.length = n) (hs : ∀ k, k < n → (mx ms k).nm.size ≤ maxLen) : RdM wr (some ⟨w.heap.size, 0, none⟩) ms := by
  obtain ⟨vs, h0, h1, h2⟩ := h
  refine ⟨w.heap.size, 0, fun _ => rfl, fun k hk => ⟨?_, hs k (by omega)⟩⟩
  obtain ⟨a0, a1, a2, a3, a4⟩ := h2 k (by omega)
  simp only [Nat.zero_add]
  exact ⟨(World.ownsRow.cellAt h0 _ (by omega)).trans a0, (World.ownsRow.cellAt h0 _ (by omega)).trans a1, (World.ownsRow.cellAt h0 _ (by omega)).trans a2, (World.ownsRow.cellAt h0 _ (by omega)).trans a3, (World.ownsRow.cellAt h0 _ (by omega)).trans a4⟩
theorem RdM.szs {w : World} {A : Option Addr} {ms : List Mk} {n : Nat} (h : RdM w A ms) (hD : ms.length = n) : ∀ k, k < n → (mx ms k).nm.size ≤ maxLen := fun k hk => by
  obtain ⟨_, _, _, _, _, _, _, _, hs⟩ := h.at_ hD hk
  exact hs
/-- A row of marks of one's own, in a block from B to U. -/
def OwM (w : World) (B U : Nat) (A : Option Addr) (n : Nat) (ms : List Mk) : Prop := ∃ (g : Nat) (vs : Array Value), A = some ⟨g, 0, none⟩ ∧ B ≤ g ∧ g < U ∧ Blk w g 120 vs ∧ vs.size = n * 5 ∧ RdM w A ms
theorem OwM.rd {w : World} {B U : Nat} {A : Option Addr} {n : Nat} {ms : List Mk} (h : OwM w B U A n ms) : RdM w A ms := by
  obtain ⟨_, _, _, _, _, _, _, h⟩ := h
  exact h
theorem OwM.from {w : World} {B U : Nat} {A : Option Addr} {n : Nat} {ms : List Mk} (h : OwM w B U A n ms) : ∀ a, A = some a → B ≤ a.block ∧ a.block < U := by
  obtain ⟨g, vs, rfl, h1, h2, _, _, _⟩ := h
  intro a ha
  injection ha with ha
  subst ha
  exact ⟨h1, h2⟩
theorem OwM.q {w w' : World} {B U : Nat} {A : Option Addr} {n : Nat} {ms : List Mk} (h : OwM w B U A n ms) (hq : Q w w') : OwM w' B U A n ms := by
  obtain ⟨g, vs, h0, h1, h2, h3, h4, h5⟩ := h
  exact ⟨g, vs, h0, h1, h2, h3.q hq, h4, h5.q hq⟩
theorem OwM.mono {w : World} {B U B' U' : Nat} {A : Option Addr} {n : Nat} {ms : List Mk} (h : OwM w B U A n ms) (hB : B' ≤ B) (hU : U ≤ U') : OwM w B' U' A n ms := by
  obtain ⟨g, vs, h0, h1, h2, h3, h4, h5⟩ := h
  exact ⟨g, vs, h0, Nat.le_trans hB h1, Nat.lt_of_lt_of_le h2 hU, h3, h4, h5⟩
theorem MkC9.own {w wr : World} {n : Nat} {ms : List Mk} (h : MkC9 w wr n n ms) (hD : ms.length = n) (hs : ∀ k, k < n → (mx ms k).nm.size ≤ maxLen) : OwM wr w.heap.size wr.heap.size (some ⟨w.heap.size, 0, none⟩) n ms := by
  have hr := h.done hD hs
  obtain ⟨vs, h0, h1, h2⟩ := h
  rcases h0.2 with ⟨h', _⟩ | ⟨g', cap', cur, h', hb, hg, hnc, hcm, hcs, htake⟩
  · simp at h'
  · simp only [Value.slice.injEq, Option.some.injEq, Addr.mk.injEq, and_true, true_and] at h'
    obtain ⟨rfl, rfl⟩ := h'
    exact ⟨_, cur, rfl, Nat.le_refl _, Blk.lt hg, hg, hcs, hr⟩
set_option maxHeartbeats 1000000 in
theorem toMarkS_any (A : Option Addr) (n c : Nat) (ms : List Mk) (w : World) (ha : RdM w A ms) (hD : ms.length = n) (hn2 : n ≤ 1048576) :
    Calls Tryz.prog 37 #[.slice A n c] w fun e w' => e = .returned (.slice (some ⟨w.heap.size, 0, none⟩) n n) ∧ OwM w' w.heap.size w'.heap.size (some ⟨w.heap.size, 0, none⟩) n ms ∧ Q w w' := by
  obtain ⟨i0, hi, hz0, hz1, hz2⟩ := info_parts infoMark
  have HD := Lib.hid hD
  have hsz := ha.szs hD
  clear hD
  go_enter Tryz.func37, Tryz.ntmps37
  go_wp2_with (at_make; refine wpList_make_full _ rfl _ _ 41 rfl w.heap.size 120 i0 (.agg #[.string ByteArray.empty, .int .i64 0, .int .i64 0, .int .i64 0, .int .i64 0]) 5 Tryz.underlying41 hi hz0 hz1 .i64 .i64 n n n rfl rfl rfl rfl (by rw [hz2]; omega) (by unfold maxLen; omega) (Nat.le_refl _) ?_; intro w1 hown hgrow)
  have hq0 : Q w w1 := (Q.refl w).grown hgrow (by simp)
  have hw1 := (World.ownsRow.lt hown _ rfl).2
  have HM : MkC9 w w1 n 0 ms := ⟨_, hown, by simp [size_madeCells], fun j hj => absurd hj (Nat.not_lt_zero _)⟩
  clear hgrow hi hz0 hz1 hz2 hown
  go_loopw [4] (fun i wr => ∃ k : Nat, k ≤ n ∧ i = .int .i64 k ∧ MkC9 w wr n k ms ∧ Q w wr ∧ w.heap.size < wr.heap.size) (fun i _ => n - (intOf i).toNat)
  case atStart => exact ⟨0, by omega, rfl, HM, hq0, hw1⟩
  case round =>
    clear HM hq0 hw1
    obtain ⟨k, hk, rfl, HM, hq, hw⟩ := hrel
    by_cases hlt : k < n
    · have hltI : (k : Int) < (n : Int) := by omega
      obtain ⟨b, o, rfl, g0, g1, g2, g3, g4, _⟩ := (ha.q hq).at_ HD.out hlt
      have HS := Lib.hid (fun w1 (hq : Q wr w1) => (HM.q hq).step hlt)
      have HF := Lib.hid (fun w1 (hq : Q wr w1) => (HM.q hq).cell)
      have HG := Lib.hid (fun w1 (hq : Q wr w1) => (HM.q hq).frozen)
      have K0 := Lib.hid (fun wv => toMark_any (mx ms k) wv)
      generalize mx ms k = m at *
      clear HM
      go_wp2_with fail
      refine (K0.out _).mono ?_
      rintro e w2 ⟨rfl, q1⟩
      obtain ⟨u0, d0⟩ := HF.out _ q1 (k * 5) (by omega)
      obtain ⟨u1, d1⟩ := HF.out _ q1 (k * 5 + 1) (by omega)
      obtain ⟨u2, d2⟩ := HF.out _ q1 (k * 5 + 2) (by omega)
      obtain ⟨u3, d3⟩ := HF.out _ q1 (k * 5 + 3) (by omega)
      obtain ⟨u4, d4⟩ := HF.out _ q1 (k * 5 + 4) (by omega)
      have fz := HG.out _ q1
      have s1 := q1.size
      have hw2 : w.heap.size < w2.heap.size := by omega
      go_wp2_with fail
      go_roundw
      case rel => exact ⟨k + 1, by omega, by go_num, HS.out _ q1, (((((hq.trans q1).setCell (Nat.le_refl _) _).setCell (Nat.le_refl _) _).setCell (Nat.le_refl _) _).setCell (Nat.le_refl _) _).setCell (Nat.le_refl _) _, by simp; omega⟩
      case measure => simp [intOf]; omega
    · obtain rfl : k = n := by omega
      go_wp2_with fail
      go_ret
      exact ⟨rfl, HM.own HD.out hsz, hq⟩
def Mk.v (m : Mk) : Value := .agg #[.string m.nm, .int .i64 m.x, .int .i64 m.y, .int .i64 m.sd, .int .i64 m.zn]
set_option maxHeartbeats 1000000 in
theorem eqMark_same (m : Mk) (w : World) : Calls Tryz.prog 69 #[.agg #[.string m.nm, .int .i64 m.x, .int .i64 m.y, .int .i64 m.sd, .int .i64 m.zn], .agg #[.string m.nm, .int .i64 m.x, .int .i64 m.y, .int .i64 m.sd, .int .i64 m.zn]] w fun e w' => e = .returned (.bool true) ∧ Q w w' := by
  have KP : Hid (∀ wv, Calls Tryz.prog 68 #[.agg #[.int .i64 m.x, .int .i64 m.y], .agg #[.int .i64 m.x, .int .i64 m.y]] wv fun e w' => e = .returned (.bool true) ∧ Q wv w') := Lib.hid (fun wv => by
    go_enter Tryz.func68, Tryz.ntmps68
    go_wp2_with fail
    go_ret
    exact ⟨rfl, by (repeat (first | assumption | exact Q.refl _ | refine Q.alloc ?_ _ | refine Q.drewN ?_ _ | refine Q.drew ?_))⟩)
  obtain ⟨W, hW⟩ : ∃ W, W = (w.alloc (.cells #[.string m.nm, .int .i64 m.x, .int .i64 m.y, .int .i64 m.sd, .int .i64 m.zn] 120)).alloc (.cells #[.string m.nm, .int .i64 m.x, .int .i64 m.y, .int .i64 m.sd, .int .i64 m.zn] 120) := ⟨_, rfl⟩
  have B0 : Blk W w.heap.size 120 #[.string m.nm, .int .i64 m.x, .int .i64 m.y, .int .i64 m.sd, .int .i64 m.zn] := by rw [hW]; exact (Blk.new _ _ _).alloc _
  have B1 : Blk W (w.heap.size + 1) 120 #[.string m.nm, .int .i64 m.x, .int .i64 m.y, .int .i64 m.sd, .int .i64 m.zn] := by rw [hW]; simpa using Blk.new (w.alloc (.cells #[.string m.nm, .int .i64 m.x, .int .i64 m.y, .int .i64 m.sd, .int .i64 m.zn] 120)) 120 #[.string m.nm, .int .i64 m.x, .int .i64 m.y, .int .i64 m.sd, .int .i64 m.zn]
  have Q0 : Q w W := by rw [hW]; (repeat (first | assumption | exact Q.refl _ | refine Q.alloc ?_ _ | refine Q.drewN ?_ _ | refine Q.drew ?_))
  have HW := Lib.hid hW
  clear hW
  go_enter Tryz.func69, Tryz.ntmps69
  go_wp2_with fail
  rw [← HW.out]
  refine (KP.out _).mono ?_
  rintro e1 w1 ⟨rfl, q1⟩
  replace B0 := B0.q q1
  replace B1 := B1.q q1
  replace Q0 := Q0.trans q1
  have c0 := B0.cell
  have c1 := B1.cell
  have l0 := B0.lt
  have l1 := B1.lt
  go_wp2_with fail
  go_ret
  exact ⟨rfl, Q0⟩
set_option maxRecDepth 100000 in
set_option maxHeartbeats 2000000 in
theorem eqMarkS_same (A B : Option Addr) (n c d : Nat) (ms : List Mk) (w : World) (ha : RdM w A ms) (hb : RdM w B ms) (hD : ms.length = n) (hn : n ≤ 9223372036854775807) :
    Calls Tryz.prog 40 #[.slice A n c, .slice B n d] w fun e w' => e = .returned (.bool true) ∧ Q w w' := by
  have HD := Lib.hid hD
  clear hD
  go_enter Tryz.func40, Tryz.ntmps40
  go_wp2_with fail
  go_loopw [5] (fun i wr => ∃ k : Nat, k ≤ n ∧ i = .int .i64 k ∧ Q w wr) (fun i _ => n - (intOf i).toNat)
  case atStart => exact ⟨0, Nat.zero_le _, rfl, Q.refl _⟩
  case round =>
    obtain ⟨k, hk, rfl, hq⟩ := hrel
    by_cases hlt : k < n
    · have hltI : (k : Int) < (n : Int) := by omega
      have hk0I : (0 : Int) ≤ (k : Int) := by omega
      obtain ⟨b, o, rfl, g0, g1, g2, g3, g4, _⟩ := (ha.q hq).at_ HD.out hlt
      obtain ⟨b', o', rfl, j0, j1, j2, j3, j4, _⟩ := (hb.q hq).at_ HD.out hlt
      have K0 := Lib.hid (fun wv => eqMark_same (mx ms k) wv)
      generalize mx ms k = m at *
      have hS : ∀ w', Q wr w' → (w'.cell? ⟨b, o + k * 5, none⟩ = some (.string m.nm) ∧ w'.cell? ⟨b, o + k * 5 + 1, none⟩ = some (.int .i64 m.x) ∧ w'.cell? ⟨b, o + k * 5 + 2, none⟩ = some (.int .i64 m.y) ∧ w'.cell? ⟨b, o + k * 5 + 3, none⟩ = some (.int .i64 m.sd) ∧ w'.cell? ⟨b, o + k * 5 + 4, none⟩ = some (.int .i64 m.zn) ∧ w'.cell? ⟨b', o' + k * 5, none⟩ = some (.string m.nm) ∧ w'.cell? ⟨b', o' + k * 5 + 1, none⟩ = some (.int .i64 m.x) ∧ w'.cell? ⟨b', o' + k * 5 + 2, none⟩ = some (.int .i64 m.y) ∧ w'.cell? ⟨b', o' + k * 5 + 3, none⟩ = some (.int .i64 m.sd) ∧ w'.cell? ⟨b', o' + k * 5 + 4, none⟩ = some (.int .i64 m.zn)) := fun w' q => ⟨q.cell g0, q.cell g1, q.cell g2, q.cell g3, q.cell g4, q.cell j0, q.cell j1, q.cell j2, q.cell j3, q.cell j4⟩
      go_upto_region 6 with (fail)
      go_region_held3 (fun w' => w'.cell? ⟨b, o + k * 5, none⟩ = some (.string m.nm) ∧ w'.cell? ⟨b, o + k * 5 + 1, none⟩ = some (.int .i64 m.x) ∧ w'.cell? ⟨b, o + k * 5 + 2, none⟩ = some (.int .i64 m.y) ∧ w'.cell? ⟨b, o + k * 5 + 3, none⟩ = some (.int .i64 m.sd) ∧ w'.cell? ⟨b, o + k * 5 + 4, none⟩ = some (.int .i64 m.zn) ∧ w'.cell? ⟨b', o' + k * 5, none⟩ = some (.string m.nm) ∧ w'.cell? ⟨b', o' + k * 5 + 1, none⟩ = some (.int .i64 m.x) ∧ w'.cell? ⟨b', o' + k * 5 + 2, none⟩ = some (.int .i64 m.y) ∧ w'.cell? ⟨b', o' + k * 5 + 3, none⟩ = some (.int .i64 m.sd) ∧ w'.cell? ⟨b', o' + k * 5 + 4, none⟩ = some (.int .i64 m.zn)) (first | with_reducible exact hS _ QR | with_reducible exact hS _ (Q.refl _).drew | with_reducible exact hS _ (Q.refl _)) (first | (go_at_call 69; refine (K0.out _).mono ?_; rintro e2 w2 ⟨rfl, q2⟩; have QR : Q wr w2 := Q.trans (by with_reducible first | exact (Q.refl _).drew | exact Q.refl _) q2))
      go_wp2_with fail
      go_roundw
      case rel => exact ⟨k + 1, by omega, by go_num, hq.trans (QR.trans (by (repeat (first | assumption | exact Q.refl _ | refine Q.alloc ?_ _ | refine Q.drewN ?_ _ | refine Q.drew ?_))))⟩
      case measure => simp [intOf]; omega
    · obtain rfl : k = n := by omega
      go_wp2_with fail
      go_ret
      exact ⟨rfl, hq⟩
theorem RdM.far {w : World} {g : Nat} {ms : List Mk} (h : RdM w (some ⟨g, 0, none⟩) ms) {p : Addr} (hp : g ≠ p.block) (u : Value) : RdM (w.setCell p u) (some ⟨g, 0, none⟩) ms := by
  obtain ⟨b, o, hA, hc⟩ := h
  refine ⟨b, o, hA, fun k hk => ?_⟩
  have e := hA (by omega)
  injection e with e
  injection e with e1 e2
  have hne : ∀ j, p ≠ ⟨b, j, none⟩ := fun j e => hp (by rw [e]; exact e1)
  obtain ⟨⟨h0, h1, h2, h3, h4⟩, h5⟩ := hc k hk
  exact ⟨⟨(show (w.setCell p u).cell? _ = w.cell? _ by first | exact World.cell?_setCell_other _ _ (hne _) | exact World.cell?_setCell_other _ _ _ (hne _) | exact World.cell?_setCell_other _ _ _ _ (hne _)).trans h0, (show (w.setCell p u).cell? _ = w.cell? _ by first | exact World.cell?_setCell_other _ _ (hne _) | exact World.cell?_setCell_other _ _ _ (hne _) | exact World.cell?_setCell_other _ _ _ _ (hne _)).trans h1, (show (w.setCell p u).cell? _ = w.cell? _ by first | exact World.cell?_setCell_other _ _ (hne _) | exact World.cell?_setCell_other _ _ _ (hne _) | exact World.cell?_setCell_other _ _ _ _ (hne _)).trans h2, (show (w.setCell p u).cell? _ = w.cell? _ by first | exact World.cell?_setCell_other _ _ (hne _) | exact World.cell?_setCell_other _ _ _ (hne _) | exact World.cell?_setCell_other _ _ _ _ (hne _)).trans h3, (show (w.setCell p u).cell? _ = w.cell? _ by first | exact World.cell?_setCell_other _ _ (hne _) | exact World.cell?_setCell_other _ _ _ (hne _) | exact World.cell?_setCell_other _ _ _ _ (hne _)).trans h4⟩, h5⟩
theorem OwM.far {w : World} {B U g : Nat} {n : Nat} {ms : List Mk} (h : OwM w B U (some ⟨g, 0, none⟩) n ms) {p : Addr} (hp : g ≠ p.block) (u : Value) : OwM (w.setCell p u) B U (some ⟨g, 0, none⟩) n ms := by
  obtain ⟨g', vs, h0, h1, h2, h3, h4, h5⟩ := h
  injection h0 with h0
  injection h0 with h0 _
  subst h0
  exact ⟨_, vs, rfl, h1, h2, h3.far hp u, h4, h5.far hp u⟩
set_option maxHeartbeats 1000000 in
theorem eqLine_sameC (a b c d : Int) (w : World) : Calls Tryz.prog 39 #[.agg #[.int .i64 a, .int .i64 b, .int .i64 c, .int .i64 d], .agg #[.int .i64 a, .int .i64 b, .int .i64 c, .int .i64 d]] w fun e w' => e = .returned (.bool true) ∧ Q w w' := by
  have KP : Hid (∀ x y wv, Calls Tryz.prog 68 #[.agg #[.int .i64 x, .int .i64 y], .agg #[.int .i64 x, .int .i64 y]] wv fun e w' => e = .returned (.bool true) ∧ Q wv w') := Lib.hid (fun x y wv => by
    go_enter Tryz.func68, Tryz.ntmps68
    go_wp2_with fail
    go_ret
    exact ⟨rfl, by (repeat (first | assumption | exact Q.refl _ | refine Q.alloc ?_ _ | refine Q.drewN ?_ _ | refine Q.drew ?_))⟩)
  obtain ⟨W, hW⟩ : ∃ W, W = (w.alloc (.cells #[.int .i64 a, .int .i64 b, .int .i64 c, .int .i64 d] 40)).alloc (.cells #[.int .i64 a, .int .i64 b, .int .i64 c, .int .i64 d] 40) := ⟨_, rfl⟩
  have B0 : Blk W w.heap.size 40 #[.int .i64 a, .int .i64 b, .int .i64 c, .int .i64 d] := by rw [hW]; exact (Blk.new _ _ _).alloc _
  have B1 : Blk W (w.heap.size + 1) 40 #[.int .i64 a, .int .i64 b, .int .i64 c, .int .i64 d] := by rw [hW]; simpa using Blk.new (w.alloc (.cells #[.int .i64 a, .int .i64 b, .int .i64 c, .int .i64 d] 40)) 40 #[.int .i64 a, .int .i64 b, .int .i64 c, .int .i64 d]
  have Q0 : Q w W := by rw [hW]; (repeat (first | assumption | exact Q.refl _ | refine Q.alloc ?_ _ | refine Q.drewN ?_ _ | refine Q.drew ?_))
  have HW := Lib.hid hW
  clear hW
  go_enter Tryz.func39, Tryz.ntmps39
  go_wp2_with fail
  rw [← HW.out]
  refine (KP.out _ _ _).mono ?_
  rintro e1 w1 ⟨rfl, q1⟩
  replace B0 := B0.q q1
  replace B1 := B1.q q1
  replace Q0 := Q0.trans q1
  clear q1
  have c0 := B0.cell
  have c1 := B1.cell
  have l0 := B0.lt
  have l1 := B1.lt
  go_wp2_with fail
  refine (KP.out _ _ _).mono ?_
  rintro e2 w2 ⟨rfl, q2⟩
  replace Q0 := Q0.trans q2
  go_wp2_with fail
  go_ret
  exact ⟨rfl, Q0⟩
set_option maxRecDepth 100000 in
set_option maxHeartbeats 2000000 in
theorem toCourse_own (a b c d p q r s : Int) (A : Option Addr) (n cc : Nat) (ms : List Mk) (w : World) (ha : RdM w A ms) (hD : ms.length = n) (hn2 : n ≤ 1048576) :
    Calls Tryz.prog 10 #[.agg #[.int .i64 a, .int .i64 b, .int .i64 c, .int .i64 d, .int .i64 p, .int .i64 q, .int .i64 r, .int .i64 s, .slice A n cc]] w fun e w' => ∃ A', e = .returned (.agg #[.int .i64 a, .int .i64 b, .int .i64 c, .int .i64 d, .int .i64 p, .int .i64 q, .int .i64 r, .int .i64 s, .slice A' n n]) ∧ OwM w' w.heap.size w'.heap.size A' n ms ∧ Q w w' := by
  have K1 := Lib.hid (fun x y z u wv => toLine_any x y z u wv)
  have K2 := Lib.hid (fun wv (h : RdM wv A ms) => toMarkS_any A n cc ms wv h hD hn2)
  obtain ⟨W, hW⟩ : ∃ W, W = ((w.alloc (.cells #[.int .i64 a, .int .i64 b, .int .i64 c, .int .i64 d, .int .i64 p, .int .i64 q, .int .i64 r, .int .i64 s, .slice A n cc] 28)).alloc (.cells #[.int .i64 0, .int .i64 0, .int .i64 0, .int .i64 0, .int .i64 0, .int .i64 0, .int .i64 0, .int .i64 0, .slice none 0 0] 43)).alloc (.cells #[.int .i64 0, .int .i64 0, .int .i64 0, .int .i64 0, .int .i64 0, .int .i64 0, .int .i64 0, .int .i64 0, .slice none 0 0] 43) := ⟨_, rfl⟩
  have B0 : Blk W w.heap.size 28 #[.int .i64 a, .int .i64 b, .int .i64 c, .int .i64 d, .int .i64 p, .int .i64 q, .int .i64 r, .int .i64 s, .slice A n cc] := by rw [hW]; exact ((Blk.new _ _ _).alloc _).alloc _
  have B1 : Blk W (w.heap.size + 1) 43 #[.int .i64 0, .int .i64 0, .int .i64 0, .int .i64 0, .int .i64 0, .int .i64 0, .int .i64 0, .int .i64 0, .slice none 0 0] := by rw [hW]; exact Blk.alloc (by simpa using Blk.new (w.alloc (.cells #[.int .i64 a, .int .i64 b, .int .i64 c, .int .i64 d, .int .i64 p, .int .i64 q, .int .i64 r, .int .i64 s, .slice A n cc] 28)) 43 #[.int .i64 0, .int .i64 0, .int .i64 0, .int .i64 0, .int .i64 0, .int .i64 0, .int .i64 0, .int .i64 0, .slice none 0 0]) _
  have B2 : Blk W (w.heap.size + 1 + 1) 43 #[.int .i64 0, .int .i64 0, .int .i64 0, .int .i64 0, .int .i64 0, .int .i64 0, .int .i64 0, .int .i64 0, .slice none 0 0] := by rw [hW]; simpa using Blk.new ((w.alloc (.cells #[.int .i64 a, .int .i64 b, .int .i64 c, .int .i64 d, .int .i64 p, .int .i64 q, .int .i64 r, .int .i64 s, .slice A n cc] 28)).alloc (.cells #[.int .i64 0, .int .i64 0, .int .i64 0, .int .i64 0, .int .i64 0, .int .i64 0, .int .i64 0, .int .i64 0, .slice none 0 0] 43)) 43 #[.int .i64 0, .int .i64 0, .int .i64 0, .int .i64 0, .int .i64 0, .int .i64 0, .int .i64 0, .int .i64 0, .slice none 0 0]
  have Q0 : Q w W := by rw [hW]; (repeat (first | assumption | exact Q.refl _ | refine Q.alloc ?_ _ | refine Q.drewN ?_ _ | refine Q.drew ?_))
  have HW := Lib.hid hW
  clear hW
  go_enter Tryz.func10, Tryz.ntmps10
  go_wp2_with fail
  rw [← HW.out]
  refine (K1.out _ _ _ _ _).mono ?_
  rintro e1 w1 ⟨rfl, q1⟩
  replace B0 := B0.q q1
  replace B1 := B1.q q1
  replace B2 := B2.q q1
  replace Q0 := Q0.trans q1
  clear q1
  have c0 := B0.cell
  have l0 := B0.lt
  have c2 := B2.cell
  have f2 := B2.frozen
  have l2 := B2.lt
  go_wp2_with fail
  clear c0 l0 c2 f2 l2
  replace B0 := (((B0.far (p := ⟨w.heap.size + 1 + 1, 0, none⟩) (by simp <;> omega) (.int .i64 a)).far (p := ⟨w.heap.size + 1 + 1, 1, none⟩) (by simp <;> omega) (.int .i64 b)).far (p := ⟨w.heap.size + 1 + 1, 2, none⟩) (by simp <;> omega) (.int .i64 c)).far (p := ⟨w.heap.size + 1 + 1, 3, none⟩) (by simp <;> omega) (.int .i64 d)
  replace B1 := (((B1.far (p := ⟨w.heap.size + 1 + 1, 0, none⟩) (by simp) (.int .i64 a)).far (p := ⟨w.heap.size + 1 + 1, 1, none⟩) (by simp) (.int .i64 b)).far (p := ⟨w.heap.size + 1 + 1, 2, none⟩) (by simp) (.int .i64 c)).far (p := ⟨w.heap.size + 1 + 1, 3, none⟩) (by simp) (.int .i64 d)
  replace B2 := (((B2.set_ 0 (.int .i64 a)).set_ 1 (.int .i64 b)).set_ 2 (.int .i64 c)).set_ 3 (.int .i64 d)
  replace Q0 := (((Q0.setCell (p := ⟨w.heap.size + 1 + 1, 0, none⟩) (Nat.le_add_right _ 2) (.int .i64 a)).setCell (p := ⟨w.heap.size + 1 + 1, 1, none⟩) (Nat.le_add_right _ 2) (.int .i64 b)).setCell (p := ⟨w.heap.size + 1 + 1, 2, none⟩) (Nat.le_add_right _ 2) (.int .i64 c)).setCell (p := ⟨w.heap.size + 1 + 1, 3, none⟩) (Nat.le_add_right _ 2) (.int .i64 d)
  generalize (((w1.setCell ⟨w.heap.size + 1 + 1, 0, none⟩ (.int .i64 a)).setCell ⟨w.heap.size + 1 + 1, 1, none⟩ (.int .i64 b)).setCell ⟨w.heap.size + 1 + 1, 2, none⟩ (.int .i64 c)).setCell ⟨w.heap.size + 1 + 1, 3, none⟩ (.int .i64 d) = w2 at *
  refine (K1.out _ _ _ _ _).mono ?_
  rintro e3 w3 ⟨rfl, q3⟩
  replace B0 := B0.q q3
  replace B1 := B1.q q3
  replace B2 := B2.q q3
  replace Q0 := Q0.trans q3
  clear q3
  have c0 := B0.cell
  have l0 := B0.lt
  have c2 := B2.cell
  have f2 := B2.frozen
  have l2 := B2.lt
  go_wp2_with fail
  clear c0 l0 c2 f2 l2
  replace B0 := (((B0.far (p := ⟨w.heap.size + 1 + 1, 4, none⟩) (by simp <;> omega) (.int .i64 p)).far (p := ⟨w.heap.size + 1 + 1, 5, none⟩) (by simp <;> omega) (.int .i64 q)).far (p := ⟨w.heap.size + 1 + 1, 6, none⟩) (by simp <;> omega) (.int .i64 r)).far (p := ⟨w.heap.size + 1 + 1, 7, none⟩) (by simp <;> omega) (.int .i64 s)
  replace B1 := (((B1.far (p := ⟨w.heap.size + 1 + 1, 4, none⟩) (by simp) (.int .i64 p)).far (p := ⟨w.heap.size + 1 + 1, 5, none⟩) (by simp) (.int .i64 q)).far (p := ⟨w.heap.size + 1 + 1, 6, none⟩) (by simp) (.int .i64 r)).far (p := ⟨w.heap.size + 1 + 1, 7, none⟩) (by simp) (.int .i64 s)
  replace B2 := (((B2.set_ 4 (.int .i64 p)).set_ 5 (.int .i64 q)).set_ 6 (.int .i64 r)).set_ 7 (.int .i64 s)
  replace Q0 := (((Q0.setCell (p := ⟨w.heap.size + 1 + 1, 4, none⟩) (Nat.le_add_right _ 2) (.int .i64 p)).setCell (p := ⟨w.heap.size + 1 + 1, 5, none⟩) (Nat.le_add_right _ 2) (.int .i64 q)).setCell (p := ⟨w.heap.size + 1 + 1, 6, none⟩) (Nat.le_add_right _ 2) (.int .i64 r)).setCell (p := ⟨w.heap.size + 1 + 1, 7, none⟩) (Nat.le_add_right _ 2) (.int .i64 s)
  generalize (((w3.setCell ⟨w.heap.size + 1 + 1, 4, none⟩ (.int .i64 p)).setCell ⟨w.heap.size + 1 + 1, 5, none⟩ (.int .i64 q)).setCell ⟨w.heap.size + 1 + 1, 6, none⟩ (.int .i64 r)).setCell ⟨w.heap.size + 1 + 1, 7, none⟩ (.int .i64 s) = w4 at *
  refine (K2.out _ (ha.q Q0)).mono ?_
  rintro e5 w5 ⟨rfl, hr, q5⟩
  have z4 := B2.lt
  have zQ := Q0.size
  have z5 := q5.size
  obtain ⟨g, hg⟩ : ∃ g, g = w4.heap.size := ⟨_, rfl⟩
  rw [← hg] at hr z4 zQ z5 ⊢
  clear hg
  replace B0 := B0.q q5
  replace B1 := B1.q q5
  replace B2 := B2.q q5
  have Q5 := Q0.trans q5
  have c1 := B1.cell
  have f1 := B1.frozen
  have l1 := B1.lt
  have c2 := B2.cell
  have f2 := B2.frozen
  have l2 := B2.lt
  go_wp2_with fail
  have G1 := B1.far (p := ⟨w.heap.size + 1 + 1, 8, none⟩) (by simp) (.slice (some ⟨g, 0, none⟩) n n)
  have QG : Q w (w5.setCell ⟨w.heap.size + 1 + 1, 8, none⟩ (.slice (some ⟨g, 0, none⟩) n n)) := Q5.setCell (p := ⟨w.heap.size + 1 + 1, 8, none⟩) (Nat.le_add_right _ 2) _
  have F := (((((((((G1.set_ 0 (.int .i64 a)).set_ 1 (.int .i64 b)).set_ 2 (.int .i64 c)).set_ 3 (.int .i64 d)).set_ 4 (.int .i64 p)).set_ 5 (.int .i64 q)).set_ 6 (.int .i64 r)).set_ 7 (.int .i64 s)).set_ 8 (.slice (some ⟨g, 0, none⟩) n n)).cell
  refine bodyPost_ret (v := .agg #[.int .i64 a, .int .i64 b, .int .i64 c, .int .i64 d, .int .i64 p, .int .i64 q, .int .i64 r, .int .i64 s, .slice (some ⟨g, 0, none⟩) n n]) (by simp [results, Tryz.results10, go_sem, F]) rfl ⟨some ⟨g, 0, none⟩, rfl, ?_, ?_⟩
  · refine OwM.mono (B := g) (U := w5.heap.size) ?_ (by omega) (by simp)
    exact ((((((((((hr.far (p := ⟨w.heap.size + 1 + 1, 8, none⟩) (by simp only; omega) _).far (p := ⟨w.heap.size + 1, 0, none⟩) (by simp only; omega) _).far (p := ⟨w.heap.size + 1, 1, none⟩) (by simp only; omega) _).far (p := ⟨w.heap.size + 1, 2, none⟩) (by simp only; omega) _).far (p := ⟨w.heap.size + 1, 3, none⟩) (by simp only; omega) _).far (p := ⟨w.heap.size + 1, 4, none⟩) (by simp only; omega) _).far (p := ⟨w.heap.size + 1, 5, none⟩) (by simp only; omega) _).far (p := ⟨w.heap.size + 1, 6, none⟩) (by simp only; omega) _).far (p := ⟨w.heap.size + 1, 7, none⟩) (by simp only; omega) _).far (p := ⟨w.heap.size + 1, 8, none⟩) (by simp only; omega) _)
  · exact (((((((((QG.setCell (p := ⟨w.heap.size + 1, 0, none⟩) (Nat.le_add_right _ 1) _).setCell (p := ⟨w.heap.size + 1, 1, none⟩) (Nat.le_add_right _ 1) _).setCell (p := ⟨w.heap.size + 1, 2, none⟩) (Nat.le_add_right _ 1) _).setCell (p := ⟨w.heap.size + 1, 3, none⟩) (Nat.le_add_right _ 1) _).setCell (p := ⟨w.heap.size + 1, 4, none⟩) (Nat.le_add_right _ 1) _).setCell (p := ⟨w.heap.size + 1, 5, none⟩) (Nat.le_add_right _ 1) _).setCell (p := ⟨w.heap.size + 1, 6, none⟩) (Nat.le_add_right _ 1) _).setCell (p := ⟨w.heap.size + 1, 7, none⟩) (Nat.le_add_right _ 1) _).setCell (p := ⟨w.heap.size + 1, 8, none⟩) (Nat.le_add_right _ 1) _)
theorem toCourse_any (a b c d p q r s : Int) (A : Option Addr) (n cc : Nat) (ms : List Mk) (w : World) (ha : RdM w A ms) (hD : ms.length = n) (hn2 : n ≤ 1048576) :
    Calls Tryz.prog 10 #[.agg #[.int .i64 a, .int .i64 b, .int .i64 c, .int .i64 d, .int .i64 p, .int .i64 q, .int .i64 r, .int .i64 s, .slice A n cc]] w fun e w' => ∃ A', e = .returned (.agg #[.int .i64 a, .int .i64 b, .int .i64 c, .int .i64 d, .int .i64 p, .int .i64 q, .int .i64 r, .int .i64 s, .slice A' n n]) ∧ RdM w' A' ms ∧ Q w w' :=
  (toCourse_own a b c d p q r s A n cc ms w ha hD hn2).mono fun _ _ ⟨A', h1, h2, h3⟩ => ⟨A', h1, h2.rd, h3⟩
set_option maxRecDepth 100000 in
set_option maxHeartbeats 2000000 in
theorem eqCourse_same (a b c d p q r s : Int) (A B : Option Addr) (n c1 c2 : Nat) (ms : List Mk) (w : World) (ha : RdM w A ms) (hb : RdM w B ms) (hD : ms.length = n) (hn : n ≤ 9223372036854775807) :
    Calls Tryz.prog 14 #[.agg #[.int .i64 a, .int .i64 b, .int .i64 c, .int .i64 d, .int .i64 p, .int .i64 q, .int .i64 r, .int .i64 s, .slice A n c1], .agg #[.int .i64 a, .int .i64 b, .int .i64 c, .int .i64 d, .int .i64 p, .int .i64 q, .int .i64 r, .int .i64 s, .slice B n c2]] w fun e w' => e = .returned (.bool true) ∧ Q w w' := by
  have K1 := Lib.hid (fun x y z u wv => eqLine_sameC x y z u wv)
  have K2 := Lib.hid (fun wv (h : RdM wv A ms) (h2 : RdM wv B ms) => eqMarkS_same A B n c1 c2 ms wv h h2 hD hn)
  obtain ⟨W, hW⟩ : ∃ W, W = (w.alloc (.cells #[.int .i64 a, .int .i64 b, .int .i64 c, .int .i64 d, .int .i64 p, .int .i64 q, .int .i64 r, .int .i64 s, .slice A n c1] 43)).alloc (.cells #[.int .i64 a, .int .i64 b, .int .i64 c, .int .i64 d, .int .i64 p, .int .i64 q, .int .i64 r, .int .i64 s, .slice B n c2] 43) := ⟨_, rfl⟩
  have B0 : Blk W w.heap.size 43 #[.int .i64 a, .int .i64 b, .int .i64 c, .int .i64 d, .int .i64 p, .int .i64 q, .int .i64 r, .int .i64 s, .slice A n c1] := by rw [hW]; exact (Blk.new _ _ _).alloc _
  have B1 : Blk W (w.heap.size + 1) 43 #[.int .i64 a, .int .i64 b, .int .i64 c, .int .i64 d, .int .i64 p, .int .i64 q, .int .i64 r, .int .i64 s, .slice B n c2] := by rw [hW]; simpa using Blk.new (w.alloc (.cells #[.int .i64 a, .int .i64 b, .int .i64 c, .int .i64 d, .int .i64 p, .int .i64 q, .int .i64 r, .int .i64 s, .slice A n c1] 43)) 43 #[.int .i64 a, .int .i64 b, .int .i64 c, .int .i64 d, .int .i64 p, .int .i64 q, .int .i64 r, .int .i64 s, .slice B n c2]
  have Q0 : Q w W := by rw [hW]; (repeat (first | assumption | exact Q.refl _ | refine Q.alloc ?_ _ | refine Q.drewN ?_ _ | refine Q.drew ?_))
  have HW := Lib.hid hW
  clear hW
  go_enter Tryz.func14, Tryz.ntmps14
  go_wp2_with fail
  rw [← HW.out]
  refine (K1.out _ _ _ _ _).mono ?_
  rintro e1 w1 ⟨rfl, q1⟩
  replace B0 := B0.q q1
  replace B1 := B1.q q1
  replace Q0 := Q0.trans q1
  clear q1
  have c0 := B0.cell
  have c1 := B1.cell
  have l0 := B0.lt
  have l1 := B1.lt
  go_wp2_with fail
  refine (K1.out _ _ _ _ _).mono ?_
  rintro e2 w2 ⟨rfl, q2⟩
  clear c0 c1 l0 l1
  replace B0 := B0.q q2
  replace B1 := B1.q q2
  replace Q0 := Q0.trans q2
  clear q2
  have c0 := B0.cell
  have c1 := B1.cell
  have l0 := B0.lt
  have l1 := B1.lt
  go_wp2_with fail
  refine (K2.out _ (ha.q Q0) (hb.q Q0)).mono ?_
  rintro e3 w3 ⟨rfl, q3⟩
  replace Q0 := Q0.trans q3
  go_wp2_with fail
  go_ret
  exact ⟨rfl, Q0⟩
end Go.Proofs.YtomgdgdcpgeilaaGreatDoor
