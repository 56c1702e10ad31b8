/- Walks: the middle of a line and the stations of a course, as the program and the reference make them. No condition. Walks: slices.Compact of points: whether two neighbours are the same. No condition. -/
import Derived.Test.YteofhfefbphjdaaGreatDoorMkB
import Derived.Test.YteofhfefbphjdaaGreatDoorEarly
import Derived.Lib.SliceRun
import Derived.Deep.Cut
namespace Go.Proofs.YteofhfefbphjdaaGreatDoor
open Go.RowKit Go.WideShapes Go.ChangeShapes
theorem infoPoint : (Tryz.prog.info? 25).map (fun i => (i.zero, i.size, i.bytes)) = some (some (.agg #[.int .i64 0, .int .i64 0]), 2, 16) := by kernel_rfl
theorem elPoint : EltT 87 25 2 := EltT.mk infoPoint Tryz.underlying87 (by decide) rfl (by decide)
/-- Four numbers from -M to M. -/
def bd4 (M a b c d : Int) : Prop := ((-M ≤ a ∧ a ≤ M) ∧ (-M ≤ b ∧ b ≤ M)) ∧ ((-M ≤ c ∧ c ≤ M) ∧ (-M ≤ d ∧ d ≤ M))
theorem lnB_bd {a b c d : Int} (h : lnB a b c d = true) : bd4 1000000 a b c d := by
  unfold lnB ptB at h
  simp only [Bool.and_eq_true, decide_eq_true_eq] at h
  unfold bd4
  omega
def mdX (a c : Int) : Int := (a + c) / 2
set_option maxHeartbeats 1000000 in
theorem impl_middle (a b c d : Int) (w : World) (h : bd4 1000001 a b c d) : Calls Tryz.prog 81 #[.agg #[.int .i64 a, .int .i64 b, .int .i64 c, .int .i64 d]] w fun e w' => e = .returned (.agg #[.int .i64 (mdX a c), .int .i64 (mdX b d)]) ∧ Q w w' := by
  obtain ⟨⟨⟨p1, p2⟩, p3, p4⟩, ⟨q1, q2⟩, q3, q4⟩ := h
  have L0 := (Blk.new w 27 #[.int .i64 a, .int .i64 b, .int .i64 c, .int .i64 d]).alloc (.cells #[.int .i64 0, .int .i64 0] 25)
  have P0 : Blk ((w.alloc (.cells #[.int .i64 a, .int .i64 b, .int .i64 c, .int .i64 d] 27)).alloc (.cells #[.int .i64 0, .int .i64 0] 25)) (w.heap.size + 1) 25 #[.int .i64 0, .int .i64 0] := by simpa using Blk.new (w.alloc (.cells #[.int .i64 a, .int .i64 b, .int .i64 c, .int .i64 d] 27)) 25 #[.int .i64 0, .int .i64 0]
  have Q0 : Q w ((w.alloc (.cells #[.int .i64 a, .int .i64 b, .int .i64 c, .int .i64 d] 27)).alloc (.cells #[.int .i64 0, .int .i64 0] 25)) := by (repeat (first | assumption | exact Q.refl _ | refine Q.alloc ?_ _ | refine Q.drewN ?_ _ | refine Q.drew ?_))
  go_enter Tryz.func81, Tryz.ntmps81
  go_wp2_with fail
  generalize (w.alloc (.cells #[.int .i64 a, .int .i64 b, .int .i64 c, .int .i64 d] 27)).alloc (.cells #[.int .i64 0, .int .i64 0] 25) = wb at *
  have LC := later_cells L0.cell L0.lt
  refine wp_region_later_tail 17 (by kernel_rfl) (by kernel_rfl) ?_
  simp only [List.take_succ_cons, List.take_zero, List.drop_succ_cons, List.drop_zero]
  repeat (any_goals (first | go_big_quiet_step ((go_at_call 84; exact later_same (impl_floorDiv _ _ _ (by decide) (by omega) (by decide)))) | quiet_step ((go_at_call 84; exact later_same (impl_floorDiv _ _ _ (by decide) (by omega) (by decide))))))
  refine wpQuiet_nil ?_
  rintro w3 ⟨⟨w4, q4⟩, hw⟩
  obtain rfl : w3 = w4 := hw
  have cP := (P0.q q4).cell
  have fP := (P0.q q4).frozen
  have Q4 : Q w w3 := Q0.trans q4
  go_wp2_with fail
  have bf := (((P0.q q4).set_ 0 (.int .i64 ((a + c) / 2))).set_ 1 (.int .i64 ((b + d) / 2))).cell
  exact bodyPost_ret (v := .agg #[.int .i64 ((a + c) / 2), .int .i64 ((b + d) / 2)]) (by simp [results, Tryz.results81, go_sem, bf]) rfl ⟨rfl, (Q4.setCell (by simp) _).setCell (by simp) _⟩
set_option maxHeartbeats 1000000 in
theorem spec_middle (a b c d : Int) (w : World) (h : bd4 1000001 a b c d) : Calls Tryz.prog 40 #[.agg #[.int .i64 a, .int .i64 b, .int .i64 c, .int .i64 d]] w fun e w' => e = .returned (.agg #[.int .i64 (mdX a c), .int .i64 (mdX b d)]) ∧ Q w w' := by
  obtain ⟨⟨⟨p1, p2⟩, p3, p4⟩, ⟨q1, q2⟩, q3, q4⟩ := h
  have L0 := (Blk.new w 27 #[.int .i64 a, .int .i64 b, .int .i64 c, .int .i64 d]).alloc (.cells #[.int .i64 0, .int .i64 0] 25)
  have P0 : Blk ((w.alloc (.cells #[.int .i64 a, .int .i64 b, .int .i64 c, .int .i64 d] 27)).alloc (.cells #[.int .i64 0, .int .i64 0] 25)) (w.heap.size + 1) 25 #[.int .i64 0, .int .i64 0] := by simpa using Blk.new (w.alloc (.cells #[.int .i64 a, .int .i64 b, .int .i64 c, .int .i64 d] 27)) 25 #[.int .i64 0, .int .i64 0]
  have Q0 : Q w ((w.alloc (.cells #[.int .i64 a, .int .i64 b, .int .i64 c, .int .i64 d] 27)).alloc (.cells #[.int .i64 0, .int .i64 0] 25)) := by (repeat (first | assumption | exact Q.refl _ | refine Q.alloc ?_ _ | refine Q.drewN ?_ _ | refine Q.drew ?_))
  go_enter Tryz.func40, Tryz.ntmps40
  go_wp2_with fail
  generalize (w.alloc (.cells #[.int .i64 a, .int .i64 b, .int .i64 c, .int .i64 d] 27)).alloc (.cells #[.int .i64 0, .int .i64 0] 25) = wb at *
  have LC := later_cells L0.cell L0.lt
  refine wp_region_later_tail 17 (by kernel_rfl) (by kernel_rfl) ?_
  simp only [List.take_succ_cons, List.take_zero, List.drop_succ_cons, List.drop_zero]
  repeat (any_goals (first | go_big_quiet_step ((go_at_call 44; exact later_same (spec_Floor _ _ _ (by decide) (by omega) (by decide)))) | quiet_step ((go_at_call 44; exact later_same (spec_Floor _ _ _ (by decide) (by omega) (by decide))))))
  refine wpQuiet_nil ?_
  rintro w3 ⟨⟨w4, q4⟩, hw⟩
  obtain rfl : w3 = w4 := hw
  have cP := (P0.q q4).cell
  have fP := (P0.q q4).frozen
  have Q4 : Q w w3 := Q0.trans q4
  go_wp2_with fail
  have bf := (((P0.q q4).set_ 0 (.int .i64 ((a + c) / 2))).set_ 1 (.int .i64 ((b + d) / 2))).cell
  exact bodyPost_ret (v := .agg #[.int .i64 ((a + c) / 2), .int .i64 ((b + d) / 2)]) (by simp [results, Tryz.results40, go_sem, bf]) rfl ⟨rfl, (Q4.setCell (by simp) _).setCell (by simp) _⟩
/-- The stations up to mark k (x, y each). -/
def stTo (a b c d : Int) (ms : List Mk) : Nat → List Int
  | 0 => [mdX a c, mdX b d]
  | k + 1 => stTo a b c d ms k ++ [(mx ms k).x, (mx ms k).y]
theorem stTo_len (a b c d : Int) (ms : List Mk) : ∀ k, (stTo a b c d ms k).length = (k + 1) * 2
  | 0 => rfl
  | k + 1 => by rw [stTo, List.length_append, stTo_len a b c d ms k]; simp; omega
/-- The stations of a course. -/
def stL (a b c d p q r s : Int) (ms : List Mk) : List Int := stTo a b c d ms ms.length ++ [mdX p r, mdX q s]
theorem stL_len (a b c d p q r s : Int) (ms : List Mk) : (stL a b c d p q r s ms).length = (ms.length + 2) * 2 := by
  unfold stL
  rw [List.length_append, stTo_len]
  simp
  omega
set_option maxHeartbeats 2000000 in
theorem impl_stations (a b c d p q r s : Int) (A : Option Addr) (n cc : Nat) (ms : List Mk) (w : World) (ha : RdM w A ms) (hn : ms.length = n) (hn2 : n ≤ 1000) (h1 : bd4 1000001 a b c d) (h2 : bd4 1000001 p q r s) :
    Calls Tryz.prog 49 #[.agg #[.int .i64 a, .int .i64 b, .int .i64 c, .int .i64 d, .int .i64 p, .int .i64 q, .int .i64 r, .int .i64 s, .slice A n cc]] w (RL w 25 2 (n + 2) (stL a b c d p q r s ms)) := by
  have K1 := Lib.hid (fun wv => impl_middle a b c d wv h1)
  have K2 := Lib.hid (fun wv => impl_middle p q r s wv h2)
  have B0 := Blk.new w 30 #[.int .i64 a, .int .i64 b, .int .i64 c, .int .i64 d, .int .i64 p, .int .i64 q, .int .i64 r, .int .i64 s, .slice A n cc]
  have Q0 : Q w (w.alloc (.cells #[.int .i64 a, .int .i64 b, .int .i64 c, .int .i64 d, .int .i64 p, .int .i64 q, .int .i64 r, .int .i64 s, .slice A n cc] 30)) := by (repeat (first | assumption | exact Q.refl _ | refine Q.alloc ?_ _ | refine Q.drewN ?_ _ | refine Q.drew ?_))
  have HN := Lib.hid hn
  have hnI : (n : Int) ≤ 1000 := by omega
  have HS0 := Lib.hid (show stTo a b c d ms 0 = [mdX a c, mdX b d] from rfl)
  have HSS := Lib.hid (fun k => (show stTo a b c d ms (k + 1) = stTo a b c d ms k ++ [(mx ms k).x, (mx ms k).y] from rfl))
  have HSL := Lib.hid (show stL a b c d p q r s ms = stTo a b c d ms n ++ [mdX p r, mdX q s] by unfold stL; rw [hn])
  have HLL := Lib.hid (fun k => stTo_len a b c d ms k)
  have HL2 := Lib.hid (show (stL a b c d p q r s ms).length = (n + 2) * 2 by rw [stL_len, hn])
  clear h1 h2 hn
  go_enter Tryz.func49, Tryz.ntmps49
  go_wp2_with fail
  refine (K1.out _).mono ?_
  rintro e w1 ⟨rfl, q1⟩
  replace B0 := B0.q q1
  replace Q0 := Q0.trans q1
  generalize mdX a c = X0 at *
  generalize mdX b d = Y0 at *
  have QL : Q w1 (w1.alloc (.cells #[.int .i64 X0, .int .i64 Y0] 25)) := by (repeat (first | assumption | exact Q.refl _ | refine Q.alloc ?_ _ | refine Q.drewN ?_ _ | refine Q.drew ?_))
  have OL : Own (w1.alloc (.cells #[.int .i64 X0, .int .i64 Y0] 25)) w1.heap.size 25 2 (.slice (some ⟨w1.heap.size, 0, none⟩) 1 1) 1 (stTo a b c d ms 0) := by
    rw [HS0.out]
    exact Own.lit w1 25 2 1 [X0, Y0] rfl (Nat.le_refl _) rfl (by decide)
  have c0 := (B0.q QL).cell
  have l0 := (B0.q QL).lt
  go_wp2_with fail
  clear c0 l0
  go_loopw [3, 13] (fun v i wr => ∃ (k : Nat) (A1 : Option Addr) (c1 : Nat), k ≤ n ∧ i = .int .i64 k ∧ v = .slice A1 (k + 1) c1 ∧ Own wr w1.heap.size 25 2 (.slice A1 (k + 1) c1) (k + 1) (stTo a b c d ms k) ∧ Q w1 wr) (fun _ i _ => n - (intOf i).toNat)
  case atStart => exact ⟨0, _, _, Nat.zero_le _, rfl, rfl, OL, QL⟩
  case round =>
    clear OL QL
    obtain ⟨k, A1, c1, hk, rfl, rfl, hown, hq⟩ := hrel
    have b0 := (B0.q hq).cell
    have l0 := (B0.q hq).lt
    have hsz := hq.size
    by_cases hlt : k < n
    · have hltI : (k : Int) < (n : Int) := by omega
      obtain ⟨b1, o1, rfl, g0, g1, g2, g3, g4, _⟩ := (ha.q (Q0.trans hq)).at_ HN.out hlt
      have HSk := Lib.hid (HSS.out k)
      generalize mx ms k = m at *
      go_wp2_with (at_builtin; refine appK elPoint rfl _ _ rfl [m.x, m.y] rfl (hown.q (by (repeat (first | assumption | exact Q.refl _ | refine Q.alloc ?_ _ | refine Q.drewN ?_ _ | refine Q.drew ?_)))) rfl (by simp) rfl _ _ rfl (by omega) (by first | omega | (simp; omega)) ?_; intro A' c' w' hown' hg' hgr')
      go_roundw
      case rel => exact ⟨k + 1, A', c', by omega, by go_num, rfl, by rw [HSk.out]; exact hown', Q.mark (hq.trans (by (repeat (first | assumption | exact Q.refl _ | refine Q.alloc ?_ _ | refine Q.drewN ?_ _ | refine Q.drew ?_)))) (hown.q (by (repeat (first | assumption | exact Q.refl _ | refine Q.alloc ?_ _ | refine Q.drewN ?_ _ | refine Q.drew ?_)))) (Nat.le_refl _) hg'⟩
      case measure => simp [intOf]; omega
    · obtain rfl : k = n := by omega
      go_wp2_with fail
      refine (K2.out _).mono ?_
      rintro e w2 ⟨rfl, q2⟩
      have hq2 := hq.trans q2
      have hs2 := hq2.size
      generalize mdX p r = X1 at *
      generalize mdX q s = Y1 at *
      go_wp2_with (at_builtin; refine appK elPoint rfl _ _ rfl [X1, Y1] rfl ((hown.q q2).q (by (repeat (first | assumption | exact Q.refl _ | refine Q.alloc ?_ _ | refine Q.drewN ?_ _ | refine Q.drew ?_)))) rfl (by simp) rfl _ _ rfl (by omega) (by omega) ?_; intro A' c' w' hown' hg' hgr')
      go_ret
      rw [← HSL.out] at hown'
      exact RL.mk' (hown'.mono Q0.size) (Q0.trans (Q.mark hq2 (hown.q q2) (Nat.le_refl _) hg')) HL2.out (by decide)
set_option maxHeartbeats 2000000 in
theorem spec_stations (a b c d p q r s : Int) (A : Option Addr) (n cc : Nat) (ms : List Mk) (w : World) (ha : RdM w A ms) (hn : ms.length = n) (hn2 : n ≤ 1000) (h1 : bd4 1000001 a b c d) (h2 : bd4 1000001 p q r s) :
    Calls Tryz.prog 37 #[.agg #[.int .i64 a, .int .i64 b, .int .i64 c, .int .i64 d, .int .i64 p, .int .i64 q, .int .i64 r, .int .i64 s, .slice A n cc]] w (RL w 25 2 (n + 2) (stL a b c d p q r s ms)) := by
  have K1 := Lib.hid (fun wv => spec_middle a b c d wv h1)
  have K2 := Lib.hid (fun wv => spec_middle p q r s wv h2)
  have B0 := Blk.new w 30 #[.int .i64 a, .int .i64 b, .int .i64 c, .int .i64 d, .int .i64 p, .int .i64 q, .int .i64 r, .int .i64 s, .slice A n cc]
  have Q0 : Q w (w.alloc (.cells #[.int .i64 a, .int .i64 b, .int .i64 c, .int .i64 d, .int .i64 p, .int .i64 q, .int .i64 r, .int .i64 s, .slice A n cc] 30)) := by (repeat (first | assumption | exact Q.refl _ | refine Q.alloc ?_ _ | refine Q.drewN ?_ _ | refine Q.drew ?_))
  have HN := Lib.hid hn
  have hnI : (n : Int) ≤ 1000 := by omega
  have HS0 := Lib.hid (show stTo a b c d ms 0 = [mdX a c, mdX b d] from rfl)
  have HSS := Lib.hid (fun k => (show stTo a b c d ms (k + 1) = stTo a b c d ms k ++ [(mx ms k).x, (mx ms k).y] from rfl))
  have HSL := Lib.hid (show stL a b c d p q r s ms = stTo a b c d ms n ++ [mdX p r, mdX q s] by unfold stL; rw [hn])
  have HLL := Lib.hid (fun k => stTo_len a b c d ms k)
  have HL2 := Lib.hid (show (stL a b c d p q r s ms).length = (n + 2) * 2 by rw [stL_len, hn])
  clear h1 h2 hn
  go_enter Tryz.func37, Tryz.ntmps37
  go_wp2_with fail
  refine (K1.out _).mono ?_
  rintro e w1 ⟨rfl, q1⟩
  replace B0 := B0.q q1
  replace Q0 := Q0.trans q1
  generalize mdX a c = X0 at *
  generalize mdX b d = Y0 at *
  have QL : Q w1 (w1.alloc (.cells #[.int .i64 X0, .int .i64 Y0] 25)) := by (repeat (first | assumption | exact Q.refl _ | refine Q.alloc ?_ _ | refine Q.drewN ?_ _ | refine Q.drew ?_))
  have OL : Own (w1.alloc (.cells #[.int .i64 X0, .int .i64 Y0] 25)) w1.heap.size 25 2 (.slice (some ⟨w1.heap.size, 0, none⟩) 1 1) 1 (stTo a b c d ms 0) := by
    rw [HS0.out]
    exact Own.lit w1 25 2 1 [X0, Y0] rfl (Nat.le_refl _) rfl (by decide)
  have c0 := (B0.q QL).cell
  have l0 := (B0.q QL).lt
  go_wp2_with fail
  clear c0 l0
  go_loopw [3, 4] (fun v i wr => ∃ (k : Nat) (A1 : Option Addr) (c1 : Nat), k ≤ n ∧ i = .int .i64 k ∧ v = .slice A1 (k + 1) c1 ∧ Own wr w1.heap.size 25 2 (.slice A1 (k + 1) c1) (k + 1) (stTo a b c d ms k) ∧ Q w1 wr) (fun _ i _ => n - (intOf i).toNat)
  case atStart => exact ⟨0, _, _, Nat.zero_le _, rfl, rfl, OL, QL⟩
  case round =>
    clear OL QL
    obtain ⟨k, A1, c1, hk, rfl, rfl, hown, hq⟩ := hrel
    have b0 := (B0.q hq).cell
    have l0 := (B0.q hq).lt
    have hsz := hq.size
    by_cases hlt : k < n
    · have hltI : (k : Int) < (n : Int) := by omega
      obtain ⟨b1, o1, rfl, g0, g1, g2, g3, g4, _⟩ := (ha.q (Q0.trans hq)).at_ HN.out hlt
      have HSk := Lib.hid (HSS.out k)
      generalize mx ms k = m at *
      go_wp2_with (at_builtin; refine appK elPoint rfl _ _ rfl [m.x, m.y] rfl hown rfl rfl rfl _ _ rfl (by omega) (by first | omega | (simp; omega)) ?_; intro A' c' w' hown' hg' hgr')
      go_roundw
      case rel => exact ⟨k + 1, A', c', by omega, by go_num, rfl, by rw [HSk.out]; exact hown', Q.mark hq hown (Nat.le_refl _) hg'⟩
      case measure => simp [intOf]; omega
    · obtain rfl : k = n := by omega
      go_wp2_with fail
      refine (K2.out _).mono ?_
      rintro e w2 ⟨rfl, q2⟩
      have hq2 := hq.trans q2
      have hs2 := hq2.size
      generalize mdX p r = X1 at *
      generalize mdX q s = Y1 at *
      go_wp2_with (at_builtin; refine appK elPoint rfl _ _ rfl [X1, Y1] rfl ((hown.q q2).q (by (repeat (first | assumption | exact Q.refl _ | refine Q.alloc ?_ _ | refine Q.drewN ?_ _ | refine Q.drew ?_)))) rfl (by simp) rfl _ _ rfl (by omega) (by omega) ?_; intro A' c' w' hown' hg' hgr')
      go_ret
      rw [← HSL.out] at hown'
      exact RL.mk' (hown'.mono Q0.size) (Q0.trans (Q.mark hq2 (hown.q q2) (Nat.le_refl _) hg')) HL2.out (by decide)
end Go.Proofs.YteofhfefbphjdaaGreatDoor
namespace Go.Proofs.YteofhfefbphjdaaGreatDoor
open Go.RowKit Go.WideShapes Go.ChangeShapes
theorem run_clearP (w : World) (ty : TypeId) (g o n c : Nat) (hn : 0 < n) (hc : ∀ j, j < n * 2 → (w.cell? ⟨g, o + j, none⟩).isSome = true) (hf : ∀ j, j < n * 2 → w.frozen? ⟨g, o + j, none⟩ = false) :
    (Builtin.clear_ #[87] ty #[.slice (some ⟨g, o, none⟩) n c]).run Tryz.prog w = .ok (.tuple #[]) (w.setCells g o (List.replicate (n * 2) (.int .i64 0))) := by
  have hz : ∀ w, (zeroValue 25).run Tryz.prog w = .ok (.agg #[.int .i64 0, .int .i64 0]) w := fun w => by kernel_rfl
  have hzc : (Builtin.zeroCells (Value.agg #[.int .i64 0, .int .i64 0]).cells n).toList = List.replicate (n * 2) (.int .i64 0) := by
    apply List.ext_getElem
    · simp [Builtin.zeroCells, Value.cells]
    · intro i h1 h2
      have h3 : i % 2 = 0 ∨ i % 2 = 1 := by omega
      rcases h3 with h3 | h3 <;> simp [Builtin.zeroCells, Value.cells, h3]
  have hst := run_storeCells_cells (P := Tryz.prog) g o (List.replicate (n * 2) (.int .i64 0)) 0 w (by simpa using hc) (by simpa using hf) (by intro v hv'; rw [List.eq_of_mem_replicate hv']; rfl)
  simp only [Nat.add_zero] at hst
  obtain ⟨m, rfl⟩ : ∃ m, n = m + 1 := ⟨n - 1, by omega⟩
  simp [Builtin.clear_, run_underlying Tryz.underlying87, hz, hzc, hst]
/-- Neighbours i and i + 1 are the same point. -/
def adjB (L : List Int) (i : Nat) : Prop := el L (i * 2) = el L ((i + 1) * 2) ∧ el L (i * 2 + 1) = el L ((i + 1) * 2 + 1)
/-- No two neighbours of the first k are the same. -/
def adjNo (L : List Int) (k : Nat) : Prop := ∀ i, i + 1 < k → ¬ adjB L i
theorem adjNo.succ {L : List Int} {j : Nat} (h : adjNo L (j + 1)) (hj : ¬ adjB L j) : adjNo L (j + 1 + 1) := fun i hi => by
  by_cases h' : i + 1 < j + 1
  · exact h i h'
  · obtain rfl : i = j := by omega
    exact hj
theorem QsetCells {a : World} {g : Nat} (hg : a.heap.size ≤ g) : ∀ (vs : List Value) (o : Nat) (w : World), Q a w → Q a (w.setCells g o vs)
  | [], _, _, h => h
  | v :: r, o, _, h => QsetCells hg r (o + 1) _ (h.setCell (p := ⟨g, o, none⟩) hg v)
set_option maxRecDepth 100000 in
set_option maxHeartbeats 4000000 in
theorem run_Compact (g n c B : Nat) (L : List Int) (w0 w : World) (ho : Own w B 25 2 (.slice (some ⟨g, 0, none⟩) n c) n L) (hn : 2 ≤ n ∧ n ≤ 1000) (hB : w0.heap.size ≤ B) (hq0 : Q w0 w) :
    Calls Tryz.prog 50 #[.slice (some ⟨g, 0, none⟩) n c] w fun e w' => ∃ m, e = .returned (.slice (some ⟨g, 0, none⟩) m c) ∧ (m = n ↔ adjNo L n) ∧ m ≤ n ∧ Q w0 w' := by
  have hcap := ho.cap
  have hcM : c ≤ 9223372036854775807 := by
    rcases ho.2 with ⟨h', _⟩ | ⟨g', cap, cur, hv, hg, hh, hnc, hcm, _⟩
    · injection h' with h1 _ _; cases h1
    · injection hv with _ _ h3
      subst h3
      have : maxLen ≤ 9223372036854775807 := by decide
      omega
  have hgB := (ho.from _ rfl).1
  have hnI : (n : Int) ≤ 1000 := by omega
  have hn2 : (2 : Int) ≤ (n : Int) := by omega
  have hnc : (n : Int) ≤ (c : Int) := by omega
  have hLl := ho.len
  go_enter Tryz.func50, Tryz.ntmps50
  go_wp2_with fail
  go_loopw [3] (fun i wr => ∃ k : Nat, 1 ≤ k ∧ k ≤ n ∧ i = .int .i64 k ∧ Hid (adjNo L k) ∧ Q w wr) (fun i _ => n - (intOf i).toNat)
  case atStart => exact ⟨1, by omega, by omega, rfl, Lib.hid (fun i hi => by omega), by (repeat (first | assumption | exact Q.refl _ | refine Q.alloc ?_ _ | refine Q.drewN ?_ _ | refine Q.drew ?_))⟩
  case round =>
    obtain ⟨k, hk1, hk, rfl, HA, hq⟩ := hrel
    by_cases hlt : k < n
    · obtain ⟨j, rfl⟩ : ∃ j, k = j + 1 := ⟨k - 1, by omega⟩
      have hltI : (j : Int) + 1 < (n : Int) := by omega
      have hjI : (j : Int) < (n : Int) := by omega
      have hjw : IntKind.i64.wrap (j : Int) = (j : Int) := by rw [IntKind.wrap_i64]; omega
      have hjn : j < n := by omega
      have hown := ho.q hq
      have x1 : wr.cell? ⟨g, (j + 1) * 2, none⟩ = some (.int .i64 (el L ((j + 1) * 2))) := hown.cell (by omega)
      have y1 : wr.cell? ⟨g, (j + 1) * 2 + 1, none⟩ = some (.int .i64 (el L ((j + 1) * 2 + 1))) := hown.cell (by omega)
      have x0 : wr.cell? ⟨g, j * 2, none⟩ = some (.int .i64 (el L (j * 2))) := hown.cell (by omega)
      have y0 : wr.cell? ⟨g, j * 2 + 1, none⟩ = some (.int .i64 (el L (j * 2 + 1))) := hown.cell (by omega)
      have HAD := Lib.hid (show adjB L j ↔ (el L (j * 2) = el L ((j + 1) * 2) ∧ el L (j * 2 + 1) = el L ((j + 1) * 2 + 1)) from Iff.rfl)
      generalize el L ((j + 1) * 2) = X1 at *
      generalize el L ((j + 1) * 2 + 1) = Y1 at *
      generalize el L (j * 2) = X0 at *
      generalize el L (j * 2 + 1) = Y0 at *
      by_cases hx : X1 = X0
      · subst hx
        by_cases hy : Y1 = Y0
        · subst hy
          have HBAD := Lib.hid (show ¬ adjNo L n from fun h => h j hlt (HAD.out.2 ⟨rfl, rfl⟩))
          have hj1c : (j : Int) + 1 ≤ (c : Int) := by omega
          have hq1 := hq0.trans hq
          go_wp2_with fail
          refine wp_region_quiet_lit (by kernel_rfl) (by kernel_rfl) ?_
          repeat (any_goals (first | go_big_quiet_step ( fail) | quiet_step ( fail) | (refine wpQuiet_step (fun K hK => ?_); go_simp; split <;> (refine hK _ ?_; clear hK K))))
          all_goals (refine wpQuiet_nil ?_; intro _ hw'; obtain ⟨nq, hw''⟩ := hw'; subst hw'')
          all_goals go_wp2_with fail
          go_loopw [3, 5] (fun s3 s5 wz => ∃ (kk k2 : Nat) (M : List Int), s3 = .int .i64 kk ∧ s5 = .int .i64 k2 ∧ j + 1 ≤ kk ∧ 1 ≤ k2 ∧ k2 ≤ n - (j + 1) ∧ kk < j + 1 + k2 ∧ Own wz B 25 2 (.slice (some ⟨g, 0, none⟩) n c) n M ∧ Q w0 wz) (fun _ s5 _ => n - (intOf s5).toNat)
          case atStart => exact ⟨j + 1, 1, L, by go_num, rfl, Nat.le_refl _, Nat.le_refl _, by omega, by omega, hown.q (by (repeat (first | assumption | exact Q.refl _ | refine Q.alloc ?_ _ | refine Q.drewN ?_ _ | refine Q.drew ?_))), hq1.trans (by (repeat (first | assumption | exact Q.refl _ | refine Q.alloc ?_ _ | refine Q.drewN ?_ _ | refine Q.drew ?_)))⟩
          case round =>
            clear hown x1 y1 x0 y0 hq1
            obtain ⟨kk, k2, M, rfl, rfl, hkk, hk2, hk2n, hkk2, hM, hq2⟩ := hrel
            have hMl := hM.len
            by_cases hlt2 : k2 < n - (j + 1)
            · obtain ⟨t, rfl⟩ : ∃ t, k2 = t + 1 := ⟨k2 - 1, by omega⟩
              have htI : (t : Int) + 1 < ((n - (j + 1) : Nat) : Int) := by omega
              have htI2 : (t : Int) < ((n - (j + 1) : Nat) : Int) := by omega
              have htw : IntKind.i64.wrap (t : Int) = (t : Int) := by rw [IntKind.wrap_i64]; omega
              have ht2 : t < n - (j + 1) := by omega
              have hkkI : (kk : Int) < (n : Int) := by omega
              have x1 := hM.cell (j := (j + 1) * 2 + (t + 1) * 2) (by omega)
              have y1 := hM.cell (j := (j + 1) * 2 + (t + 1) * 2 + 1) (by omega)
              have x0 := hM.cell (j := (j + 1) * 2 + t * 2) (by omega)
              have y0 := hM.cell (j := (j + 1) * 2 + t * 2 + 1) (by omega)
              have z0 := hM.cell (j := kk * 2) (by omega)
              have z1 := hM.cell (j := kk * 2 + 1) (by omega)
              have fz := hM.frozen
              generalize M.getD ((j + 1) * 2 + (t + 1) * 2) 0 = X1 at *
              generalize M.getD ((j + 1) * 2 + (t + 1) * 2 + 1) 0 = Y1 at *
              generalize M.getD ((j + 1) * 2 + t * 2) 0 = X0 at *
              generalize M.getD ((j + 1) * 2 + t * 2 + 1) 0 = Y0 at *
              have HM := Lib.hid hM
              clear hM
              by_cases hx : X1 = X0
              · subst hx
                by_cases hy : Y1 = Y0
                · subst hy
                  go_wp2_with fail
                  refine wp_region_quiet_lit (by kernel_rfl) (by kernel_rfl) ?_
                  repeat (any_goals (first | go_big_quiet_step ( fail) | quiet_step ( fail) | (refine wpQuiet_step (fun K hK => ?_); go_simp; split <;> (refine hK _ ?_; clear hK K))))
                  all_goals (refine wpQuiet_nil ?_; intro _ hw'; obtain ⟨nq, hw''⟩ := hw'; subst hw'')
                  all_goals go_wp2_with fail
                  go_roundw
                  case rel => exact ⟨kk, t + 1 + 1, M, rfl, by go_num, by omega, by omega, by omega, by omega, HM.out.q (by (repeat (first | assumption | exact Q.refl _ | refine Q.alloc ?_ _ | refine Q.drewN ?_ _ | refine Q.drew ?_))), hq2.trans (by (repeat (first | assumption | exact Q.refl _ | refine Q.alloc ?_ _ | refine Q.drewN ?_ _ | refine Q.drew ?_)))⟩
                  case measure => simp [intOf]; omega
                · have hyb : (Y1 == Y0) = false := by simpa using hy
                  go_wp2_with fail
                  refine wp_region_quiet_lit (by kernel_rfl) (by kernel_rfl) ?_
                  repeat (any_goals (first | go_big_quiet_step ( fail) | quiet_step ( fail) | (refine wpQuiet_step (fun K hK => ?_); go_simp; split <;> (refine hK _ ?_; clear hK K))))
                  all_goals (refine wpQuiet_nil ?_; intro _ hw'; obtain ⟨nq, hw''⟩ := hw'; subst hw'')
                  all_goals go_wp2_with fail
                  go_roundw
                  case rel => exact ⟨kk + 1, t + 1 + 1, _, by go_num, by go_num, by omega, by omega, by omega, by omega, ((HM.out.q (by (repeat (first | assumption | exact Q.refl _ | refine Q.alloc ?_ _ | refine Q.drewN ?_ _ | refine Q.drew ?_)))).stored (kk * 2) X1).stored (kk * 2 + 1) Y1, ((hq2.trans (by (repeat (first | assumption | exact Q.refl _ | refine Q.alloc ?_ _ | refine Q.drewN ?_ _ | refine Q.drew ?_)))).setCell (p := ⟨g, kk * 2, none⟩) (by simp only; omega) _).setCell (p := ⟨g, kk * 2 + 1, none⟩) (by simp only; omega) _⟩
                  case measure => simp [intOf]; omega
              · have hxb : (X1 == X0) = false := by simpa using hx
                go_wp2_with fail
                refine wp_region_quiet_lit (by kernel_rfl) (by kernel_rfl) ?_
                repeat (any_goals (first | go_big_quiet_step ( fail) | quiet_step ( fail) | (refine wpQuiet_step (fun K hK => ?_); go_simp; split <;> (refine hK _ ?_; clear hK K))))
                all_goals (refine wpQuiet_nil ?_; intro _ hw'; obtain ⟨nq, hw''⟩ := hw'; subst hw'')
                all_goals go_wp2_with fail
                go_roundw
                case rel => exact ⟨kk + 1, t + 1 + 1, _, by go_num, by go_num, by omega, by omega, by omega, by omega, ((HM.out.q (by (repeat (first | assumption | exact Q.refl _ | refine Q.alloc ?_ _ | refine Q.drewN ?_ _ | refine Q.drew ?_)))).stored (kk * 2) X1).stored (kk * 2 + 1) Y1, ((hq2.trans (by (repeat (first | assumption | exact Q.refl _ | refine Q.alloc ?_ _ | refine Q.drewN ?_ _ | refine Q.drew ?_)))).setCell (p := ⟨g, kk * 2, none⟩) (by simp only; omega) _).setCell (p := ⟨g, kk * 2 + 1, none⟩) (by simp only; omega) _⟩
                case measure => simp [intOf]; omega
            · have hk2e : k2 = n - (j + 1) := by omega
              have hkkn : kk < n := by omega
              have hkkI : (kk : Int) ≤ (n : Int) := by omega
              have hkc : (kk : Int) ≤ (c : Int) := by omega
              have hltJ : ¬ (k2 : Int) < ((n - (j + 1) : Nat) : Int) := by omega
              have hcl : ∀ ty, (Builtin.clear_ #[87] ty #[.slice (some ⟨g, kk * 2, none⟩) (n - kk) (c - kk)]).run Tryz.prog wr = .ok (.tuple #[]) (wr.setCells g (kk * 2) (List.replicate ((n - kk) * 2) (.int .i64 0))) :=
                fun ty => run_clearP wr ty g (kk * 2) (n - kk) (c - kk) (by omega) (fun t ht => by rw [hM.cell (j := kk * 2 + t) (by omega)]; rfl) (fun t _ => hM.frozen _)
              have HM := Lib.hid hM
              clear hM hk2e
              go_wp2_with fail
              go_ret
              exact ⟨kk, rfl, ⟨fun e => by omega, fun e => absurd e HBAD.out⟩, by omega, QsetCells (by omega) _ _ _ hq2⟩
        · have HNE := Lib.hid (show ¬ adjB L j from fun h => hy ((HAD.out.1 h).2.symm))
          have hyb : (Y1 == Y0) = false := by simpa using hy
          go_wp2_with fail
          refine wp_region_quiet_lit (by kernel_rfl) (by kernel_rfl) ?_
          repeat (any_goals (first | go_big_quiet_step ( fail) | quiet_step ( fail) | (refine wpQuiet_step (fun K hK => ?_); go_simp; split <;> (refine hK _ ?_; clear hK K))))
          all_goals (refine wpQuiet_nil ?_; intro _ hw'; obtain ⟨nq, hw''⟩ := hw'; subst hw'')
          all_goals go_wp2_with fail
          go_roundw
          case rel => exact ⟨j + 1 + 1, by omega, by omega, by go_num, Lib.hid (HA.out.succ HNE.out), hq.trans (by (repeat (first | assumption | exact Q.refl _ | refine Q.alloc ?_ _ | refine Q.drewN ?_ _ | refine Q.drew ?_)))⟩
          case measure => simp [intOf]; omega
      · have HNE := Lib.hid (show ¬ adjB L j from fun h => hx ((HAD.out.1 h).1.symm))
        have hxb : (X1 == X0) = false := by simpa using hx
        go_wp2_with fail
        refine wp_region_quiet_lit (by kernel_rfl) (by kernel_rfl) ?_
        repeat (any_goals (first | go_big_quiet_step ( fail) | quiet_step ( fail) | (refine wpQuiet_step (fun K hK => ?_); go_simp; split <;> (refine hK _ ?_; clear hK K))))
        all_goals (refine wpQuiet_nil ?_; intro _ hw'; obtain ⟨nq, hw''⟩ := hw'; subst hw'')
        all_goals go_wp2_with fail
        go_roundw
        case rel => exact ⟨j + 1 + 1, by omega, by omega, by go_num, Lib.hid (HA.out.succ HNE.out), hq.trans (by (repeat (first | assumption | exact Q.refl _ | refine Q.alloc ?_ _ | refine Q.drewN ?_ _ | refine Q.drew ?_)))⟩
        case measure => simp [intOf]; omega
    · obtain rfl : k = n := by omega
      go_wp2_with fail
      go_ret
      exact ⟨k, rfl, ⟨fun _ => HA.out, fun _ => rfl⟩, Nat.le_refl _, hq0.trans hq⟩
end Go.Proofs.YteofhfefbphjdaaGreatDoor
