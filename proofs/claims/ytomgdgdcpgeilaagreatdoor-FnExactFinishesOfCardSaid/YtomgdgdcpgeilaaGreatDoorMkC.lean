/- Walks: the middle of a line and the stations of a course, as the program and the reference make them. No condition. -/
import Derived.Test.YtomgdgdcpgeilaaGreatDoorMkB
import Derived.Test.YtomgdgdcpgeilaaGreatDoorEarly
namespace Go.Proofs.YtomgdgdcpgeilaaGreatDoor
open Go.RowKit Go.WideShapes Go.ChangeShapes
theorem infoPoint : (Tryz.prog.info? 38).map (fun i => (i.zero, i.size, i.bytes)) = some (some (.agg #[.int .i64 0, .int .i64 0]), 2, 16) := by kernel_rfl
theorem elPoint : EltT 145 38 2 := EltT.mk infoPoint Tryz.underlying145 (by decide) rfl (by decide)
/-- Four numbers from -M to M. -/
def bd4 (M a b c d : Int) : Prop := ((-M ≤ a ∧ a ≤ M) ∧ (-M ≤ b ∧ b ≤ M)) ∧ ((-M ≤ c ∧ c ≤ M) ∧ (-M ≤ d ∧ d ≤ M))
theorem lnB_bd {a b c d : Int} (h : lnB a b c d = true) : bd4 1000000 a b c d := by
  unfold lnB ptB at h
  simp only [Bool.and_eq_true, decide_eq_true_eq] at h
  unfold bd4
  omega
def mdX (a c : Int) : Int := (a + c) / 2
set_option maxHeartbeats 1000000 in
theorem impl_middle (a b c d : Int) (w : World) (h : bd4 1000001 a b c d) : Calls Tryz.prog 127 #[.agg #[.int .i64 a, .int .i64 b, .int .i64 c, .int .i64 d]] w fun e w' => e = .returned (.agg #[.int .i64 (mdX a c), .int .i64 (mdX b d)]) ∧ Q w w' := by
  obtain ⟨⟨⟨p1, p2⟩, p3, p4⟩, ⟨q1, q2⟩, q3, q4⟩ := h
  have L0 := (Blk.new w 40 #[.int .i64 a, .int .i64 b, .int .i64 c, .int .i64 d]).alloc (.cells #[.int .i64 0, .int .i64 0] 38)
  have P0 : Blk ((w.alloc (.cells #[.int .i64 a, .int .i64 b, .int .i64 c, .int .i64 d] 40)).alloc (.cells #[.int .i64 0, .int .i64 0] 38)) (w.heap.size + 1) 38 #[.int .i64 0, .int .i64 0] := by simpa using Blk.new (w.alloc (.cells #[.int .i64 a, .int .i64 b, .int .i64 c, .int .i64 d] 40)) 38 #[.int .i64 0, .int .i64 0]
  have Q0 : Q w ((w.alloc (.cells #[.int .i64 a, .int .i64 b, .int .i64 c, .int .i64 d] 40)).alloc (.cells #[.int .i64 0, .int .i64 0] 38)) := by (repeat (first | assumption | exact Q.refl _ | refine Q.alloc ?_ _ | refine Q.drewN ?_ _ | refine Q.drew ?_))
  go_enter Tryz.func127, Tryz.ntmps127
  go_wp2_with fail
  generalize (w.alloc (.cells #[.int .i64 a, .int .i64 b, .int .i64 c, .int .i64 d] 40)).alloc (.cells #[.int .i64 0, .int .i64 0] 38) = wb at *
  have LC := later_cells L0.cell L0.lt
  refine wp_region_later_tail 17 (by kernel_rfl) (by kernel_rfl) ?_
  simp only [List.take_succ_cons, List.take_zero, List.drop_succ_cons, List.drop_zero]
  repeat (any_goals (first | go_big_quiet_step ((go_at_call 129; exact later_same (impl_floorDiv _ _ _ (by decide) (by omega) (by decide)))) | quiet_step ((go_at_call 129; exact later_same (impl_floorDiv _ _ _ (by decide) (by omega) (by decide))))))
  refine wpQuiet_nil ?_
  rintro w3 ⟨⟨w4, q4⟩, hw⟩
  obtain rfl : w3 = w4 := hw
  have cP := (P0.q q4).cell
  have fP := (P0.q q4).frozen
  have Q4 : Q w w3 := Q0.trans q4
  go_wp2_with fail
  have bf := (((P0.q q4).set_ 0 (.int .i64 ((a + c) / 2))).set_ 1 (.int .i64 ((b + d) / 2))).cell
  exact bodyPost_ret (v := .agg #[.int .i64 ((a + c) / 2), .int .i64 ((b + d) / 2)]) (by simp [results, Tryz.results127, go_sem, bf]) rfl ⟨rfl, (Q4.setCell (by simp) _).setCell (by simp) _⟩
set_option maxHeartbeats 1000000 in
theorem spec_middle (a b c d : Int) (w : World) (h : bd4 1000001 a b c d) : Calls Tryz.prog 95 #[.agg #[.int .i64 a, .int .i64 b, .int .i64 c, .int .i64 d]] w fun e w' => e = .returned (.agg #[.int .i64 (mdX a c), .int .i64 (mdX b d)]) ∧ Q w w' := by
  obtain ⟨⟨⟨p1, p2⟩, p3, p4⟩, ⟨q1, q2⟩, q3, q4⟩ := h
  have L0 := (Blk.new w 40 #[.int .i64 a, .int .i64 b, .int .i64 c, .int .i64 d]).alloc (.cells #[.int .i64 0, .int .i64 0] 38)
  have P0 : Blk ((w.alloc (.cells #[.int .i64 a, .int .i64 b, .int .i64 c, .int .i64 d] 40)).alloc (.cells #[.int .i64 0, .int .i64 0] 38)) (w.heap.size + 1) 38 #[.int .i64 0, .int .i64 0] := by simpa using Blk.new (w.alloc (.cells #[.int .i64 a, .int .i64 b, .int .i64 c, .int .i64 d] 40)) 38 #[.int .i64 0, .int .i64 0]
  have Q0 : Q w ((w.alloc (.cells #[.int .i64 a, .int .i64 b, .int .i64 c, .int .i64 d] 40)).alloc (.cells #[.int .i64 0, .int .i64 0] 38)) := by (repeat (first | assumption | exact Q.refl _ | refine Q.alloc ?_ _ | refine Q.drewN ?_ _ | refine Q.drew ?_))
  go_enter Tryz.func95, Tryz.ntmps95
  go_wp2_with fail
  generalize (w.alloc (.cells #[.int .i64 a, .int .i64 b, .int .i64 c, .int .i64 d] 40)).alloc (.cells #[.int .i64 0, .int .i64 0] 38) = wb at *
  have LC := later_cells L0.cell L0.lt
  refine wp_region_later_tail 17 (by kernel_rfl) (by kernel_rfl) ?_
  simp only [List.take_succ_cons, List.take_zero, List.drop_succ_cons, List.drop_zero]
  repeat (any_goals (first | go_big_quiet_step ((go_at_call 99; exact later_same (spec_Floor _ _ _ (by decide) (by omega) (by decide)))) | quiet_step ((go_at_call 99; exact later_same (spec_Floor _ _ _ (by decide) (by omega) (by decide))))))
  refine wpQuiet_nil ?_
  rintro w3 ⟨⟨w4, q4⟩, hw⟩
  obtain rfl : w3 = w4 := hw
  have cP := (P0.q q4).cell
  have fP := (P0.q q4).frozen
  have Q4 : Q w w3 := Q0.trans q4
  go_wp2_with fail
  have bf := (((P0.q q4).set_ 0 (.int .i64 ((a + c) / 2))).set_ 1 (.int .i64 ((b + d) / 2))).cell
  exact bodyPost_ret (v := .agg #[.int .i64 ((a + c) / 2), .int .i64 ((b + d) / 2)]) (by simp [results, Tryz.results95, go_sem, bf]) rfl ⟨rfl, (Q4.setCell (by simp) _).setCell (by simp) _⟩
/-- The stations up to mark k (x, y each). -/
def stTo (a b c d : Int) (ms : List Mk) : Nat → List Int
  | 0 => [mdX a c, mdX b d]
  | k + 1 => stTo a b c d ms k ++ [(mx ms k).x, (mx ms k).y]
theorem stTo_len (a b c d : Int) (ms : List Mk) : ∀ k, (stTo a b c d ms k).length = (k + 1) * 2
  | 0 => rfl
  | k + 1 => by rw [stTo, List.length_append, stTo_len a b c d ms k]; simp; omega
/-- The stations of a course. -/
def stL (a b c d p q r s : Int) (ms : List Mk) : List Int := stTo a b c d ms ms.length ++ [mdX p r, mdX q s]
theorem stL_len (a b c d p q r s : Int) (ms : List Mk) : (stL a b c d p q r s ms).length = (ms.length + 2) * 2 := by
  unfold stL
  rw [List.length_append, stTo_len]
  simp
  omega
set_option maxHeartbeats 2000000 in
theorem impl_stations (a b c d p q r s : Int) (A : Option Addr) (n cc : Nat) (ms : List Mk) (w : World) (ha : RdM w A ms) (hn : ms.length = n) (hn2 : n ≤ 1000) (h1 : bd4 1000001 a b c d) (h2 : bd4 1000001 p q r s) :
    Calls Tryz.prog 84 #[.agg #[.int .i64 a, .int .i64 b, .int .i64 c, .int .i64 d, .int .i64 p, .int .i64 q, .int .i64 r, .int .i64 s, .slice A n cc]] w (RL w 38 2 (n + 2) (stL a b c d p q r s ms)) := by
  have K1 := Lib.hid (fun wv => impl_middle a b c d wv h1)
  have K2 := Lib.hid (fun wv => impl_middle p q r s wv h2)
  have B0 := Blk.new w 43 #[.int .i64 a, .int .i64 b, .int .i64 c, .int .i64 d, .int .i64 p, .int .i64 q, .int .i64 r, .int .i64 s, .slice A n cc]
  have Q0 : Q w (w.alloc (.cells #[.int .i64 a, .int .i64 b, .int .i64 c, .int .i64 d, .int .i64 p, .int .i64 q, .int .i64 r, .int .i64 s, .slice A n cc] 43)) := by (repeat (first | assumption | exact Q.refl _ | refine Q.alloc ?_ _ | refine Q.drewN ?_ _ | refine Q.drew ?_))
  have HN := Lib.hid hn
  have hnI : (n : Int) ≤ 1000 := by omega
  have HS0 := Lib.hid (show stTo a b c d ms 0 = [mdX a c, mdX b d] from rfl)
  have HSS := Lib.hid (fun k => (show stTo a b c d ms (k + 1) = stTo a b c d ms k ++ [(mx ms k).x, (mx ms k).y] from rfl))
  have HSL := Lib.hid (show stL a b c d p q r s ms = stTo a b c d ms n ++ [mdX p r, mdX q s] by unfold stL; rw [hn])
  have HLL := Lib.hid (fun k => stTo_len a b c d ms k)
  have HL2 := Lib.hid (show (stL a b c d p q r s ms).length = (n + 2) * 2 by rw [stL_len, hn])
  clear h1 h2 hn
  go_enter Tryz.func84, Tryz.ntmps84
  go_wp2_with fail
  refine (K1.out _).mono ?_
  rintro e w1 ⟨rfl, q1⟩
  replace B0 := B0.q q1
  replace Q0 := Q0.trans q1
  generalize mdX a c = X0 at *
  generalize mdX b d = Y0 at *
  have QL : Q w1 (w1.alloc (.cells #[.int .i64 X0, .int .i64 Y0] 38)) := by (repeat (first | assumption | exact Q.refl _ | refine Q.alloc ?_ _ | refine Q.drewN ?_ _ | refine Q.drew ?_))
  have OL : Own (w1.alloc (.cells #[.int .i64 X0, .int .i64 Y0] 38)) w1.heap.size 38 2 (.slice (some ⟨w1.heap.size, 0, none⟩) 1 1) 1 (stTo a b c d ms 0) := by
    rw [HS0.out]
    exact Own.lit w1 38 2 1 [X0, Y0] rfl (Nat.le_refl _) rfl (by decide)
  have c0 := (B0.q QL).cell
  have l0 := (B0.q QL).lt
  go_wp2_with fail
  clear c0 l0
  go_loopw [3, 13] (fun v i wr => ∃ (k : Nat) (A1 : Option Addr) (c1 : Nat), k ≤ n ∧ i = .int .i64 k ∧ v = .slice A1 (k + 1) c1 ∧ Own wr w1.heap.size 38 2 (.slice A1 (k + 1) c1) (k + 1) (stTo a b c d ms k) ∧ Q w1 wr) (fun _ i _ => n - (intOf i).toNat)
  case atStart => exact ⟨0, _, _, Nat.zero_le _, rfl, rfl, OL, QL⟩
  case round =>
    clear OL QL
    obtain ⟨k, A1, c1, hk, rfl, rfl, hown, hq⟩ := hrel
    have b0 := (B0.q hq).cell
    have l0 := (B0.q hq).lt
    have hsz := hq.size
    by_cases hlt : k < n
    · have hltI : (k : Int) < (n : Int) := by omega
      obtain ⟨b1, o1, rfl, g0, g1, g2, g3, g4, _⟩ := (ha.q (Q0.trans hq)).at_ HN.out hlt
      have HSk := Lib.hid (HSS.out k)
      generalize mx ms k = m at *
      go_wp2_with (at_builtin; refine appK elPoint rfl _ _ rfl [m.x, m.y] rfl (hown.q (by (repeat (first | assumption | exact Q.refl _ | refine Q.alloc ?_ _ | refine Q.drewN ?_ _ | refine Q.drew ?_)))) rfl (by simp) rfl _ _ rfl (by omega) (by first | omega | (simp; omega)) ?_; intro A' c' w' hown' hg' hgr')
      go_roundw
      case rel => exact ⟨k + 1, A', c', by omega, by go_num, rfl, by rw [HSk.out]; exact hown', Q.mark (hq.trans (by (repeat (first | assumption | exact Q.refl _ | refine Q.alloc ?_ _ | refine Q.drewN ?_ _ | refine Q.drew ?_)))) (hown.q (by (repeat (first | assumption | exact Q.refl _ | refine Q.alloc ?_ _ | refine Q.drewN ?_ _ | refine Q.drew ?_)))) (Nat.le_refl _) hg'⟩
      case measure => simp [intOf]; omega
    · obtain rfl : k = n := by omega
      go_wp2_with fail
      refine (K2.out _).mono ?_
      rintro e w2 ⟨rfl, q2⟩
      have hq2 := hq.trans q2
      have hs2 := hq2.size
      generalize mdX p r = X1 at *
      generalize mdX q s = Y1 at *
      go_wp2_with (at_builtin; refine appK elPoint rfl _ _ rfl [X1, Y1] rfl ((hown.q q2).q (by (repeat (first | assumption | exact Q.refl _ | refine Q.alloc ?_ _ | refine Q.drewN ?_ _ | refine Q.drew ?_)))) rfl (by simp) rfl _ _ rfl (by omega) (by omega) ?_; intro A' c' w' hown' hg' hgr')
      go_ret
      rw [← HSL.out] at hown'
      exact RL.mk' (hown'.mono Q0.size) (Q0.trans (Q.mark hq2 (hown.q q2) (Nat.le_refl _) hg')) HL2.out (by decide)
set_option maxHeartbeats 2000000 in
theorem spec_stations (a b c d p q r s : Int) (A : Option Addr) (n cc : Nat) (ms : List Mk) (w : World) (ha : RdM w A ms) (hn : ms.length = n) (hn2 : n ≤ 1000) (h1 : bd4 1000001 a b c d) (h2 : bd4 1000001 p q r s) :
    Calls Tryz.prog 93 #[.agg #[.int .i64 a, .int .i64 b, .int .i64 c, .int .i64 d, .int .i64 p, .int .i64 q, .int .i64 r, .int .i64 s, .slice A n cc]] w (RL w 38 2 (n + 2) (stL a b c d p q r s ms)) := by
  have K1 := Lib.hid (fun wv => spec_middle a b c d wv h1)
  have K2 := Lib.hid (fun wv => spec_middle p q r s wv h2)
  have B0 := Blk.new w 43 #[.int .i64 a, .int .i64 b, .int .i64 c, .int .i64 d, .int .i64 p, .int .i64 q, .int .i64 r, .int .i64 s, .slice A n cc]
  have Q0 : Q w (w.alloc (.cells #[.int .i64 a, .int .i64 b, .int .i64 c, .int .i64 d, .int .i64 p, .int .i64 q, .int .i64 r, .int .i64 s, .slice A n cc] 43)) := by (repeat (first | assumption | exact Q.refl _ | refine Q.alloc ?_ _ | refine Q.drewN ?_ _ | refine Q.drew ?_))
  have HN := Lib.hid hn
  have hnI : (n : Int) ≤ 1000 := by omega
  have HS0 := Lib.hid (show stTo a b c d ms 0 = [mdX a c, mdX b d] from rfl)
  have HSS := Lib.hid (fun k => (show stTo a b c d ms (k + 1) = stTo a b c d ms k ++ [(mx ms k).x, (mx ms k).y] from rfl))
  have HSL := Lib.hid (show stL a b c d p q r s ms = stTo a b c d ms n ++ [mdX p r, mdX q s] by unfold stL; rw [hn])
  have HLL := Lib.hid (fun k => stTo_len a b c d ms k)
  have HL2 := Lib.hid (show (stL a b c d p q r s ms).length = (n + 2) * 2 by rw [stL_len, hn])
  clear h1 h2 hn
  go_enter Tryz.func93, Tryz.ntmps93
  go_wp2_with fail
  refine (K1.out _).mono ?_
  rintro e w1 ⟨rfl, q1⟩
  replace B0 := B0.q q1
  replace Q0 := Q0.trans q1
  generalize mdX a c = X0 at *
  generalize mdX b d = Y0 at *
  have QL : Q w1 (w1.alloc (.cells #[.int .i64 X0, .int .i64 Y0] 38)) := by (repeat (first | assumption | exact Q.refl _ | refine Q.alloc ?_ _ | refine Q.drewN ?_ _ | refine Q.drew ?_))
  have OL : Own (w1.alloc (.cells #[.int .i64 X0, .int .i64 Y0] 38)) w1.heap.size 38 2 (.slice (some ⟨w1.heap.size, 0, none⟩) 1 1) 1 (stTo a b c d ms 0) := by
    rw [HS0.out]
    exact Own.lit w1 38 2 1 [X0, Y0] rfl (Nat.le_refl _) rfl (by decide)
  have c0 := (B0.q QL).cell
  have l0 := (B0.q QL).lt
  go_wp2_with fail
  clear c0 l0
  go_loopw [3, 4] (fun v i wr => ∃ (k : Nat) (A1 : Option Addr) (c1 : Nat), k ≤ n ∧ i = .int .i64 k ∧ v = .slice A1 (k + 1) c1 ∧ Own wr w1.heap.size 38 2 (.slice A1 (k + 1) c1) (k + 1) (stTo a b c d ms k) ∧ Q w1 wr) (fun _ i _ => n - (intOf i).toNat)
  case atStart => exact ⟨0, _, _, Nat.zero_le _, rfl, rfl, OL, QL⟩
  case round =>
    clear OL QL
    obtain ⟨k, A1, c1, hk, rfl, rfl, hown, hq⟩ := hrel
    have b0 := (B0.q hq).cell
    have l0 := (B0.q hq).lt
    have hsz := hq.size
    by_cases hlt : k < n
    · have hltI : (k : Int) < (n : Int) := by omega
      obtain ⟨b1, o1, rfl, g0, g1, g2, g3, g4, _⟩ := (ha.q (Q0.trans hq)).at_ HN.out hlt
      have HSk := Lib.hid (HSS.out k)
      generalize mx ms k = m at *
      go_wp2_with (at_builtin; refine appK elPoint rfl _ _ rfl [m.x, m.y] rfl hown rfl rfl rfl _ _ rfl (by omega) (by first | omega | (simp; omega)) ?_; intro A' c' w' hown' hg' hgr')
      go_roundw
      case rel => exact ⟨k + 1, A', c', by omega, by go_num, rfl, by rw [HSk.out]; exact hown', Q.mark hq hown (Nat.le_refl _) hg'⟩
      case measure => simp [intOf]; omega
    · obtain rfl : k = n := by omega
      go_wp2_with fail
      refine (K2.out _).mono ?_
      rintro e w2 ⟨rfl, q2⟩
      have hq2 := hq.trans q2
      have hs2 := hq2.size
      generalize mdX p r = X1 at *
      generalize mdX q s = Y1 at *
      go_wp2_with (at_builtin; refine appK elPoint rfl _ _ rfl [X1, Y1] rfl ((hown.q q2).q (by (repeat (first | assumption | exact Q.refl _ | refine Q.alloc ?_ _ | refine Q.drewN ?_ _ | refine Q.drew ?_)))) rfl (by simp) rfl _ _ rfl (by omega) (by omega) ?_; intro A' c' w' hown' hg' hgr')
      go_ret
      rw [← HSL.out] at hown'
      exact RL.mk' (hown'.mono Q0.size) (Q0.trans (Q.mark hq2 (hown.q q2) (Nat.le_refl _) hg')) HL2.out (by decide)
end Go.Proofs.YtomgdgdcpgeilaaGreatDoor
