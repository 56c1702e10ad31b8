/- Walks: the hull of a track at a time, as the program and the reference tell it. No condition. -/
import Derived.Test.YtkpdoikjfibflaaGreatDoorNrK
namespace Go.Proofs.YtkpdoikjfibflaaGreatDoor
open Go.RowKit Go.WideShapes Go.ChangeShapes
theorem hdC_last {xs : List Int} {n : Nat} {t : Int} (hT : isTrk xs n = true) (h : hdC xs n t = 0) : lastsB xs n t = true := by
  cases hl : lastsB xs n t
  · rw [hdC_2 hT hl] at h; cases h
  · rfl
/-- The value of a hull at a time. -/
def hulV (xs : List Int) (n : Nat) (t l : Int) : Value := if hdC xs n t = 0 then .agg #[.int .i64 (atX xs n t), .int .i64 (atY xs n t), .int .i64 (hdX xs n t), .int .i64 (hdY xs n t), .int .i64 l] else .agg #[.int .i64 0, .int .i64 0, .int .i64 0, .int .i64 0, .int .i64 0]
theorem hulV_0 {xs : List Int} {n : Nat} {t l : Int} (h : hdC xs n t = 0) : hulV xs n t l = .agg #[.int .i64 (atX xs n t), .int .i64 (atY xs n t), .int .i64 (hdX xs n t), .int .i64 (hdY xs n t), .int .i64 l] := if_pos h
theorem hulV_no {xs : List Int} {n : Nat} {t l : Int} (h : ¬ hdC xs n t = 0) : hulV xs n t l = .agg #[.int .i64 0, .int .i64 0, .int .i64 0, .int .i64 0, .int .i64 0] := if_neg h
set_option maxRecDepth 100000 in
set_option maxHeartbeats 2000000 in
theorem impl_HullAt (A : Option Addr) (n c : Nat) (xs : List Int) (t l : Int) (w : World) (ha : Rd w A xs) (hn : xs.length = n * 3) (hT : isTrk xs n = true) (hl : 1 ≤ l ∧ l ≤ 1000) :
    Calls Tryz.prog 55 #[.agg #[.slice A n c], .int .i64 t, .int .i64 l] w fun e w' => e = .returned (.tuple #[hulV xs n t l, .int .i64 (hdC xs n t)]) ∧ Q w w' := by
  have hn40 := trk_40 hT
  have B1 : Blk ((w.alloc (.cells #[.slice A n c] 37)).alloc (.cells #[.int .i64 0, .int .i64 0, .int .i64 0, .int .i64 0, .int .i64 0] 86)) w.heap.size 37 #[.slice A n c] := (Blk.new _ _ _).alloc _
  have B2 : Blk ((w.alloc (.cells #[.slice A n c] 37)).alloc (.cells #[.int .i64 0, .int .i64 0, .int .i64 0, .int .i64 0, .int .i64 0] 86)) (w.heap.size + 1) 86 #[.int .i64 0, .int .i64 0, .int .i64 0, .int .i64 0, .int .i64 0] := by simpa using Blk.new (w.alloc (.cells #[.slice A n c] 37)) 86 #[.int .i64 0, .int .i64 0, .int .i64 0, .int .i64 0, .int .i64 0]
  have Q0 : Q w ((w.alloc (.cells #[.slice A n c] 37)).alloc (.cells #[.int .i64 0, .int .i64 0, .int .i64 0, .int .i64 0, .int .i64 0] 86)) := by (repeat (first | assumption | exact Q.refl _ | refine Q.alloc ?_ _ | refine Q.drewN ?_ _ | refine Q.drew ?_))
  have k1 := fun wv (h : Rd wv A xs) => impl_IsTrack A n c xs wv h hn (by omega)
  rw [hT] at k1
  have k2 := fun wv => impl_inR l 1 1000 wv
  rw [inR_yes hl] at k2
  have k3 := fun wv (h : Rd wv A xs) => impl_HeadingAt A n c xs t wv h hn hT
  have K1 := Lib.hid k1
  have K2 := Lib.hid k2
  clear k1 k2 hn40 hl
  by_cases h0 : hdC xs n t = 0
  · have hla := hdC_last hT h0
    have K4 := Lib.hid (fun wv (h : Rd wv A xs) => impl_positionAt A n c xs t wv h hn hT hla)
    rw [hulV_0 h0]
    simp only [if_pos h0] at k3
    rw [h0] at k3 ⊢
    have K3 := Lib.hid k3
    clear k3 h0 hla hn hT
    generalize hdX xs n t = X at *
    generalize hdY xs n t = Y at *
    generalize atX xs n t = PX at *
    generalize atY xs n t = PY at *
    go_enter Tryz.func55, Tryz.ntmps55
    go_wp2_with fail
    refine (K1.out _ (ha.q Q0)).mono ?_
    rintro e1 w1 ⟨rfl, q1⟩
    have c1 := (B1.q q1).cell
    have l1 := (B1.q q1).lt
    go_wp2_with fail
    refine (K2.out _).mono ?_
    rintro e2 w2 ⟨rfl, rfl⟩
    go_wp2_with fail
    refine (K3.out _ (ha.q (Q0.trans q1))).mono ?_
    rintro e3 w3 ⟨rfl, q3⟩
    have Q3 := (Q0.trans q1).trans q3
    replace B1 := (B1.q q1).q q3
    replace B2 := (B2.q q1).q q3
    clear c1 l1 q1 q3 K1 K2 K3
    have l1 := B1.lt
    have l2 := B2.lt
    have B3 := Blk.new w3 78 #[.int .i64 X, .int .i64 Y]
    replace B1 := B1.alloc (.cells #[.int .i64 X, .int .i64 Y] 78)
    replace B2 := B2.alloc (.cells #[.int .i64 X, .int .i64 Y] 78)
    have Q4 : Q w3 (w3.alloc (.cells #[.int .i64 X, .int .i64 Y] 78)) := (Q.refl w3).alloc _
    go_upto_region 8 with (fail)
    generalize hwb : w3.alloc (.cells #[.int .i64 X, .int .i64 Y] 78) = wb at *
    clear hwb
    have hx := ha.q (Q3.trans Q4)
    have L1 := later_cells B1.cell B1.lt
    have L3 := later_cells B3.cell B3.lt
    have e3 := B3.cell
    have l3 := B3.lt
    refine wp_region_later_tail 6 (by kernel_rfl) (by kernel_rfl) ?_
    simp only [List.take_succ_cons, List.take_zero, List.drop_succ_cons, List.drop_zero]
    repeat (any_goals (first | go_big_quiet_step ((go_at_call 69; exact later_call (K4.out _ (hx.q (Later.q _))))) | quiet_step ((go_at_call 69; exact later_call (K4.out _ (hx.q (Later.q _)))))))
    refine wpQuiet_nil ?_
    rintro w5 ⟨⟨w6, q6⟩, hw⟩
    obtain rfl : w5 = w6 := hw
    clear L1 L3 e3 l3 l1 l2
    have c2 := (B2.q q6).cell
    have f2 := (B2.q q6).frozen
    have l2 := (B2.q q6).lt
    go_wp2_with fail
    have F := ((((((B2.q q6).set_ 0 (.int .i64 PX)).set_ 1 (.int .i64 PY)).set_ 2 (.int .i64 X)).set_ 3 (.int .i64 Y)).set_ 4 (.int .i64 l)).cell
    exact bodyPost_ret (v := .tuple #[.agg #[.int .i64 PX, .int .i64 PY, .int .i64 X, .int .i64 Y, .int .i64 l], .int .i64 0]) (by simp [results, Tryz.results55, go_sem, F]) rfl ⟨rfl, (((((((Q3.trans Q4).trans q6).setCell (by simp) _).setCell (by simp) _).setCell (by simp) _).setCell (by simp) _).setCell (by simp) _)⟩
  · rw [hulV_no h0]
    simp only [if_neg h0] at k3
    have K3 := Lib.hid k3
    clear k3 hn hT
    generalize hdC xs n t = C at *
    go_enter Tryz.func55, Tryz.ntmps55
    go_wp2_with fail
    refine (K1.out _ (ha.q Q0)).mono ?_
    rintro e1 w1 ⟨rfl, q1⟩
    have c1 := (B1.q q1).cell
    have l1 := (B1.q q1).lt
    go_wp2_with fail
    refine (K2.out _).mono ?_
    rintro e2 w2 ⟨rfl, rfl⟩
    go_wp2_with fail
    refine (K3.out _ (ha.q (Q0.trans q1))).mono ?_
    rintro e3 w3 ⟨rfl, q3⟩
    have Q3 := (Q0.trans q1).trans q3
    replace B2 := (B2.q q1).q q3
    clear c1 l1 q1 q3 K1 K2 K3
    have l2 := B2.lt
    have B2a := B2.alloc (.cells #[.int .i64 0, .int .i64 0] 78)
    have Q4 : Q w3 (w3.alloc (.cells #[.int .i64 0, .int .i64 0] 78)) := (Q.refl w3).alloc _
    go_upto_region 6 with (fail)
    generalize hwb : w3.alloc (.cells #[.int .i64 0, .int .i64 0] 78) = wb at *
    clear hwb
    have c2 := B2a.cell
    have f2 := B2a.frozen
    have l2 := B2a.lt
    go_wp2_with fail
    have F := (((((B2a.set_ 0 (.int .i64 0)).set_ 1 (.int .i64 0)).set_ 2 (.int .i64 0)).set_ 3 (.int .i64 0)).set_ 4 (.int .i64 0)).cell
    exact bodyPost_ret (v := .tuple #[.agg #[.int .i64 0, .int .i64 0, .int .i64 0, .int .i64 0, .int .i64 0], .int .i64 C]) (by simp [results, Tryz.results55, go_sem, F]) rfl ⟨rfl, ((((((Q3.trans Q4).setCell (by simp) _).setCell (by simp) _).setCell (by simp) _).setCell (by simp) _).setCell (by simp) _)⟩
set_option maxRecDepth 100000 in
set_option maxHeartbeats 2000000 in
theorem spec_HullAt (A : Option Addr) (n c : Nat) (xs : List Int) (t l : Int) (w : World) (ha : Rd w A xs) (hn : xs.length = n * 3) (hT : isTrk xs n = true) (hl : 1 ≤ l ∧ l ≤ 1000) :
    Calls Tryz.prog 61 #[.agg #[.slice A n c], .int .i64 t, .int .i64 l] w fun e w' => e = .returned (.tuple #[hulV xs n t l, .int .i64 (hdC xs n t)]) ∧ Q w w' := by
  have hn40 := trk_40 hT
  have B1 : Blk ((w.alloc (.cells #[.slice A n c] 37)).alloc (.cells #[.int .i64 0, .int .i64 0, .int .i64 0, .int .i64 0, .int .i64 0] 86)) w.heap.size 37 #[.slice A n c] := (Blk.new _ _ _).alloc _
  have B2 : Blk ((w.alloc (.cells #[.slice A n c] 37)).alloc (.cells #[.int .i64 0, .int .i64 0, .int .i64 0, .int .i64 0, .int .i64 0] 86)) (w.heap.size + 1) 86 #[.int .i64 0, .int .i64 0, .int .i64 0, .int .i64 0, .int .i64 0] := by simpa using Blk.new (w.alloc (.cells #[.slice A n c] 37)) 86 #[.int .i64 0, .int .i64 0, .int .i64 0, .int .i64 0, .int .i64 0]
  have Q0 : Q w ((w.alloc (.cells #[.slice A n c] 37)).alloc (.cells #[.int .i64 0, .int .i64 0, .int .i64 0, .int .i64 0, .int .i64 0] 86)) := by (repeat (first | assumption | exact Q.refl _ | refine Q.alloc ?_ _ | refine Q.drewN ?_ _ | refine Q.drew ?_))
  have k1 := fun wv (h : Rd wv A xs) => spec_IsTrack A n c xs wv h hn (by omega)
  rw [hT] at k1
  have k2 := fun wv => spec_inR l 1 1000 wv
  rw [inR_yes hl] at k2
  have k3 := fun wv (h : Rd wv A xs) => spec_HeadingAt A n c xs t wv h hn hT
  have K1 := Lib.hid k1
  have K2 := Lib.hid k2
  clear k1 k2 hn40 hl
  by_cases h0 : hdC xs n t = 0
  · have hla := hdC_last hT h0
    have K4 := Lib.hid (fun wv (h : Rd wv A xs) => spec_l03At A n c xs t wv h hn hT hla)
    rw [hulV_0 h0]
    simp only [if_pos h0] at k3
    rw [h0] at k3 ⊢
    have K3 := Lib.hid k3
    clear k3 h0 hla hn hT
    generalize hdX xs n t = X at *
    generalize hdY xs n t = Y at *
    generalize atX xs n t = PX at *
    generalize atY xs n t = PY at *
    go_enter Tryz.func61, Tryz.ntmps61
    go_wp2_with fail
    refine (K1.out _ (ha.q Q0)).mono ?_
    rintro e1 w1 ⟨rfl, q1⟩
    have c1 := (B1.q q1).cell
    have l1 := (B1.q q1).lt
    go_wp2_with fail
    refine (K2.out _).mono ?_
    rintro e2 w2 ⟨rfl, rfl⟩
    go_wp2_with fail
    refine (K3.out _ (ha.q (Q0.trans q1))).mono ?_
    rintro e3 w3 ⟨rfl, q3⟩
    have Q3 := (Q0.trans q1).trans q3
    replace B1 := (B1.q q1).q q3
    replace B2 := (B2.q q1).q q3
    clear c1 l1 q1 q3 K1 K2 K3
    have l1 := B1.lt
    have l2 := B2.lt
    have B3 := Blk.new w3 78 #[.int .i64 X, .int .i64 Y]
    replace B1 := B1.alloc (.cells #[.int .i64 X, .int .i64 Y] 78)
    replace B2 := B2.alloc (.cells #[.int .i64 X, .int .i64 Y] 78)
    have Q4 : Q w3 (w3.alloc (.cells #[.int .i64 X, .int .i64 Y] 78)) := (Q.refl w3).alloc _
    go_upto_region 8 with (fail)
    generalize hwb : w3.alloc (.cells #[.int .i64 X, .int .i64 Y] 78) = wb at *
    clear hwb
    have hx := ha.q (Q3.trans Q4)
    have L1 := later_cells B1.cell B1.lt
    have L3 := later_cells B3.cell B3.lt
    have e3 := B3.cell
    have l3 := B3.lt
    refine wp_region_later_tail 6 (by kernel_rfl) (by kernel_rfl) ?_
    simp only [List.take_succ_cons, List.take_zero, List.drop_succ_cons, List.drop_zero]
    repeat (any_goals (first | go_big_quiet_step ((go_at_call 81; exact later_call (K4.out _ (hx.q (Later.q _))))) | quiet_step ((go_at_call 81; exact later_call (K4.out _ (hx.q (Later.q _)))))))
    refine wpQuiet_nil ?_
    rintro w5 ⟨⟨w6, q6⟩, hw⟩
    obtain rfl : w5 = w6 := hw
    clear L1 L3 e3 l3 l1 l2
    have c2 := (B2.q q6).cell
    have f2 := (B2.q q6).frozen
    have l2 := (B2.q q6).lt
    go_wp2_with fail
    have F := ((((((B2.q q6).set_ 0 (.int .i64 PX)).set_ 1 (.int .i64 PY)).set_ 2 (.int .i64 X)).set_ 3 (.int .i64 Y)).set_ 4 (.int .i64 l)).cell
    exact bodyPost_ret (v := .tuple #[.agg #[.int .i64 PX, .int .i64 PY, .int .i64 X, .int .i64 Y, .int .i64 l], .int .i64 0]) (by simp [results, Tryz.results61, go_sem, F]) rfl ⟨rfl, (((((((Q3.trans Q4).trans q6).setCell (by simp) _).setCell (by simp) _).setCell (by simp) _).setCell (by simp) _).setCell (by simp) _)⟩
  · rw [hulV_no h0]
    simp only [if_neg h0] at k3
    have K3 := Lib.hid k3
    clear k3 hn hT
    generalize hdC xs n t = C at *
    go_enter Tryz.func61, Tryz.ntmps61
    go_wp2_with fail
    refine (K1.out _ (ha.q Q0)).mono ?_
    rintro e1 w1 ⟨rfl, q1⟩
    have c1 := (B1.q q1).cell
    have l1 := (B1.q q1).lt
    go_wp2_with fail
    refine (K2.out _).mono ?_
    rintro e2 w2 ⟨rfl, rfl⟩
    go_wp2_with fail
    refine (K3.out _ (ha.q (Q0.trans q1))).mono ?_
    rintro e3 w3 ⟨rfl, q3⟩
    have Q3 := (Q0.trans q1).trans q3
    replace B2 := (B2.q q1).q q3
    clear c1 l1 q1 q3 K1 K2 K3
    have l2 := B2.lt
    have B2a := B2.alloc (.cells #[.int .i64 0, .int .i64 0] 78)
    have Q4 : Q w3 (w3.alloc (.cells #[.int .i64 0, .int .i64 0] 78)) := (Q.refl w3).alloc _
    go_upto_region 6 with (fail)
    generalize hwb : w3.alloc (.cells #[.int .i64 0, .int .i64 0] 78) = wb at *
    clear hwb
    have c2 := B2a.cell
    have f2 := B2a.frozen
    have l2 := B2a.lt
    go_wp2_with fail
    have F := (((((B2a.set_ 0 (.int .i64 0)).set_ 1 (.int .i64 0)).set_ 2 (.int .i64 0)).set_ 3 (.int .i64 0)).set_ 4 (.int .i64 0)).cell
    exact bodyPost_ret (v := .tuple #[.agg #[.int .i64 0, .int .i64 0, .int .i64 0, .int .i64 0, .int .i64 0], .int .i64 C]) (by simp [results, Tryz.results61, go_sem, F]) rfl ⟨rfl, ((((((Q3.trans Q4).setCell (by simp) _).setCell (by simp) _).setCell (by simp) _).setCell (by simp) _).setCell (by simp) _)⟩
end Go.Proofs.YtkpdoikjfibflaaGreatDoor
