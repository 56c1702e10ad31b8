/- Walks: headings of tracks, as the program and the reference tell them. No condition. -/
import Derived.Test.YtadljkdjlpmllaaNrG
import Derived.Test.YtadljkdjlpmllaaEarly
namespace Go.Proofs.Ytadljkdjlpmllaa
open Go.RowKit Go.WideShapes Go.ChangeShapes
set_option maxHeartbeats 2000000 in
theorem impl_wayOf (A : Option Addr) (n c : Nat) (xs : List Int) (k : Nat) (w : World) (ha : Rd w A xs) (hn : xs.length = n * 3) (hT : isTrk xs n = true) (hk : k + 1 < n) :
    Calls Try.prog 76 #[.agg #[.slice A n c], .int .i64 k] w fun e w' => e = .returned (.agg #[.int .i64 (el xs ((k + 1) * 3 + 1) - el xs (k * 3 + 1)), .int .i64 (el xs ((k + 1) * 3 + 2) - el xs (k * 3 + 2))]) ∧ Q w w' := by
  obtain ⟨⟨f1, f2, f3⟩, f4, f5, f6, f7⟩ := trk_two hT hk
  have hn40 := trk_40 hT
  have hk40 : (k : Int) ≤ 40 := by omega
  have hkI : (k : Int) < (n : Int) := by omega
  have hkJ : (k : Int) + 1 < (n : Int) := by omega
  obtain ⟨DX, hDX⟩ : ∃ q, q = el xs ((k + 1) * 3 + 1) - el xs (k * 3 + 1) := ⟨_, rfl⟩
  obtain ⟨DY, hDY⟩ : ∃ q, q = el xs ((k + 1) * 3 + 2) - el xs (k * 3 + 2) := ⟨_, rfl⟩
  rw [← hDX, ← hDY]
  have HDX := Lib.hid hDX
  have HDY := Lib.hid hDY
  clear hDX hDY
  have B1 : Blk ((w.alloc (.cells #[.slice A n c] 35)).alloc (.cells #[.int .i64 0, .int .i64 0] 54)) w.heap.size 35 #[.slice A n c] := (Blk.new _ _ _).alloc _
  have B2 : Blk ((w.alloc (.cells #[.slice A n c] 35)).alloc (.cells #[.int .i64 0, .int .i64 0] 54)) (w.heap.size + 1) 54 #[.int .i64 0, .int .i64 0] := by simpa using Blk.new (w.alloc (.cells #[.slice A n c] 35)) 54 #[.int .i64 0, .int .i64 0]
  have Q0 : Q w ((w.alloc (.cells #[.slice A n c] 35)).alloc (.cells #[.int .i64 0, .int .i64 0] 54)) := by (repeat (first | assumption | exact Q.refl _ | refine Q.alloc ?_ _ | refine Q.drewN ?_ _ | refine Q.drew ?_))
  go_enter Try.func76, Try.ntmps76
  go_upto_region 1 with (fail)
  generalize hwb : (w.alloc (.cells #[.slice A n c] 35)).alloc (.cells #[.int .i64 0, .int .i64 0] 54) = wb at *
  clear hwb
  have hR := ha.q Q0
  obtain ⟨b, o, rfl, g0, g1, g2⟩ := hR.at3 hn (show k < n by omega)
  obtain ⟨_, _, hA, j0, j1, j2⟩ := hR.at3 hn hk
  cases hA
  have bx := B1.cell
  have lx := B1.lt
  have lb := World.block_lt_of_cell? wb _ j2
  clear hn hT hn40 ha hR
  generalize el xs (k * 3) = t0 at *
  generalize el xs (k * 3 + 1) = x0 at *
  generalize el xs (k * 3 + 2) = y0 at *
  generalize el xs ((k + 1) * 3) = t1 at *
  generalize el xs ((k + 1) * 3 + 1) = x1 at *
  generalize el xs ((k + 1) * 3 + 2) = y1 at *
  go_cut [5, 6] from 5 (fun p q wc => ∃ b6 b7, p = .pointer (some ⟨b6, 0, none⟩) ∧ q = .pointer (some ⟨b7, 0, none⟩) ∧ Blk wc b6 62 #[.int .i64 t0, .int .i64 x0, .int .i64 y0] ∧ Blk wc b7 62 #[.int .i64 t1, .int .i64 x1, .int .i64 y1] ∧ Blk wc (w.heap.size + 1) 54 #[.int .i64 0, .int .i64 0] ∧ Q w wc)
  case first =>
    go_region
    all_goals (go_wp2_with fail; go_meet)
    · refine ⟨_, _, rfl, rfl, ?_, ?_, ?_, Q0.trans (by (repeat (first | assumption | exact Q.refl _ | refine Q.alloc ?_ _ | refine Q.drewN ?_ _ | refine Q.drew ?_)))⟩
      · exact ((Blk.new wb _ _).alloc _).drew
      · exact Blk.drew (by simpa using Blk.new (wb.alloc _) 62 #[.int .i64 t1, .int .i64 x1, .int .i64 y1])
      · exact Blk.drew ((B2.alloc _).alloc _)
    · refine ⟨_, _, rfl, rfl, ?_, ?_, ?_, Q0.trans (by (repeat (first | assumption | exact Q.refl _ | refine Q.alloc ?_ _ | refine Q.drewN ?_ _ | refine Q.drew ?_)))⟩
      · exact Blk.drew (by simpa using Blk.new (wb.alloc _) 62 #[.int .i64 t0, .int .i64 x0, .int .i64 y0])
      · exact ((Blk.new wb _ _).alloc _).drew
      · exact Blk.drew ((B2.alloc _).alloc _)
  case rest =>
    clear g0 g1 g2 j0 j1 j2 bx lx lb B1 B2 Q0
    obtain ⟨b6, b7, rfl, rfl, B6, B7, BR, QC⟩ := hcut
    have d6 := B6.cell
    have d7 := B7.cell
    have l6 := B6.lt
    have l7 := B7.lt
    have e4 := BR.cell
    have z4 := BR.frozen
    go_wp2_with fail
    all_goals try (refine wp_region_later_lit (by kernel_rfl) (by kernel_rfl) ?_; (repeat (any_goals (first | go_big_quiet_step (fail) | quiet_step (fail) | (refine wpQuiet_step (fun K hK => ?_); go_simp; split <;> (refine hK _ ?_; clear hK K))))); all_goals (refine wpQuiet_nil ?_; rintro _ ⟨⟨w3, q3⟩, rfl⟩; try dsimp only); all_goals go_wp2_with fail)
    have bf := ((BR.set_ 0 (.int .i64 (x1 - x0))).set_ 1 (.int .i64 (y1 - y0))).cell
    exact bodyPost_ret (v := .agg #[.int .i64 DX, .int .i64 DY]) (by rw [HDX.out, HDY.out]; simp [results, Try.results76, go_sem, bf]) rfl ⟨rfl, (QC.setCell (by simp) _).setCell (by simp) _⟩
set_option maxHeartbeats 1000000 in
theorem spec_l03Heading (A : Option Addr) (n c : Nat) (xs : List Int) (k : Nat) (w : World) (ha : Rd w A xs) (hn : xs.length = n * 3) (hT : isTrk xs n = true) (hk : k + 1 < n) :
    Calls Try.prog 60 #[.agg #[.slice A n c], .int .i64 k] w fun e w' => e = .returned (.agg #[.int .i64 (el xs ((k + 1) * 3 + 1) - el xs (k * 3 + 1)), .int .i64 (el xs ((k + 1) * 3 + 2) - el xs (k * 3 + 2))]) ∧ Q w w' := by
  have hp0 := pt_of (trk_at hT (show k < n by omega)).2.1
  have hp1 := pt_of (trk_at hT hk).2.1
  have hn40 := trk_40 hT
  have hk40 : (k : Int) ≤ 40 := by omega
  have hkI : (k : Int) < (n : Int) := by omega
  have hkJ : (k : Int) + 1 < (n : Int) := by omega
  obtain ⟨W, hW⟩ : ∃ W, W = (w.alloc (.cells #[.slice A n c] 35)).alloc (.cells #[.int .i64 0, .int .i64 0] 54) := ⟨_, rfl⟩
  have B1 : Blk W w.heap.size 35 #[.slice A n c] := by rw [hW]; exact (Blk.new _ _ _).alloc _
  have B2 : Blk W (w.heap.size + 1) 54 #[.int .i64 0, .int .i64 0] := by rw [hW]; exact (by simpa using Blk.new (w.alloc (.cells #[.slice A n c] 35)) 54 #[.int .i64 0, .int .i64 0])
  have Q0 : Q w W := by rw [hW]; exact ((Q.refl w).alloc _).alloc _
  have hR := ha.q Q0
  obtain ⟨bl, o, rfl, g0, g1, g2⟩ := hR.at3 hn (show k < n by omega)
  obtain ⟨_, _, hA, p0, p1, p2⟩ := hR.at3 hn hk
  cases hA
  have l0 := later_cell g0
  have l1 := later_cell g1
  have l2 := later_cell g2
  have m0 := later_cell p0
  have m1 := later_cell p1
  have m2 := later_cell p2
  have lb := later_cells B1.cell B1.lt
  generalize el xs (k * 3) = t0 at *
  generalize el xs (k * 3 + 1) = x0 at *
  generalize el xs (k * 3 + 2) = y0 at *
  generalize el xs ((k + 1) * 3) = t1 at *
  generalize el xs ((k + 1) * 3 + 1) = x1 at *
  generalize el xs ((k + 1) * 3 + 2) = y1 at *
  clear g0 g1 g2 p0 p1 p2 hR ha hn hT hn40
  subst hW
  go_enter Try.func60, Try.ntmps60
  go_wp2_with fail
  refine wp_region_later_tail 14 (by kernel_rfl) (by kernel_rfl) ?_
  simp only [List.take_succ_cons, List.take_zero, List.drop_succ_cons, List.drop_zero]
  repeat (any_goals (first | go_big_quiet_step (first | (go_at_call 39; exact later_call (spec_l03Point _ _ _ _)) | (go_at_call 69; exact later_call (spec_Minus _ _ _ _ _ hp1 hp0))) | quiet_step (first | (go_at_call 39; exact later_call (spec_l03Point _ _ _ _)) | (go_at_call 69; exact later_call (spec_Minus _ _ _ _ _ hp1 hp0)))))
  refine wpQuiet_nil ?_
  rintro w3 ⟨⟨w4, q4⟩, hw⟩
  obtain rfl : w3 = w4 := hw
  clear l0 l1 l2 m0 m1 m2 lb
  have e4 := (B2.q q4).cell
  have z4 := (B2.q q4).frozen
  have Q4 : Q w w3 := Q0.trans q4
  go_wp2_with fail
  have bf := (((B2.q q4).set_ 0 (.int .i64 (x1 - x0))).set_ 1 (.int .i64 (y1 - y0))).cell
  exact bodyPost_ret (v := .agg #[.int .i64 (x1 - x0), .int .i64 (y1 - y0)]) (by simp [results, Try.results60, go_sem, bf]) rfl ⟨rfl, (Q4.setCell (by simp) _).setCell (by simp) _⟩
end Go.Proofs.Ytadljkdjlpmllaa
