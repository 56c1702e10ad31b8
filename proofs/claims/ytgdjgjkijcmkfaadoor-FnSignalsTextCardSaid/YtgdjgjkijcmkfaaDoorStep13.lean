/- Walks: the state of a log behind a signal, as the reference finds it: some state, some answer. No condition. -/
import Derived.Test.YtgdjgjkijcmkfaaDoorSoft
import Derived.Test.YtgdjgjkijcmkfaaDoorTail
import Derived.Outline
import Derived.Deep.Cut
namespace Go.Proofs.YtgdjgjkijcmkfaaDoor
open Go.RowKit Go.WideShapes Go.ChangeShapes Go.Deep
/-- Some state, and an answer. -/
def Step4 (w : World) (e : Ending) (w' : World) : Prop := ∃ (x y z : Int) (u : Bool), e = .returned (.tuple #[.agg #[.int .i64 x, .int .i64 y, .int .i64 z], .bool u]) ∧ Q w w'
theorem Blk.set3 {w : World} {b : Nat} {T : TypeId} {x0 x1 x2 : Value} (h : Blk w b T #[x0, x1, x2]) (y0 y1 y2 : Value) : Blk (((w.setCell ⟨b, 0, none⟩ y0).setCell ⟨b, 1, none⟩ y1).setCell ⟨b, 2, none⟩ y2) b T #[y0, y1, y2] := by
  have := ((h.set_ 0 y0).set_ 1 y1).set_ 2 y2
  simpa using this
theorem Q.set3 {w w' : World} {b : Nat} (h : Q w w') (hb : w.heap.size ≤ b) (y0 y1 y2 : Value) : Q w (((w'.setCell ⟨b, 0, none⟩ y0).setCell ⟨b, 1, none⟩ y1).setCell ⟨b, 2, none⟩ y2) :=
  ((h.setCell (p := ⟨b, 0, none⟩) hb _).setCell (p := ⟨b, 1, none⟩) hb _).setCell (p := ⟨b, 2, none⟩) hb _
theorem size13 : ∀ w, (sizeOf 120).run Tryd.prog w = .ok 3 w := fun w => by simp [go_sem]
set_option maxRecDepth 100000 in
set_option maxHeartbeats 4000000 in
theorem spec_s13_1 (a b c t : Int) (w : World) : Calls Tryd.prog 108 #[.agg #[.int .i64 a, .int .i64 b, .int .i64 c], .agg #[.int .i64 1, .int .i64 t]] w (Step4 w) := by
  have B2 := ((Blk.new w 120 #[.int .i64 a, .int .i64 b, .int .i64 c]).alloc (.cells #[.int .i64 1, .int .i64 t] 56)).alloc (.cells #[.int .i64 0, .int .i64 0, .int .i64 0] 120)
  have B3 := (Blk.new (w.alloc (.cells #[.int .i64 a, .int .i64 b, .int .i64 c] 120)) 56 #[.int .i64 1, .int .i64 t]).alloc (.cells #[.int .i64 0, .int .i64 0, .int .i64 0] 120)
  have R0 := Blk.new ((w.alloc (.cells #[.int .i64 a, .int .i64 b, .int .i64 c] 120)).alloc (.cells #[.int .i64 1, .int .i64 t] 56)) 120 #[.int .i64 0, .int .i64 0, .int .i64 0]
  have Q3 : Q w (((w.alloc (.cells #[.int .i64 a, .int .i64 b, .int .i64 c] 120)).alloc (.cells #[.int .i64 1, .int .i64 t] 56)).alloc (.cells #[.int .i64 0, .int .i64 0, .int .i64 0] 120)) := (((Q.refl w).alloc _).alloc _).alloc _
  have e1 : (w.alloc (.cells #[.int .i64 a, .int .i64 b, .int .i64 c] 120)).heap.size = w.heap.size + 1 := by simp
  have e2 : ((w.alloc (.cells #[.int .i64 a, .int .i64 b, .int .i64 c] 120)).alloc (.cells #[.int .i64 1, .int .i64 t] 56)).heap.size = w.heap.size + 1 + 1 := by simp
  rw [e1] at B3
  rw [e2] at R0
  clear e1 e2
  go_enter Tryd.func108, Tryd.ntmps108
  go_upto_region 1 with (fail)
  generalize hw3 : ((w.alloc (.cells #[.int .i64 a, .int .i64 b, .int .i64 c] 120)).alloc (.cells #[.int .i64 1, .int .i64 t] 56)).alloc (.cells #[.int .i64 0, .int .i64 0, .int .i64 0] 120) = w3 at *
  clear hw3
  have c2 := B2.cell
  have c3 := B3.cell
  have l2 := B2.lt
  have l3 := B3.lt
  have cR := R0.cell
  have fR := R0.frozen
  have lR := R0.lt
  go_wp2_with fail
  all_goals
    have F := (R0.set3 (.int .i64 1) (.int .i64 t) (.int .i64 0)).cell
    refine bodyPost_ret (v := .tuple #[.agg #[.int .i64 1, .int .i64 t, .int .i64 0], .bool _]) (by simp [results, Tryd.results108, go_sem, Act.put, F]; rfl) rfl ⟨_, _, _, _, rfl, ?_⟩
    exact Q3.set3 (by omega) _ _ _
set_option maxRecDepth 100000 in
set_option maxHeartbeats 4000000 in
theorem spec_s13_2 (a b c t : Int) (w : World) : Calls Tryd.prog 108 #[.agg #[.int .i64 a, .int .i64 b, .int .i64 c], .agg #[.int .i64 2, .int .i64 t]] w (Step4 w) := by
  have B2 := ((Blk.new w 120 #[.int .i64 a, .int .i64 b, .int .i64 c]).alloc (.cells #[.int .i64 2, .int .i64 t] 56)).alloc (.cells #[.int .i64 0, .int .i64 0, .int .i64 0] 120)
  have B3 := (Blk.new (w.alloc (.cells #[.int .i64 a, .int .i64 b, .int .i64 c] 120)) 56 #[.int .i64 2, .int .i64 t]).alloc (.cells #[.int .i64 0, .int .i64 0, .int .i64 0] 120)
  have R0 := Blk.new ((w.alloc (.cells #[.int .i64 a, .int .i64 b, .int .i64 c] 120)).alloc (.cells #[.int .i64 2, .int .i64 t] 56)) 120 #[.int .i64 0, .int .i64 0, .int .i64 0]
  have Q3 : Q w (((w.alloc (.cells #[.int .i64 a, .int .i64 b, .int .i64 c] 120)).alloc (.cells #[.int .i64 2, .int .i64 t] 56)).alloc (.cells #[.int .i64 0, .int .i64 0, .int .i64 0] 120)) := (((Q.refl w).alloc _).alloc _).alloc _
  have e1 : (w.alloc (.cells #[.int .i64 a, .int .i64 b, .int .i64 c] 120)).heap.size = w.heap.size + 1 := by simp
  have e2 : ((w.alloc (.cells #[.int .i64 a, .int .i64 b, .int .i64 c] 120)).alloc (.cells #[.int .i64 2, .int .i64 t] 56)).heap.size = w.heap.size + 1 + 1 := by simp
  rw [e1] at B3
  rw [e2] at R0
  clear e1 e2
  go_enter Tryd.func108, Tryd.ntmps108
  go_upto_region 1 with (fail)
  generalize hw3 : ((w.alloc (.cells #[.int .i64 a, .int .i64 b, .int .i64 c] 120)).alloc (.cells #[.int .i64 2, .int .i64 t] 56)).alloc (.cells #[.int .i64 0, .int .i64 0, .int .i64 0] 120) = w3 at *
  clear hw3
  have c2 := B2.cell
  have c3 := B3.cell
  have l2 := B2.lt
  have l3 := B3.lt
  have cR := R0.cell
  have fR := R0.frozen
  have lR := R0.lt
  go_wp2_with fail
  have L2 := softR_cells (b := w.heap.size + 1 + 1) (T := 120) (k := 3) B2 (by omega)
  have L3 := softR_cells (b := w.heap.size + 1 + 1) (T := 120) (k := 3) B3 (by omega)
  have hNE : Nonempty (SoftR w3 (w.heap.size + 1 + 1) 120 3) := ⟨⟨w3, grown_refl _ _, _, R0, [0, 0, 0], rfl, rfl⟩⟩
  refine wp_region_soft (fun w' => ∃ u : SoftR w3 (w.heap.size + 1 + 1) 120 3, w' = u.val) (by kernel_rfl) (by kernel_rfl) ⟨⟨w3.drew, grown_drewN (grown_refl _ _) 1, _, R0.drew, [0, 0, 0], rfl, rfl⟩, rfl⟩ ?_
  refine wpSoft_take 14 ?_
  simp only [List.take_succ_cons, List.take_zero, List.drop_succ_cons, List.drop_zero]
  clear cR fR lR c2 c3 l2 l3
  repeat (any_goals (first | go_big_quiet_step (fail) | quiet_step (fail) | (refine wpQuiet_step (fun K hK => ?_); go_simp; split <;> (refine hK _ ?_; clear hK K))))
  all_goals
    refine wpQuiet_nil ?_
    refine wpSoft_one rfl undef (store3_soft rfl rfl rfl rfl size13) ?_
    refine wpSoft_all ?_
    repeat (any_goals (first | go_big_quiet_step (fail) | quiet_step (fail)))
    refine wpQuiet_nil ?_
    rintro w4 ⟨⟨w5, g5, cs5, R5, xs5, rfl, hl5⟩, hw⟩
    obtain rfl : w4 = w5 := hw
    obtain ⟨y0, y1, y2, rfl⟩ := len3 hl5
    have Q5 := Q3.grown g5 (fun k hk => by injection hk with hk; omega)
    have cR := R5.cell
    have lR := R5.lt
    clear L2 L3
    go_wp2_with fail
    exact bodyPost_ret (v := .tuple #[.agg #[.int .i64 y0, .int .i64 y1, .int .i64 y2], .bool _]) (by simp [results, Tryd.results108, go_sem, Act.put, cR]; rfl) rfl ⟨_, _, _, _, rfl, Q5⟩
set_option maxRecDepth 100000 in
set_option maxHeartbeats 4000000 in
theorem spec_s13_3 (a b c t : Int) (w : World) : Calls Tryd.prog 108 #[.agg #[.int .i64 a, .int .i64 b, .int .i64 c], .agg #[.int .i64 3, .int .i64 t]] w (Step4 w) := by
  have B2 := ((Blk.new w 120 #[.int .i64 a, .int .i64 b, .int .i64 c]).alloc (.cells #[.int .i64 3, .int .i64 t] 56)).alloc (.cells #[.int .i64 0, .int .i64 0, .int .i64 0] 120)
  have B3 := (Blk.new (w.alloc (.cells #[.int .i64 a, .int .i64 b, .int .i64 c] 120)) 56 #[.int .i64 3, .int .i64 t]).alloc (.cells #[.int .i64 0, .int .i64 0, .int .i64 0] 120)
  have R0 := Blk.new ((w.alloc (.cells #[.int .i64 a, .int .i64 b, .int .i64 c] 120)).alloc (.cells #[.int .i64 3, .int .i64 t] 56)) 120 #[.int .i64 0, .int .i64 0, .int .i64 0]
  have Q3 : Q w (((w.alloc (.cells #[.int .i64 a, .int .i64 b, .int .i64 c] 120)).alloc (.cells #[.int .i64 3, .int .i64 t] 56)).alloc (.cells #[.int .i64 0, .int .i64 0, .int .i64 0] 120)) := (((Q.refl w).alloc _).alloc _).alloc _
  have e1 : (w.alloc (.cells #[.int .i64 a, .int .i64 b, .int .i64 c] 120)).heap.size = w.heap.size + 1 := by simp
  have e2 : ((w.alloc (.cells #[.int .i64 a, .int .i64 b, .int .i64 c] 120)).alloc (.cells #[.int .i64 3, .int .i64 t] 56)).heap.size = w.heap.size + 1 + 1 := by simp
  rw [e1] at B3
  rw [e2] at R0
  clear e1 e2
  go_enter Tryd.func108, Tryd.ntmps108
  go_upto_region 1 with (fail)
  generalize hw3 : ((w.alloc (.cells #[.int .i64 a, .int .i64 b, .int .i64 c] 120)).alloc (.cells #[.int .i64 3, .int .i64 t] 56)).alloc (.cells #[.int .i64 0, .int .i64 0, .int .i64 0] 120) = w3 at *
  clear hw3
  have c2 := B2.cell
  have c3 := B3.cell
  have l2 := B2.lt
  have l3 := B3.lt
  have cR := R0.cell
  have fR := R0.frozen
  have lR := R0.lt
  go_wp2_with fail
  have L2 := softR_cells (b := w.heap.size + 1 + 1) (T := 120) (k := 3) B2 (by omega)
  have L3 := softR_cells (b := w.heap.size + 1 + 1) (T := 120) (k := 3) B3 (by omega)
  have hNE : Nonempty (SoftR w3 (w.heap.size + 1 + 1) 120 3) := ⟨⟨w3, grown_refl _ _, _, R0, [0, 0, 0], rfl, rfl⟩⟩
  refine wp_region_soft (fun w' => ∃ u : SoftR w3 (w.heap.size + 1 + 1) 120 3, w' = u.val) (by kernel_rfl) (by kernel_rfl) ⟨⟨w3.drew, grown_drewN (grown_refl _ _) 1, _, R0.drew, [0, 0, 0], rfl, rfl⟩, rfl⟩ ?_
  refine wpSoft_take 14 ?_
  simp only [List.take_succ_cons, List.take_zero, List.drop_succ_cons, List.drop_zero]
  clear cR fR lR c2 c3 l2 l3
  repeat (any_goals (first | go_big_quiet_step (fail) | quiet_step (fail) | (refine wpQuiet_step (fun K hK => ?_); go_simp; split <;> (refine hK _ ?_; clear hK K))))
  all_goals
    refine wpQuiet_nil ?_
    refine wpSoft_one rfl undef (store3_soft rfl rfl rfl rfl size13) ?_
    refine wpSoft_all ?_
    repeat (any_goals (first | go_big_quiet_step (fail) | quiet_step (fail)))
    refine wpQuiet_nil ?_
    rintro w4 ⟨⟨w5, g5, cs5, R5, xs5, rfl, hl5⟩, hw⟩
    obtain rfl : w4 = w5 := hw
    obtain ⟨y0, y1, y2, rfl⟩ := len3 hl5
    have Q5 := Q3.grown g5 (fun k hk => by injection hk with hk; omega)
    have cR := R5.cell
    have lR := R5.lt
    clear L2 L3
    go_wp2_with fail
    exact bodyPost_ret (v := .tuple #[.agg #[.int .i64 y0, .int .i64 y1, .int .i64 y2], .bool _]) (by simp [results, Tryd.results108, go_sem, Act.put, cR]; rfl) rfl ⟨_, _, _, _, rfl, Q5⟩
set_option maxRecDepth 100000 in
set_option maxHeartbeats 4000000 in
theorem spec_s13_4 (a b c t : Int) (w : World) : Calls Tryd.prog 108 #[.agg #[.int .i64 a, .int .i64 b, .int .i64 c], .agg #[.int .i64 4, .int .i64 t]] w (Step4 w) := by
  have B2 := ((Blk.new w 120 #[.int .i64 a, .int .i64 b, .int .i64 c]).alloc (.cells #[.int .i64 4, .int .i64 t] 56)).alloc (.cells #[.int .i64 0, .int .i64 0, .int .i64 0] 120)
  have B3 := (Blk.new (w.alloc (.cells #[.int .i64 a, .int .i64 b, .int .i64 c] 120)) 56 #[.int .i64 4, .int .i64 t]).alloc (.cells #[.int .i64 0, .int .i64 0, .int .i64 0] 120)
  have R0 := Blk.new ((w.alloc (.cells #[.int .i64 a, .int .i64 b, .int .i64 c] 120)).alloc (.cells #[.int .i64 4, .int .i64 t] 56)) 120 #[.int .i64 0, .int .i64 0, .int .i64 0]
  have Q3 : Q w (((w.alloc (.cells #[.int .i64 a, .int .i64 b, .int .i64 c] 120)).alloc (.cells #[.int .i64 4, .int .i64 t] 56)).alloc (.cells #[.int .i64 0, .int .i64 0, .int .i64 0] 120)) := (((Q.refl w).alloc _).alloc _).alloc _
  have e1 : (w.alloc (.cells #[.int .i64 a, .int .i64 b, .int .i64 c] 120)).heap.size = w.heap.size + 1 := by simp
  have e2 : ((w.alloc (.cells #[.int .i64 a, .int .i64 b, .int .i64 c] 120)).alloc (.cells #[.int .i64 4, .int .i64 t] 56)).heap.size = w.heap.size + 1 + 1 := by simp
  rw [e1] at B3
  rw [e2] at R0
  clear e1 e2
  go_enter Tryd.func108, Tryd.ntmps108
  go_upto_region 1 with (fail)
  generalize hw3 : ((w.alloc (.cells #[.int .i64 a, .int .i64 b, .int .i64 c] 120)).alloc (.cells #[.int .i64 4, .int .i64 t] 56)).alloc (.cells #[.int .i64 0, .int .i64 0, .int .i64 0] 120) = w3 at *
  clear hw3
  have c2 := B2.cell
  have c3 := B3.cell
  have l2 := B2.lt
  have l3 := B3.lt
  have cR := R0.cell
  have fR := R0.frozen
  have lR := R0.lt
  go_wp2_with fail
  have L2 := softR_cells (b := w.heap.size + 1 + 1) (T := 120) (k := 3) B2 (by omega)
  have L3 := softR_cells (b := w.heap.size + 1 + 1) (T := 120) (k := 3) B3 (by omega)
  have hNE : Nonempty (SoftR w3 (w.heap.size + 1 + 1) 120 3) := ⟨⟨w3, grown_refl _ _, _, R0, [0, 0, 0], rfl, rfl⟩⟩
  refine wp_region_soft (fun w' => ∃ u : SoftR w3 (w.heap.size + 1 + 1) 120 3, w' = u.val) (by kernel_rfl) (by kernel_rfl) ⟨⟨w3.drew, grown_drewN (grown_refl _ _) 1, _, R0.drew, [0, 0, 0], rfl, rfl⟩, rfl⟩ ?_
  refine wpSoft_take 16 ?_
  simp only [List.take_succ_cons, List.take_zero, List.drop_succ_cons, List.drop_zero]
  clear cR fR lR c2 c3 l2 l3
  repeat (any_goals (first | go_big_quiet_step (fail) | quiet_step (fail) | (refine wpQuiet_step (fun K hK => ?_); go_simp; split <;> (refine hK _ ?_; clear hK K))))
  all_goals
    refine wpQuiet_nil ?_
    refine wpSoft_one rfl undef (store3_soft rfl rfl rfl rfl size13) ?_
    refine wpSoft_all ?_
    repeat (any_goals (first | go_big_quiet_step (fail) | quiet_step (fail)))
    refine wpQuiet_nil ?_
    rintro w4 ⟨⟨w5, g5, cs5, R5, xs5, rfl, hl5⟩, hw⟩
    obtain rfl : w4 = w5 := hw
    obtain ⟨y0, y1, y2, rfl⟩ := len3 hl5
    have Q5 := Q3.grown g5 (fun k hk => by injection hk with hk; omega)
    have cR := R5.cell
    have lR := R5.lt
    clear L2 L3
    go_wp2_with fail
    exact bodyPost_ret (v := .tuple #[.agg #[.int .i64 y0, .int .i64 y1, .int .i64 y2], .bool _]) (by simp [results, Tryd.results108, go_sem, Act.put, cR]; rfl) rfl ⟨_, _, _, _, rfl, Q5⟩
set_option maxRecDepth 100000 in
set_option maxHeartbeats 4000000 in
theorem spec_s13_5 (a b c t : Int) (w : World) : Calls Tryd.prog 108 #[.agg #[.int .i64 a, .int .i64 b, .int .i64 c], .agg #[.int .i64 5, .int .i64 t]] w (Step4 w) := by
  have B2 := ((Blk.new w 120 #[.int .i64 a, .int .i64 b, .int .i64 c]).alloc (.cells #[.int .i64 5, .int .i64 t] 56)).alloc (.cells #[.int .i64 0, .int .i64 0, .int .i64 0] 120)
  have B3 := (Blk.new (w.alloc (.cells #[.int .i64 a, .int .i64 b, .int .i64 c] 120)) 56 #[.int .i64 5, .int .i64 t]).alloc (.cells #[.int .i64 0, .int .i64 0, .int .i64 0] 120)
  have R0 := Blk.new ((w.alloc (.cells #[.int .i64 a, .int .i64 b, .int .i64 c] 120)).alloc (.cells #[.int .i64 5, .int .i64 t] 56)) 120 #[.int .i64 0, .int .i64 0, .int .i64 0]
  have Q3 : Q w (((w.alloc (.cells #[.int .i64 a, .int .i64 b, .int .i64 c] 120)).alloc (.cells #[.int .i64 5, .int .i64 t] 56)).alloc (.cells #[.int .i64 0, .int .i64 0, .int .i64 0] 120)) := (((Q.refl w).alloc _).alloc _).alloc _
  have e1 : (w.alloc (.cells #[.int .i64 a, .int .i64 b, .int .i64 c] 120)).heap.size = w.heap.size + 1 := by simp
  have e2 : ((w.alloc (.cells #[.int .i64 a, .int .i64 b, .int .i64 c] 120)).alloc (.cells #[.int .i64 5, .int .i64 t] 56)).heap.size = w.heap.size + 1 + 1 := by simp
  rw [e1] at B3
  rw [e2] at R0
  clear e1 e2
  go_enter Tryd.func108, Tryd.ntmps108
  go_upto_region 1 with (fail)
  generalize hw3 : ((w.alloc (.cells #[.int .i64 a, .int .i64 b, .int .i64 c] 120)).alloc (.cells #[.int .i64 5, .int .i64 t] 56)).alloc (.cells #[.int .i64 0, .int .i64 0, .int .i64 0] 120) = w3 at *
  clear hw3
  have c2 := B2.cell
  have c3 := B3.cell
  have l2 := B2.lt
  have l3 := B3.lt
  have cR := R0.cell
  have fR := R0.frozen
  have lR := R0.lt
  go_wp2_with fail
  have L2 := softR_cells (b := w.heap.size + 1 + 1) (T := 120) (k := 3) B2 (by omega)
  have L3 := softR_cells (b := w.heap.size + 1 + 1) (T := 120) (k := 3) B3 (by omega)
  have hNE : Nonempty (SoftR w3 (w.heap.size + 1 + 1) 120 3) := ⟨⟨w3, grown_refl _ _, _, R0, [0, 0, 0], rfl, rfl⟩⟩
  refine wp_region_soft (fun w' => ∃ u : SoftR w3 (w.heap.size + 1 + 1) 120 3, w' = u.val) (by kernel_rfl) (by kernel_rfl) ⟨⟨w3.drew, grown_drewN (grown_refl _ _) 1, _, R0.drew, [0, 0, 0], rfl, rfl⟩, rfl⟩ ?_
  refine wpSoft_take 14 ?_
  simp only [List.take_succ_cons, List.take_zero, List.drop_succ_cons, List.drop_zero]
  clear cR fR lR c2 c3 l2 l3
  repeat (any_goals (first | go_big_quiet_step (fail) | quiet_step (fail) | (refine wpQuiet_step (fun K hK => ?_); go_simp; split <;> (refine hK _ ?_; clear hK K))))
  all_goals
    refine wpQuiet_nil ?_
    refine wpSoft_one rfl undef (store3_soft rfl rfl rfl rfl size13) ?_
    refine wpSoft_all ?_
    repeat (any_goals (first | go_big_quiet_step (fail) | quiet_step (fail)))
    refine wpQuiet_nil ?_
    rintro w4 ⟨⟨w5, g5, cs5, R5, xs5, rfl, hl5⟩, hw⟩
    obtain rfl : w4 = w5 := hw
    obtain ⟨y0, y1, y2, rfl⟩ := len3 hl5
    have Q5 := Q3.grown g5 (fun k hk => by injection hk with hk; omega)
    have cR := R5.cell
    have lR := R5.lt
    clear L2 L3
    go_wp2_with fail
    exact bodyPost_ret (v := .tuple #[.agg #[.int .i64 y0, .int .i64 y1, .int .i64 y2], .bool _]) (by simp [results, Tryd.results108, go_sem, Act.put, cR]; rfl) rfl ⟨_, _, _, _, rfl, Q5⟩
set_option maxRecDepth 100000 in
set_option maxHeartbeats 4000000 in
theorem spec_s13_6 (a b c t : Int) (w : World) : Calls Tryd.prog 108 #[.agg #[.int .i64 a, .int .i64 b, .int .i64 c], .agg #[.int .i64 6, .int .i64 t]] w (Step4 w) := by
  have B2 := ((Blk.new w 120 #[.int .i64 a, .int .i64 b, .int .i64 c]).alloc (.cells #[.int .i64 6, .int .i64 t] 56)).alloc (.cells #[.int .i64 0, .int .i64 0, .int .i64 0] 120)
  have B3 := (Blk.new (w.alloc (.cells #[.int .i64 a, .int .i64 b, .int .i64 c] 120)) 56 #[.int .i64 6, .int .i64 t]).alloc (.cells #[.int .i64 0, .int .i64 0, .int .i64 0] 120)
  have R0 := Blk.new ((w.alloc (.cells #[.int .i64 a, .int .i64 b, .int .i64 c] 120)).alloc (.cells #[.int .i64 6, .int .i64 t] 56)) 120 #[.int .i64 0, .int .i64 0, .int .i64 0]
  have Q3 : Q w (((w.alloc (.cells #[.int .i64 a, .int .i64 b, .int .i64 c] 120)).alloc (.cells #[.int .i64 6, .int .i64 t] 56)).alloc (.cells #[.int .i64 0, .int .i64 0, .int .i64 0] 120)) := (((Q.refl w).alloc _).alloc _).alloc _
  have e1 : (w.alloc (.cells #[.int .i64 a, .int .i64 b, .int .i64 c] 120)).heap.size = w.heap.size + 1 := by simp
  have e2 : ((w.alloc (.cells #[.int .i64 a, .int .i64 b, .int .i64 c] 120)).alloc (.cells #[.int .i64 6, .int .i64 t] 56)).heap.size = w.heap.size + 1 + 1 := by simp
  rw [e1] at B3
  rw [e2] at R0
  clear e1 e2
  go_enter Tryd.func108, Tryd.ntmps108
  go_upto_region 1 with (fail)
  generalize hw3 : ((w.alloc (.cells #[.int .i64 a, .int .i64 b, .int .i64 c] 120)).alloc (.cells #[.int .i64 6, .int .i64 t] 56)).alloc (.cells #[.int .i64 0, .int .i64 0, .int .i64 0] 120) = w3 at *
  clear hw3
  have c2 := B2.cell
  have c3 := B3.cell
  have l2 := B2.lt
  have l3 := B3.lt
  have cR := R0.cell
  have fR := R0.frozen
  have lR := R0.lt
  go_wp2_with fail
  have L2 := softR_cells (b := w.heap.size + 1 + 1) (T := 120) (k := 3) B2 (by omega)
  have L3 := softR_cells (b := w.heap.size + 1 + 1) (T := 120) (k := 3) B3 (by omega)
  have hNE : Nonempty (SoftR w3 (w.heap.size + 1 + 1) 120 3) := ⟨⟨w3, grown_refl _ _, _, R0, [0, 0, 0], rfl, rfl⟩⟩
  refine wp_region_soft (fun w' => ∃ u : SoftR w3 (w.heap.size + 1 + 1) 120 3, w' = u.val) (by kernel_rfl) (by kernel_rfl) ⟨⟨w3.drew, grown_drewN (grown_refl _ _) 1, _, R0.drew, [0, 0, 0], rfl, rfl⟩, rfl⟩ ?_
  refine wpSoft_take 6 ?_
  simp only [List.take_succ_cons, List.take_zero, List.drop_succ_cons, List.drop_zero]
  clear cR fR lR c2 c3 l2 l3
  repeat (any_goals (first | go_big_quiet_step (fail) | quiet_step (fail) | (refine wpQuiet_step (fun K hK => ?_); go_simp; split <;> (refine hK _ ?_; clear hK K))))
  all_goals
    refine wpQuiet_nil ?_
    refine wpSoft_one rfl undef (store3_soft rfl rfl rfl rfl size13) ?_
    refine wpSoft_all ?_
    repeat (any_goals (first | go_big_quiet_step (fail) | quiet_step (fail)))
    refine wpQuiet_nil ?_
    rintro w4 ⟨⟨w5, g5, cs5, R5, xs5, rfl, hl5⟩, hw⟩
    obtain rfl : w4 = w5 := hw
    obtain ⟨y0, y1, y2, rfl⟩ := len3 hl5
    have Q5 := Q3.grown g5 (fun k hk => by injection hk with hk; omega)
    have cR := R5.cell
    have lR := R5.lt
    clear L2 L3
    go_wp2_with fail
    exact bodyPost_ret (v := .tuple #[.agg #[.int .i64 y0, .int .i64 y1, .int .i64 y2], .bool _]) (by simp [results, Tryd.results108, go_sem, Act.put, cR]; rfl) rfl ⟨_, _, _, _, rfl, Q5⟩
set_option maxRecDepth 100000 in
set_option maxHeartbeats 4000000 in
theorem spec_s13_7 (a b c t : Int) (w : World) : Calls Tryd.prog 108 #[.agg #[.int .i64 a, .int .i64 b, .int .i64 c], .agg #[.int .i64 7, .int .i64 t]] w (Step4 w) := by
  have B2 := ((Blk.new w 120 #[.int .i64 a, .int .i64 b, .int .i64 c]).alloc (.cells #[.int .i64 7, .int .i64 t] 56)).alloc (.cells #[.int .i64 0, .int .i64 0, .int .i64 0] 120)
  have B3 := (Blk.new (w.alloc (.cells #[.int .i64 a, .int .i64 b, .int .i64 c] 120)) 56 #[.int .i64 7, .int .i64 t]).alloc (.cells #[.int .i64 0, .int .i64 0, .int .i64 0] 120)
  have R0 := Blk.new ((w.alloc (.cells #[.int .i64 a, .int .i64 b, .int .i64 c] 120)).alloc (.cells #[.int .i64 7, .int .i64 t] 56)) 120 #[.int .i64 0, .int .i64 0, .int .i64 0]
  have Q3 : Q w (((w.alloc (.cells #[.int .i64 a, .int .i64 b, .int .i64 c] 120)).alloc (.cells #[.int .i64 7, .int .i64 t] 56)).alloc (.cells #[.int .i64 0, .int .i64 0, .int .i64 0] 120)) := (((Q.refl w).alloc _).alloc _).alloc _
  have e1 : (w.alloc (.cells #[.int .i64 a, .int .i64 b, .int .i64 c] 120)).heap.size = w.heap.size + 1 := by simp
  have e2 : ((w.alloc (.cells #[.int .i64 a, .int .i64 b, .int .i64 c] 120)).alloc (.cells #[.int .i64 7, .int .i64 t] 56)).heap.size = w.heap.size + 1 + 1 := by simp
  rw [e1] at B3
  rw [e2] at R0
  clear e1 e2
  go_enter Tryd.func108, Tryd.ntmps108
  go_upto_region 1 with (fail)
  generalize hw3 : ((w.alloc (.cells #[.int .i64 a, .int .i64 b, .int .i64 c] 120)).alloc (.cells #[.int .i64 7, .int .i64 t] 56)).alloc (.cells #[.int .i64 0, .int .i64 0, .int .i64 0] 120) = w3 at *
  clear hw3
  have c2 := B2.cell
  have c3 := B3.cell
  have l2 := B2.lt
  have l3 := B3.lt
  have cR := R0.cell
  have fR := R0.frozen
  have lR := R0.lt
  go_wp2_with fail
  have L2 := softR_cells (b := w.heap.size + 1 + 1) (T := 120) (k := 3) B2 (by omega)
  have L3 := softR_cells (b := w.heap.size + 1 + 1) (T := 120) (k := 3) B3 (by omega)
  have hNE : Nonempty (SoftR w3 (w.heap.size + 1 + 1) 120 3) := ⟨⟨w3, grown_refl _ _, _, R0, [0, 0, 0], rfl, rfl⟩⟩
  refine wp_region_soft (fun w' => ∃ u : SoftR w3 (w.heap.size + 1 + 1) 120 3, w' = u.val) (by kernel_rfl) (by kernel_rfl) ⟨⟨w3.drew, grown_drewN (grown_refl _ _) 1, _, R0.drew, [0, 0, 0], rfl, rfl⟩, rfl⟩ ?_
  refine wpSoft_take 14 ?_
  simp only [List.take_succ_cons, List.take_zero, List.drop_succ_cons, List.drop_zero]
  clear cR fR lR c2 c3 l2 l3
  repeat (any_goals (first | go_big_quiet_step (fail) | quiet_step (fail) | (refine wpQuiet_step (fun K hK => ?_); go_simp; split <;> (refine hK _ ?_; clear hK K))))
  all_goals
    refine wpQuiet_nil ?_
    refine wpSoft_one rfl undef (store3_soft rfl rfl rfl rfl size13) ?_
    refine wpSoft_all ?_
    repeat (any_goals (first | go_big_quiet_step (fail) | quiet_step (fail)))
    refine wpQuiet_nil ?_
    rintro w4 ⟨⟨w5, g5, cs5, R5, xs5, rfl, hl5⟩, hw⟩
    obtain rfl : w4 = w5 := hw
    obtain ⟨y0, y1, y2, rfl⟩ := len3 hl5
    have Q5 := Q3.grown g5 (fun k hk => by injection hk with hk; omega)
    have cR := R5.cell
    have lR := R5.lt
    clear L2 L3
    go_wp2_with fail
    exact bodyPost_ret (v := .tuple #[.agg #[.int .i64 y0, .int .i64 y1, .int .i64 y2], .bool _]) (by simp [results, Tryd.results108, go_sem, Act.put, cR]; rfl) rfl ⟨_, _, _, _, rfl, Q5⟩
set_option maxRecDepth 100000 in
set_option maxHeartbeats 4000000 in
theorem spec_s13_8 (a b c t k : Int) (h1 : k ≠ 1) (h2 : k ≠ 2) (h3 : k ≠ 3) (h4 : k ≠ 4) (h5 : k ≠ 5) (h6 : k ≠ 6) (h7 : k ≠ 7) (w : World) : Calls Tryd.prog 108 #[.agg #[.int .i64 a, .int .i64 b, .int .i64 c], .agg #[.int .i64 k, .int .i64 t]] w (Step4 w) := by
  have g1 : (k == 1) = false := by simpa using h1
  have g2 : (k == 2) = false := by simpa using h2
  have g3 : (k == 3) = false := by simpa using h3
  have g4 : (k == 4) = false := by simpa using h4
  have g5 : (k == 5) = false := by simpa using h5
  have g6 : (k == 6) = false := by simpa using h6
  have g7 : (k == 7) = false := by simpa using h7
  have B2 := ((Blk.new w 120 #[.int .i64 a, .int .i64 b, .int .i64 c]).alloc (.cells #[.int .i64 k, .int .i64 t] 56)).alloc (.cells #[.int .i64 0, .int .i64 0, .int .i64 0] 120)
  have B3 := (Blk.new (w.alloc (.cells #[.int .i64 a, .int .i64 b, .int .i64 c] 120)) 56 #[.int .i64 k, .int .i64 t]).alloc (.cells #[.int .i64 0, .int .i64 0, .int .i64 0] 120)
  have R0 := Blk.new ((w.alloc (.cells #[.int .i64 a, .int .i64 b, .int .i64 c] 120)).alloc (.cells #[.int .i64 k, .int .i64 t] 56)) 120 #[.int .i64 0, .int .i64 0, .int .i64 0]
  have Q3 : Q w (((w.alloc (.cells #[.int .i64 a, .int .i64 b, .int .i64 c] 120)).alloc (.cells #[.int .i64 k, .int .i64 t] 56)).alloc (.cells #[.int .i64 0, .int .i64 0, .int .i64 0] 120)) := (((Q.refl w).alloc _).alloc _).alloc _
  have e1 : (w.alloc (.cells #[.int .i64 a, .int .i64 b, .int .i64 c] 120)).heap.size = w.heap.size + 1 := by simp
  have e2 : ((w.alloc (.cells #[.int .i64 a, .int .i64 b, .int .i64 c] 120)).alloc (.cells #[.int .i64 k, .int .i64 t] 56)).heap.size = w.heap.size + 1 + 1 := by simp
  rw [e1] at B3
  rw [e2] at R0
  clear e1 e2
  go_enter Tryd.func108, Tryd.ntmps108
  go_upto_region 1 with (fail)
  generalize hw3 : ((w.alloc (.cells #[.int .i64 a, .int .i64 b, .int .i64 c] 120)).alloc (.cells #[.int .i64 k, .int .i64 t] 56)).alloc (.cells #[.int .i64 0, .int .i64 0, .int .i64 0] 120) = w3 at *
  clear hw3
  have c2 := B2.cell
  have c3 := B3.cell
  have l2 := B2.lt
  have l3 := B3.lt
  have cR := R0.cell
  have fR := R0.frozen
  have lR := R0.lt
  go_wp2_with fail
  have L2 := softR_cells (b := w.heap.size + 1 + 1) (T := 120) (k := 3) B2 (by omega)
  have L3 := softR_cells (b := w.heap.size + 1 + 1) (T := 120) (k := 3) B3 (by omega)
  have hNE : Nonempty (SoftR w3 (w.heap.size + 1 + 1) 120 3) := ⟨⟨w3, grown_refl _ _, _, R0, [0, 0, 0], rfl, rfl⟩⟩
  refine wp_region_soft (fun w' => ∃ u : SoftR w3 (w.heap.size + 1 + 1) 120 3, w' = u.val) (by kernel_rfl) (by kernel_rfl) ⟨⟨w3.drew, grown_drewN (grown_refl _ _) 1, _, R0.drew, [0, 0, 0], rfl, rfl⟩, rfl⟩ ?_
  refine wpSoft_take 4 ?_
  simp only [List.take_succ_cons, List.take_zero, List.drop_succ_cons, List.drop_zero]
  clear cR fR lR c2 c3 l2 l3
  repeat (any_goals (first | go_big_quiet_step (fail) | quiet_step (fail) | (refine wpQuiet_step (fun K hK => ?_); go_simp; split <;> (refine hK _ ?_; clear hK K))))
  all_goals
    refine wpQuiet_nil ?_
    refine wpSoft_one rfl undef (store3_soft rfl rfl rfl rfl size13) ?_
    refine wpSoft_all ?_
    repeat (any_goals (first | go_big_quiet_step (fail) | quiet_step (fail)))
    refine wpQuiet_nil ?_
    rintro w4 ⟨⟨w5, g5, cs5, R5, xs5, rfl, hl5⟩, hw⟩
    obtain rfl : w4 = w5 := hw
    obtain ⟨y0, y1, y2, rfl⟩ := len3 hl5
    have Q5 := Q3.grown g5 (fun k hk => by injection hk with hk; omega)
    have cR := R5.cell
    have lR := R5.lt
    clear L2 L3
    go_wp2_with fail
    exact bodyPost_ret (v := .tuple #[.agg #[.int .i64 y0, .int .i64 y1, .int .i64 y2], .bool _]) (by simp [results, Tryd.results108, go_sem, Act.put, cR]; rfl) rfl ⟨_, _, _, _, rfl, Q5⟩
theorem spec_l13Step (a b c k t : Int) (w : World) : Calls Tryd.prog 108 #[.agg #[.int .i64 a, .int .i64 b, .int .i64 c], .agg #[.int .i64 k, .int .i64 t]] w (Step4 w) := by
  by_cases k1 : k = 1
  · subst k1; exact spec_s13_1 a b c t w
  by_cases k2 : k = 2
  · subst k2; exact spec_s13_2 a b c t w
  by_cases k3 : k = 3
  · subst k3; exact spec_s13_3 a b c t w
  by_cases k4 : k = 4
  · subst k4; exact spec_s13_4 a b c t w
  by_cases k5 : k = 5
  · subst k5; exact spec_s13_5 a b c t w
  by_cases k6 : k = 6
  · subst k6; exact spec_s13_6 a b c t w
  by_cases k7 : k = 7
  · subst k7; exact spec_s13_7 a b c t w
  exact spec_s13_8 a b c t k k1 k2 k3 k4 k5 k6 k7 w
end Go.Proofs.YtgdjgjkijcmkfaaDoor
