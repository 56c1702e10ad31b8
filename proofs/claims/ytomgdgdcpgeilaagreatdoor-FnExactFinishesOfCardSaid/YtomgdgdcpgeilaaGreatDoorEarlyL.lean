/- Walks: the law IsEarly's own walk. -/
import Derived.Test.YtomgdgdcpgeilaaGreatDoorEarly
import Derived.Deep.RegionHeld3
namespace Go.Proofs.YtomgdgdcpgeilaaGreatDoor
open Go.RowKit Go.WideShapes Go.ChangeShapes
theorem toPoint_any (a b : Int) (w : World) : Calls Tryz.prog 65 #[.agg #[.int .i64 a, .int .i64 b]] w fun e w' => e = .returned (.agg #[.int .i64 a, .int .i64 b]) ∧ Q w w' := by
  go_enter Tryz.func65, Tryz.ntmps65
  go_wp2
  exact bodyPost_ret (v := .agg #[.int .i64 a, .int .i64 b]) (by simp [results, Tryz.results65, go_sem]) rfl ⟨rfl, (((Q.refl _).alloc _).alloc _).alloc _⟩
set_option maxHeartbeats 1000000 in
theorem toLine_any (a b c d : Int) (w : World) : Calls Tryz.prog 36 #[.agg #[.int .i64 a, .int .i64 b, .int .i64 c, .int .i64 d]] w fun e w' => e = .returned (.agg #[.int .i64 a, .int .i64 b, .int .i64 c, .int .i64 d]) ∧ Q w w' := by
  have K1 := Lib.hid (fun wv => toPoint_any a b wv)
  have K2 := Lib.hid (fun wv => toPoint_any c d wv)
  go_enter Tryz.func36, Tryz.ntmps36
  go_wp2_with (first | (have q0 := q1; go_at_call 65; refine (K2.out _).mono ?_; rintro e w2 ⟨rfl, q2⟩; have C0 := ((B0.far (p := ⟨w.heap.size + 2, 0, none⟩) (by simp) (.int .i64 a)).far (p := ⟨w.heap.size + 2, 1, none⟩) (by simp) (.int .i64 b)).q q2; have C1 := ((B1.far (p := ⟨w.heap.size + 2, 0, none⟩) (by simp) (.int .i64 a)).far (p := ⟨w.heap.size + 2, 1, none⟩) (by simp) (.int .i64 b)).q q2; have C2 := ((B2.set_ 0 (.int .i64 a)).set_ 1 (.int .i64 b)).q q2; have y0 := C0.cell; have y1 := C1.cell; have y2 := C2.cell; have v1 := C1.frozen; have v2 := C2.frozen) | (go_at_call 65; refine (K1.out _).mono ?_; rintro e w1 ⟨rfl, q1⟩; have B0 := q1.boxB3; have B1 : Blk w1 (w.heap.size + 1) _ _ := (by simpa using q1.boxB2); have B2 : Blk w1 (w.heap.size + 2) _ _ := (by simpa using q1.boxB); have x0 := B0.cell; have x2 := B2.cell; have z2 := B2.frozen))
  have F := ((((((C1.far (p := ⟨w.heap.size + 2, 2, none⟩) (by simp) (.int .i64 c)).far (p := ⟨w.heap.size + 2, 3, none⟩) (by simp) (.int .i64 d)).set_ 0 (.int .i64 a)).set_ 1 (.int .i64 b)).set_ 2 (.int .i64 c)).set_ 3 (.int .i64 d)).cell
  have Q1 : Q w w1 := Q.trans (by (repeat (first | assumption | exact Q.refl _ | refine Q.alloc ?_ _ | refine Q.drewN ?_ _ | refine Q.drew ?_))) q1
  have Q2 : Q w w2 := Q.trans ((Q1.setCell (p := ⟨w.heap.size + 2, 0, none⟩) (by simp <;> omega) _).setCell (p := ⟨w.heap.size + 2, 1, none⟩) (by simp <;> omega) _) q2
  have HQ := Lib.hid Q2
  clear Q1 Q2 q1 q2 q0 x0 x2 z2 y0 y1 y2 v1 v2 B0 B1 B2 C0 C1 C2 K1 K2
  refine bodyPost_ret (v := .agg #[.int .i64 a, .int .i64 b, .int .i64 c, .int .i64 d]) ?_ rfl ⟨rfl, ?_⟩
  · simp [results, Tryz.results36, go_sem, F]
  · exact ((((((HQ.out.setCell (by simp <;> omega) _).setCell (by simp <;> omega) _).setCell (by simp <;> omega) _).setCell (by simp <;> omega) _).setCell (by simp <;> omega) _).setCell (by simp <;> omega) _)

end Go.Proofs.YtomgdgdcpgeilaaGreatDoor
