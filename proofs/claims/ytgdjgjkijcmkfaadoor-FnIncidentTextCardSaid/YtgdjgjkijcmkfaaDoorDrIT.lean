/- Walks: the reference's draw of an incident for the law on texts. No condition. -/
import Derived.Test.YtgdjgjkijcmkfaaDoorDraw12
namespace Go.Proofs.YtgdjgjkijcmkfaaDoor
open Go.RowKit Go.WideShapes Go.ChangeShapes
/-- Five numbers were drawn. -/
def DrawV5 (wz : World) (e : Ending) (w' : World) : Prop := ∃ x y z u v : Int, e = .returned (.agg #[.int .i64 x, .int .i64 y, .int .i64 z, .int .i64 u, .int .i64 v]) ∧ Q wz w'
set_option maxHeartbeats 4000000 in
theorem spec_DrawIncidentText (A : Option Addr) (n c : Nat) (wz : World) (ha : Rd8 wz A n) (hn : n ≤ 140737488355327) : Calls Tryd.prog 38 #[.slice A n c] wz (DrawV5 wz) := by
  have R0 := Blk.new wz 38 #[.int .i64 0, .int .i64 0, .int .i64 0, .int .i64 0, .int .i64 0]
  have Z0 : Q wz (wz.alloc (.cells #[.int .i64 0, .int .i64 0, .int .i64 0, .int .i64 0, .int .i64 0] 38)) := by (repeat (first | assumption | exact Q.refl _ | refine Q.alloc ?_ _ | refine Q.drewN ?_ _ | refine Q.drew ?_))
  have zz : (wz.alloc (.cells #[.int .i64 0, .int .i64 0, .int .i64 0, .int .i64 0, .int .i64 0] 38)).heap.size = wz.heap.size + 1 := by simp
  go_enter Tryd.func38, Tryd.ntmps38
  go_wp2_with (go_at_call 75; refine (spec_From A n c _ (ha.q (by (repeat (first | assumption | exact Q.refl _ | refine Q.alloc ?_ _ | refine Q.drewN ?_ _ | refine Q.drew ?_)))) hn).mono ?_; rintro e w ⟨rfl, D0⟩)
  generalize wz.alloc (.cells #[.int .i64 0, .int .i64 0, .int .i64 0, .int .i64 0, .int .i64 0] 38) = w0 at *
  rw [zz] at D0
  obtain ⟨g, hg⟩ : ∃ g, g = wz.heap.size + 1 := ⟨_, rfl⟩
  rw [← hg] at D0 ⊢
  have HD := DrT.start D0
  have hlt := HD.glt
  replace R0 := R0.q D0.q
  have hgr : wz.heap.size < g := by omega
  have hwz : wz.heap.size < w.heap.size := by omega
  clear hg
  refine (spec_l12DrawIncident D0 hn).mono ?_
  rintro e wa ⟨x, y, z, u, v, rfl, D1, G1⟩
  replace HD := HD.step D1 G1
  replace R0 := R0.keepG G1 (by omega)
  have cR := R0.cell
  have fR := R0.frozen
  have lR := R0.lt
  have QF := Z0.trans HD.dr.q
  clear D0 G1 HD D1
  go_wp2_with fail
  have F := (((((R0.s5_0 (.int .i64 x)).s5_1 (.int .i64 y)).s5_2 (.int .i64 z)).s5_3 (.int .i64 u)).s5_4 (.int .i64 v)).cell
  refine bodyPost_ret (v := .agg #[.int .i64 x, .int .i64 y, .int .i64 z, .int .i64 u, .int .i64 v]) (by simp [results, Tryd.results38, go_sem, F]) rfl ⟨x, y, z, u, v, rfl, ?_⟩
  exact (((((QF.setCell (Nat.le_refl _) _).setCell (Nat.le_refl _) _).setCell (Nat.le_refl _) _).setCell (Nat.le_refl _) _).setCell (Nat.le_refl _) _)
end Go.Proofs.YtgdjgjkijcmkfaaDoor
