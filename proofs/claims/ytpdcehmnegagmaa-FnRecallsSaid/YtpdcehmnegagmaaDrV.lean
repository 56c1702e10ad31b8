/- Walks: the draw of the law on starts. No condition. -/
import Derived.Test.YtpdcehmnegagmaaDrW
namespace Go.Proofs.Ytpdcehmnegagmaa
open Go.RowKit Go.WideShapes Go.ChangeShapes
def DrawSt (wz : World) (e : Ending) (w' : World) : Prop := ∃ (x y z u : Int) (B : Option Addr) (m d : Nat) (xs : List Int) (t f : Int), e = .returned (.tuple #[.agg #[.int .i64 x, .int .i64 y, .int .i64 z, .int .i64 u], .agg #[.slice B m d], .int .i64 t, .int .i64 f]) ∧ Rd w' B xs ∧ xs.length = m * 3 ∧ m ≤ 41 ∧ Q wz w'
set_option maxRecDepth 100000 in
set_option maxHeartbeats 16000000 in
theorem spec_DrawStartOf (A : Option Addr) (n c : Nat) (wz : World) (ha : Rd8 wz A n) (hn : n ≤ 140737488355327) : Calls Try.prog 6 #[.slice A n c] wz (DrawSt wz) := by
  have RL : Blk ((wz.alloc (.cells #[.int .i64 0, .int .i64 0, .int .i64 0, .int .i64 0] 27)).alloc (.cells #[.slice none 0 0] 30)) wz.heap.size 27 #[.int .i64 0, .int .i64 0, .int .i64 0, .int .i64 0] := (Blk.new _ _ _).alloc _
  have RT : Blk ((wz.alloc (.cells #[.int .i64 0, .int .i64 0, .int .i64 0, .int .i64 0] 27)).alloc (.cells #[.slice none 0 0] 30)) (wz.heap.size + 1) 30 #[.slice none 0 0] := by simpa using Blk.new (wz.alloc (.cells #[.int .i64 0, .int .i64 0, .int .i64 0, .int .i64 0] 27)) 30 #[.slice none 0 0]
  have Z0 : Q wz ((wz.alloc (.cells #[.int .i64 0, .int .i64 0, .int .i64 0, .int .i64 0] 27)).alloc (.cells #[.slice none 0 0] 30)) := by (repeat (first | assumption | exact Q.refl _ | refine Q.alloc ?_ _ | refine Q.drewN ?_ _ | refine Q.drew ?_))
  have zz : ((wz.alloc (.cells #[.int .i64 0, .int .i64 0, .int .i64 0, .int .i64 0] 27)).alloc (.cells #[.slice none 0 0] 30)).heap.size = wz.heap.size + 2 := by simp
  go_enter Try.func6, Try.ntmps6
  go_wp2_with (go_at_call 18; refine (spec_From A n c _ (ha.q (by (repeat (first | assumption | exact Q.refl _ | refine Q.alloc ?_ _ | refine Q.drewN ?_ _ | refine Q.drew ?_)))) hn).mono ?_; rintro e w ⟨rfl, D0⟩)
  generalize (wz.alloc (.cells #[.int .i64 0, .int .i64 0, .int .i64 0, .int .i64 0] 27)).alloc (.cells #[.slice none 0 0] 30) = w0 at *
  rw [zz] at D0
  obtain ⟨g, hg⟩ : ∃ g, g = wz.heap.size + 2 := ⟨_, rfl⟩
  rw [← hg] at D0
  have HD := DrT.start D0
  have hlt := HD.glt
  replace RL := RL.q D0.q
  replace RT := RT.q D0.q
  have hgr : wz.heap.size + 1 < g := by omega
  go_wp2_with fail
  rw [← hg]
  have hwz : wz.heap.size + 1 < w.heap.size := by omega
  clear hg zz
  refine (spec_l14Draw D0 hn).mono ?_
  rintro e wa ⟨x, y, z, u, B, m, d, xs, t, rfl, hp, hown, hm, D1, G1⟩
  replace HD := HD.step D1 G1
  replace RL := RL.keepG G1 (by omega)
  replace RT := RT.keepG G1 (by omega)
  clear D0 D1 G1 hp
  have hsz := HD.size
  have BL : Blk ((wa.alloc (.cells #[.int .i64 x, .int .i64 y, .int .i64 z, .int .i64 u] 27)).alloc (.cells #[.slice B m d] 30)) wa.heap.size 27 #[.int .i64 x, .int .i64 y, .int .i64 z, .int .i64 u] := (Blk.new _ _ _).alloc _
  have BT : Blk ((wa.alloc (.cells #[.int .i64 x, .int .i64 y, .int .i64 z, .int .i64 u] 27)).alloc (.cells #[.slice B m d] 30)) (wa.heap.size + 1) 30 #[.slice B m d] := by simpa using Blk.new (wa.alloc (.cells #[.int .i64 x, .int .i64 y, .int .i64 z, .int .i64 u] 27)) 30 #[.slice B m d]
  replace HD := (HD.alloc (.cells #[.int .i64 x, .int .i64 y, .int .i64 z, .int .i64 u] 27)).alloc (.cells #[.slice B m d] 30)
  replace RL := (RL.alloc (.cells #[.int .i64 x, .int .i64 y, .int .i64 z, .int .i64 u] 27)).alloc (.cells #[.slice B m d] 30)
  replace RT := (RT.alloc (.cells #[.int .i64 x, .int .i64 y, .int .i64 z, .int .i64 u] 27)).alloc (.cells #[.slice B m d] 30)
  replace hown := (hown.al (.cells #[.int .i64 x, .int .i64 y, .int .i64 z, .int .i64 u] 27)).al (.cells #[.slice B m d] 30)
  obtain ⟨b, hb⟩ : ∃ b, b = wa.heap.size := ⟨_, rfl⟩
  rw [← hb] at BL BT
  go_upto_region 3 with (fail)
  rw [← hb]
  generalize (wa.alloc (.cells #[.int .i64 x, .int .i64 y, .int .i64 z, .int .i64 u] 27)).alloc (.cells #[.slice B m d] 30) = wb at *
  have hbw : w.heap.size ≤ b := by omega
  clear hb hsz
  have cL := BL.cell
  have cT := BT.cell
  have lL := BL.lt
  have lT := BT.lt
  have fRL := RL.frozen
  have fRT := RT.frozen
  have lRL := RL.lt
  have lRT := RT.lt
  have cRL := RL.cell
  have cRT := RT.cell
  go_region_with (first | (have qq := G2; (go_at_call 20; refine (spec_Next (w0 := w0) (A := A) (n := n) (c := c) _ (DrT.dr (ws := w) (by ((repeat (first | exact HD | refine DrT.alloc ?_ _ | refine DrT.drewN ?_ _ | refine DrT.drew ?_ | refine DrT.set ?_ (by first | omega | (simp; omega)) _))))) hn).mono ?_; rintro e3 w3 ⟨r3, rfl, hr3, D3, G3⟩; have HD := DrT.step (ws := w) (by ((repeat (first | exact HD | refine DrT.alloc ?_ _ | refine DrT.drewN ?_ _ | refine DrT.drew ?_ | refine DrT.set ?_ (by first | omega | (simp; omega)) _)))) D3 G3; have z3 := HD.size; have RL := Blk.keepG (g := g) (RL.q (by (repeat (first | assumption | exact Q.refl _ | refine Q.alloc ?_ _ | refine Q.drewN ?_ _ | refine Q.drew ?_)))) G3 (by omega); have cRL := RL.cell; have fRL := RL.frozen; have lRL := RL.lt; have RT := Blk.keepG (g := g) (RT.q (by (repeat (first | assumption | exact Q.refl _ | refine Q.alloc ?_ _ | refine Q.drewN ?_ _ | refine Q.drew ?_)))) G3 (by omega); have cRT := RT.cell; have fRT := RT.frozen; have lRT := RT.lt; have BL := Blk.keepG (g := g) (BL.q (by (repeat (first | assumption | exact Q.refl _ | refine Q.alloc ?_ _ | refine Q.drewN ?_ _ | refine Q.drew ?_)))) G3 (by omega); have cBL := BL.cell; have fBL := BL.frozen; have lBL := BL.lt; have BT := Blk.keepG (g := g) (BT.q (by (repeat (first | assumption | exact Q.refl _ | refine Q.alloc ?_ _ | refine Q.drewN ?_ _ | refine Q.drew ?_)))) G3 (by omega); have cBT := BT.cell; have fBT := BT.frozen; have lBT := BT.lt); have hown := (hown.q (by (repeat (first | assumption | exact Q.refl _ | refine Q.alloc ?_ _ | refine Q.drewN ?_ _ | refine Q.drew ?_)))).keepD G3 hlt) | ((go_at_call 20; refine (spec_Next (w0 := w0) (A := A) (n := n) (c := c) _ (DrT.dr (ws := w) (by ((repeat (first | exact HD | refine DrT.alloc ?_ _ | refine DrT.drewN ?_ _ | refine DrT.drew ?_ | refine DrT.set ?_ (by first | omega | (simp; omega)) _))))) hn).mono ?_; rintro e2 w2 ⟨r2, rfl, hr2, D2, G2⟩; have HD := DrT.step (ws := w) (by ((repeat (first | exact HD | refine DrT.alloc ?_ _ | refine DrT.drewN ?_ _ | refine DrT.drew ?_ | refine DrT.set ?_ (by first | omega | (simp; omega)) _)))) D2 G2; have z2 := HD.size; have RL := Blk.keepG (g := g) (RL.q (by (repeat (first | assumption | exact Q.refl _ | refine Q.alloc ?_ _ | refine Q.drewN ?_ _ | refine Q.drew ?_)))) G2 (by omega); have cRL := RL.cell; have fRL := RL.frozen; have lRL := RL.lt; have RT := Blk.keepG (g := g) (RT.q (by (repeat (first | assumption | exact Q.refl _ | refine Q.alloc ?_ _ | refine Q.drewN ?_ _ | refine Q.drew ?_)))) G2 (by omega); have cRT := RT.cell; have fRT := RT.frozen; have lRT := RT.lt; have BL := Blk.keepG (g := g) (BL.q (by (repeat (first | assumption | exact Q.refl _ | refine Q.alloc ?_ _ | refine Q.drewN ?_ _ | refine Q.drew ?_)))) G2 (by omega); have cBL := BL.cell; have fBL := BL.frozen; have lBL := BL.lt; have BT := Blk.keepG (g := g) (BT.q (by (repeat (first | assumption | exact Q.refl _ | refine Q.alloc ?_ _ | refine Q.drewN ?_ _ | refine Q.drew ?_)))) G2 (by omega); have cBT := BT.cell; have fBT := BT.frozen; have lBT := BT.lt); have hown := (hown.q (by (repeat (first | assumption | exact Q.refl _ | refine Q.alloc ?_ _ | refine Q.drewN ?_ _ | refine Q.drew ?_)))).keepD G2 hlt))
  all_goals go_wp2_with fail
  all_goals
    have nA := Own.ne_blk hown RL (by decide)
    have nB := Own.ne_blk hown RT (by decide)
    have O5 := ((((hown.setFar nA 0 (.int .i64 x)).setFar nA 1 (.int .i64 y)).setFar nA 2 (.int .i64 z)).setFar nA 3 (.int .i64 u)).setFar nB 0 (.slice B m d)
    have F1 := ((RL.st4 (.int .i64 x) (.int .i64 y) (.int .i64 z) (.int .i64 u)).far (p := ⟨wz.heap.size + 1, 0, none⟩) (by simp) (.slice B m d)).cell
    have F2 := ((RT.fr4 (b := wz.heap.size) (by simp) (.int .i64 x) (.int .i64 y) (.int .i64 z) (.int .i64 u)).s1_0 (.slice B m d)).cell
    have Q3 := Z0.trans HD.dr.q
    have Q5 := ((((Q3.setCell (p := ⟨wz.heap.size, 0, none⟩) (Nat.le_refl _) (.int .i64 x)).setCell (p := ⟨wz.heap.size, 1, none⟩) (Nat.le_refl _) (.int .i64 y)).setCell (p := ⟨wz.heap.size, 2, none⟩) (Nat.le_refl _) (.int .i64 z)).setCell (p := ⟨wz.heap.size, 3, none⟩) (Nat.le_refl _) (.int .i64 u)).setCell (p := ⟨wz.heap.size + 1, 0, none⟩) (Nat.le_succ _) (.slice B m d)
    refine bodyPost_ret (v := .tuple #[.agg #[.int .i64 x, .int .i64 y, .int .i64 z, .int .i64 u], .agg #[.slice B m d], .int .i64 t, .int .i64 (IntKind.i64.wrap (r2 + IntKind.i64.wrap (r3.tdiv 29)))]) (by simp [results, Try.results6, go_sem, F1, F2]) rfl ⟨x, y, z, u, B, m, d, xs, t, _, rfl, ?_, ?_, hm, ?_⟩
    · with_reducible exact Own.rd O5
    · exact hown.len
    · with_reducible exact Q5
end Go.Proofs.Ytpdcehmnegagmaa
