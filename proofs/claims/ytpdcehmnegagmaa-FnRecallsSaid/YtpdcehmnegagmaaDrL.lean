/- Walks: the reference's draws of segments and of lines; the middle of a line. No condition. -/
import Derived.Test.YtpdcehmnegagmaaDrP
import Derived.Test.YtpdcehmnegagmaaFloor
import Derived.Test.YtpdcehmnegagmaaTail
namespace Go.Proofs.Ytpdcehmnegagmaa
open Go.RowKit Go.WideShapes Go.ChangeShapes
def DrawLn (M : Int) (w0 w : World) (g : Nat) (A : Option Addr) (n c : Nat) (e : Ending) (w' : World) : Prop := ∃ x y z u : Int, e = .returned (.agg #[.int .i64 x, .int .i64 y, .int .i64 z, .int .i64 u]) ∧ (ptM M x y ∧ ptM M z u) ∧ Dr w0 w' g A n c ∧ w.grownBy w' (some g)
theorem Blk.st4 {w : World} {b : Nat} {T : TypeId} {x0 x1 x2 x3 : Value} (h : Blk w b T #[x0, x1, x2, x3]) (y0 y1 y2 y3 : Value) : Blk ((((w.setCell ⟨b, 0, none⟩ y0).setCell ⟨b, 1, none⟩ y1).setCell ⟨b, 2, none⟩ y2).setCell ⟨b, 3, none⟩ y3) b T #[y0, y1, y2, y3] := by
  have := (((h.set_ 0 y0).set_ 1 y1).set_ 2 y2).set_ 3 y3
  simpa using this
set_option maxRecDepth 100000 in
set_option maxHeartbeats 4000000 in
theorem spec_l02Draw {w0 w : World} {g : Nat} {A : Option Addr} {n c : Nat} (h : Dr w0 w g A n c) (hn : n ≤ 140737488355327) : Calls Try.prog 52 #[.pointer (some ⟨g, 0, none⟩)] w (DrawLn 1000001 w0 w g A n c) := by
  have HD := DrT.start h
  have hlt := HD.glt
  have R0 := Blk.new w 89 #[.int .i64 0, .int .i64 0, .int .i64 0, .int .i64 0]
  go_enter Try.func52, Try.ntmps52
  go_wp2_with fail
  refine (spec_l01DrawPoint (w0 := w0) (A := A) (n := n) (c := c) (DrT.dr (ws := w) (by ((repeat (first | exact HD | refine DrT.alloc ?_ _ | refine DrT.drewN ?_ _ | refine DrT.drew ?_ | refine DrT.set ?_ (by first | omega | (simp; omega)) _))))) hn).mono ?_
  rintro e1 w1 ⟨x1, y1, rfl, hp1, D1, G1⟩
  replace HD := DrT.step (ws := w) (by ((repeat (first | exact HD | refine DrT.alloc ?_ _ | refine DrT.drewN ?_ _ | refine DrT.drew ?_ | refine DrT.set ?_ (by first | omega | (simp; omega)) _)))) D1 G1
  have z1 := HD.size
  replace R0 := Blk.keepG (g := g) (R0.q (by (repeat (first | assumption | exact Q.refl _ | refine Q.alloc ?_ _ | refine Q.drewN ?_ _ | refine Q.drew ?_)))) G1 (by omega)
  go_wp2_with fail
  refine (spec_l01DrawPoint (w0 := w0) (A := A) (n := n) (c := c) (DrT.dr (ws := w) (by ((repeat (first | exact HD | refine DrT.alloc ?_ _ | refine DrT.drewN ?_ _ | refine DrT.drew ?_ | refine DrT.set ?_ (by first | omega | (simp; omega)) _))))) hn).mono ?_
  rintro e2 w2 ⟨x2, y2, rfl, hp2, D2, G2⟩
  replace HD := DrT.step (ws := w) (by ((repeat (first | exact HD | refine DrT.alloc ?_ _ | refine DrT.drewN ?_ _ | refine DrT.drew ?_ | refine DrT.set ?_ (by first | omega | (simp; omega)) _)))) D2 G2
  have z2 := HD.size
  replace R0 := Blk.keepG (g := g) (R0.q (by (repeat (first | assumption | exact Q.refl _ | refine Q.alloc ?_ _ | refine Q.drewN ?_ _ | refine Q.drew ?_)))) G2 (by omega)
  have lR := R0.lt
  have P1 : Blk ((w2.alloc (.cells #[.int .i64 x1, .int .i64 y1] 25)).alloc (.cells #[.int .i64 x2, .int .i64 y2] 25)) w2.heap.size 25 #[.int .i64 x1, .int .i64 y1] := (Blk.new _ _ _).alloc _
  have P2 : Blk ((w2.alloc (.cells #[.int .i64 x1, .int .i64 y1] 25)).alloc (.cells #[.int .i64 x2, .int .i64 y2] 25)) (w2.heap.size + 1) 25 #[.int .i64 x2, .int .i64 y2] := by simpa using Blk.new (w2.alloc (.cells #[.int .i64 x1, .int .i64 y1] 25)) 25 #[.int .i64 x2, .int .i64 y2]
  replace HD := (HD.alloc (.cells #[.int .i64 x1, .int .i64 y1] 25)).alloc (.cells #[.int .i64 x2, .int .i64 y2] 25)
  replace R0 := (R0.alloc (.cells #[.int .i64 x1, .int .i64 y1] 25)).alloc (.cells #[.int .i64 x2, .int .i64 y2] 25)
  go_upto_region 2 with (fail)
  obtain ⟨b, hb⟩ : ∃ b, b = w2.heap.size := ⟨_, rfl⟩
  generalize hwb : (w2.alloc (.cells #[.int .i64 x1, .int .i64 y1] 25)).alloc (.cells #[.int .i64 x2, .int .i64 y2] 25) = wb at *
  rw [← hb] at P1 P2 lR z2 ⊢
  clear hwb hb
  have c1 := P1.cell
  have f1 := P1.frozen
  have l1 := P1.lt
  have c2 := P2.cell
  have f2 := P2.frozen
  have l2 := P2.lt
  have cR := R0.cell
  have fR := R0.frozen
  have lR' := R0.lt
  have hbw : w.heap.size ≤ b := by omega
  obtain ⟨⟨p1, p2⟩, p3, p4⟩ := hp1
  obtain ⟨⟨q1, q2⟩, q3, q4⟩ := hp2
  by_cases he : x1 = x2 ∧ y1 = y2
  · obtain ⟨rfl, rfl⟩ := he
    have P2' := P2.s2 (.int .i64 x1) (.int .i64 (y1 - 1))
    have P1' := (P1.far (p := ⟨b + 1, 0, none⟩) (by simp) (.int .i64 x1)).far (p := ⟨b + 1, 1, none⟩) (by simp) (.int .i64 (y1 - 1))
    have R0' := (R0.far (p := ⟨b + 1, 0, none⟩) (by simp only; omega) (.int .i64 x1)).far (p := ⟨b + 1, 1, none⟩) (by simp only; omega) (.int .i64 (y1 - 1))
    have HD' := (HD.set (b := b + 1) (i := 0) (by omega) (.int .i64 x1)).set (b := b + 1) (i := 1) (by omega) (.int .i64 (y1 - 1))
    by_cases hn0 : y1 < 0
    · have P2a := P2'.set_ 1 (.int .i64 (y1 + 1))
      replace P2a : Blk (((wb.setCell ⟨b + 1, 0, none⟩ (.int .i64 x1)).setCell ⟨b + 1, 1, none⟩ (.int .i64 (y1 - 1))).setCell ⟨b + 1, 1, none⟩ (.int .i64 (y1 + 1))) (b + 1) 25 #[.int .i64 x1, .int .i64 (y1 + 1)] := by simpa using P2a
      have P1a := P1'.far (p := ⟨b + 1, 1, none⟩) (by simp) (.int .i64 (y1 + 1))
      have R0a := R0'.far (p := ⟨b + 1, 1, none⟩) (by simp only; omega) (.int .i64 (y1 + 1))
      have HDa := HD'.set (b := b + 1) (i := 1) (by omega) (.int .i64 (y1 + 1))
      go_upto_region 6 with (fail)
      generalize ((wb.setCell ⟨b + 1, 0, none⟩ (.int .i64 x1)).setCell ⟨b + 1, 1, none⟩ (.int .i64 (y1 - 1))).setCell ⟨b + 1, 1, none⟩ (.int .i64 (y1 + 1)) = wx at *
      clear P1 P2 R0 HD P1' P2' R0' HD' c1 f1 l1 c2 f2 l2 cR fR lR'
      have HD := HDa
      have c1 := P1a.cell
      have l1 := P1a.lt
      have c2 := P2a.cell
      have l2 := P2a.lt
      have cR := R0a.cell
      have fR := R0a.frozen
      go_wp2_with fail
      have F := (R0a.st4 (.int .i64 x1) (.int .i64 y1) (.int .i64 x1) (.int .i64 (y1 + 1))).cell
      refine bodyPost_ret (v := .agg #[.int .i64 x1, .int .i64 y1, .int .i64 x1, .int .i64 (y1 + 1)]) (by simp [results, Try.results52, go_sem, F]) rfl ⟨x1, y1, _, _, rfl, ⟨⟨by omega, by omega⟩, ⟨by omega, by omega⟩⟩, ?_, ?_⟩
      · exact DrT.dr (ws := w) (by ((repeat (first | exact HD | refine DrT.alloc ?_ _ | refine DrT.drewN ?_ _ | refine DrT.drew ?_ | refine DrT.set ?_ (by first | omega | (simp; omega)) _))))
      · exact DrT.gr (w0 := w0) (g := g) (A := A) (n := n) (c := c) (by ((repeat (first | exact HD | refine DrT.alloc ?_ _ | refine DrT.drewN ?_ _ | refine DrT.drew ?_ | refine DrT.set ?_ (by first | omega | (simp; omega)) _))))
    · go_upto_region 6 with (fail)
      generalize (wb.setCell ⟨b + 1, 0, none⟩ (.int .i64 x1)).setCell ⟨b + 1, 1, none⟩ (.int .i64 (y1 - 1)) = wx at *
      clear P1 P2 R0 HD c1 f1 l1 c2 f2 l2 cR fR lR'
      have HD := HD'
      have c1 := P1'.cell
      have l1 := P1'.lt
      have c2 := P2'.cell
      have l2 := P2'.lt
      have cR := R0'.cell
      have fR := R0'.frozen
      go_wp2_with fail
      have F := (R0'.st4 (.int .i64 x1) (.int .i64 y1) (.int .i64 x1) (.int .i64 (y1 - 1))).cell
      refine bodyPost_ret (v := .agg #[.int .i64 x1, .int .i64 y1, .int .i64 x1, .int .i64 (y1 - 1)]) (by simp [results, Try.results52, go_sem, F]) rfl ⟨x1, y1, _, _, rfl, ⟨⟨by omega, by omega⟩, ⟨by omega, by omega⟩⟩, ?_, ?_⟩
      · exact DrT.dr (ws := w) (by ((repeat (first | exact HD | refine DrT.alloc ?_ _ | refine DrT.drewN ?_ _ | refine DrT.drew ?_ | refine DrT.set ?_ (by first | omega | (simp; omega)) _))))
      · exact DrT.gr (w0 := w0) (g := g) (A := A) (n := n) (c := c) (by ((repeat (first | exact HD | refine DrT.alloc ?_ _ | refine DrT.drewN ?_ _ | refine DrT.drew ?_ | refine DrT.set ?_ (by first | omega | (simp; omega)) _))))
  · by_cases hx : x1 = x2
    · subst hx
      have hy : (y1 == y2) = false := by simpa using fun e => he ⟨rfl, e⟩
      clear he
      go_wp2_with fail
      have F := (R0.st4 (.int .i64 x1) (.int .i64 y1) (.int .i64 x1) (.int .i64 y2)).cell
      refine bodyPost_ret (v := .agg #[.int .i64 x1, .int .i64 y1, .int .i64 x1, .int .i64 y2]) (by simp [results, Try.results52, go_sem, F]) rfl ⟨x1, y1, _, _, rfl, ⟨⟨by omega, by omega⟩, ⟨by omega, by omega⟩⟩, ?_, ?_⟩
      · exact DrT.dr (ws := w) (by ((repeat (first | exact HD | refine DrT.alloc ?_ _ | refine DrT.drewN ?_ _ | refine DrT.drew ?_ | refine DrT.set ?_ (by first | omega | (simp; omega)) _))))
      · exact DrT.gr (w0 := w0) (g := g) (A := A) (n := n) (c := c) (by ((repeat (first | exact HD | refine DrT.alloc ?_ _ | refine DrT.drewN ?_ _ | refine DrT.drew ?_ | refine DrT.set ?_ (by first | omega | (simp; omega)) _))))
    · have hxb : (x1 == x2) = false := by simpa using hx
      clear he
      go_wp2_with fail
      have F := (R0.st4 (.int .i64 x1) (.int .i64 y1) (.int .i64 x2) (.int .i64 y2)).cell
      refine bodyPost_ret (v := .agg #[.int .i64 x1, .int .i64 y1, .int .i64 x2, .int .i64 y2]) (by simp [results, Try.results52, go_sem, F]) rfl ⟨x1, y1, _, _, rfl, ⟨⟨by omega, by omega⟩, ⟨by omega, by omega⟩⟩, ?_, ?_⟩
      · exact DrT.dr (ws := w) (by ((repeat (first | exact HD | refine DrT.alloc ?_ _ | refine DrT.drewN ?_ _ | refine DrT.drew ?_ | refine DrT.set ?_ (by first | omega | (simp; omega)) _))))
      · exact DrT.gr (w0 := w0) (g := g) (A := A) (n := n) (c := c) (by ((repeat (first | exact HD | refine DrT.alloc ?_ _ | refine DrT.drewN ?_ _ | refine DrT.drew ?_ | refine DrT.set ?_ (by first | omega | (simp; omega)) _))))
set_option maxRecDepth 100000 in
set_option maxHeartbeats 4000000 in
theorem spec_l04DrawLine {w0 w : World} {g : Nat} {A : Option Addr} {n c : Nat} (h : Dr w0 w g A n c) (hn : n ≤ 140737488355327) : Calls Try.prog 32 #[.pointer (some ⟨g, 0, none⟩)] w (DrawLn 1000001 w0 w g A n c) := by
  have HD := DrT.start h
  have hlt := HD.glt
  have R0 := Blk.new w 27 #[.int .i64 0, .int .i64 0, .int .i64 0, .int .i64 0]
  go_enter Try.func32, Try.ntmps32
  go_wp2_with fail
  refine (spec_l02Draw (w0 := w0) (A := A) (n := n) (c := c) (DrT.dr (ws := w) (by ((repeat (first | exact HD | refine DrT.alloc ?_ _ | refine DrT.drewN ?_ _ | refine DrT.drew ?_ | refine DrT.set ?_ (by first | omega | (simp; omega)) _))))) hn).mono ?_
  rintro e1 w1 ⟨x, y, z, u, rfl, hp1, D1, G1⟩
  replace HD := DrT.step (ws := w) (by ((repeat (first | exact HD | refine DrT.alloc ?_ _ | refine DrT.drewN ?_ _ | refine DrT.drew ?_ | refine DrT.set ?_ (by first | omega | (simp; omega)) _)))) D1 G1
  have z1 := HD.size
  replace R0 := Blk.keepG (g := g) (R0.q (by (repeat (first | assumption | exact Q.refl _ | refine Q.alloc ?_ _ | refine Q.drewN ?_ _ | refine Q.drew ?_)))) G1 (by omega)
  have cR := R0.cell
  have fR := R0.frozen
  have lR := R0.lt
  go_wp2_with fail
  have F := ((R0.st4 (.int .i64 x) (.int .i64 y) (.int .i64 z) (.int .i64 u)).alloc (.cells #[.int .i64 x, .int .i64 y, .int .i64 z, .int .i64 u] 89)).cell
  refine bodyPost_ret (v := .agg #[.int .i64 x, .int .i64 y, .int .i64 z, .int .i64 u]) (by simp [results, Try.results32, go_sem, F]) rfl ⟨x, y, z, u, rfl, hp1, ?_, ?_⟩
  · exact DrT.dr (ws := w) (by ((repeat (first | exact HD | refine DrT.alloc ?_ _ | refine DrT.drewN ?_ _ | refine DrT.drew ?_ | refine DrT.set ?_ (by first | omega | (simp; omega)) _))))
  · exact DrT.gr (w0 := w0) (g := g) (A := A) (n := n) (c := c) (by ((repeat (first | exact HD | refine DrT.alloc ?_ _ | refine DrT.drewN ?_ _ | refine DrT.drew ?_ | refine DrT.set ?_ (by first | omega | (simp; omega)) _))))
end Go.Proofs.Ytpdcehmnegagmaa
