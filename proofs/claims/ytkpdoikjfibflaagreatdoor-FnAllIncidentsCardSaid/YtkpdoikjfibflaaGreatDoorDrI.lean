/- Walks: the reference's draws of winds and of watches. No condition. Walks: the reference's draw of two tracks that are often near. No condition. Walks: the draw of the laws on incidents. No condition. -/
import Derived.Test.YtkpdoikjfibflaaGreatDoorDrP
import Derived.Test.YtkpdoikjfibflaaGreatDoorDrF
import Derived.Test.YtkpdoikjfibflaaGreatDoorDrG
import Derived.BigRegion
namespace Go.Proofs.YtkpdoikjfibflaaGreatDoor
open Go.RowKit Go.WideShapes Go.ChangeShapes
def DrawWd (w0 w : World) (g : Nat) (A : Option Addr) (n c : Nat) (e : Ending) (w' : World) : Prop := ∃ x y : Int, e = .returned (.agg #[.int .i64 x, .int .i64 y]) ∧ Dr w0 w' g A n c ∧ w.grownBy w' (some g)
def DrawWt (w0 w : World) (g : Nat) (A : Option Addr) (n c : Nat) (e : Ending) (w' : World) : Prop := ∃ x y z u : Int, e = .returned (.agg #[.int .i64 x, .int .i64 y, .int .i64 z, .int .i64 u]) ∧ Dr w0 w' g A n c ∧ w.grownBy w' (some g)
set_option maxRecDepth 100000 in
set_option maxHeartbeats 4000000 in
theorem spec_l08Draw {w0 w : World} {g : Nat} {A : Option Addr} {n c : Nat} (h : Dr w0 w g A n c) (hn : n ≤ 140737488355327) : Calls Tryz.prog 34 #[.pointer (some ⟨g, 0, none⟩)] w (DrawWd w0 w g A n c) := by
  have HD := DrT.start h
  have hlt := HD.glt
  have R0 := Blk.new w 25 #[.int .i64 0, .int .i64 0]
  go_enter Tryz.func34, Tryz.ntmps34
  go_wp2_with fail
  refine (spec_Next (w0 := w0) (A := A) (n := n) (c := c) _ (DrT.dr (ws := w) (by ((repeat (first | exact HD | refine DrT.alloc ?_ _ | refine DrT.drewN ?_ _ | refine DrT.drew ?_ | refine DrT.set ?_ (by first | omega | (simp; omega)) _))))) hn).mono ?_
  rintro e1 w1 ⟨r1, rfl, hr1, D1, G1⟩
  have HD := DrT.step (ws := w) (by ((repeat (first | exact HD | refine DrT.alloc ?_ _ | refine DrT.drewN ?_ _ | refine DrT.drew ?_ | refine DrT.set ?_ (by first | omega | (simp; omega)) _)))) D1 G1
  have z1 := HD.size
  replace R0 := Blk.keepG (g := g) (R0.q (by (repeat (first | assumption | exact Q.refl _ | refine Q.alloc ?_ _ | refine Q.drewN ?_ _ | refine Q.drew ?_)))) G1 (by omega)
  go_wp2_with fail
  refine (spec_Next (w0 := w0) (A := A) (n := n) (c := c) _ (DrT.dr (ws := w) (by ((repeat (first | exact HD | refine DrT.alloc ?_ _ | refine DrT.drewN ?_ _ | refine DrT.drew ?_ | refine DrT.set ?_ (by first | omega | (simp; omega)) _))))) hn).mono ?_
  rintro e2 w2 ⟨r2, rfl, hr2, D2, G2⟩
  have HD := DrT.step (ws := w) (by ((repeat (first | exact HD | refine DrT.alloc ?_ _ | refine DrT.drewN ?_ _ | refine DrT.drew ?_ | refine DrT.set ?_ (by first | omega | (simp; omega)) _)))) D2 G2
  have z2 := HD.size
  replace R0 := Blk.keepG (g := g) (R0.q (by (repeat (first | assumption | exact Q.refl _ | refine Q.alloc ?_ _ | refine Q.drewN ?_ _ | refine Q.drew ?_)))) G2 (by omega)
  have hbR := R0.lt
  obtain ⟨X, hX⟩ : ∃ X : Int, X = r1 - 3 := ⟨_, rfl⟩
  obtain ⟨Y, hY⟩ : ∃ Y : Int, Y = r2 - 3 := ⟨_, rfl⟩
  go_wp2_with fail
  rw [← hX, ← hY]
  have B := Blk.new w2 25 #[.int .i64 X, .int .i64 Y]
  replace HD := HD.alloc (.cells #[.int .i64 X, .int .i64 Y] 25)
  replace R0 := R0.alloc (.cells #[.int .i64 X, .int .i64 Y] 25)
  have hbz : w.heap.size ≤ w2.heap.size := z2
  obtain ⟨b, hb0⟩ : ∃ b, b = w2.heap.size := ⟨_, rfl⟩
  rw [← hb0] at B hbz hbR ⊢
  generalize hwb : w2.alloc (.cells #[.int .i64 X, .int .i64 Y] 25) = wb at *
  clear hb0 hwb hX hY D1 G1 D2 G2 hr1 hr2
  refine (spec_Next (w0 := w0) (A := A) (n := n) (c := c) _ (DrT.dr (ws := w) (by ((repeat (first | exact HD | refine DrT.alloc ?_ _ | refine DrT.drewN ?_ _ | refine DrT.drew ?_ | refine DrT.set ?_ (by first | omega | (simp; omega)) _))))) hn).mono ?_
  rintro e3 w3 ⟨r3, rfl, hr3, D3, G3⟩
  have HD := DrT.step (ws := w) (by ((repeat (first | exact HD | refine DrT.alloc ?_ _ | refine DrT.drewN ?_ _ | refine DrT.drew ?_ | refine DrT.set ?_ (by first | omega | (simp; omega)) _)))) D3 G3
  have z3 := HD.size
  replace R0 := Blk.keepG (g := g) (R0.q (by (repeat (first | assumption | exact Q.refl _ | refine Q.alloc ?_ _ | refine Q.drewN ?_ _ | refine Q.drew ?_)))) G3 (by omega)
  replace B := Blk.keepG (g := g) (B.q (by (repeat (first | assumption | exact Q.refl _ | refine Q.alloc ?_ _ | refine Q.drewN ?_ _ | refine Q.drew ?_)))) G3 (by omega)
  by_cases h3 : r3 = 0
  · subst h3
    clear hr3
    go_wp2_with fail
    refine (spec_Next (w0 := w0) (A := A) (n := n) (c := c) _ (DrT.dr (ws := w) (by ((repeat (first | exact HD | refine DrT.alloc ?_ _ | refine DrT.drewN ?_ _ | refine DrT.drew ?_ | refine DrT.set ?_ (by first | omega | (simp; omega)) _))))) hn).mono ?_
    rintro e4 w4 ⟨r4, rfl, hr4, D4, G4⟩
    have HD := DrT.step (ws := w) (by ((repeat (first | exact HD | refine DrT.alloc ?_ _ | refine DrT.drewN ?_ _ | refine DrT.drew ?_ | refine DrT.set ?_ (by first | omega | (simp; omega)) _)))) D4 G4
    have z4 := HD.size
    replace R0 := Blk.keepG (g := g) (R0.q (by (repeat (first | assumption | exact Q.refl _ | refine Q.alloc ?_ _ | refine Q.drewN ?_ _ | refine Q.drew ?_)))) G4 (by omega)
    replace B := Blk.keepG (g := g) (B.q (by (repeat (first | assumption | exact Q.refl _ | refine Q.alloc ?_ _ | refine Q.drewN ?_ _ | refine Q.drew ?_)))) G4 (by omega)
    go_wp2_with fail
    refine (spec_Next (w0 := w0) (A := A) (n := n) (c := c) _ (DrT.dr (ws := w) (by ((repeat (first | exact HD | refine DrT.alloc ?_ _ | refine DrT.drewN ?_ _ | refine DrT.drew ?_ | refine DrT.set ?_ (by first | omega | (simp; omega)) _))))) hn).mono ?_
    rintro e5 w5 ⟨r5, rfl, hr5, D5, G5⟩
    have HD := DrT.step (ws := w) (by ((repeat (first | exact HD | refine DrT.alloc ?_ _ | refine DrT.drewN ?_ _ | refine DrT.drew ?_ | refine DrT.set ?_ (by first | omega | (simp; omega)) _)))) D5 G5
    have z5 := HD.size
    replace R0 := Blk.keepG (g := g) (R0.q (by (repeat (first | assumption | exact Q.refl _ | refine Q.alloc ?_ _ | refine Q.drewN ?_ _ | refine Q.drew ?_)))) G5 (by omega)
    replace B := Blk.keepG (g := g) (B.q (by (repeat (first | assumption | exact Q.refl _ | refine Q.alloc ?_ _ | refine Q.drewN ?_ _ | refine Q.drew ?_)))) G5 (by omega)
    have cB := B.cell
    have fB := B.frozen
    have lB := B.lt
    replace B := B.s2 (.int .i64 (r4 - 1000)) (.int .i64 (r5 - 1000))
    replace R0 := (R0.far (p := ⟨b, 0, none⟩) (by simp only; omega) (.int .i64 (r4 - 1000))).far (p := ⟨b, 1, none⟩) (by simp only; omega) (.int .i64 (r5 - 1000))
    replace HD := (HD.set (b := b) (i := 0) (by omega) (.int .i64 (r4 - 1000))).set (b := b) (i := 1) (by omega) (.int .i64 (r5 - 1000))
    clear D4 G4 D5 G5
    go_upto_region 4 with (fail)
    obtain ⟨X, hX⟩ : ∃ X : Int, X = r4 - 1000 := ⟨_, rfl⟩
    obtain ⟨Y, hY⟩ : ∃ Y : Int, Y = r5 - 1000 := ⟨_, rfl⟩
    rw [← hX, ← hY] at B R0 HD ⊢
    generalize (w5.setCell ⟨b, 0, none⟩ (.int .i64 X)).setCell ⟨b, 1, none⟩ (.int .i64 Y) = wx at *
    clear hX hY hr4 hr5 cB fB lB
    have cB := B.cell
    have fB := B.frozen
    have lB := B.lt
    have cR := R0.cell
    have fR := R0.frozen
    have lR := R0.lt
    clear D3 G3
    by_cases hx0 : X = 0
    · subst hx0
      by_cases hy0 : Y = 0
      · subst hy0
        go_wp2_with fail
        have F := ((R0.far (p := ⟨b, 1, none⟩) (by simp only; omega) (.int .i64 (-1))).s2 (.int .i64 0) (.int .i64 (-1))).cell
        refine bodyPost_ret (v := .agg #[.int .i64 0, .int .i64 (-1)]) (by simp [results, Tryz.results34, go_sem, F]) rfl ⟨0, -1, rfl, ?_, ?_⟩
        · exact DrT.dr (ws := w) (by ((repeat (first | exact HD | refine DrT.alloc ?_ _ | refine DrT.drewN ?_ _ | refine DrT.drew ?_ | refine DrT.set ?_ (by first | omega | (simp; omega)) _))))
        · exact DrT.gr (w0 := w0) (g := g) (A := A) (n := n) (c := c) (by ((repeat (first | exact HD | refine DrT.alloc ?_ _ | refine DrT.drewN ?_ _ | refine DrT.drew ?_ | refine DrT.set ?_ (by first | omega | (simp; omega)) _))))
      · skip
        go_wp2_with fail
        have F := (R0.s2 (.int .i64 0) (.int .i64 Y)).cell
        refine bodyPost_ret (v := .agg #[.int .i64 0, .int .i64 Y]) (by simp [results, Tryz.results34, go_sem, F]) rfl ⟨0, Y, rfl, ?_, ?_⟩
        · exact DrT.dr (ws := w) (by ((repeat (first | exact HD | refine DrT.alloc ?_ _ | refine DrT.drewN ?_ _ | refine DrT.drew ?_ | refine DrT.set ?_ (by first | omega | (simp; omega)) _))))
        · exact DrT.gr (w0 := w0) (g := g) (A := A) (n := n) (c := c) (by ((repeat (first | exact HD | refine DrT.alloc ?_ _ | refine DrT.drewN ?_ _ | refine DrT.drew ?_ | refine DrT.set ?_ (by first | omega | (simp; omega)) _))))
    · skip
      go_wp2_with fail
      have F := (R0.s2 (.int .i64 X) (.int .i64 Y)).cell
      refine bodyPost_ret (v := .agg #[.int .i64 X, .int .i64 Y]) (by simp [results, Tryz.results34, go_sem, F]) rfl ⟨X, Y, rfl, ?_, ?_⟩
      · exact DrT.dr (ws := w) (by ((repeat (first | exact HD | refine DrT.alloc ?_ _ | refine DrT.drewN ?_ _ | refine DrT.drew ?_ | refine DrT.set ?_ (by first | omega | (simp; omega)) _))))
      · exact DrT.gr (w0 := w0) (g := g) (A := A) (n := n) (c := c) (by ((repeat (first | exact HD | refine DrT.alloc ?_ _ | refine DrT.drewN ?_ _ | refine DrT.drew ?_ | refine DrT.set ?_ (by first | omega | (simp; omega)) _))))
  · have b3 : (r3 == 0) = false := by simpa using h3
    clear hr3 h3
    have cB := B.cell
    have fB := B.frozen
    have lB := B.lt
    have cR := R0.cell
    have fR := R0.frozen
    have lR := R0.lt
    clear D3 G3
    by_cases hx0 : X = 0
    · subst hx0
      by_cases hy0 : Y = 0
      · subst hy0
        go_wp2_with fail
        have F := ((R0.far (p := ⟨b, 1, none⟩) (by simp only; omega) (.int .i64 (-1))).s2 (.int .i64 0) (.int .i64 (-1))).cell
        refine bodyPost_ret (v := .agg #[.int .i64 0, .int .i64 (-1)]) (by simp [results, Tryz.results34, go_sem, F]) rfl ⟨0, -1, rfl, ?_, ?_⟩
        · exact DrT.dr (ws := w) (by ((repeat (first | exact HD | refine DrT.alloc ?_ _ | refine DrT.drewN ?_ _ | refine DrT.drew ?_ | refine DrT.set ?_ (by first | omega | (simp; omega)) _))))
        · exact DrT.gr (w0 := w0) (g := g) (A := A) (n := n) (c := c) (by ((repeat (first | exact HD | refine DrT.alloc ?_ _ | refine DrT.drewN ?_ _ | refine DrT.drew ?_ | refine DrT.set ?_ (by first | omega | (simp; omega)) _))))
      · skip
        go_wp2_with fail
        have F := (R0.s2 (.int .i64 0) (.int .i64 Y)).cell
        refine bodyPost_ret (v := .agg #[.int .i64 0, .int .i64 Y]) (by simp [results, Tryz.results34, go_sem, F]) rfl ⟨0, Y, rfl, ?_, ?_⟩
        · exact DrT.dr (ws := w) (by ((repeat (first | exact HD | refine DrT.alloc ?_ _ | refine DrT.drewN ?_ _ | refine DrT.drew ?_ | refine DrT.set ?_ (by first | omega | (simp; omega)) _))))
        · exact DrT.gr (w0 := w0) (g := g) (A := A) (n := n) (c := c) (by ((repeat (first | exact HD | refine DrT.alloc ?_ _ | refine DrT.drewN ?_ _ | refine DrT.drew ?_ | refine DrT.set ?_ (by first | omega | (simp; omega)) _))))
    · skip
      go_wp2_with fail
      have F := (R0.s2 (.int .i64 X) (.int .i64 Y)).cell
      refine bodyPost_ret (v := .agg #[.int .i64 X, .int .i64 Y]) (by simp [results, Tryz.results34, go_sem, F]) rfl ⟨X, Y, rfl, ?_, ?_⟩
      · exact DrT.dr (ws := w) (by ((repeat (first | exact HD | refine DrT.alloc ?_ _ | refine DrT.drewN ?_ _ | refine DrT.drew ?_ | refine DrT.set ?_ (by first | omega | (simp; omega)) _))))
      · exact DrT.gr (w0 := w0) (g := g) (A := A) (n := n) (c := c) (by ((repeat (first | exact HD | refine DrT.alloc ?_ _ | refine DrT.drewN ?_ _ | refine DrT.drew ?_ | refine DrT.set ?_ (by first | omega | (simp; omega)) _))))
set_option maxRecDepth 100000 in
set_option maxHeartbeats 4000000 in
theorem spec_l08DrawAny {w0 w : World} {g : Nat} {A : Option Addr} {n c : Nat} (h : Dr w0 w g A n c) (hn : n ≤ 140737488355327) : Calls Tryz.prog 12 #[.pointer (some ⟨g, 0, none⟩)] w (DrawWd w0 w g A n c) := by
  have HD := DrT.start h
  have hlt := HD.glt
  have R0 := Blk.new w 25 #[.int .i64 0, .int .i64 0]
  go_enter Tryz.func12, Tryz.ntmps12
  go_wp2_with fail
  refine (spec_Next (w0 := w0) (A := A) (n := n) (c := c) _ (DrT.dr (ws := w) (by ((repeat (first | exact HD | refine DrT.alloc ?_ _ | refine DrT.drewN ?_ _ | refine DrT.drew ?_ | refine DrT.set ?_ (by first | omega | (simp; omega)) _))))) hn).mono ?_
  rintro e1 w1 ⟨r1, rfl, hr1, D1, G1⟩
  have HD := DrT.step (ws := w) (by ((repeat (first | exact HD | refine DrT.alloc ?_ _ | refine DrT.drewN ?_ _ | refine DrT.drew ?_ | refine DrT.set ?_ (by first | omega | (simp; omega)) _)))) D1 G1
  have z1 := HD.size
  replace R0 := Blk.keepG (g := g) (R0.q (by (repeat (first | assumption | exact Q.refl _ | refine Q.alloc ?_ _ | refine Q.drewN ?_ _ | refine Q.drew ?_)))) G1 (by omega)
  by_cases h1 : r1 = 0
  · subst h1
    clear hr1
    go_wp2_with ((go_at_call 14; refine (spec_Next (w0 := w0) (A := A) (n := n) (c := c) _ (DrT.dr (ws := w) (by ((repeat (first | exact HD | refine DrT.alloc ?_ _ | refine DrT.drewN ?_ _ | refine DrT.drew ?_ | refine DrT.set ?_ (by first | omega | (simp; omega)) _))))) hn).mono ?_; rintro e2 w2 ⟨r2, rfl, hr2, D2, G2⟩; have HD := DrT.step (ws := w) (by ((repeat (first | exact HD | refine DrT.alloc ?_ _ | refine DrT.drewN ?_ _ | refine DrT.drew ?_ | refine DrT.set ?_ (by first | omega | (simp; omega)) _)))) D2 G2; have z2 := HD.size; have R0 := Blk.keepG (g := g) (R0.q (by (repeat (first | assumption | exact Q.refl _ | refine Q.alloc ?_ _ | refine Q.drewN ?_ _ | refine Q.drew ?_)))) G2 (by omega); have cR0 := R0.cell; have fR0 := R0.frozen; have lR0 := R0.lt; obtain ⟨m2, rfl⟩ := Int.eq_ofNat_of_zero_le hr2.1; obtain ⟨v2, hv2, hvl2, hm2, hn2⟩ := pick3 0 1001 (-1001) hr2; (first | (have PP := (grown_box G2 (by omega)).cell) | (have PP := (grown_boxD G2 (by omega)).cell) | skip)))
    have F := (R0.s2 (.int .i64 v2) (.int .i64 0)).cell
    refine bodyPost_ret (v := .agg #[.int .i64 v2, .int .i64 0]) (by simp [results, Tryz.results12, go_sem, F]) rfl ⟨v2, 0, rfl, ?_, ?_⟩
    · exact DrT.dr (ws := w) (by ((repeat (first | exact HD | refine DrT.alloc ?_ _ | refine DrT.drewN ?_ _ | refine DrT.drew ?_ | refine DrT.set ?_ (by first | omega | (simp; omega)) _))))
    · exact DrT.gr (w0 := w0) (g := g) (A := A) (n := n) (c := c) (by ((repeat (first | exact HD | refine DrT.alloc ?_ _ | refine DrT.drewN ?_ _ | refine DrT.drew ?_ | refine DrT.set ?_ (by first | omega | (simp; omega)) _))))
  · have b1 : (r1 == 0) = false := by simpa using h1
    clear h1 hr1
    go_wp2_with fail
    refine (spec_l08Draw (w0 := w0) (A := A) (n := n) (c := c) (DrT.dr (ws := w) (by ((repeat (first | exact HD | refine DrT.alloc ?_ _ | refine DrT.drewN ?_ _ | refine DrT.drew ?_ | refine DrT.set ?_ (by first | omega | (simp; omega)) _))))) hn).mono ?_
    rintro e2 w2 ⟨x, y, rfl, D2, G2⟩
    replace HD := DrT.step (ws := w) (by ((repeat (first | exact HD | refine DrT.alloc ?_ _ | refine DrT.drewN ?_ _ | refine DrT.drew ?_ | refine DrT.set ?_ (by first | omega | (simp; omega)) _)))) D2 G2
    have z2 := HD.size
    replace R0 := Blk.keepG (g := g) (R0.q (by (repeat (first | assumption | exact Q.refl _ | refine Q.alloc ?_ _ | refine Q.drewN ?_ _ | refine Q.drew ?_)))) G2 (by omega)
    have cR := R0.cell
    have fR := R0.frozen
    have lR := R0.lt
    go_wp2_with fail
    have F := (R0.s2 (.int .i64 x) (.int .i64 y)).cell
    refine bodyPost_ret (v := .agg #[.int .i64 x, .int .i64 y]) (by simp [results, Tryz.results12, go_sem, F]) rfl ⟨x, y, rfl, ?_, ?_⟩
    · exact DrT.dr (ws := w) (by ((repeat (first | exact HD | refine DrT.alloc ?_ _ | refine DrT.drewN ?_ _ | refine DrT.drew ?_ | refine DrT.set ?_ (by first | omega | (simp; omega)) _))))
    · exact DrT.gr (w0 := w0) (g := g) (A := A) (n := n) (c := c) (by ((repeat (first | exact HD | refine DrT.alloc ?_ _ | refine DrT.drewN ?_ _ | refine DrT.drew ?_ | refine DrT.set ?_ (by first | omega | (simp; omega)) _))))
theorem Blk.s4_0 {w : World} {b : Nat} {T : TypeId} {x y z u : Value} (h : Blk w b T #[x, y, z, u]) (v : Value) : Blk (w.setCell ⟨b, 0, none⟩ v) b T #[v, y, z, u] := by simpa using h.set_ 0 v
theorem Blk.s4_1 {w : World} {b : Nat} {T : TypeId} {x y z u : Value} (h : Blk w b T #[x, y, z, u]) (v : Value) : Blk (w.setCell ⟨b, 1, none⟩ v) b T #[x, v, z, u] := by simpa using h.set_ 1 v
theorem Blk.s4_2 {w : World} {b : Nat} {T : TypeId} {x y z u : Value} (h : Blk w b T #[x, y, z, u]) (v : Value) : Blk (w.setCell ⟨b, 2, none⟩ v) b T #[x, y, v, u] := by simpa using h.set_ 2 v
theorem Blk.s4_3 {w : World} {b : Nat} {T : TypeId} {x y z u : Value} (h : Blk w b T #[x, y, z, u]) (v : Value) : Blk (w.setCell ⟨b, 3, none⟩ v) b T #[x, y, z, v] := by simpa using h.set_ 3 v
set_option maxRecDepth 100000 in
set_option maxHeartbeats 8000000 in
theorem spec_l12Draw {w0 w : World} {g : Nat} {A : Option Addr} {n c : Nat} (h : Dr w0 w g A n c) (hn : n ≤ 140737488355327) : Calls Tryz.prog 13 #[.pointer (some ⟨g, 0, none⟩)] w (DrawWt w0 w g A n c) := by
  have HD := DrT.start h
  have hlt := HD.glt
  have R0 := Blk.new w 27 #[.int .i64 0, .int .i64 0, .int .i64 0, .int .i64 0]
  go_enter Tryz.func13, Tryz.ntmps13
  go_wp2_with fail
  refine (spec_Next (w0 := w0) (A := A) (n := n) (c := c) _ (DrT.dr (ws := w) (by ((repeat (first | exact HD | refine DrT.alloc ?_ _ | refine DrT.drewN ?_ _ | refine DrT.drew ?_ | refine DrT.set ?_ (by first | omega | (simp; omega)) _))))) hn).mono ?_
  rintro e1 w1 ⟨r1, rfl, hr1, D1, G1⟩
  have HD := DrT.step (ws := w) (by ((repeat (first | exact HD | refine DrT.alloc ?_ _ | refine DrT.drewN ?_ _ | refine DrT.drew ?_ | refine DrT.set ?_ (by first | omega | (simp; omega)) _)))) D1 G1
  have z1 := HD.size
  replace R0 := Blk.keepG (g := g) (R0.q (by (repeat (first | assumption | exact Q.refl _ | refine Q.alloc ?_ _ | refine Q.drewN ?_ _ | refine Q.drew ?_)))) G1 (by omega)
  go_wp2_with fail
  refine (spec_Next (w0 := w0) (A := A) (n := n) (c := c) _ (DrT.dr (ws := w) (by ((repeat (first | exact HD | refine DrT.alloc ?_ _ | refine DrT.drewN ?_ _ | refine DrT.drew ?_ | refine DrT.set ?_ (by first | omega | (simp; omega)) _))))) hn).mono ?_
  rintro e2 w2 ⟨r2, rfl, hr2, D2, G2⟩
  have HD := DrT.step (ws := w) (by ((repeat (first | exact HD | refine DrT.alloc ?_ _ | refine DrT.drewN ?_ _ | refine DrT.drew ?_ | refine DrT.set ?_ (by first | omega | (simp; omega)) _)))) D2 G2
  have z2 := HD.size
  replace R0 := Blk.keepG (g := g) (R0.q (by (repeat (first | assumption | exact Q.refl _ | refine Q.alloc ?_ _ | refine Q.drewN ?_ _ | refine Q.drew ?_)))) G2 (by omega)
  go_wp2_with fail
  refine (spec_Next (w0 := w0) (A := A) (n := n) (c := c) _ (DrT.dr (ws := w) (by ((repeat (first | exact HD | refine DrT.alloc ?_ _ | refine DrT.drewN ?_ _ | refine DrT.drew ?_ | refine DrT.set ?_ (by first | omega | (simp; omega)) _))))) hn).mono ?_
  rintro e3 w3 ⟨r3, rfl, hr3, D3, G3⟩
  have HD := DrT.step (ws := w) (by ((repeat (first | exact HD | refine DrT.alloc ?_ _ | refine DrT.drewN ?_ _ | refine DrT.drew ?_ | refine DrT.set ?_ (by first | omega | (simp; omega)) _)))) D3 G3
  have z3 := HD.size
  replace R0 := Blk.keepG (g := g) (R0.q (by (repeat (first | assumption | exact Q.refl _ | refine Q.alloc ?_ _ | refine Q.drewN ?_ _ | refine Q.drew ?_)))) G3 (by omega)
  go_wp2_with fail
  refine (spec_Next (w0 := w0) (A := A) (n := n) (c := c) _ (DrT.dr (ws := w) (by ((repeat (first | exact HD | refine DrT.alloc ?_ _ | refine DrT.drewN ?_ _ | refine DrT.drew ?_ | refine DrT.set ?_ (by first | omega | (simp; omega)) _))))) hn).mono ?_
  rintro e4 w4 ⟨r4, rfl, hr4, D4, G4⟩
  have HD := DrT.step (ws := w) (by ((repeat (first | exact HD | refine DrT.alloc ?_ _ | refine DrT.drewN ?_ _ | refine DrT.drew ?_ | refine DrT.set ?_ (by first | omega | (simp; omega)) _)))) D4 G4
  have z4 := HD.size
  replace R0 := Blk.keepG (g := g) (R0.q (by (repeat (first | assumption | exact Q.refl _ | refine Q.alloc ?_ _ | refine Q.drewN ?_ _ | refine Q.drew ?_)))) G4 (by omega)
  obtain ⟨X, hX⟩ : ∃ X : Int, X = 20 + r1 := ⟨_, rfl⟩
  obtain ⟨U, hU⟩ : ∃ U : Int, U = 200 + r4 := ⟨_, rfl⟩
  have lR0 := R0.lt
  go_wp2_with fail
  rw [← hX, ← hU]
  have B := Blk.new w4 27 #[.int .i64 X, .int .i64 r2, .int .i64 r3, .int .i64 U]
  replace HD := HD.alloc (.cells #[.int .i64 X, .int .i64 r2, .int .i64 r3, .int .i64 U] 27)
  replace R0 := R0.alloc (.cells #[.int .i64 X, .int .i64 r2, .int .i64 r3, .int .i64 U] 27)
  obtain ⟨b, hb0⟩ : ∃ b, b = w4.heap.size := ⟨_, rfl⟩
  have hbz : w.heap.size < b := by omega
  rw [← hb0] at B ⊢
  generalize hwb : w4.alloc (.cells #[.int .i64 X, .int .i64 r2, .int .i64 r3, .int .i64 U] 27) = wb at *
  clear hb0 hwb hX hU lR0 D1 G1 D2 G2 D3 G3 D4 G4 hr1 hr2 hr3 hr4 z1 z2 z3 z4
  refine (spec_Next (w0 := w0) (A := A) (n := n) (c := c) _ (DrT.dr (ws := w) (by ((repeat (first | exact HD | refine DrT.alloc ?_ _ | refine DrT.drewN ?_ _ | refine DrT.drew ?_ | refine DrT.set ?_ (by first | omega | (simp; omega)) _))))) hn).mono ?_
  rintro e5 w5 ⟨r5, rfl, hr5, D5, G5⟩
  have HD := DrT.step (ws := w) (by ((repeat (first | exact HD | refine DrT.alloc ?_ _ | refine DrT.drewN ?_ _ | refine DrT.drew ?_ | refine DrT.set ?_ (by first | omega | (simp; omega)) _)))) D5 G5
  have z5 := HD.size
  replace R0 := Blk.keepG (g := g) (R0.q (by (repeat (first | assumption | exact Q.refl _ | refine Q.alloc ?_ _ | refine Q.drewN ?_ _ | refine Q.drew ?_)))) G5 (by omega)
  replace B := Blk.keepG (g := g) (B.q (by (repeat (first | assumption | exact Q.refl _ | refine Q.alloc ?_ _ | refine Q.drewN ?_ _ | refine Q.drew ?_)))) G5 (by omega)
  have hbg : b ≠ g := by omega
  clear D5 G5
  go_upto_block 0 with (fail)
  go_cut [] from 17 (fun wc => ∃ x y z u : Int, Blk wc b 27 #[.int .i64 x, .int .i64 y, .int .i64 z, .int .i64 u] ∧ Blk wc w.heap.size 27 #[.int .i64 0, .int .i64 0, .int .i64 0, .int .i64 0] ∧ DrT w0 w wc g A n c)
  case first =>
    have cB := B.cell
    have fB := B.frozen
    by_cases h0 : r5 = 0
    · subst h0
      clear hr5
      go_wp2_with ((go_at_call 14; refine (spec_Next (w0 := w0) (A := A) (n := n) (c := c) _ (DrT.dr (ws := w) (by ((repeat (first | exact HD | refine DrT.alloc ?_ _ | refine DrT.drewN ?_ _ | refine DrT.drew ?_ | refine DrT.set ?_ (by first | omega | (simp; omega)) _))))) hn).mono ?_; rintro e6 w6 ⟨r6, rfl, hr6, D6, G6⟩; have HD := DrT.step (ws := w) (by ((repeat (first | exact HD | refine DrT.alloc ?_ _ | refine DrT.drewN ?_ _ | refine DrT.drew ?_ | refine DrT.set ?_ (by first | omega | (simp; omega)) _)))) D6 G6; have z6 := HD.size; have B := Blk.keepG (g := g) (B.q (by (repeat (first | assumption | exact Q.refl _ | refine Q.alloc ?_ _ | refine Q.drewN ?_ _ | refine Q.drew ?_)))) G6 (by omega); have cB := B.cell; have fB := B.frozen; have lB := B.lt; have R0 := Blk.keepG (g := g) (R0.q (by (repeat (first | assumption | exact Q.refl _ | refine Q.alloc ?_ _ | refine Q.drewN ?_ _ | refine Q.drew ?_)))) G6 (by omega); have cR0 := R0.cell; have fR0 := R0.frozen; have lR0 := R0.lt; obtain ⟨m6, rfl⟩ := Int.eq_ofNat_of_zero_le hr6.1; obtain ⟨v6, hv6, hvl6, hm6, hn6⟩ := pick3 0 1000 1001 hr6; (first | (have PP := (grown_box G6 (by omega)).cell) | (have PP := (grown_boxD G6 (by omega)).cell) | skip)))
      all_goals go_meet
      all_goals exact ⟨_, _, _, _, (B.s4_0 _).q (by (repeat (first | assumption | exact Q.refl _ | refine Q.alloc ?_ _ | refine Q.drewN ?_ _ | refine Q.drew ?_))), (R0.far (p := ⟨b, 0, none⟩) (by simp only; omega) _).q (by (repeat (first | assumption | exact Q.refl _ | refine Q.alloc ?_ _ | refine Q.drewN ?_ _ | refine Q.drew ?_))), (HD.set (b := b) (i := 0) (by omega) _).q (by (repeat (first | assumption | exact Q.refl _ | refine Q.alloc ?_ _ | refine Q.drewN ?_ _ | refine Q.drew ?_)))⟩
    · have b0 : (r5 == 0) = false := by simpa using h0
      by_cases h1 : r5 = 1
      · subst h1
        clear hr5 h0
        go_wp2_with ((go_at_call 14; refine (spec_Next (w0 := w0) (A := A) (n := n) (c := c) _ (DrT.dr (ws := w) (by ((repeat (first | exact HD | refine DrT.alloc ?_ _ | refine DrT.drewN ?_ _ | refine DrT.drew ?_ | refine DrT.set ?_ (by first | omega | (simp; omega)) _))))) hn).mono ?_; rintro e6 w6 ⟨r6, rfl, hr6, D6, G6⟩; have HD := DrT.step (ws := w) (by ((repeat (first | exact HD | refine DrT.alloc ?_ _ | refine DrT.drewN ?_ _ | refine DrT.drew ?_ | refine DrT.set ?_ (by first | omega | (simp; omega)) _)))) D6 G6; have z6 := HD.size; have B := Blk.keepG (g := g) (B.q (by (repeat (first | assumption | exact Q.refl _ | refine Q.alloc ?_ _ | refine Q.drewN ?_ _ | refine Q.drew ?_)))) G6 (by omega); have cB := B.cell; have fB := B.frozen; have lB := B.lt; have R0 := Blk.keepG (g := g) (R0.q (by (repeat (first | assumption | exact Q.refl _ | refine Q.alloc ?_ _ | refine Q.drewN ?_ _ | refine Q.drew ?_)))) G6 (by omega); have cR0 := R0.cell; have fR0 := R0.frozen; have lR0 := R0.lt; obtain ⟨m6, rfl⟩ := Int.eq_ofNat_of_zero_le hr6.1; obtain ⟨v6, hv6, hvl6, hm6, hn6⟩ := pick3 (-1) 10000 10001 hr6; (first | (have PP := (grown_box G6 (by omega)).cell) | (have PP := (grown_boxD G6 (by omega)).cell) | skip)))
        all_goals go_meet
        all_goals exact ⟨_, _, _, _, (B.s4_2 _).q (by (repeat (first | assumption | exact Q.refl _ | refine Q.alloc ?_ _ | refine Q.drewN ?_ _ | refine Q.drew ?_))), (R0.far (p := ⟨b, 2, none⟩) (by simp only; omega) _).q (by (repeat (first | assumption | exact Q.refl _ | refine Q.alloc ?_ _ | refine Q.drewN ?_ _ | refine Q.drew ?_))), (HD.set (b := b) (i := 2) (by omega) _).q (by (repeat (first | assumption | exact Q.refl _ | refine Q.alloc ?_ _ | refine Q.drewN ?_ _ | refine Q.drew ?_)))⟩
      · have b1 : (r5 == 1) = false := by simpa using h1
        by_cases h2 : r5 = 2
        · subst h2
          clear hr5 h0 h1
          go_wp2_with ((go_at_call 14; refine (spec_Next (w0 := w0) (A := A) (n := n) (c := c) _ (DrT.dr (ws := w) (by ((repeat (first | exact HD | refine DrT.alloc ?_ _ | refine DrT.drewN ?_ _ | refine DrT.drew ?_ | refine DrT.set ?_ (by first | omega | (simp; omega)) _))))) hn).mono ?_; rintro e6 w6 ⟨r6, rfl, hr6, D6, G6⟩; have HD := DrT.step (ws := w) (by ((repeat (first | exact HD | refine DrT.alloc ?_ _ | refine DrT.drewN ?_ _ | refine DrT.drew ?_ | refine DrT.set ?_ (by first | omega | (simp; omega)) _)))) D6 G6; have z6 := HD.size; have B := Blk.keepG (g := g) (B.q (by (repeat (first | assumption | exact Q.refl _ | refine Q.alloc ?_ _ | refine Q.drewN ?_ _ | refine Q.drew ?_)))) G6 (by omega); have cB := B.cell; have fB := B.frozen; have lB := B.lt; have R0 := Blk.keepG (g := g) (R0.q (by (repeat (first | assumption | exact Q.refl _ | refine Q.alloc ?_ _ | refine Q.drewN ?_ _ | refine Q.drew ?_)))) G6 (by omega); have cR0 := R0.cell; have fR0 := R0.frozen; have lR0 := R0.lt; obtain ⟨m6, rfl⟩ := Int.eq_ofNat_of_zero_le hr6.1; obtain ⟨v6, hv6, hvl6, hm6, hn6⟩ := pick4 0 1 60000 60001 hr6; (first | (have PP := (grown_box G6 (by omega)).cell) | (have PP := (grown_boxD G6 (by omega)).cell) | skip)))
          all_goals go_meet
          all_goals exact ⟨_, _, _, _, (B.s4_3 _).q (by (repeat (first | assumption | exact Q.refl _ | refine Q.alloc ?_ _ | refine Q.drewN ?_ _ | refine Q.drew ?_))), (R0.far (p := ⟨b, 3, none⟩) (by simp only; omega) _).q (by (repeat (first | assumption | exact Q.refl _ | refine Q.alloc ?_ _ | refine Q.drewN ?_ _ | refine Q.drew ?_))), (HD.set (b := b) (i := 3) (by omega) _).q (by (repeat (first | assumption | exact Q.refl _ | refine Q.alloc ?_ _ | refine Q.drewN ?_ _ | refine Q.drew ?_)))⟩
        · have b2 : (r5 == 2) = false := by simpa using h2
          by_cases h3 : r5 = 3
          · subst h3
            clear hr5 h0 h1 h2
            go_wp2_with ((go_at_call 14; refine (spec_Next (w0 := w0) (A := A) (n := n) (c := c) _ (DrT.dr (ws := w) (by ((repeat (first | exact HD | refine DrT.alloc ?_ _ | refine DrT.drewN ?_ _ | refine DrT.drew ?_ | refine DrT.set ?_ (by first | omega | (simp; omega)) _))))) hn).mono ?_; rintro e6 w6 ⟨r6, rfl, hr6, D6, G6⟩; have HD := DrT.step (ws := w) (by ((repeat (first | exact HD | refine DrT.alloc ?_ _ | refine DrT.drewN ?_ _ | refine DrT.drew ?_ | refine DrT.set ?_ (by first | omega | (simp; omega)) _)))) D6 G6; have z6 := HD.size; have B := Blk.keepG (g := g) (B.q (by (repeat (first | assumption | exact Q.refl _ | refine Q.alloc ?_ _ | refine Q.drewN ?_ _ | refine Q.drew ?_)))) G6 (by omega); have cB := B.cell; have fB := B.frozen; have lB := B.lt; have R0 := Blk.keepG (g := g) (R0.q (by (repeat (first | assumption | exact Q.refl _ | refine Q.alloc ?_ _ | refine Q.drewN ?_ _ | refine Q.drew ?_)))) G6 (by omega); have cR0 := R0.cell; have fR0 := R0.frozen; have lR0 := R0.lt; obtain ⟨m6, rfl⟩ := Int.eq_ofNat_of_zero_le hr6.1; obtain ⟨v6, hv6, hvl6, hm6, hn6⟩ := pick3 (-1) 60000 60001 hr6; (first | (have PP := (grown_box G6 (by omega)).cell) | (have PP := (grown_boxD G6 (by omega)).cell) | skip)))
            all_goals go_meet
            all_goals exact ⟨_, _, _, _, (B.s4_1 _).q (by (repeat (first | assumption | exact Q.refl _ | refine Q.alloc ?_ _ | refine Q.drewN ?_ _ | refine Q.drew ?_))), (R0.far (p := ⟨b, 1, none⟩) (by simp only; omega) _).q (by (repeat (first | assumption | exact Q.refl _ | refine Q.alloc ?_ _ | refine Q.drewN ?_ _ | refine Q.drew ?_))), (HD.set (b := b) (i := 1) (by omega) _).q (by (repeat (first | assumption | exact Q.refl _ | refine Q.alloc ?_ _ | refine Q.drewN ?_ _ | refine Q.drew ?_)))⟩
          · have b3 : (r5 == 3) = false := by simpa using h3
            clear hr5 h0 h1 h2 h3
            go_wp2_with fail
            go_meet
            exact ⟨_, _, _, _, B, R0, HD⟩
  case rest =>
    clear R0 HD B
    obtain ⟨x, y, z, u, B, R0, HD⟩ := hcut
    have cB := B.cell
    have lB := B.lt
    have cR := R0.cell
    have fR := R0.frozen
    go_wp2_with fail
    have F := (R0.st4 (.int .i64 x) (.int .i64 y) (.int .i64 z) (.int .i64 u)).cell
    refine bodyPost_ret (v := .agg #[.int .i64 x, .int .i64 y, .int .i64 z, .int .i64 u]) (by simp [results, Tryz.results13, go_sem, F]) rfl ⟨x, y, z, u, rfl, ?_, ?_⟩
    · exact DrT.dr (ws := w) (by ((repeat (first | exact HD | refine DrT.alloc ?_ _ | refine DrT.drewN ?_ _ | refine DrT.drew ?_ | refine DrT.set ?_ (by first | omega | (simp; omega)) _))))
    · exact DrT.gr (w0 := w0) (g := g) (A := A) (n := n) (c := c) (by ((repeat (first | exact HD | refine DrT.alloc ?_ _ | refine DrT.drewN ?_ _ | refine DrT.drew ?_ | refine DrT.set ?_ (by first | omega | (simp; omega)) _))))
end Go.Proofs.YtkpdoikjfibflaaGreatDoor
namespace Go.Proofs.YtkpdoikjfibflaaGreatDoor
open Go.RowKit Go.WideShapes Go.ChangeShapes
theorem Own.alQ {w : World} {B : Nat} {e : TypeId} {k : Nat} {v : Value} {n : Nat} {xs : List Int} (h : Own w B e k v n xs) (o : Obj) : Own (w.alloc o) B e k v n xs := h.q ((Q.refl _).alloc _)
/-- Two tracks of its own were drawn. -/
def DrawTT (w0 w : World) (g : Nat) (A : Option Addr) (n c : Nat) (e : Ending) (w' : World) : Prop := ∃ (B : Option Addr) (m d : Nat) (xs : List Int) (B2 : Option Addr) (m2 d2 : Nat) (ys : List Int), e = .returned (.tuple #[.agg #[.slice B m d], .agg #[.slice B2 m2 d2]]) ∧ Own w' w.heap.size 69 3 (.slice B m d) m xs ∧ Own w' w.heap.size 69 3 (.slice B2 m2 d2) m2 ys ∧ m ≤ 41 ∧ m2 ≤ 41 ∧ Dr w0 w' g A n c ∧ w.grownBy w' (some g)
set_option maxRecDepth 100000 in
set_option maxHeartbeats 16000000 in
theorem spec_l12Tracks {w0 w : World} {g : Nat} {A : Option Addr} {n c : Nat} (h : Dr w0 w g A n c) (hn : n ≤ 140737488355327) : Calls Tryz.prog 15 #[.pointer (some ⟨g, 0, none⟩)] w (DrawTT w0 w g A n c) := by
  have HD := DrT.start h
  have hlt := HD.glt
  have R0 : Blk ((w.alloc (.cells #[.slice none 0 0] 37)).alloc (.cells #[.slice none 0 0] 37)) w.heap.size 37 #[.slice none 0 0] := (Blk.new _ _ _).alloc _
  have R1 : Blk ((w.alloc (.cells #[.slice none 0 0] 37)).alloc (.cells #[.slice none 0 0] 37)) (w.heap.size + 1) 37 #[.slice none 0 0] := by simpa using Blk.new (w.alloc (.cells #[.slice none 0 0] 37)) 37 #[.slice none 0 0]
  replace HD := (HD.alloc (.cells #[.slice none 0 0] 37)).alloc (.cells #[.slice none 0 0] 37)
  go_enter Tryz.func15, Tryz.ntmps15
  go_wp2_with fail
  refine (spec_Next (w0 := w0) (A := A) (n := n) (c := c) _ (DrT.dr (ws := w) (by ((repeat (first | exact HD | refine DrT.alloc ?_ _ | refine DrT.drewN ?_ _ | refine DrT.drew ?_ | refine DrT.set ?_ (by first | omega | (simp; omega)) _))))) hn).mono ?_
  rintro e1 w1 ⟨r1, rfl, hr1, D1, G1⟩
  have HD := DrT.step (ws := w) (by ((repeat (first | exact HD | refine DrT.alloc ?_ _ | refine DrT.drewN ?_ _ | refine DrT.drew ?_ | refine DrT.set ?_ (by first | omega | (simp; omega)) _)))) D1 G1
  have z1 := HD.size
  replace R0 := Blk.keepG (g := g) (R0.q (by (repeat (first | assumption | exact Q.refl _ | refine Q.alloc ?_ _ | refine Q.drewN ?_ _ | refine Q.drew ?_)))) G1 (by omega)
  replace R1 := Blk.keepG (g := g) (R1.q (by (repeat (first | assumption | exact Q.refl _ | refine Q.alloc ?_ _ | refine Q.drewN ?_ _ | refine Q.drew ?_)))) G1 (by omega)
  have lR1 := R1.lt
  by_cases h1 : r1 = 0
  · subst h1
    clear hr1
    go_wp2_with fail
    refine (spec_l03DrawAny (w0 := w0) (A := A) (n := n) (c := c) (DrT.dr (ws := w) (by ((repeat (first | exact HD | refine DrT.alloc ?_ _ | refine DrT.drewN ?_ _ | refine DrT.drew ?_ | refine DrT.set ?_ (by first | omega | (simp; omega)) _))))) hn).mono ?_
    rintro e2 w2 ⟨B, m, d, xs, rfl, hown, hm, D2, G2⟩
    replace HD := DrT.step (ws := w) (by ((repeat (first | exact HD | refine DrT.alloc ?_ _ | refine DrT.drewN ?_ _ | refine DrT.drew ?_ | refine DrT.set ?_ (by first | omega | (simp; omega)) _)))) D2 G2
    have z2 := HD.size
    replace R0 := Blk.keepG (g := g) (R0.q (by (repeat (first | assumption | exact Q.refl _ | refine Q.alloc ?_ _ | refine Q.drewN ?_ _ | refine Q.drew ?_)))) G2 (by omega)
    replace R1 := Blk.keepG (g := g) (R1.q (by (repeat (first | assumption | exact Q.refl _ | refine Q.alloc ?_ _ | refine Q.drewN ?_ _ | refine Q.drew ?_)))) G2 (by omega)
    replace hown := hown.mono z1
    have z1' := G2.size
    go_wp2_with fail
    refine (spec_l03Draw (w0 := w0) (A := A) (n := n) (c := c) (DrT.dr (ws := w) (by ((repeat (first | exact HD | refine DrT.alloc ?_ _ | refine DrT.drewN ?_ _ | refine DrT.drew ?_ | refine DrT.set ?_ (by first | omega | (simp; omega)) _))))) hn).mono ?_
    rintro e3 w3 ⟨B2, m2, d2, ys, rfl, hown2, hm2, D3, G3⟩
    replace HD := DrT.step (ws := w) (by ((repeat (first | exact HD | refine DrT.alloc ?_ _ | refine DrT.drewN ?_ _ | refine DrT.drew ?_ | refine DrT.set ?_ (by first | omega | (simp; omega)) _)))) D3 G3
    have z3 := HD.size
    replace R0 := Blk.keepG (g := g) (R0.q (by (repeat (first | assumption | exact Q.refl _ | refine Q.alloc ?_ _ | refine Q.drewN ?_ _ | refine Q.drew ?_)))) G3 (by omega)
    replace R1 := Blk.keepG (g := g) (R1.q (by (repeat (first | assumption | exact Q.refl _ | refine Q.alloc ?_ _ | refine Q.drewN ?_ _ | refine Q.drew ?_)))) G3 (by omega)
    replace hown := (hown.q (by (repeat (first | assumption | exact Q.refl _ | refine Q.alloc ?_ _ | refine Q.drewN ?_ _ | refine Q.drew ?_)))).keepD G3 hlt
    replace hown2 := hown2.mono z2
    have cR0 := R0.cell
    have fR0 := R0.frozen
    have lR0 := R0.lt
    have cR1 := R1.cell
    have fR1 := R1.frozen
    have lR1 := R1.lt
    go_wp2_with fail
    have F0 := ((R0.s1_0 (.slice B m d)).far (p := ⟨w.heap.size + 1, 0, none⟩) (by simp) (.slice B2 m2 d2)).cell
    have F1 := ((R1.far (p := ⟨w.heap.size, 0, none⟩) (by simp) (.slice B m d)).s1_0 (.slice B2 m2 d2)).cell
    have O1 := (hown.setFar (Own.ne_blk hown R0 (by decide)) 0 (.slice B m d)).setFar (Own.ne_blk hown R1 (by decide)) 0 (.slice B2 m2 d2)
    have O2 := (hown2.setFar (Own.ne_blk hown2 R0 (by decide)) 0 (.slice B m d)).setFar (Own.ne_blk hown2 R1 (by decide)) 0 (.slice B2 m2 d2)
    refine bodyPost_ret (v := .tuple #[.agg #[.slice B m d], .agg #[.slice B2 m2 d2]]) (by simp [results, Tryz.results15, go_sem, F0, F1]) rfl ⟨B, m, d, xs, B2, m2, d2, ys, rfl, O1, O2, by omega, by omega, ?_, ?_⟩
    · exact DrT.dr (ws := w) (by ((repeat (first | exact HD | refine DrT.alloc ?_ _ | refine DrT.drewN ?_ _ | refine DrT.drew ?_ | refine DrT.set ?_ (by first | omega | (simp; omega)) _))))
    · exact DrT.gr (w0 := w0) (g := g) (A := A) (n := n) (c := c) (by ((repeat (first | exact HD | refine DrT.alloc ?_ _ | refine DrT.drewN ?_ _ | refine DrT.drew ?_ | refine DrT.set ?_ (by first | omega | (simp; omega)) _))))
  · have b1 : (r1 == 0) = false := by simpa using h1
    clear h1 hr1
    go_wp2_with fail
    refine (spec_l03Draw (w0 := w0) (A := A) (n := n) (c := c) (DrT.dr (ws := w) (by ((repeat (first | exact HD | refine DrT.alloc ?_ _ | refine DrT.drewN ?_ _ | refine DrT.drew ?_ | refine DrT.set ?_ (by first | omega | (simp; omega)) _))))) hn).mono ?_
    rintro e2 w2 ⟨B, m, d, xs, rfl, hown, hm, D2, G2⟩
    replace HD := DrT.step (ws := w) (by ((repeat (first | exact HD | refine DrT.alloc ?_ _ | refine DrT.drewN ?_ _ | refine DrT.drew ?_ | refine DrT.set ?_ (by first | omega | (simp; omega)) _)))) D2 G2
    have z2 := HD.size
    replace R0 := Blk.keepG (g := g) (R0.q (by (repeat (first | assumption | exact Q.refl _ | refine Q.alloc ?_ _ | refine Q.drewN ?_ _ | refine Q.drew ?_)))) G2 (by omega)
    replace R1 := Blk.keepG (g := g) (R1.q (by (repeat (first | assumption | exact Q.refl _ | refine Q.alloc ?_ _ | refine Q.drewN ?_ _ | refine Q.drew ?_)))) G2 (by omega)
    replace hown := hown.mono z1
    have lR1 := R1.lt
    have hbw : w.heap.size + 1 < w2.heap.size := lR1
    clear D1 G1 D2 G2 z1
    have T := (Blk.new w2 37 #[.slice B m d]).alloc (.cells #[] 69)
    have O0 : OwnL ((w2.alloc (.cells #[.slice B m d] 37)).alloc (.cells #[] 69)) (w2.heap.size + 1) 69 3 (.slice (some ⟨(w2.alloc (.cells #[.slice B m d] 37)).heap.size, 0, none⟩) 0 0) [] := OwnL.new _ _ _ (by simp)
    rw [show (w2.alloc (.cells #[.slice B m d] 37)).heap.size = w2.heap.size + 1 by simp] at O0
    replace HD := (HD.alloc (.cells #[.slice B m d] 37)).alloc (.cells #[] 69)
    replace R0 := (R0.alloc (.cells #[.slice B m d] 37)).alloc (.cells #[] 69)
    replace R1 := (R1.alloc (.cells #[.slice B m d] 37)).alloc (.cells #[] 69)
    obtain ⟨gl, rfl, hgl0⟩ := hown.split (show 0 < m by omega)
    have hgl := (hown.from _ rfl).2
    replace hown := (hown.alQ (.cells #[.slice (some ⟨gl, 0, none⟩) m d] 37)).alQ (.cells #[] 69)
    have hmI : (m : Int) ≤ 8 := by omega
    have hbg : w2.heap.size ≠ g := by omega
    have hgb : g < w2.heap.size + 1 := by omega
    obtain ⟨b, hb⟩ : ∃ b, b = w2.heap.size := ⟨_, rfl⟩
    rw [← hb] at T O0 hbw hgl hbg hgb z2
    go_upto_region 5 with (fail)
    rw [← hb]
    generalize hwb : (w2.alloc (.cells #[.slice (some ⟨gl, 0, none⟩) m d] 37)).alloc (.cells #[] 69) = wb at *
    clear hwb hb
    have hgl' : gl < b := hgl
    go_wp2_with fail
    go_loopw [5, 6] (fun v i wr => ∃ (k : Nat) (ys : List Int), k ≤ m ∧ i = .int .i64 k ∧ OwnL wr (b + 1) 69 3 v ys ∧ ys.length = k * 3 ∧ Own wr w.heap.size 69 3 (.slice (some ⟨gl, 0, none⟩) m d) m xs ∧ Blk wr b 37 #[.slice (some ⟨gl, 0, none⟩) m d] ∧ Blk wr w.heap.size 37 #[.slice none 0 0] ∧ Blk wr (w.heap.size + 1) 37 #[.slice none 0 0] ∧ DrT w0 w wr g A n c) (fun _ i _ => m - (intOf i).toNat)
    case atStart => exact ⟨0, [], by omega, rfl, O0, rfl, hown, T, R0, R1, HD⟩
    case round =>
      clear O0 hown T R0 R1 HD
      obtain ⟨k, ys, hk, rfl, ⟨A1, k1, d1, rfl, hown2⟩, hyl, hown, T, R0, R1, HD⟩ := hrel
      have hk1 : k1 = k := by have := hown2.len; omega
      subst hk1
      have hlx := hown.len
      have cT := T.cell
      have lT := T.lt
      have zr := HD.size
      by_cases hlk : k1 < m
      · have hlkI : (k1 : Int) < (m : Int) := by omega
        have x0 := hown.cell (j := k1 * 3) (by omega)
        have x1 := hown.cell (j := k1 * 3 + 1) (by omega)
        have x2 := hown.cell (j := k1 * 3 + 2) (by omega)
        generalize xs.getD (k1 * 3) 0 = X0 at *
        generalize xs.getD (k1 * 3 + 1) 0 = X1 at *
        generalize xs.getD (k1 * 3 + 2) 0 = X2 at *
        have BF := Blk.new wr 69 #[.int .i64 X0, .int .i64 X1, .int .i64 X2]
        replace HD := HD.alloc (.cells #[.int .i64 X0, .int .i64 X1, .int .i64 X2] 69)
        replace R0 := R0.alloc (.cells #[.int .i64 X0, .int .i64 X1, .int .i64 X2] 69)
        replace R1 := R1.alloc (.cells #[.int .i64 X0, .int .i64 X1, .int .i64 X2] 69)
        replace T := T.alloc (.cells #[.int .i64 X0, .int .i64 X1, .int .i64 X2] 69)
        replace hown := hown.alQ (.cells #[.int .i64 X0, .int .i64 X1, .int .i64 X2] 69)
        replace hown2 := hown2.alQ (.cells #[.int .i64 X0, .int .i64 X1, .int .i64 X2] 69)
        obtain ⟨f, hf⟩ : ∃ f, f = wr.heap.size := ⟨_, rfl⟩
        rw [← hf] at BF lT zr
        go_upto_region 9 with (fail)
        rw [← hf]
        generalize hwf : wr.alloc (.cells #[.int .i64 X0, .int .i64 X1, .int .i64 X2] 69) = wf at *
        clear hwf hf x0 x1 x2 cT
        have hfg : f ≠ g := by omega
        go_cut [8, 9] from 20 to 55 (fun x y wc => ∃ X Y : Int, x = .int .i64 X ∧ y = .int .i64 Y ∧ Blk wc f 69 #[.int .i64 X0, .int .i64 X1, .int .i64 X2] ∧ Own wc (b + 1) 69 3 (.slice A1 k1 d1) k1 ys ∧ Own wc w.heap.size 69 3 (.slice (some ⟨gl, 0, none⟩) m d) m xs ∧ Blk wc b 37 #[.slice (some ⟨gl, 0, none⟩) m d] ∧ Blk wc w.heap.size 37 #[.slice none 0 0] ∧ Blk wc (w.heap.size + 1) 37 #[.slice none 0 0] ∧ DrT w0 w wc g A n c)
        case first =>
          have cBF := BF.cell
          have lBF := BF.lt
          go_region_with (first | (have qq := G2; (go_at_call 14; refine (spec_Next (w0 := w0) (A := A) (n := n) (c := c) _ (DrT.dr (ws := w) (by ((repeat (first | exact HD | refine DrT.alloc ?_ _ | refine DrT.drewN ?_ _ | refine DrT.drew ?_ | refine DrT.set ?_ (by first | omega | (simp; omega)) _))))) hn).mono ?_; rintro e3 w3 ⟨r3, rfl, hr3, D3, G3⟩; have HD := DrT.step (ws := w) (by ((repeat (first | exact HD | refine DrT.alloc ?_ _ | refine DrT.drewN ?_ _ | refine DrT.drew ?_ | refine DrT.set ?_ (by first | omega | (simp; omega)) _)))) D3 G3; have z3 := HD.size; have R0 := Blk.keepG (g := g) (R0.q (by (repeat (first | assumption | exact Q.refl _ | refine Q.alloc ?_ _ | refine Q.drewN ?_ _ | refine Q.drew ?_)))) G3 (by omega); have cR0 := R0.cell; have fR0 := R0.frozen; have lR0 := R0.lt; have R1 := Blk.keepG (g := g) (R1.q (by (repeat (first | assumption | exact Q.refl _ | refine Q.alloc ?_ _ | refine Q.drewN ?_ _ | refine Q.drew ?_)))) G3 (by omega); have cR1 := R1.cell; have fR1 := R1.frozen; have lR1 := R1.lt; have T := Blk.keepG (g := g) (T.q (by (repeat (first | assumption | exact Q.refl _ | refine Q.alloc ?_ _ | refine Q.drewN ?_ _ | refine Q.drew ?_)))) G3 (by omega); have cT := T.cell; have fT := T.frozen; have lT := T.lt; have BF := Blk.keepG (g := g) (BF.q (by (repeat (first | assumption | exact Q.refl _ | refine Q.alloc ?_ _ | refine Q.drewN ?_ _ | refine Q.drew ?_)))) G3 (by omega); have cBF := BF.cell; have fBF := BF.frozen; have lBF := BF.lt); have hown := (hown.q (by (repeat (first | assumption | exact Q.refl _ | refine Q.alloc ?_ _ | refine Q.drewN ?_ _ | refine Q.drew ?_)))).keepD G3 hlt; have hown2 := (hown2.q (by (repeat (first | assumption | exact Q.refl _ | refine Q.alloc ?_ _ | refine Q.drewN ?_ _ | refine Q.drew ?_)))).keepD G3 hgb) | ((go_at_call 14; refine (spec_Next (w0 := w0) (A := A) (n := n) (c := c) _ (DrT.dr (ws := w) (by ((repeat (first | exact HD | refine DrT.alloc ?_ _ | refine DrT.drewN ?_ _ | refine DrT.drew ?_ | refine DrT.set ?_ (by first | omega | (simp; omega)) _))))) hn).mono ?_; rintro e2 w2 ⟨r2, rfl, hr2, D2, G2⟩; have HD := DrT.step (ws := w) (by ((repeat (first | exact HD | refine DrT.alloc ?_ _ | refine DrT.drewN ?_ _ | refine DrT.drew ?_ | refine DrT.set ?_ (by first | omega | (simp; omega)) _)))) D2 G2; have z2 := HD.size; have R0 := Blk.keepG (g := g) (R0.q (by (repeat (first | assumption | exact Q.refl _ | refine Q.alloc ?_ _ | refine Q.drewN ?_ _ | refine Q.drew ?_)))) G2 (by omega); have cR0 := R0.cell; have fR0 := R0.frozen; have lR0 := R0.lt; have R1 := Blk.keepG (g := g) (R1.q (by (repeat (first | assumption | exact Q.refl _ | refine Q.alloc ?_ _ | refine Q.drewN ?_ _ | refine Q.drew ?_)))) G2 (by omega); have cR1 := R1.cell; have fR1 := R1.frozen; have lR1 := R1.lt; have T := Blk.keepG (g := g) (T.q (by (repeat (first | assumption | exact Q.refl _ | refine Q.alloc ?_ _ | refine Q.drewN ?_ _ | refine Q.drew ?_)))) G2 (by omega); have cT := T.cell; have fT := T.frozen; have lT := T.lt; have BF := Blk.keepG (g := g) (BF.q (by (repeat (first | assumption | exact Q.refl _ | refine Q.alloc ?_ _ | refine Q.drewN ?_ _ | refine Q.drew ?_)))) G2 (by omega); have cBF := BF.cell; have fBF := BF.frozen; have lBF := BF.lt); have hown := (hown.q (by (repeat (first | assumption | exact Q.refl _ | refine Q.alloc ?_ _ | refine Q.drewN ?_ _ | refine Q.drew ?_)))).keepD G2 hlt; have hown2 := (hown2.q (by (repeat (first | assumption | exact Q.refl _ | refine Q.alloc ?_ _ | refine Q.drewN ?_ _ | refine Q.drew ?_)))).keepD G2 hgb))
          all_goals go_wp2_with fail
          all_goals go_meet
          all_goals exact ⟨_, _, rfl, rfl, BF.q (by (repeat (first | assumption | exact Q.refl _ | refine Q.alloc ?_ _ | refine Q.drewN ?_ _ | refine Q.drew ?_))), hown2.q (by (repeat (first | assumption | exact Q.refl _ | refine Q.alloc ?_ _ | refine Q.drewN ?_ _ | refine Q.drew ?_))), hown.q (by (repeat (first | assumption | exact Q.refl _ | refine Q.alloc ?_ _ | refine Q.drewN ?_ _ | refine Q.drew ?_))), T.q (by (repeat (first | assumption | exact Q.refl _ | refine Q.alloc ?_ _ | refine Q.drewN ?_ _ | refine Q.drew ?_))), R0.q (by (repeat (first | assumption | exact Q.refl _ | refine Q.alloc ?_ _ | refine Q.drewN ?_ _ | refine Q.drew ?_))), R1.q (by (repeat (first | assumption | exact Q.refl _ | refine Q.alloc ?_ _ | refine Q.drewN ?_ _ | refine Q.drew ?_))), (by ((repeat (first | exact HD | refine DrT.alloc ?_ _ | refine DrT.drewN ?_ _ | refine DrT.drew ?_ | refine DrT.set ?_ (by first | omega | (simp; omega)) _))))⟩
        case rest =>
          clear BF hown2 hown T R0 R1 HD
          obtain ⟨X, Y, rfl, rfl, BF, hown2, hown, T, R0, R1, HD⟩ := hcut
          have cBF := BF.cell
          have lBF := BF.lt
          have zc := HD.size
          have lT2 := T.lt
          go_wp2_with (at_builtin; refine appK elFix rfl _ _ rfl [_, _, _] rfl hown2 rfl (by simp) rfl _ _ rfl (by omega) (by omega) ?_; intro A' c' w' hown' hg' hgr')
          go_roundw
          case rel =>
            have hfar : Far (some ⟨gl, 0, none⟩) A1 := fun a a2 ha ha2 => by cases ha; have := (hown2.from _ ha2).1; simp only; omega
            exact ⟨k1 + 1, _, by omega, by go_num, ⟨_, _, _, rfl, hown'⟩, by simp; omega, hown.far hg' hfar, Blk.markO T hown2 (by decide) hg', Blk.markO R0 hown2 (by decide) hg', Blk.markO R1 hown2 (by decide) hg', DrT.markE HD hown2 (by omega) hg'⟩
          case measure => simp [intOf]; omega
      · obtain rfl : k1 = m := by omega
        have cR0 := R0.cell
        have fR0 := R0.frozen
        have lR0 := R0.lt
        have cR1 := R1.cell
        have fR1 := R1.frozen
        have lR1 := R1.lt
        go_wp2_with fail
        have F0 := ((R0.s1_0 (.slice (some ⟨gl, 0, none⟩) k1 d)).far (p := ⟨w.heap.size + 1, 0, none⟩) (by simp) (.slice A1 k1 d1)).cell
        have F1 := ((R1.far (p := ⟨w.heap.size, 0, none⟩) (by simp) (.slice (some ⟨gl, 0, none⟩) k1 d)).s1_0 (.slice A1 k1 d1)).cell
        have O1 := (hown.setFar (Own.ne_blk hown R0 (by decide)) 0 (.slice (some ⟨gl, 0, none⟩) k1 d)).setFar (Own.ne_blk hown R1 (by decide)) 0 (.slice A1 k1 d1)
        have O2 := (hown2.setFar (Own.ne_blk hown2 R0 (by decide)) 0 (.slice (some ⟨gl, 0, none⟩) k1 d)).setFar (Own.ne_blk hown2 R1 (by decide)) 0 (.slice A1 k1 d1)
        refine bodyPost_ret (v := .tuple #[.agg #[.slice (some ⟨gl, 0, none⟩) k1 d], .agg #[.slice A1 k1 d1]]) (by simp [results, Tryz.results15, go_sem, F0, F1]) rfl ⟨_, k1, d, xs, A1, k1, d1, ys, rfl, O1, O2.mono (by omega), by omega, by omega, ?_, ?_⟩
        · exact DrT.dr (ws := w) (by ((repeat (first | exact HD | refine DrT.alloc ?_ _ | refine DrT.drewN ?_ _ | refine DrT.drew ?_ | refine DrT.set ?_ (by first | omega | (simp; omega)) _))))
        · exact DrT.gr (w0 := w0) (g := g) (A := A) (n := n) (c := c) (by ((repeat (first | exact HD | refine DrT.alloc ?_ _ | refine DrT.drewN ?_ _ | refine DrT.drew ?_ | refine DrT.set ?_ (by first | omega | (simp; omega)) _))))
end Go.Proofs.YtkpdoikjfibflaaGreatDoor
namespace Go.Proofs.YtkpdoikjfibflaaGreatDoor
open Go.RowKit Go.WideShapes Go.ChangeShapes
def DrawIO (wz : World) (e : Ending) (w' : World) : Prop := ∃ (x y a b d s : Int) (B : Option Addr) (m c1 : Nat) (xs : List Int) (B2 : Option Addr) (m2 c2 : Nat) (ys : List Int), e = .returned (.tuple #[.agg #[.int .i64 x, .int .i64 y], .agg #[.int .i64 a, .int .i64 b, .int .i64 d, .int .i64 s], .agg #[.slice B m c1], .agg #[.slice B2 m2 c2]]) ∧ (Rd w' B xs ∧ xs.length = m * 3 ∧ m ≤ 41) ∧ (Rd w' B2 ys ∧ ys.length = m2 * 3 ∧ m2 ≤ 41) ∧ Q wz w'
end Go.Proofs.YtkpdoikjfibflaaGreatDoor
