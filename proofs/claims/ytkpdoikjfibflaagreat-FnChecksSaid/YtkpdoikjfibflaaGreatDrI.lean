/- Walks: the reference's draws of winds and of watches. No condition. Walks: the reference's draw of two tracks that are often near. No condition. Walks: the draw of the laws on incidents. No condition. -/
import Derived.Test.YtkpdoikjfibflaaGreatDrP
import Derived.Test.YtkpdoikjfibflaaGreatDrF
import Derived.Test.YtkpdoikjfibflaaGreatDrG
import Derived.BigRegion
namespace Go.Proofs.YtkpdoikjfibflaaGreat
open Go.RowKit Go.WideShapes Go.ChangeShapes
def DrawWd (w0 w : World) (g : Nat) (A : Option Addr) (n c : Nat) (e : Ending) (w' : World) : Prop := ∃ x y : Int, e = .returned (.agg #[.int .i64 x, .int .i64 y]) ∧ Dr w0 w' g A n c ∧ w.grownBy w' (some g)
def DrawWt (w0 w : World) (g : Nat) (A : Option Addr) (n c : Nat) (e : Ending) (w' : World) : Prop := ∃ x y z u : Int, e = .returned (.agg #[.int .i64 x, .int .i64 y, .int .i64 z, .int .i64 u]) ∧ Dr w0 w' g A n c ∧ w.grownBy w' (some g)
set_option maxRecDepth 100000 in
set_option maxHeartbeats 4000000 in
theorem spec_l08Draw {w0 w : World} {g : Nat} {A : Option Addr} {n c : Nat} (h : Dr w0 w g A n c) (hn : n ≤ 140737488355327) : Calls Tryz.prog 62 #[.pointer (some ⟨g, 0, none⟩)] w (DrawWd w0 w g A n c) := by
  have HD := DrT.start h
  have hlt := HD.glt
  have R0 := Blk.new w 33 #[.int .i64 0, .int .i64 0]
  go_enter Tryz.func62, Tryz.ntmps62
  go_wp2_with fail
  refine (spec_Next (w0 := w0) (A := A) (n := n) (c := c) _ (DrT.dr (ws := w) (by ((repeat (first | exact HD | refine DrT.alloc ?_ _ | refine DrT.drewN ?_ _ | refine DrT.drew ?_ | refine DrT.set ?_ (by first | omega | (simp; omega)) _))))) hn).mono ?_
  rintro e1 w1 ⟨r1, rfl, hr1, D1, G1⟩
  have HD := DrT.step (ws := w) (by ((repeat (first | exact HD | refine DrT.alloc ?_ _ | refine DrT.drewN ?_ _ | refine DrT.drew ?_ | refine DrT.set ?_ (by first | omega | (simp; omega)) _)))) D1 G1
  have z1 := HD.size
  replace R0 := Blk.keepG (g := g) (R0.q (by (repeat (first | assumption | exact Q.refl _ | refine Q.alloc ?_ _ | refine Q.drewN ?_ _ | refine Q.drew ?_)))) G1 (by omega)
  go_wp2_with fail
  refine (spec_Next (w0 := w0) (A := A) (n := n) (c := c) _ (DrT.dr (ws := w) (by ((repeat (first | exact HD | refine DrT.alloc ?_ _ | refine DrT.drewN ?_ _ | refine DrT.drew ?_ | refine DrT.set ?_ (by first | omega | (simp; omega)) _))))) hn).mono ?_
  rintro e2 w2 ⟨r2, rfl, hr2, D2, G2⟩
  have HD := DrT.step (ws := w) (by ((repeat (first | exact HD | refine DrT.alloc ?_ _ | refine DrT.drewN ?_ _ | refine DrT.drew ?_ | refine DrT.set ?_ (by first | omega | (simp; omega)) _)))) D2 G2
  have z2 := HD.size
  replace R0 := Blk.keepG (g := g) (R0.q (by (repeat (first | assumption | exact Q.refl _ | refine Q.alloc ?_ _ | refine Q.drewN ?_ _ | refine Q.drew ?_)))) G2 (by omega)
  have hbR := R0.lt
  obtain ⟨X, hX⟩ : ∃ X : Int, X = r1 - 3 := ⟨_, rfl⟩
  obtain ⟨Y, hY⟩ : ∃ Y : Int, Y = r2 - 3 := ⟨_, rfl⟩
  go_wp2_with fail
  rw [← hX, ← hY]
  have B := Blk.new w2 33 #[.int .i64 X, .int .i64 Y]
  replace HD := HD.alloc (.cells #[.int .i64 X, .int .i64 Y] 33)
  replace R0 := R0.alloc (.cells #[.int .i64 X, .int .i64 Y] 33)
  have hbz : w.heap.size ≤ w2.heap.size := z2
  obtain ⟨b, hb0⟩ : ∃ b, b = w2.heap.size := ⟨_, rfl⟩
  rw [← hb0] at B hbz hbR ⊢
  generalize hwb : w2.alloc (.cells #[.int .i64 X, .int .i64 Y] 33) = wb at *
  clear hb0 hwb hX hY D1 G1 D2 G2 hr1 hr2
  refine (spec_Next (w0 := w0) (A := A) (n := n) (c := c) _ (DrT.dr (ws := w) (by ((repeat (first | exact HD | refine DrT.alloc ?_ _ | refine DrT.drewN ?_ _ | refine DrT.drew ?_ | refine DrT.set ?_ (by first | omega | (simp; omega)) _))))) hn).mono ?_
  rintro e3 w3 ⟨r3, rfl, hr3, D3, G3⟩
  have HD := DrT.step (ws := w) (by ((repeat (first | exact HD | refine DrT.alloc ?_ _ | refine DrT.drewN ?_ _ | refine DrT.drew ?_ | refine DrT.set ?_ (by first | omega | (simp; omega)) _)))) D3 G3
  have z3 := HD.size
  replace R0 := Blk.keepG (g := g) (R0.q (by (repeat (first | assumption | exact Q.refl _ | refine Q.alloc ?_ _ | refine Q.drewN ?_ _ | refine Q.drew ?_)))) G3 (by omega)
  replace B := Blk.keepG (g := g) (B.q (by (repeat (first | assumption | exact Q.refl _ | refine Q.alloc ?_ _ | refine Q.drewN ?_ _ | refine Q.drew ?_)))) G3 (by omega)
  by_cases h3 : r3 = 0
  · subst h3
    clear hr3
    go_wp2_with fail
    refine (spec_Next (w0 := w0) (A := A) (n := n) (c := c) _ (DrT.dr (ws := w) (by ((repeat (first | exact HD | refine DrT.alloc ?_ _ | refine DrT.drewN ?_ _ | refine DrT.drew ?_ | refine DrT.set ?_ (by first | omega | (simp; omega)) _))))) hn).mono ?_
    rintro e4 w4 ⟨r4, rfl, hr4, D4, G4⟩
    have HD := DrT.step (ws := w) (by ((repeat (first | exact HD | refine DrT.alloc ?_ _ | refine DrT.drewN ?_ _ | refine DrT.drew ?_ | refine DrT.set ?_ (by first | omega | (simp; omega)) _)))) D4 G4
    have z4 := HD.size
    replace R0 := Blk.keepG (g := g) (R0.q (by (repeat (first | assumption | exact Q.refl _ | refine Q.alloc ?_ _ | refine Q.drewN ?_ _ | refine Q.drew ?_)))) G4 (by omega)
    replace B := Blk.keepG (g := g) (B.q (by (repeat (first | assumption | exact Q.refl _ | refine Q.alloc ?_ _ | refine Q.drewN ?_ _ | refine Q.drew ?_)))) G4 (by omega)
    go_wp2_with fail
    refine (spec_Next (w0 := w0) (A := A) (n := n) (c := c) _ (DrT.dr (ws := w) (by ((repeat (first | exact HD | refine DrT.alloc ?_ _ | refine DrT.drewN ?_ _ | refine DrT.drew ?_ | refine DrT.set ?_ (by first | omega | (simp; omega)) _))))) hn).mono ?_
    rintro e5 w5 ⟨r5, rfl, hr5, D5, G5⟩
    have HD := DrT.step (ws := w) (by ((repeat (first | exact HD | refine DrT.alloc ?_ _ | refine DrT.drewN ?_ _ | refine DrT.drew ?_ | refine DrT.set ?_ (by first | omega | (simp; omega)) _)))) D5 G5
    have z5 := HD.size
    replace R0 := Blk.keepG (g := g) (R0.q (by (repeat (first | assumption | exact Q.refl _ | refine Q.alloc ?_ _ | refine Q.drewN ?_ _ | refine Q.drew ?_)))) G5 (by omega)
    replace B := Blk.keepG (g := g) (B.q (by (repeat (first | assumption | exact Q.refl _ | refine Q.alloc ?_ _ | refine Q.drewN ?_ _ | refine Q.drew ?_)))) G5 (by omega)
    have cB := B.cell
    have fB := B.frozen
    have lB := B.lt
    replace B := B.s2 (.int .i64 (r4 - 1000)) (.int .i64 (r5 - 1000))
    replace R0 := (R0.far (p := ⟨b, 0, none⟩) (by simp only; omega) (.int .i64 (r4 - 1000))).far (p := ⟨b, 1, none⟩) (by simp only; omega) (.int .i64 (r5 - 1000))
    replace HD := (HD.set (b := b) (i := 0) (by omega) (.int .i64 (r4 - 1000))).set (b := b) (i := 1) (by omega) (.int .i64 (r5 - 1000))
    clear D4 G4 D5 G5
    go_upto_region 4 with (fail)
    obtain ⟨X, hX⟩ : ∃ X : Int, X = r4 - 1000 := ⟨_, rfl⟩
    obtain ⟨Y, hY⟩ : ∃ Y : Int, Y = r5 - 1000 := ⟨_, rfl⟩
    rw [← hX, ← hY] at B R0 HD ⊢
    generalize (w5.setCell ⟨b, 0, none⟩ (.int .i64 X)).setCell ⟨b, 1, none⟩ (.int .i64 Y) = wx at *
    clear hX hY hr4 hr5 cB fB lB
    have cB := B.cell
    have fB := B.frozen
    have lB := B.lt
    have cR := R0.cell
    have fR := R0.frozen
    have lR := R0.lt
    clear D3 G3
    by_cases hx0 : X = 0
    · subst hx0
      by_cases hy0 : Y = 0
      · subst hy0
        go_wp2_with fail
        have F := ((R0.far (p := ⟨b, 1, none⟩) (by simp only; omega) (.int .i64 (-1))).s2 (.int .i64 0) (.int .i64 (-1))).cell
        refine bodyPost_ret (v := .agg #[.int .i64 0, .int .i64 (-1)]) (by simp [results, Tryz.results62, go_sem, F]) rfl ⟨0, -1, rfl, ?_, ?_⟩
        · exact DrT.dr (ws := w) (by ((repeat (first | exact HD | refine DrT.alloc ?_ _ | refine DrT.drewN ?_ _ | refine DrT.drew ?_ | refine DrT.set ?_ (by first | omega | (simp; omega)) _))))
        · exact DrT.gr (w0 := w0) (g := g) (A := A) (n := n) (c := c) (by ((repeat (first | exact HD | refine DrT.alloc ?_ _ | refine DrT.drewN ?_ _ | refine DrT.drew ?_ | refine DrT.set ?_ (by first | omega | (simp; omega)) _))))
      · skip
        go_wp2_with fail
        have F := (R0.s2 (.int .i64 0) (.int .i64 Y)).cell
        refine bodyPost_ret (v := .agg #[.int .i64 0, .int .i64 Y]) (by simp [results, Tryz.results62, go_sem, F]) rfl ⟨0, Y, rfl, ?_, ?_⟩
        · exact DrT.dr (ws := w) (by ((repeat (first | exact HD | refine DrT.alloc ?_ _ | refine DrT.drewN ?_ _ | refine DrT.drew ?_ | refine DrT.set ?_ (by first | omega | (simp; omega)) _))))
        · exact DrT.gr (w0 := w0) (g := g) (A := A) (n := n) (c := c) (by ((repeat (first | exact HD | refine DrT.alloc ?_ _ | refine DrT.drewN ?_ _ | refine DrT.drew ?_ | refine DrT.set ?_ (by first | omega | (simp; omega)) _))))
    · skip
      go_wp2_with fail
      have F := (R0.s2 (.int .i64 X) (.int .i64 Y)).cell
      refine bodyPost_ret (v := .agg #[.int .i64 X, .int .i64 Y]) (by simp [results, Tryz.results62, go_sem, F]) rfl ⟨X, Y, rfl, ?_, ?_⟩
      · exact DrT.dr (ws := w) (by ((repeat (first | exact HD | refine DrT.alloc ?_ _ | refine DrT.drewN ?_ _ | refine DrT.drew ?_ | refine DrT.set ?_ (by first | omega | (simp; omega)) _))))
      · exact DrT.gr (w0 := w0) (g := g) (A := A) (n := n) (c := c) (by ((repeat (first | exact HD | refine DrT.alloc ?_ _ | refine DrT.drewN ?_ _ | refine DrT.drew ?_ | refine DrT.set ?_ (by first | omega | (simp; omega)) _))))
  · have b3 : (r3 == 0) = false := by simpa using h3
    clear hr3 h3
    have cB := B.cell
    have fB := B.frozen
    have lB := B.lt
    have cR := R0.cell
    have fR := R0.frozen
    have lR := R0.lt
    clear D3 G3
    by_cases hx0 : X = 0
    · subst hx0
      by_cases hy0 : Y = 0
      · subst hy0
        go_wp2_with fail
        have F := ((R0.far (p := ⟨b, 1, none⟩) (by simp only; omega) (.int .i64 (-1))).s2 (.int .i64 0) (.int .i64 (-1))).cell
        refine bodyPost_ret (v := .agg #[.int .i64 0, .int .i64 (-1)]) (by simp [results, Tryz.results62, go_sem, F]) rfl ⟨0, -1, rfl, ?_, ?_⟩
        · exact DrT.dr (ws := w) (by ((repeat (first | exact HD | refine DrT.alloc ?_ _ | refine DrT.drewN ?_ _ | refine DrT.drew ?_ | refine DrT.set ?_ (by first | omega | (simp; omega)) _))))
        · exact DrT.gr (w0 := w0) (g := g) (A := A) (n := n) (c := c) (by ((repeat (first | exact HD | refine DrT.alloc ?_ _ | refine DrT.drewN ?_ _ | refine DrT.drew ?_ | refine DrT.set ?_ (by first | omega | (simp; omega)) _))))
      · skip
        go_wp2_with fail
        have F := (R0.s2 (.int .i64 0) (.int .i64 Y)).cell
        refine bodyPost_ret (v := .agg #[.int .i64 0, .int .i64 Y]) (by simp [results, Tryz.results62, go_sem, F]) rfl ⟨0, Y, rfl, ?_, ?_⟩
        · exact DrT.dr (ws := w) (by ((repeat (first | exact HD | refine DrT.alloc ?_ _ | refine DrT.drewN ?_ _ | refine DrT.drew ?_ | refine DrT.set ?_ (by first | omega | (simp; omega)) _))))
        · exact DrT.gr (w0 := w0) (g := g) (A := A) (n := n) (c := c) (by ((repeat (first | exact HD | refine DrT.alloc ?_ _ | refine DrT.drewN ?_ _ | refine DrT.drew ?_ | refine DrT.set ?_ (by first | omega | (simp; omega)) _))))
    · skip
      go_wp2_with fail
      have F := (R0.s2 (.int .i64 X) (.int .i64 Y)).cell
      refine bodyPost_ret (v := .agg #[.int .i64 X, .int .i64 Y]) (by simp [results, Tryz.results62, go_sem, F]) rfl ⟨X, Y, rfl, ?_, ?_⟩
      · exact DrT.dr (ws := w) (by ((repeat (first | exact HD | refine DrT.alloc ?_ _ | refine DrT.drewN ?_ _ | refine DrT.drew ?_ | refine DrT.set ?_ (by first | omega | (simp; omega)) _))))
      · exact DrT.gr (w0 := w0) (g := g) (A := A) (n := n) (c := c) (by ((repeat (first | exact HD | refine DrT.alloc ?_ _ | refine DrT.drewN ?_ _ | refine DrT.drew ?_ | refine DrT.set ?_ (by first | omega | (simp; omega)) _))))
set_option maxRecDepth 100000 in
set_option maxHeartbeats 4000000 in
theorem spec_l08DrawAny {w0 w : World} {g : Nat} {A : Option Addr} {n c : Nat} (h : Dr w0 w g A n c) (hn : n ≤ 140737488355327) : Calls Tryz.prog 38 #[.pointer (some ⟨g, 0, none⟩)] w (DrawWd w0 w g A n c) := by
  have HD := DrT.start h
  have hlt := HD.glt
  have R0 := Blk.new w 33 #[.int .i64 0, .int .i64 0]
  go_enter Tryz.func38, Tryz.ntmps38
  go_wp2_with fail
  refine (spec_Next (w0 := w0) (A := A) (n := n) (c := c) _ (DrT.dr (ws := w) (by ((repeat (first | exact HD | refine DrT.alloc ?_ _ | refine DrT.drewN ?_ _ | refine DrT.drew ?_ | refine DrT.set ?_ (by first | omega | (simp; omega)) _))))) hn).mono ?_
  rintro e1 w1 ⟨r1, rfl, hr1, D1, G1⟩
  have HD := DrT.step (ws := w) (by ((repeat (first | exact HD | refine DrT.alloc ?_ _ | refine DrT.drewN ?_ _ | refine DrT.drew ?_ | refine DrT.set ?_ (by first | omega | (simp; omega)) _)))) D1 G1
  have z1 := HD.size
  replace R0 := Blk.keepG (g := g) (R0.q (by (repeat (first | assumption | exact Q.refl _ | refine Q.alloc ?_ _ | refine Q.drewN ?_ _ | refine Q.drew ?_)))) G1 (by omega)
  by_cases h1 : r1 = 0
  · subst h1
    clear hr1
    go_wp2_with ((go_at_call 61; refine (spec_Next (w0 := w0) (A := A) (n := n) (c := c) _ (DrT.dr (ws := w) (by ((repeat (first | exact HD | refine DrT.alloc ?_ _ | refine DrT.drewN ?_ _ | refine DrT.drew ?_ | refine DrT.set ?_ (by first | omega | (simp; omega)) _))))) hn).mono ?_; rintro e2 w2 ⟨r2, rfl, hr2, D2, G2⟩; have HD := DrT.step (ws := w) (by ((repeat (first | exact HD | refine DrT.alloc ?_ _ | refine DrT.drewN ?_ _ | refine DrT.drew ?_ | refine DrT.set ?_ (by first | omega | (simp; omega)) _)))) D2 G2; have z2 := HD.size; have R0 := Blk.keepG (g := g) (R0.q (by (repeat (first | assumption | exact Q.refl _ | refine Q.alloc ?_ _ | refine Q.drewN ?_ _ | refine Q.drew ?_)))) G2 (by omega); have cR0 := R0.cell; have fR0 := R0.frozen; have lR0 := R0.lt; obtain ⟨m2, rfl⟩ := Int.eq_ofNat_of_zero_le hr2.1; obtain ⟨v2, hv2, hvl2, hm2, hn2⟩ := pick3 0 1001 (-1001) hr2; (first | (have PP := (grown_box G2 (by omega)).cell) | (have PP := (grown_boxD G2 (by omega)).cell) | skip)))
    have F := (R0.s2 (.int .i64 v2) (.int .i64 0)).cell
    refine bodyPost_ret (v := .agg #[.int .i64 v2, .int .i64 0]) (by simp [results, Tryz.results38, go_sem, F]) rfl ⟨v2, 0, rfl, ?_, ?_⟩
    · exact DrT.dr (ws := w) (by ((repeat (first | exact HD | refine DrT.alloc ?_ _ | refine DrT.drewN ?_ _ | refine DrT.drew ?_ | refine DrT.set ?_ (by first | omega | (simp; omega)) _))))
    · exact DrT.gr (w0 := w0) (g := g) (A := A) (n := n) (c := c) (by ((repeat (first | exact HD | refine DrT.alloc ?_ _ | refine DrT.drewN ?_ _ | refine DrT.drew ?_ | refine DrT.set ?_ (by first | omega | (simp; omega)) _))))
  · have b1 : (r1 == 0) = false := by simpa using h1
    clear h1 hr1
    go_wp2_with fail
    refine (spec_l08Draw (w0 := w0) (A := A) (n := n) (c := c) (DrT.dr (ws := w) (by ((repeat (first | exact HD | refine DrT.alloc ?_ _ | refine DrT.drewN ?_ _ | refine DrT.drew ?_ | refine DrT.set ?_ (by first | omega | (simp; omega)) _))))) hn).mono ?_
    rintro e2 w2 ⟨x, y, rfl, D2, G2⟩
    replace HD := DrT.step (ws := w) (by ((repeat (first | exact HD | refine DrT.alloc ?_ _ | refine DrT.drewN ?_ _ | refine DrT.drew ?_ | refine DrT.set ?_ (by first | omega | (simp; omega)) _)))) D2 G2
    have z2 := HD.size
    replace R0 := Blk.keepG (g := g) (R0.q (by (repeat (first | assumption | exact Q.refl _ | refine Q.alloc ?_ _ | refine Q.drewN ?_ _ | refine Q.drew ?_)))) G2 (by omega)
    have cR := R0.cell
    have fR := R0.frozen
    have lR := R0.lt
    go_wp2_with fail
    have F := (R0.s2 (.int .i64 x) (.int .i64 y)).cell
    refine bodyPost_ret (v := .agg #[.int .i64 x, .int .i64 y]) (by simp [results, Tryz.results38, go_sem, F]) rfl ⟨x, y, rfl, ?_, ?_⟩
    · exact DrT.dr (ws := w) (by ((repeat (first | exact HD | refine DrT.alloc ?_ _ | refine DrT.drewN ?_ _ | refine DrT.drew ?_ | refine DrT.set ?_ (by first | omega | (simp; omega)) _))))
    · exact DrT.gr (w0 := w0) (g := g) (A := A) (n := n) (c := c) (by ((repeat (first | exact HD | refine DrT.alloc ?_ _ | refine DrT.drewN ?_ _ | refine DrT.drew ?_ | refine DrT.set ?_ (by first | omega | (simp; omega)) _))))
theorem Blk.s4_0 {w : World} {b : Nat} {T : TypeId} {x y z u : Value} (h : Blk w b T #[x, y, z, u]) (v : Value) : Blk (w.setCell ⟨b, 0, none⟩ v) b T #[v, y, z, u] := by simpa using h.set_ 0 v
theorem Blk.s4_1 {w : World} {b : Nat} {T : TypeId} {x y z u : Value} (h : Blk w b T #[x, y, z, u]) (v : Value) : Blk (w.setCell ⟨b, 1, none⟩ v) b T #[x, v, z, u] := by simpa using h.set_ 1 v
theorem Blk.s4_2 {w : World} {b : Nat} {T : TypeId} {x y z u : Value} (h : Blk w b T #[x, y, z, u]) (v : Value) : Blk (w.setCell ⟨b, 2, none⟩ v) b T #[x, y, v, u] := by simpa using h.set_ 2 v
theorem Blk.s4_3 {w : World} {b : Nat} {T : TypeId} {x y z u : Value} (h : Blk w b T #[x, y, z, u]) (v : Value) : Blk (w.setCell ⟨b, 3, none⟩ v) b T #[x, y, z, v] := by simpa using h.set_ 3 v
set_option maxRecDepth 100000 in
set_option maxHeartbeats 8000000 in
theorem spec_l12Draw {w0 w : World} {g : Nat} {A : Option Addr} {n c : Nat} (h : Dr w0 w g A n c) (hn : n ≤ 140737488355327) : Calls Tryz.prog 39 #[.pointer (some ⟨g, 0, none⟩)] w (DrawWt w0 w g A n c) := by
  have HD := DrT.start h
  have hlt := HD.glt
  have R0 := Blk.new w 35 #[.int .i64 0, .int .i64 0, .int .i64 0, .int .i64 0]
  go_enter Tryz.func39, Tryz.ntmps39
  go_wp2_with fail
  refine (spec_Next (w0 := w0) (A := A) (n := n) (c := c) _ (DrT.dr (ws := w) (by ((repeat (first | exact HD | refine DrT.alloc ?_ _ | refine DrT.drewN ?_ _ | refine DrT.drew ?_ | refine DrT.set ?_ (by first | omega | (simp; omega)) _))))) hn).mono ?_
  rintro e1 w1 ⟨r1, rfl, hr1, D1, G1⟩
  have HD := DrT.step (ws := w) (by ((repeat (first | exact HD | refine DrT.alloc ?_ _ | refine DrT.drewN ?_ _ | refine DrT.drew ?_ | refine DrT.set ?_ (by first | omega | (simp; omega)) _)))) D1 G1
  have z1 := HD.size
  replace R0 := Blk.keepG (g := g) (R0.q (by (repeat (first | assumption | exact Q.refl _ | refine Q.alloc ?_ _ | refine Q.drewN ?_ _ | refine Q.drew ?_)))) G1 (by omega)
  go_wp2_with fail
  refine (spec_Next (w0 := w0) (A := A) (n := n) (c := c) _ (DrT.dr (ws := w) (by ((repeat (first | exact HD | refine DrT.alloc ?_ _ | refine DrT.drewN ?_ _ | refine DrT.drew ?_ | refine DrT.set ?_ (by first | omega | (simp; omega)) _))))) hn).mono ?_
  rintro e2 w2 ⟨r2, rfl, hr2, D2, G2⟩
  have HD := DrT.step (ws := w) (by ((repeat (first | exact HD | refine DrT.alloc ?_ _ | refine DrT.drewN ?_ _ | refine DrT.drew ?_ | refine DrT.set ?_ (by first | omega | (simp; omega)) _)))) D2 G2
  have z2 := HD.size
  replace R0 := Blk.keepG (g := g) (R0.q (by (repeat (first | assumption | exact Q.refl _ | refine Q.alloc ?_ _ | refine Q.drewN ?_ _ | refine Q.drew ?_)))) G2 (by omega)
  go_wp2_with fail
  refine (spec_Next (w0 := w0) (A := A) (n := n) (c := c) _ (DrT.dr (ws := w) (by ((repeat (first | exact HD | refine DrT.alloc ?_ _ | refine DrT.drewN ?_ _ | refine DrT.drew ?_ | refine DrT.set ?_ (by first | omega | (simp; omega)) _))))) hn).mono ?_
  rintro e3 w3 ⟨r3, rfl, hr3, D3, G3⟩
  have HD := DrT.step (ws := w) (by ((repeat (first | exact HD | refine DrT.alloc ?_ _ | refine DrT.drewN ?_ _ | refine DrT.drew ?_ | refine DrT.set ?_ (by first | omega | (simp; omega)) _)))) D3 G3
  have z3 := HD.size
  replace R0 := Blk.keepG (g := g) (R0.q (by (repeat (first | assumption | exact Q.refl _ | refine Q.alloc ?_ _ | refine Q.drewN ?_ _ | refine Q.drew ?_)))) G3 (by omega)
  go_wp2_with fail
  refine (spec_Next (w0 := w0) (A := A) (n := n) (c := c) _ (DrT.dr (ws := w) (by ((repeat (first | exact HD | refine DrT.alloc ?_ _ | refine DrT.drewN ?_ _ | refine DrT.drew ?_ | refine DrT.set ?_ (by first | omega | (simp; omega)) _))))) hn).mono ?_
  rintro e4 w4 ⟨r4, rfl, hr4, D4, G4⟩
  have HD := DrT.step (ws := w) (by ((repeat (first | exact HD | refine DrT.alloc ?_ _ | refine DrT.drewN ?_ _ | refine DrT.drew ?_ | refine DrT.set ?_ (by first | omega | (simp; omega)) _)))) D4 G4
  have z4 := HD.size
  replace R0 := Blk.keepG (g := g) (R0.q (by (repeat (first | assumption | exact Q.refl _ | refine Q.alloc ?_ _ | refine Q.drewN ?_ _ | refine Q.drew ?_)))) G4 (by omega)
  obtain ⟨X, hX⟩ : ∃ X : Int, X = 20 + r1 := ⟨_, rfl⟩
  obtain ⟨U, hU⟩ : ∃ U : Int, U = 200 + r4 := ⟨_, rfl⟩
  have lR0 := R0.lt
  go_wp2_with fail
  rw [← hX, ← hU]
  have B := Blk.new w4 35 #[.int .i64 X, .int .i64 r2, .int .i64 r3, .int .i64 U]
  replace HD := HD.alloc (.cells #[.int .i64 X, .int .i64 r2, .int .i64 r3, .int .i64 U] 35)
  replace R0 := R0.alloc (.cells #[.int .i64 X, .int .i64 r2, .int .i64 r3, .int .i64 U] 35)
  obtain ⟨b, hb0⟩ : ∃ b, b = w4.heap.size := ⟨_, rfl⟩
  have hbz : w.heap.size < b := by omega
  rw [← hb0] at B ⊢
  generalize hwb : w4.alloc (.cells #[.int .i64 X, .int .i64 r2, .int .i64 r3, .int .i64 U] 35) = wb at *
  clear hb0 hwb hX hU lR0 D1 G1 D2 G2 D3 G3 D4 G4 hr1 hr2 hr3 hr4 z1 z2 z3 z4
  refine (spec_Next (w0 := w0) (A := A) (n := n) (c := c) _ (DrT.dr (ws := w) (by ((repeat (first | exact HD | refine DrT.alloc ?_ _ | refine DrT.drewN ?_ _ | refine DrT.drew ?_ | refine DrT.set ?_ (by first | omega | (simp; omega)) _))))) hn).mono ?_
  rintro e5 w5 ⟨r5, rfl, hr5, D5, G5⟩
  have HD := DrT.step (ws := w) (by ((repeat (first | exact HD | refine DrT.alloc ?_ _ | refine DrT.drewN ?_ _ | refine DrT.drew ?_ | refine DrT.set ?_ (by first | omega | (simp; omega)) _)))) D5 G5
  have z5 := HD.size
  replace R0 := Blk.keepG (g := g) (R0.q (by (repeat (first | assumption | exact Q.refl _ | refine Q.alloc ?_ _ | refine Q.drewN ?_ _ | refine Q.drew ?_)))) G5 (by omega)
  replace B := Blk.keepG (g := g) (B.q (by (repeat (first | assumption | exact Q.refl _ | refine Q.alloc ?_ _ | refine Q.drewN ?_ _ | refine Q.drew ?_)))) G5 (by omega)
  have hbg : b ≠ g := by omega
  clear D5 G5
  go_upto_block 0 with (fail)
  go_cut [] from 17 (fun wc => ∃ x y z u : Int, Blk wc b 35 #[.int .i64 x, .int .i64 y, .int .i64 z, .int .i64 u] ∧ Blk wc w.heap.size 35 #[.int .i64 0, .int .i64 0, .int .i64 0, .int .i64 0] ∧ DrT w0 w wc g A n c)
  case first =>
    have cB := B.cell
    have fB := B.frozen
    by_cases h0 : r5 = 0
    · subst h0
      clear hr5
      go_wp2_with ((go_at_call 61; refine (spec_Next (w0 := w0) (A := A) (n := n) (c := c) _ (DrT.dr (ws := w) (by ((repeat (first | exact HD | refine DrT.alloc ?_ _ | refine DrT.drewN ?_ _ | refine DrT.drew ?_ | refine DrT.set ?_ (by first | omega | (simp; omega)) _))))) hn).mono ?_; rintro e6 w6 ⟨r6, rfl, hr6, D6, G6⟩; have HD := DrT.step (ws := w) (by ((repeat (first | exact HD | refine DrT.alloc ?_ _ | refine DrT.drewN ?_ _ | refine DrT.drew ?_ | refine DrT.set ?_ (by first | omega | (simp; omega)) _)))) D6 G6; have z6 := HD.size; have B := Blk.keepG (g := g) (B.q (by (repeat (first | assumption | exact Q.refl _ | refine Q.alloc ?_ _ | refine Q.drewN ?_ _ | refine Q.drew ?_)))) G6 (by omega); have cB := B.cell; have fB := B.frozen; have lB := B.lt; have R0 := Blk.keepG (g := g) (R0.q (by (repeat (first | assumption | exact Q.refl _ | refine Q.alloc ?_ _ | refine Q.drewN ?_ _ | refine Q.drew ?_)))) G6 (by omega); have cR0 := R0.cell; have fR0 := R0.frozen; have lR0 := R0.lt; obtain ⟨m6, rfl⟩ := Int.eq_ofNat_of_zero_le hr6.1; obtain ⟨v6, hv6, hvl6, hm6, hn6⟩ := pick3 0 1000 1001 hr6; (first | (have PP := (grown_box G6 (by omega)).cell) | (have PP := (grown_boxD G6 (by omega)).cell) | skip)))
      all_goals go_meet
      all_goals exact ⟨_, _, _, _, (B.s4_0 _).q (by (repeat (first | assumption | exact Q.refl _ | refine Q.alloc ?_ _ | refine Q.drewN ?_ _ | refine Q.drew ?_))), (R0.far (p := ⟨b, 0, none⟩) (by simp only; omega) _).q (by (repeat (first | assumption | exact Q.refl _ | refine Q.alloc ?_ _ | refine Q.drewN ?_ _ | refine Q.drew ?_))), (HD.set (b := b) (i := 0) (by omega) _).q (by (repeat (first | assumption | exact Q.refl _ | refine Q.alloc ?_ _ | refine Q.drewN ?_ _ | refine Q.drew ?_)))⟩
    · have b0 : (r5 == 0) = false := by simpa using h0
      by_cases h1 : r5 = 1
      · subst h1
        clear hr5 h0
        go_wp2_with ((go_at_call 61; refine (spec_Next (w0 := w0) (A := A) (n := n) (c := c) _ (DrT.dr (ws := w) (by ((repeat (first | exact HD | refine DrT.alloc ?_ _ | refine DrT.drewN ?_ _ | refine DrT.drew ?_ | refine DrT.set ?_ (by first | omega | (simp; omega)) _))))) hn).mono ?_; rintro e6 w6 ⟨r6, rfl, hr6, D6, G6⟩; have HD := DrT.step (ws := w) (by ((repeat (first | exact HD | refine DrT.alloc ?_ _ | refine DrT.drewN ?_ _ | refine DrT.drew ?_ | refine DrT.set ?_ (by first | omega | (simp; omega)) _)))) D6 G6; have z6 := HD.size; have B := Blk.keepG (g := g) (B.q (by (repeat (first | assumption | exact Q.refl _ | refine Q.alloc ?_ _ | refine Q.drewN ?_ _ | refine Q.drew ?_)))) G6 (by omega); have cB := B.cell; have fB := B.frozen; have lB := B.lt; have R0 := Blk.keepG (g := g) (R0.q (by (repeat (first | assumption | exact Q.refl _ | refine Q.alloc ?_ _ | refine Q.drewN ?_ _ | refine Q.drew ?_)))) G6 (by omega); have cR0 := R0.cell; have fR0 := R0.frozen; have lR0 := R0.lt; obtain ⟨m6, rfl⟩ := Int.eq_ofNat_of_zero_le hr6.1; obtain ⟨v6, hv6, hvl6, hm6, hn6⟩ := pick3 (-1) 10000 10001 hr6; (first | (have PP := (grown_box G6 (by omega)).cell) | (have PP := (grown_boxD G6 (by omega)).cell) | skip)))
        all_goals go_meet
        all_goals exact ⟨_, _, _, _, (B.s4_2 _).q (by (repeat (first | assumption | exact Q.refl _ | refine Q.alloc ?_ _ | refine Q.drewN ?_ _ | refine Q.drew ?_))), (R0.far (p := ⟨b, 2, none⟩) (by simp only; omega) _).q (by (repeat (first | assumption | exact Q.refl _ | refine Q.alloc ?_ _ | refine Q.drewN ?_ _ | refine Q.drew ?_))), (HD.set (b := b) (i := 2) (by omega) _).q (by (repeat (first | assumption | exact Q.refl _ | refine Q.alloc ?_ _ | refine Q.drewN ?_ _ | refine Q.drew ?_)))⟩
      · have b1 : (r5 == 1) = false := by simpa using h1
        by_cases h2 : r5 = 2
        · subst h2
          clear hr5 h0 h1
          go_wp2_with ((go_at_call 61; refine (spec_Next (w0 := w0) (A := A) (n := n) (c := c) _ (DrT.dr (ws := w) (by ((repeat (first | exact HD | refine DrT.alloc ?_ _ | refine DrT.drewN ?_ _ | refine DrT.drew ?_ | refine DrT.set ?_ (by first | omega | (simp; omega)) _))))) hn).mono ?_; rintro e6 w6 ⟨r6, rfl, hr6, D6, G6⟩; have HD := DrT.step (ws := w) (by ((repeat (first | exact HD | refine DrT.alloc ?_ _ | refine DrT.drewN ?_ _ | refine DrT.drew ?_ | refine DrT.set ?_ (by first | omega | (simp; omega)) _)))) D6 G6; have z6 := HD.size; have B := Blk.keepG (g := g) (B.q (by (repeat (first | assumption | exact Q.refl _ | refine Q.alloc ?_ _ | refine Q.drewN ?_ _ | refine Q.drew ?_)))) G6 (by omega); have cB := B.cell; have fB := B.frozen; have lB := B.lt; have R0 := Blk.keepG (g := g) (R0.q (by (repeat (first | assumption | exact Q.refl _ | refine Q.alloc ?_ _ | refine Q.drewN ?_ _ | refine Q.drew ?_)))) G6 (by omega); have cR0 := R0.cell; have fR0 := R0.frozen; have lR0 := R0.lt; obtain ⟨m6, rfl⟩ := Int.eq_ofNat_of_zero_le hr6.1; obtain ⟨v6, hv6, hvl6, hm6, hn6⟩ := pick4 0 1 60000 60001 hr6; (first | (have PP := (grown_box G6 (by omega)).cell) | (have PP := (grown_boxD G6 (by omega)).cell) | skip)))
          all_goals go_meet
          all_goals exact ⟨_, _, _, _, (B.s4_3 _).q (by (repeat (first | assumption | exact Q.refl _ | refine Q.alloc ?_ _ | refine Q.drewN ?_ _ | refine Q.drew ?_))), (R0.far (p := ⟨b, 3, none⟩) (by simp only; omega) _).q (by (repeat (first | assumption | exact Q.refl _ | refine Q.alloc ?_ _ | refine Q.drewN ?_ _ | refine Q.drew ?_))), (HD.set (b := b) (i := 3) (by omega) _).q (by (repeat (first | assumption | exact Q.refl _ | refine Q.alloc ?_ _ | refine Q.drewN ?_ _ | refine Q.drew ?_)))⟩
        · have b2 : (r5 == 2) = false := by simpa using h2
          by_cases h3 : r5 = 3
          · subst h3
            clear hr5 h0 h1 h2
            go_wp2_with ((go_at_call 61; refine (spec_Next (w0 := w0) (A := A) (n := n) (c := c) _ (DrT.dr (ws := w) (by ((repeat (first | exact HD | refine DrT.alloc ?_ _ | refine DrT.drewN ?_ _ | refine DrT.drew ?_ | refine DrT.set ?_ (by first | omega | (simp; omega)) _))))) hn).mono ?_; rintro e6 w6 ⟨r6, rfl, hr6, D6, G6⟩; have HD := DrT.step (ws := w) (by ((repeat (first | exact HD | refine DrT.alloc ?_ _ | refine DrT.drewN ?_ _ | refine DrT.drew ?_ | refine DrT.set ?_ (by first | omega | (simp; omega)) _)))) D6 G6; have z6 := HD.size; have B := Blk.keepG (g := g) (B.q (by (repeat (first | assumption | exact Q.refl _ | refine Q.alloc ?_ _ | refine Q.drewN ?_ _ | refine Q.drew ?_)))) G6 (by omega); have cB := B.cell; have fB := B.frozen; have lB := B.lt; have R0 := Blk.keepG (g := g) (R0.q (by (repeat (first | assumption | exact Q.refl _ | refine Q.alloc ?_ _ | refine Q.drewN ?_ _ | refine Q.drew ?_)))) G6 (by omega); have cR0 := R0.cell; have fR0 := R0.frozen; have lR0 := R0.lt; obtain ⟨m6, rfl⟩ := Int.eq_ofNat_of_zero_le hr6.1; obtain ⟨v6, hv6, hvl6, hm6, hn6⟩ := pick3 (-1) 60000 60001 hr6; (first | (have PP := (grown_box G6 (by omega)).cell) | (have PP := (grown_boxD G6 (by omega)).cell) | skip)))
            all_goals go_meet
            all_goals exact ⟨_, _, _, _, (B.s4_1 _).q (by (repeat (first | assumption | exact Q.refl _ | refine Q.alloc ?_ _ | refine Q.drewN ?_ _ | refine Q.drew ?_))), (R0.far (p := ⟨b, 1, none⟩) (by simp only; omega) _).q (by (repeat (first | assumption | exact Q.refl _ | refine Q.alloc ?_ _ | refine Q.drewN ?_ _ | refine Q.drew ?_))), (HD.set (b := b) (i := 1) (by omega) _).q (by (repeat (first | assumption | exact Q.refl _ | refine Q.alloc ?_ _ | refine Q.drewN ?_ _ | refine Q.drew ?_)))⟩
          · have b3 : (r5 == 3) = false := by simpa using h3
            clear hr5 h0 h1 h2 h3
            go_wp2_with fail
            go_meet
            exact ⟨_, _, _, _, B, R0, HD⟩
  case rest =>
    clear R0 HD B
    obtain ⟨x, y, z, u, B, R0, HD⟩ := hcut
    have cB := B.cell
    have lB := B.lt
    have cR := R0.cell
    have fR := R0.frozen
    go_wp2_with fail
    have F := (R0.st4 (.int .i64 x) (.int .i64 y) (.int .i64 z) (.int .i64 u)).cell
    refine bodyPost_ret (v := .agg #[.int .i64 x, .int .i64 y, .int .i64 z, .int .i64 u]) (by simp [results, Tryz.results39, go_sem, F]) rfl ⟨x, y, z, u, rfl, ?_, ?_⟩
    · exact DrT.dr (ws := w) (by ((repeat (first | exact HD | refine DrT.alloc ?_ _ | refine DrT.drewN ?_ _ | refine DrT.drew ?_ | refine DrT.set ?_ (by first | omega | (simp; omega)) _))))
    · exact DrT.gr (w0 := w0) (g := g) (A := A) (n := n) (c := c) (by ((repeat (first | exact HD | refine DrT.alloc ?_ _ | refine DrT.drewN ?_ _ | refine DrT.drew ?_ | refine DrT.set ?_ (by first | omega | (simp; omega)) _))))
end Go.Proofs.YtkpdoikjfibflaaGreat
namespace Go.Proofs.YtkpdoikjfibflaaGreat
open Go.RowKit Go.WideShapes Go.ChangeShapes
theorem Own.alQ {w : World} {B : Nat} {e : TypeId} {k : Nat} {v : Value} {n : Nat} {xs : List Int} (h : Own w B e k v n xs) (o : Obj) : Own (w.alloc o) B e k v n xs := h.q ((Q.refl _).alloc _)
/-- Two tracks of its own were drawn. -/
def DrawTT (w0 w : World) (g : Nat) (A : Option Addr) (n c : Nat) (e : Ending) (w' : World) : Prop := ∃ (B : Option Addr) (m d : Nat) (xs : List Int) (B2 : Option Addr) (m2 d2 : Nat) (ys : List Int), e = .returned (.tuple #[.agg #[.slice B m d], .agg #[.slice B2 m2 d2]]) ∧ Own w' w.heap.size 95 3 (.slice B m d) m xs ∧ Own w' w.heap.size 95 3 (.slice B2 m2 d2) m2 ys ∧ m ≤ 41 ∧ m2 ≤ 41 ∧ Dr w0 w' g A n c ∧ w.grownBy w' (some g)
set_option maxRecDepth 100000 in
set_option maxHeartbeats 16000000 in
theorem spec_l12Tracks {w0 w : World} {g : Nat} {A : Option Addr} {n c : Nat} (h : Dr w0 w g A n c) (hn : n ≤ 140737488355327) : Calls Tryz.prog 40 #[.pointer (some ⟨g, 0, none⟩)] w (DrawTT w0 w g A n c) := by
  have HD := DrT.start h
  have hlt := HD.glt
  have R0 : Blk ((w.alloc (.cells #[.slice none 0 0] 39)).alloc (.cells #[.slice none 0 0] 39)) w.heap.size 39 #[.slice none 0 0] := (Blk.new _ _ _).alloc _
  have R1 : Blk ((w.alloc (.cells #[.slice none 0 0] 39)).alloc (.cells #[.slice none 0 0] 39)) (w.heap.size + 1) 39 #[.slice none 0 0] := by simpa using Blk.new (w.alloc (.cells #[.slice none 0 0] 39)) 39 #[.slice none 0 0]
  replace HD := (HD.alloc (.cells #[.slice none 0 0] 39)).alloc (.cells #[.slice none 0 0] 39)
  go_enter Tryz.func40, Tryz.ntmps40
  go_wp2_with fail
  refine (spec_Next (w0 := w0) (A := A) (n := n) (c := c) _ (DrT.dr (ws := w) (by ((repeat (first | exact HD | refine DrT.alloc ?_ _ | refine DrT.drewN ?_ _ | refine DrT.drew ?_ | refine DrT.set ?_ (by first | omega | (simp; omega)) _))))) hn).mono ?_
  rintro e1 w1 ⟨r1, rfl, hr1, D1, G1⟩
  have HD := DrT.step (ws := w) (by ((repeat (first | exact HD | refine DrT.alloc ?_ _ | refine DrT.drewN ?_ _ | refine DrT.drew ?_ | refine DrT.set ?_ (by first | omega | (simp; omega)) _)))) D1 G1
  have z1 := HD.size
  replace R0 := Blk.keepG (g := g) (R0.q (by (repeat (first | assumption | exact Q.refl _ | refine Q.alloc ?_ _ | refine Q.drewN ?_ _ | refine Q.drew ?_)))) G1 (by omega)
  replace R1 := Blk.keepG (g := g) (R1.q (by (repeat (first | assumption | exact Q.refl _ | refine Q.alloc ?_ _ | refine Q.drewN ?_ _ | refine Q.drew ?_)))) G1 (by omega)
  have lR1 := R1.lt
  by_cases h1 : r1 = 0
  · subst h1
    clear hr1
    go_wp2_with fail
    refine (spec_l03DrawAny (w0 := w0) (A := A) (n := n) (c := c) (DrT.dr (ws := w) (by ((repeat (first | exact HD | refine DrT.alloc ?_ _ | refine DrT.drewN ?_ _ | refine DrT.drew ?_ | refine DrT.set ?_ (by first | omega | (simp; omega)) _))))) hn).mono ?_
    rintro e2 w2 ⟨B, m, d, xs, rfl, hown, hm, D2, G2⟩
    replace HD := DrT.step (ws := w) (by ((repeat (first | exact HD | refine DrT.alloc ?_ _ | refine DrT.drewN ?_ _ | refine DrT.drew ?_ | refine DrT.set ?_ (by first | omega | (simp; omega)) _)))) D2 G2
    have z2 := HD.size
    replace R0 := Blk.keepG (g := g) (R0.q (by (repeat (first | assumption | exact Q.refl _ | refine Q.alloc ?_ _ | refine Q.drewN ?_ _ | refine Q.drew ?_)))) G2 (by omega)
    replace R1 := Blk.keepG (g := g) (R1.q (by (repeat (first | assumption | exact Q.refl _ | refine Q.alloc ?_ _ | refine Q.drewN ?_ _ | refine Q.drew ?_)))) G2 (by omega)
    replace hown := hown.mono z1
    have z1' := G2.size
    go_wp2_with fail
    refine (spec_l03Draw (w0 := w0) (A := A) (n := n) (c := c) (DrT.dr (ws := w) (by ((repeat (first | exact HD | refine DrT.alloc ?_ _ | refine DrT.drewN ?_ _ | refine DrT.drew ?_ | refine DrT.set ?_ (by first | omega | (simp; omega)) _))))) hn).mono ?_
    rintro e3 w3 ⟨B2, m2, d2, ys, rfl, hown2, hm2, D3, G3⟩
    replace HD := DrT.step (ws := w) (by ((repeat (first | exact HD | refine DrT.alloc ?_ _ | refine DrT.drewN ?_ _ | refine DrT.drew ?_ | refine DrT.set ?_ (by first | omega | (simp; omega)) _)))) D3 G3
    have z3 := HD.size
    replace R0 := Blk.keepG (g := g) (R0.q (by (repeat (first | assumption | exact Q.refl _ | refine Q.alloc ?_ _ | refine Q.drewN ?_ _ | refine Q.drew ?_)))) G3 (by omega)
    replace R1 := Blk.keepG (g := g) (R1.q (by (repeat (first | assumption | exact Q.refl _ | refine Q.alloc ?_ _ | refine Q.drewN ?_ _ | refine Q.drew ?_)))) G3 (by omega)
    replace hown := (hown.q (by (repeat (first | assumption | exact Q.refl _ | refine Q.alloc ?_ _ | refine Q.drewN ?_ _ | refine Q.drew ?_)))).keepD G3 hlt
    replace hown2 := hown2.mono z2
    have cR0 := R0.cell
    have fR0 := R0.frozen
    have lR0 := R0.lt
    have cR1 := R1.cell
    have fR1 := R1.frozen
    have lR1 := R1.lt
    go_wp2_with fail
    have F0 := ((R0.s1_0 (.slice B m d)).far (p := ⟨w.heap.size + 1, 0, none⟩) (by simp) (.slice B2 m2 d2)).cell
    have F1 := ((R1.far (p := ⟨w.heap.size, 0, none⟩) (by simp) (.slice B m d)).s1_0 (.slice B2 m2 d2)).cell
    have O1 := (hown.setFar (Own.ne_blk hown R0 (by decide)) 0 (.slice B m d)).setFar (Own.ne_blk hown R1 (by decide)) 0 (.slice B2 m2 d2)
    have O2 := (hown2.setFar (Own.ne_blk hown2 R0 (by decide)) 0 (.slice B m d)).setFar (Own.ne_blk hown2 R1 (by decide)) 0 (.slice B2 m2 d2)
    refine bodyPost_ret (v := .tuple #[.agg #[.slice B m d], .agg #[.slice B2 m2 d2]]) (by simp [results, Tryz.results40, go_sem, F0, F1]) rfl ⟨B, m, d, xs, B2, m2, d2, ys, rfl, O1, O2, by omega, by omega, ?_, ?_⟩
    · exact DrT.dr (ws := w) (by ((repeat (first | exact HD | refine DrT.alloc ?_ _ | refine DrT.drewN ?_ _ | refine DrT.drew ?_ | refine DrT.set ?_ (by first | omega | (simp; omega)) _))))
    · exact DrT.gr (w0 := w0) (g := g) (A := A) (n := n) (c := c) (by ((repeat (first | exact HD | refine DrT.alloc ?_ _ | refine DrT.drewN ?_ _ | refine DrT.drew ?_ | refine DrT.set ?_ (by first | omega | (simp; omega)) _))))
  · have b1 : (r1 == 0) = false := by simpa using h1
    clear h1 hr1
    go_wp2_with fail
    refine (spec_l03Draw (w0 := w0) (A := A) (n := n) (c := c) (DrT.dr (ws := w) (by ((repeat (first | exact HD | refine DrT.alloc ?_ _ | refine DrT.drewN ?_ _ | refine DrT.drew ?_ | refine DrT.set ?_ (by first | omega | (simp; omega)) _))))) hn).mono ?_
    rintro e2 w2 ⟨B, m, d, xs, rfl, hown, hm, D2, G2⟩
    replace HD := DrT.step (ws := w) (by ((repeat (first | exact HD | refine DrT.alloc ?_ _ | refine DrT.drewN ?_ _ | refine DrT.drew ?_ | refine DrT.set ?_ (by first | omega | (simp; omega)) _)))) D2 G2
    have z2 := HD.size
    replace R0 := Blk.keepG (g := g) (R0.q (by (repeat (first | assumption | exact Q.refl _ | refine Q.alloc ?_ _ | refine Q.drewN ?_ _ | refine Q.drew ?_)))) G2 (by omega)
    replace R1 := Blk.keepG (g := g) (R1.q (by (repeat (first | assumption | exact Q.refl _ | refine Q.alloc ?_ _ | refine Q.drewN ?_ _ | refine Q.drew ?_)))) G2 (by omega)
    replace hown := hown.mono z1
    have lR1 := R1.lt
    have hbw : w.heap.size + 1 < w2.heap.size := lR1
    clear D1 G1 D2 G2 z1
    have T := (Blk.new w2 39 #[.slice B m d]).alloc (.cells #[] 95)
    have O0 : OwnL ((w2.alloc (.cells #[.slice B m d] 39)).alloc (.cells #[] 95)) (w2.heap.size + 1) 95 3 (.slice (some ⟨(w2.alloc (.cells #[.slice B m d] 39)).heap.size, 0, none⟩) 0 0) [] := OwnL.new _ _ _ (by simp)
    rw [show (w2.alloc (.cells #[.slice B m d] 39)).heap.size = w2.heap.size + 1 by simp] at O0
    replace HD := (HD.alloc (.cells #[.slice B m d] 39)).alloc (.cells #[] 95)
    replace R0 := (R0.alloc (.cells #[.slice B m d] 39)).alloc (.cells #[] 95)
    replace R1 := (R1.alloc (.cells #[.slice B m d] 39)).alloc (.cells #[] 95)
    obtain ⟨gl, rfl, hgl0⟩ := hown.split (show 0 < m by omega)
    have hgl := (hown.from _ rfl).2
    replace hown := (hown.alQ (.cells #[.slice (some ⟨gl, 0, none⟩) m d] 39)).alQ (.cells #[] 95)
    have hmI : (m : Int) ≤ 8 := by omega
    have hbg : w2.heap.size ≠ g := by omega
    have hgb : g < w2.heap.size + 1 := by omega
    obtain ⟨b, hb⟩ : ∃ b, b = w2.heap.size := ⟨_, rfl⟩
    rw [← hb] at T O0 hbw hgl hbg hgb z2
    go_upto_region 5 with (fail)
    rw [← hb]
    generalize hwb : (w2.alloc (.cells #[.slice (some ⟨gl, 0, none⟩) m d] 39)).alloc (.cells #[] 95) = wb at *
    clear hwb hb
    have hgl' : gl < b := hgl
    go_wp2_with fail
    go_loopw [5, 6] (fun v i wr => ∃ (k : Nat) (ys : List Int), k ≤ m ∧ i = .int .i64 k ∧ OwnL wr (b + 1) 95 3 v ys ∧ ys.length = k * 3 ∧ Own wr w.heap.size 95 3 (.slice (some ⟨gl, 0, none⟩) m d) m xs ∧ Blk wr b 39 #[.slice (some ⟨gl, 0, none⟩) m d] ∧ Blk wr w.heap.size 39 #[.slice none 0 0] ∧ Blk wr (w.heap.size + 1) 39 #[.slice none 0 0] ∧ DrT w0 w wr g A n c) (fun _ i _ => m - (intOf i).toNat)
    case atStart => exact ⟨0, [], by omega, rfl, O0, rfl, hown, T, R0, R1, HD⟩
    case round =>
      clear O0 hown T R0 R1 HD
      obtain ⟨k, ys, hk, rfl, ⟨A1, k1, d1, rfl, hown2⟩, hyl, hown, T, R0, R1, HD⟩ := hrel
      have hk1 : k1 = k := by have := hown2.len; omega
      subst hk1
      have hlx := hown.len
      have cT := T.cell
      have lT := T.lt
      have zr := HD.size
      by_cases hlk : k1 < m
      · have hlkI : (k1 : Int) < (m : Int) := by omega
        have x0 := hown.cell (j := k1 * 3) (by omega)
        have x1 := hown.cell (j := k1 * 3 + 1) (by omega)
        have x2 := hown.cell (j := k1 * 3 + 2) (by omega)
        generalize xs.getD (k1 * 3) 0 = X0 at *
        generalize xs.getD (k1 * 3 + 1) 0 = X1 at *
        generalize xs.getD (k1 * 3 + 2) 0 = X2 at *
        have BF := Blk.new wr 95 #[.int .i64 X0, .int .i64 X1, .int .i64 X2]
        replace HD := HD.alloc (.cells #[.int .i64 X0, .int .i64 X1, .int .i64 X2] 95)
        replace R0 := R0.alloc (.cells #[.int .i64 X0, .int .i64 X1, .int .i64 X2] 95)
        replace R1 := R1.alloc (.cells #[.int .i64 X0, .int .i64 X1, .int .i64 X2] 95)
        replace T := T.alloc (.cells #[.int .i64 X0, .int .i64 X1, .int .i64 X2] 95)
        replace hown := hown.alQ (.cells #[.int .i64 X0, .int .i64 X1, .int .i64 X2] 95)
        replace hown2 := hown2.alQ (.cells #[.int .i64 X0, .int .i64 X1, .int .i64 X2] 95)
        obtain ⟨f, hf⟩ : ∃ f, f = wr.heap.size := ⟨_, rfl⟩
        rw [← hf] at BF lT zr
        go_upto_region 9 with (fail)
        rw [← hf]
        generalize hwf : wr.alloc (.cells #[.int .i64 X0, .int .i64 X1, .int .i64 X2] 95) = wf at *
        clear hwf hf x0 x1 x2 cT
        have hfg : f ≠ g := by omega
        go_cut [8, 9] from 20 to 55 (fun x y wc => ∃ X Y : Int, x = .int .i64 X ∧ y = .int .i64 Y ∧ Blk wc f 95 #[.int .i64 X0, .int .i64 X1, .int .i64 X2] ∧ Own wc (b + 1) 95 3 (.slice A1 k1 d1) k1 ys ∧ Own wc w.heap.size 95 3 (.slice (some ⟨gl, 0, none⟩) m d) m xs ∧ Blk wc b 39 #[.slice (some ⟨gl, 0, none⟩) m d] ∧ Blk wc w.heap.size 39 #[.slice none 0 0] ∧ Blk wc (w.heap.size + 1) 39 #[.slice none 0 0] ∧ DrT w0 w wc g A n c)
        case first =>
          have cBF := BF.cell
          have lBF := BF.lt
          go_region_with (first | (have qq := G2; (go_at_call 61; refine (spec_Next (w0 := w0) (A := A) (n := n) (c := c) _ (DrT.dr (ws := w) (by ((repeat (first | exact HD | refine DrT.alloc ?_ _ | refine DrT.drewN ?_ _ | refine DrT.drew ?_ | refine DrT.set ?_ (by first | omega | (simp; omega)) _))))) hn).mono ?_; rintro e3 w3 ⟨r3, rfl, hr3, D3, G3⟩; have HD := DrT.step (ws := w) (by ((repeat (first | exact HD | refine DrT.alloc ?_ _ | refine DrT.drewN ?_ _ | refine DrT.drew ?_ | refine DrT.set ?_ (by first | omega | (simp; omega)) _)))) D3 G3; have z3 := HD.size; have R0 := Blk.keepG (g := g) (R0.q (by (repeat (first | assumption | exact Q.refl _ | refine Q.alloc ?_ _ | refine Q.drewN ?_ _ | refine Q.drew ?_)))) G3 (by omega); have cR0 := R0.cell; have fR0 := R0.frozen; have lR0 := R0.lt; have R1 := Blk.keepG (g := g) (R1.q (by (repeat (first | assumption | exact Q.refl _ | refine Q.alloc ?_ _ | refine Q.drewN ?_ _ | refine Q.drew ?_)))) G3 (by omega); have cR1 := R1.cell; have fR1 := R1.frozen; have lR1 := R1.lt; have T := Blk.keepG (g := g) (T.q (by (repeat (first | assumption | exact Q.refl _ | refine Q.alloc ?_ _ | refine Q.drewN ?_ _ | refine Q.drew ?_)))) G3 (by omega); have cT := T.cell; have fT := T.frozen; have lT := T.lt; have BF := Blk.keepG (g := g) (BF.q (by (repeat (first | assumption | exact Q.refl _ | refine Q.alloc ?_ _ | refine Q.drewN ?_ _ | refine Q.drew ?_)))) G3 (by omega); have cBF := BF.cell; have fBF := BF.frozen; have lBF := BF.lt); have hown := (hown.q (by (repeat (first | assumption | exact Q.refl _ | refine Q.alloc ?_ _ | refine Q.drewN ?_ _ | refine Q.drew ?_)))).keepD G3 hlt; have hown2 := (hown2.q (by (repeat (first | assumption | exact Q.refl _ | refine Q.alloc ?_ _ | refine Q.drewN ?_ _ | refine Q.drew ?_)))).keepD G3 hgb) | ((go_at_call 61; refine (spec_Next (w0 := w0) (A := A) (n := n) (c := c) _ (DrT.dr (ws := w) (by ((repeat (first | exact HD | refine DrT.alloc ?_ _ | refine DrT.drewN ?_ _ | refine DrT.drew ?_ | refine DrT.set ?_ (by first | omega | (simp; omega)) _))))) hn).mono ?_; rintro e2 w2 ⟨r2, rfl, hr2, D2, G2⟩; have HD := DrT.step (ws := w) (by ((repeat (first | exact HD | refine DrT.alloc ?_ _ | refine DrT.drewN ?_ _ | refine DrT.drew ?_ | refine DrT.set ?_ (by first | omega | (simp; omega)) _)))) D2 G2; have z2 := HD.size; have R0 := Blk.keepG (g := g) (R0.q (by (repeat (first | assumption | exact Q.refl _ | refine Q.alloc ?_ _ | refine Q.drewN ?_ _ | refine Q.drew ?_)))) G2 (by omega); have cR0 := R0.cell; have fR0 := R0.frozen; have lR0 := R0.lt; have R1 := Blk.keepG (g := g) (R1.q (by (repeat (first | assumption | exact Q.refl _ | refine Q.alloc ?_ _ | refine Q.drewN ?_ _ | refine Q.drew ?_)))) G2 (by omega); have cR1 := R1.cell; have fR1 := R1.frozen; have lR1 := R1.lt; have T := Blk.keepG (g := g) (T.q (by (repeat (first | assumption | exact Q.refl _ | refine Q.alloc ?_ _ | refine Q.drewN ?_ _ | refine Q.drew ?_)))) G2 (by omega); have cT := T.cell; have fT := T.frozen; have lT := T.lt; have BF := Blk.keepG (g := g) (BF.q (by (repeat (first | assumption | exact Q.refl _ | refine Q.alloc ?_ _ | refine Q.drewN ?_ _ | refine Q.drew ?_)))) G2 (by omega); have cBF := BF.cell; have fBF := BF.frozen; have lBF := BF.lt); have hown := (hown.q (by (repeat (first | assumption | exact Q.refl _ | refine Q.alloc ?_ _ | refine Q.drewN ?_ _ | refine Q.drew ?_)))).keepD G2 hlt; have hown2 := (hown2.q (by (repeat (first | assumption | exact Q.refl _ | refine Q.alloc ?_ _ | refine Q.drewN ?_ _ | refine Q.drew ?_)))).keepD G2 hgb))
          all_goals go_wp2_with fail
          all_goals go_meet
          all_goals exact ⟨_, _, rfl, rfl, BF.q (by (repeat (first | assumption | exact Q.refl _ | refine Q.alloc ?_ _ | refine Q.drewN ?_ _ | refine Q.drew ?_))), hown2.q (by (repeat (first | assumption | exact Q.refl _ | refine Q.alloc ?_ _ | refine Q.drewN ?_ _ | refine Q.drew ?_))), hown.q (by (repeat (first | assumption | exact Q.refl _ | refine Q.alloc ?_ _ | refine Q.drewN ?_ _ | refine Q.drew ?_))), T.q (by (repeat (first | assumption | exact Q.refl _ | refine Q.alloc ?_ _ | refine Q.drewN ?_ _ | refine Q.drew ?_))), R0.q (by (repeat (first | assumption | exact Q.refl _ | refine Q.alloc ?_ _ | refine Q.drewN ?_ _ | refine Q.drew ?_))), R1.q (by (repeat (first | assumption | exact Q.refl _ | refine Q.alloc ?_ _ | refine Q.drewN ?_ _ | refine Q.drew ?_))), (by ((repeat (first | exact HD | refine DrT.alloc ?_ _ | refine DrT.drewN ?_ _ | refine DrT.drew ?_ | refine DrT.set ?_ (by first | omega | (simp; omega)) _))))⟩
        case rest =>
          clear BF hown2 hown T R0 R1 HD
          obtain ⟨X, Y, rfl, rfl, BF, hown2, hown, T, R0, R1, HD⟩ := hcut
          have cBF := BF.cell
          have lBF := BF.lt
          have zc := HD.size
          have lT2 := T.lt
          go_wp2_with (at_builtin; refine appK elFix rfl _ _ rfl [_, _, _] rfl hown2 rfl (by simp) rfl _ _ rfl (by omega) (by omega) ?_; intro A' c' w' hown' hg' hgr')
          go_roundw
          case rel =>
            have hfar : Far (some ⟨gl, 0, none⟩) A1 := fun a a2 ha ha2 => by cases ha; have := (hown2.from _ ha2).1; simp only; omega
            exact ⟨k1 + 1, _, by omega, by go_num, ⟨_, _, _, rfl, hown'⟩, by simp; omega, hown.far hg' hfar, Blk.markO T hown2 (by decide) hg', Blk.markO R0 hown2 (by decide) hg', Blk.markO R1 hown2 (by decide) hg', DrT.markE HD hown2 (by omega) hg'⟩
          case measure => simp [intOf]; omega
      · obtain rfl : k1 = m := by omega
        have cR0 := R0.cell
        have fR0 := R0.frozen
        have lR0 := R0.lt
        have cR1 := R1.cell
        have fR1 := R1.frozen
        have lR1 := R1.lt
        go_wp2_with fail
        have F0 := ((R0.s1_0 (.slice (some ⟨gl, 0, none⟩) k1 d)).far (p := ⟨w.heap.size + 1, 0, none⟩) (by simp) (.slice A1 k1 d1)).cell
        have F1 := ((R1.far (p := ⟨w.heap.size, 0, none⟩) (by simp) (.slice (some ⟨gl, 0, none⟩) k1 d)).s1_0 (.slice A1 k1 d1)).cell
        have O1 := (hown.setFar (Own.ne_blk hown R0 (by decide)) 0 (.slice (some ⟨gl, 0, none⟩) k1 d)).setFar (Own.ne_blk hown R1 (by decide)) 0 (.slice A1 k1 d1)
        have O2 := (hown2.setFar (Own.ne_blk hown2 R0 (by decide)) 0 (.slice (some ⟨gl, 0, none⟩) k1 d)).setFar (Own.ne_blk hown2 R1 (by decide)) 0 (.slice A1 k1 d1)
        refine bodyPost_ret (v := .tuple #[.agg #[.slice (some ⟨gl, 0, none⟩) k1 d], .agg #[.slice A1 k1 d1]]) (by simp [results, Tryz.results40, go_sem, F0, F1]) rfl ⟨_, k1, d, xs, A1, k1, d1, ys, rfl, O1, O2.mono (by omega), by omega, by omega, ?_, ?_⟩
        · exact DrT.dr (ws := w) (by ((repeat (first | exact HD | refine DrT.alloc ?_ _ | refine DrT.drewN ?_ _ | refine DrT.drew ?_ | refine DrT.set ?_ (by first | omega | (simp; omega)) _))))
        · exact DrT.gr (w0 := w0) (g := g) (A := A) (n := n) (c := c) (by ((repeat (first | exact HD | refine DrT.alloc ?_ _ | refine DrT.drewN ?_ _ | refine DrT.drew ?_ | refine DrT.set ?_ (by first | omega | (simp; omega)) _))))
end Go.Proofs.YtkpdoikjfibflaaGreat
namespace Go.Proofs.YtkpdoikjfibflaaGreat
open Go.RowKit Go.WideShapes Go.ChangeShapes
def DrawIO (wz : World) (e : Ending) (w' : World) : Prop := ∃ (x y a b d s : Int) (B : Option Addr) (m c1 : Nat) (xs : List Int) (B2 : Option Addr) (m2 c2 : Nat) (ys : List Int), e = .returned (.tuple #[.agg #[.int .i64 x, .int .i64 y], .agg #[.int .i64 a, .int .i64 b, .int .i64 d, .int .i64 s], .agg #[.slice B m c1], .agg #[.slice B2 m2 c2]]) ∧ (Rd w' B xs ∧ xs.length = m * 3 ∧ m ≤ 41) ∧ (Rd w' B2 ys ∧ ys.length = m2 * 3 ∧ m2 ≤ 41) ∧ Q wz w'
set_option maxRecDepth 100000 in
set_option maxHeartbeats 16000000 in
theorem spec_DrawIncidentsOf (A : Option Addr) (n c : Nat) (wz : World) (ha : Rd8 wz A n) (hn : n ≤ 140737488355327) : Calls Tryz.prog 18 #[.slice A n c] wz (DrawIO wz) := by
  have R0 : Blk ((((wz.alloc (.cells #[.int .i64 0, .int .i64 0] 33)).alloc (.cells #[.int .i64 0, .int .i64 0, .int .i64 0, .int .i64 0] 35)).alloc (.cells #[.slice none 0 0] 39)).alloc (.cells #[.slice none 0 0] 39)) wz.heap.size 33 #[.int .i64 0, .int .i64 0] := (((Blk.new _ _ _).alloc _).alloc _).alloc _
  have R1 : Blk ((((wz.alloc (.cells #[.int .i64 0, .int .i64 0] 33)).alloc (.cells #[.int .i64 0, .int .i64 0, .int .i64 0, .int .i64 0] 35)).alloc (.cells #[.slice none 0 0] 39)).alloc (.cells #[.slice none 0 0] 39)) (wz.heap.size + 1) 35 #[.int .i64 0, .int .i64 0, .int .i64 0, .int .i64 0] := by simpa using ((Blk.new (wz.alloc (.cells #[.int .i64 0, .int .i64 0] 33)) 35 #[.int .i64 0, .int .i64 0, .int .i64 0, .int .i64 0]).alloc (.cells #[.slice none 0 0] 39)).alloc (.cells #[.slice none 0 0] 39)
  have R2 : Blk ((((wz.alloc (.cells #[.int .i64 0, .int .i64 0] 33)).alloc (.cells #[.int .i64 0, .int .i64 0, .int .i64 0, .int .i64 0] 35)).alloc (.cells #[.slice none 0 0] 39)).alloc (.cells #[.slice none 0 0] 39)) (wz.heap.size + 1 + 1) 39 #[.slice none 0 0] := by simpa using (Blk.new ((wz.alloc (.cells #[.int .i64 0, .int .i64 0] 33)).alloc (.cells #[.int .i64 0, .int .i64 0, .int .i64 0, .int .i64 0] 35)) 39 #[.slice none 0 0]).alloc (.cells #[.slice none 0 0] 39)
  have R3 : Blk ((((wz.alloc (.cells #[.int .i64 0, .int .i64 0] 33)).alloc (.cells #[.int .i64 0, .int .i64 0, .int .i64 0, .int .i64 0] 35)).alloc (.cells #[.slice none 0 0] 39)).alloc (.cells #[.slice none 0 0] 39)) (wz.heap.size + 1 + 1 + 1) 39 #[.slice none 0 0] := by simpa using Blk.new (((wz.alloc (.cells #[.int .i64 0, .int .i64 0] 33)).alloc (.cells #[.int .i64 0, .int .i64 0, .int .i64 0, .int .i64 0] 35)).alloc (.cells #[.slice none 0 0] 39)) 39 #[.slice none 0 0]
  have Z0 : Q wz ((((wz.alloc (.cells #[.int .i64 0, .int .i64 0] 33)).alloc (.cells #[.int .i64 0, .int .i64 0, .int .i64 0, .int .i64 0] 35)).alloc (.cells #[.slice none 0 0] 39)).alloc (.cells #[.slice none 0 0] 39)) := by (repeat (first | assumption | exact Q.refl _ | refine Q.alloc ?_ _ | refine Q.drewN ?_ _ | refine Q.drew ?_))
  have zz : ((((wz.alloc (.cells #[.int .i64 0, .int .i64 0] 33)).alloc (.cells #[.int .i64 0, .int .i64 0, .int .i64 0, .int .i64 0] 35)).alloc (.cells #[.slice none 0 0] 39)).alloc (.cells #[.slice none 0 0] 39)).heap.size = wz.heap.size + 4 := by simp
  go_enter Tryz.func18, Tryz.ntmps18
  go_wp2_with (go_at_call 37; refine (spec_From A n c _ (ha.q (by (repeat (first | assumption | exact Q.refl _ | refine Q.alloc ?_ _ | refine Q.drewN ?_ _ | refine Q.drew ?_)))) hn).mono ?_; rintro e w ⟨rfl, D0⟩)
  generalize (((wz.alloc (.cells #[.int .i64 0, .int .i64 0] 33)).alloc (.cells #[.int .i64 0, .int .i64 0, .int .i64 0, .int .i64 0] 35)).alloc (.cells #[.slice none 0 0] 39)).alloc (.cells #[.slice none 0 0] 39) = w0 at *
  rw [zz] at D0
  obtain ⟨g, hg⟩ : ∃ g, g = wz.heap.size + 4 := ⟨_, rfl⟩
  rw [← hg] at D0
  have HD := DrT.start D0
  have hlt := HD.glt
  replace R0 := R0.q D0.q
  replace R1 := R1.q D0.q
  replace R2 := R2.q D0.q
  replace R3 := R3.q D0.q
  have hgr : wz.heap.size + 3 < g := by omega
  go_wp2_with fail
  rw [← hg]
  have hwz : wz.heap.size + 3 < w.heap.size := by omega
  clear hg zz
  refine (spec_l08DrawAny D0 hn).mono ?_
  rintro e wa ⟨x, y, rfl, D1, G1⟩
  have hsz := G1.size
  replace HD := HD.step D1 G1
  replace R0 := R0.keepG G1 (by omega)
  replace R1 := R1.keepG G1 (by omega)
  replace R2 := R2.keepG G1 (by omega)
  replace R3 := R3.keepG G1 (by omega)
  have hsa : w.heap.size ≤ wa.heap.size := hsz
  clear D0 D1 G1 hsz
  have V0 := Blk.new wa 33 #[.int .i64 x, .int .i64 y]
  replace HD := HD.alloc (.cells #[.int .i64 x, .int .i64 y] 33)
  replace R0 := R0.alloc (.cells #[.int .i64 x, .int .i64 y] 33)
  replace R1 := R1.alloc (.cells #[.int .i64 x, .int .i64 y] 33)
  replace R2 := R2.alloc (.cells #[.int .i64 x, .int .i64 y] 33)
  replace R3 := R3.alloc (.cells #[.int .i64 x, .int .i64 y] 33)
  obtain ⟨b0, hb0⟩ : ∃ b, b = wa.heap.size := ⟨_, rfl⟩
  rw [← hb0] at V0 hsa
  go_wp2_with fail
  rw [← hb0]
  have hb0s : b0 < (wa.alloc (.cells #[.int .i64 x, .int .i64 y] 33)).heap.size := V0.lt
  generalize wa.alloc (.cells #[.int .i64 x, .int .i64 y] 33) = wa' at *
  clear hb0
  refine (spec_l12Draw (w0 := w0) (A := A) (n := n) (c := c) HD.dr hn).mono ?_
  rintro e wb ⟨p, q, r, s, rfl, D2, G2⟩
  have hsz := G2.size
  replace HD := HD.step D2 G2
  replace R0 := R0.keepG G2 (by omega)
  replace R1 := R1.keepG G2 (by omega)
  replace R2 := R2.keepG G2 (by omega)
  replace R3 := R3.keepG G2 (by omega)
  replace V0 := V0.keepG G2 (by omega)
  clear D2 G2
  have V1 := Blk.new wb 35 #[.int .i64 p, .int .i64 q, .int .i64 r, .int .i64 s]
  replace HD := HD.alloc (.cells #[.int .i64 p, .int .i64 q, .int .i64 r, .int .i64 s] 35)
  replace R0 := R0.alloc (.cells #[.int .i64 p, .int .i64 q, .int .i64 r, .int .i64 s] 35)
  replace R1 := R1.alloc (.cells #[.int .i64 p, .int .i64 q, .int .i64 r, .int .i64 s] 35)
  replace R2 := R2.alloc (.cells #[.int .i64 p, .int .i64 q, .int .i64 r, .int .i64 s] 35)
  replace R3 := R3.alloc (.cells #[.int .i64 p, .int .i64 q, .int .i64 r, .int .i64 s] 35)
  replace V0 := V0.alloc (.cells #[.int .i64 p, .int .i64 q, .int .i64 r, .int .i64 s] 35)
  obtain ⟨b1, hb1⟩ : ∃ b, b = wb.heap.size := ⟨_, rfl⟩
  rw [← hb1] at V1 hsz
  go_wp2_with fail
  rw [← hb1]
  have hb1s : b1 < (wb.alloc (.cells #[.int .i64 p, .int .i64 q, .int .i64 r, .int .i64 s] 35)).heap.size := V1.lt
  generalize wb.alloc (.cells #[.int .i64 p, .int .i64 q, .int .i64 r, .int .i64 s] 35) = wb' at *
  clear hb1
  have hb01 : b0 < b1 := by omega
  refine (spec_l12Tracks (w0 := w0) (A := A) (n := n) (c := c) HD.dr hn).mono ?_
  rintro e wc ⟨B, m, d, xs, B2, m2, d2, ys, rfl, hown, hown2, hm, hm2, D3, G3⟩
  have hsz2 := G3.size
  replace HD := HD.step D3 G3
  replace R0 := R0.keepG G3 (by omega)
  replace R1 := R1.keepG G3 (by omega)
  replace R2 := R2.keepG G3 (by omega)
  replace R3 := R3.keepG G3 (by omega)
  replace V0 := V0.keepG G3 (by omega)
  replace V1 := V1.keepG G3 (by omega)
  clear D3 G3 hsz
  have V2 := (Blk.new wc 39 #[.slice B m d]).alloc (.cells #[.slice B2 m2 d2] 39)
  have V3 : Blk ((wc.alloc (.cells #[.slice B m d] 39)).alloc (.cells #[.slice B2 m2 d2] 39)) (wc.heap.size + 1) 39 #[.slice B2 m2 d2] := by simpa using Blk.new (wc.alloc (.cells #[.slice B m d] 39)) 39 #[.slice B2 m2 d2]
  replace HD := (HD.alloc (.cells #[.slice B m d] 39)).alloc (.cells #[.slice B2 m2 d2] 39)
  replace R0 := (R0.alloc (.cells #[.slice B m d] 39)).alloc (.cells #[.slice B2 m2 d2] 39)
  replace R1 := (R1.alloc (.cells #[.slice B m d] 39)).alloc (.cells #[.slice B2 m2 d2] 39)
  replace R2 := (R2.alloc (.cells #[.slice B m d] 39)).alloc (.cells #[.slice B2 m2 d2] 39)
  replace R3 := (R3.alloc (.cells #[.slice B m d] 39)).alloc (.cells #[.slice B2 m2 d2] 39)
  replace V0 := (V0.alloc (.cells #[.slice B m d] 39)).alloc (.cells #[.slice B2 m2 d2] 39)
  replace V1 := (V1.alloc (.cells #[.slice B m d] 39)).alloc (.cells #[.slice B2 m2 d2] 39)
  replace hown := (hown.alQ (.cells #[.slice B m d] 39)).alQ (.cells #[.slice B2 m2 d2] 39)
  replace hown2 := (hown2.alQ (.cells #[.slice B m d] 39)).alQ (.cells #[.slice B2 m2 d2] 39)
  obtain ⟨b2, hb2⟩ : ∃ b, b = wc.heap.size := ⟨_, rfl⟩
  rw [← hb2] at V2 V3 hsz2
  go_upto_region 5 with (fail)
  rw [← hb2]
  generalize (wc.alloc (.cells #[.slice B m d] 39)).alloc (.cells #[.slice B2 m2 d2] 39) = wd at *
  clear hb2
  have cV0 := V0.cell
  have lV0 := V0.lt
  have cV1 := V1.cell
  have lV1 := V1.lt
  have cV2 := V2.cell
  have lV2 := V2.lt
  have cV3 := V3.cell
  have lV3 := V3.lt
  have cR0 := R0.cell
  have fR0 := R0.frozen
  have lR0 := R0.lt
  have cR1 := R1.cell
  have fR1 := R1.frozen
  have lR1 := R1.lt
  have cR2 := R2.cell
  have fR2 := R2.frozen
  have lR2 := R2.lt
  have cR3 := R3.cell
  have fR3 := R3.frozen
  have lR3 := R3.lt
  have n1 := Own.ne_blk hown R0 (by decide)
  have n2 := Own.ne_blk hown R1 (by decide)
  have n3 := Own.ne_blk hown R2 (by decide)
  have n4 := Own.ne_blk hown R3 (by decide)
  have o1 := Own.ne_blk hown2 R0 (by decide)
  have o2 := Own.ne_blk hown2 R1 (by decide)
  have o3 := Own.ne_blk hown2 R2 (by decide)
  have o4 := Own.ne_blk hown2 R3 (by decide)
  have Q3 := Z0.trans HD.dr.q
  go_cut [] from 22 (fun wx => Blk wx wz.heap.size 33 #[.int .i64 x, .int .i64 y] ∧ Blk wx (wz.heap.size + 1) 35 #[.int .i64 p, .int .i64 q, .int .i64 r, .int .i64 s] ∧ Blk wx (wz.heap.size + 1 + 1) 39 #[.slice B m d] ∧ Blk wx (wz.heap.size + 1 + 1 + 1) 39 #[.slice B2 m2 d2] ∧ Own wx wb'.heap.size 95 3 (.slice B m d) m xs ∧ Own wx wb'.heap.size 95 3 (.slice B2 m2 d2) m2 ys ∧ Q wz wx)
  case first =>
    go_region
    all_goals go_wp2_with fail
    all_goals go_meet
    exact ⟨((((((((R0.s2_0 _).s2_1 _).far (p := ⟨wz.heap.size + 1, 0, none⟩) (show wz.heap.size ≠ wz.heap.size + 1 by omega) _).far (p := ⟨wz.heap.size + 1, 1, none⟩) (show wz.heap.size ≠ wz.heap.size + 1 by omega) _).far (p := ⟨wz.heap.size + 1, 2, none⟩) (show wz.heap.size ≠ wz.heap.size + 1 by omega) _).far (p := ⟨wz.heap.size + 1, 3, none⟩) (show wz.heap.size ≠ wz.heap.size + 1 by omega) _).far (p := ⟨wz.heap.size + 1 + 1, 0, none⟩) (show wz.heap.size ≠ wz.heap.size + 1 + 1 by omega) _).far (p := ⟨wz.heap.size + 1 + 1 + 1, 0, none⟩) (show wz.heap.size ≠ wz.heap.size + 1 + 1 + 1 by omega) _).drew, ((((((((R1.far (p := ⟨wz.heap.size, 0, none⟩) (show wz.heap.size + 1 ≠ wz.heap.size by omega) _).far (p := ⟨wz.heap.size, 1, none⟩) (show wz.heap.size + 1 ≠ wz.heap.size by omega) _).s4_0 _).s4_1 _).s4_2 _).s4_3 _).far (p := ⟨wz.heap.size + 1 + 1, 0, none⟩) (show wz.heap.size + 1 ≠ wz.heap.size + 1 + 1 by omega) _).far (p := ⟨wz.heap.size + 1 + 1 + 1, 0, none⟩) (show wz.heap.size + 1 ≠ wz.heap.size + 1 + 1 + 1 by omega) _).drew, ((((((((R2.far (p := ⟨wz.heap.size, 0, none⟩) (show wz.heap.size + 1 + 1 ≠ wz.heap.size by omega) _).far (p := ⟨wz.heap.size, 1, none⟩) (show wz.heap.size + 1 + 1 ≠ wz.heap.size by omega) _).far (p := ⟨wz.heap.size + 1, 0, none⟩) (show wz.heap.size + 1 + 1 ≠ wz.heap.size + 1 by omega) _).far (p := ⟨wz.heap.size + 1, 1, none⟩) (show wz.heap.size + 1 + 1 ≠ wz.heap.size + 1 by omega) _).far (p := ⟨wz.heap.size + 1, 2, none⟩) (show wz.heap.size + 1 + 1 ≠ wz.heap.size + 1 by omega) _).far (p := ⟨wz.heap.size + 1, 3, none⟩) (show wz.heap.size + 1 + 1 ≠ wz.heap.size + 1 by omega) _).s1_0 _).far (p := ⟨wz.heap.size + 1 + 1 + 1, 0, none⟩) (show wz.heap.size + 1 + 1 ≠ wz.heap.size + 1 + 1 + 1 by omega) _).drew, ((((((((R3.far (p := ⟨wz.heap.size, 0, none⟩) (show wz.heap.size + 1 + 1 + 1 ≠ wz.heap.size by omega) _).far (p := ⟨wz.heap.size, 1, none⟩) (show wz.heap.size + 1 + 1 + 1 ≠ wz.heap.size by omega) _).far (p := ⟨wz.heap.size + 1, 0, none⟩) (show wz.heap.size + 1 + 1 + 1 ≠ wz.heap.size + 1 by omega) _).far (p := ⟨wz.heap.size + 1, 1, none⟩) (show wz.heap.size + 1 + 1 + 1 ≠ wz.heap.size + 1 by omega) _).far (p := ⟨wz.heap.size + 1, 2, none⟩) (show wz.heap.size + 1 + 1 + 1 ≠ wz.heap.size + 1 by omega) _).far (p := ⟨wz.heap.size + 1, 3, none⟩) (show wz.heap.size + 1 + 1 + 1 ≠ wz.heap.size + 1 by omega) _).far (p := ⟨wz.heap.size + 1 + 1, 0, none⟩) (show wz.heap.size + 1 + 1 + 1 ≠ wz.heap.size + 1 + 1 by omega) _).s1_0 _).drew, (((((((((hown.setFar n1 0 _).setFar n1 1 _).setFar n2 0 _).setFar n2 1 _).setFar n2 2 _).setFar n2 3 _).setFar n3 0 _).setFar n4 0 _).q ((Q.refl _).drew)), (((((((((hown2.setFar o1 0 _).setFar o1 1 _).setFar o2 0 _).setFar o2 1 _).setFar o2 2 _).setFar o2 3 _).setFar o3 0 _).setFar o4 0 _).q ((Q.refl _).drew)), ((((((((Q3.setCell (p := ⟨wz.heap.size, 0, none⟩) (show wz.heap.size ≤ wz.heap.size by omega) _).setCell (p := ⟨wz.heap.size, 1, none⟩) (show wz.heap.size ≤ wz.heap.size by omega) _).setCell (p := ⟨wz.heap.size + 1, 0, none⟩) (show wz.heap.size ≤ wz.heap.size + 1 by omega) _).setCell (p := ⟨wz.heap.size + 1, 1, none⟩) (show wz.heap.size ≤ wz.heap.size + 1 by omega) _).setCell (p := ⟨wz.heap.size + 1, 2, none⟩) (show wz.heap.size ≤ wz.heap.size + 1 by omega) _).setCell (p := ⟨wz.heap.size + 1, 3, none⟩) (show wz.heap.size ≤ wz.heap.size + 1 by omega) _).setCell (p := ⟨wz.heap.size + 1 + 1, 0, none⟩) (show wz.heap.size ≤ wz.heap.size + 1 + 1 by omega) _).setCell (p := ⟨wz.heap.size + 1 + 1 + 1, 0, none⟩) (show wz.heap.size ≤ wz.heap.size + 1 + 1 + 1 by omega) _).drew⟩
  case rest =>
    clear R0 R1 R2 R3 V0 V1 V2 V3 hown hown2 Q3 cR0 cR1 cR2 cR3 fR0 fR1 fR2 fR3 cV0 cV1 cV2 cV3 lR0 lR1 lR2 lR3 lV0 lV1 lV2 lV3 n1 n2 n3 n4 o1 o2 o3 o4 HD
    obtain ⟨R0, R1, R2, R3, hown, hown2, Q3⟩ := hcut
    have F0 := R0.cell
    have F1 := R1.cell
    have F2 := R2.cell
    have F3 := R3.cell
    go_wp2_with fail
    refine bodyPost_ret (v := .tuple #[.agg #[.int .i64 x, .int .i64 y], .agg #[.int .i64 p, .int .i64 q, .int .i64 r, .int .i64 s], .agg #[.slice B m d], .agg #[.slice B2 m2 d2]]) (by simp [results, Tryz.results18, go_sem, F0, F1, F2, F3]) rfl ⟨x, y, p, q, r, s, B, m, d, xs, B2, m2, d2, ys, rfl, ⟨hown.rd, hown.len, hm⟩, ⟨hown2.rd, hown2.len, hm2⟩, Q3⟩
end Go.Proofs.YtkpdoikjfibflaaGreat
