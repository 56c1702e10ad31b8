/- Walks: the reference's draws of points, of segments and of lines. No condition. Walks: the reference's draws of segments and of lines; the middle of a line. No condition. -/
import Derived.Test.YteofhfefbphjdaaGreatDoorDraw
import Derived.RegionTactic
import Derived.Deep.CutBlock
import Derived.Deep.RegionWith
import Derived.Test.YteofhfefbphjdaaGreatDoorK
namespace Go.Proofs.YteofhfefbphjdaaGreatDoor
open Go.RowKit Go.WideShapes Go.ChangeShapes
theorem grown_box2 {w w1 : World} {g : Nat} {cs : Array Value} {T : TypeId} {o : Obj} (h : ((w.alloc (.cells cs T)).alloc o).grownBy w1 (some g)) (hg : g < w.heap.size) : Blk w1 w.heap.size T cs := ((Blk.new w T cs).alloc o).grown h (by simp; omega)
theorem grown_box2D {w w1 : World} {g : Nat} {cs : Array Value} {T : TypeId} {o : Obj} (h : ((w.alloc (.cells cs T)).alloc o).drew.grownBy w1 (some g)) (hg : g < w.heap.size) : Blk w1 w.heap.size T cs := (((Blk.new w T cs).alloc o).drew).grown h (by simp; omega)
theorem grown_box2E {w w1 : World} {g : Nat} {cs : Array Value} {T : TypeId} {o : Obj} (h : ((w.alloc (.cells cs T)).drew.alloc o).grownBy w1 (some g)) (hg : g < w.heap.size) : Blk w1 w.heap.size T cs := (((Blk.new w T cs).drew).alloc o).grown h (by simp; omega)
theorem grown_box2F {w w1 : World} {g : Nat} {cs : Array Value} {T : TypeId} {o : Obj} (h : ((w.alloc (.cells cs T)).drew.alloc o).drew.grownBy w1 (some g)) (hg : g < w.heap.size) : Blk w1 w.heap.size T cs := ((((Blk.new w T cs).drew).alloc o).drew).grown h (by simp; omega)
/-- One of the three. -/
def In3 (v a b c : Int) : Prop := v = a ∨ v = b ∨ v = c
theorem pickR (a0 a1 a2 : Int) {m : Nat} (h : 0 ≤ (m : Int) ∧ ((m : Int) < 3 ∨ (m : Int) = 0)) : ∃ v : Int, (#[Value.int .i64 a0, Value.int .i64 a1, Value.int .i64 a2] : Array Value)[m]? = some (.int .i64 v) ∧ (∀ h, ([Value.int .i64 a0, Value.int .i64 a1, Value.int .i64 a2] : List Value)[m]'h = .int .i64 v) ∧ (m : Int) < 3 ∧ m < 3 ∧ In3 v a0 a1 a2 := by
  have hm : m < 3 := by omega
  match m, hm with
  | 0, _ => exact ⟨a0, rfl, fun _ => rfl, by decide, by decide, by simp [In3]⟩
  | 1, _ => exact ⟨a1, rfl, fun _ => rfl, by decide, by decide, by simp [In3]⟩
  | 2, _ => exact ⟨a2, rfl, fun _ => rfl, by decide, by decide, by simp [In3]⟩
theorem Blk.s2 {w : World} {b : Nat} {T : TypeId} {x y : Value} (h : Blk w b T #[x, y]) (u v : Value) : Blk ((w.setCell ⟨b, 0, none⟩ u).setCell ⟨b, 1, none⟩ v) b T #[u, v] := by
  have := (h.set_ 0 u).set_ 1 v
  simpa using this
/-- From -M to M, both. -/
def ptM (M x y : Int) : Prop := (-M ≤ x ∧ x ≤ M) ∧ (-M ≤ y ∧ y ≤ M)
def DrawPt (M : Int) (w0 w : World) (g : Nat) (A : Option Addr) (n c : Nat) (e : Ending) (w' : World) : Prop := ∃ x y : Int, e = .returned (.agg #[.int .i64 x, .int .i64 y]) ∧ ptM M x y ∧ Dr w0 w' g A n c ∧ w.grownBy w' (some g)
set_option maxRecDepth 100000 in
set_option maxHeartbeats 4000000 in
theorem spec_l01DrawPoint {w0 w : World} {g : Nat} {A : Option Addr} {n c : Nat} (h : Dr w0 w g A n c) (hn : n ≤ 140737488355327) : Calls Tryz.prog 67 #[.pointer (some ⟨g, 0, none⟩)] w (DrawPt 1000000 w0 w g A n c) := by
  have HD := DrT.start h
  have hlt := HD.glt
  have R0 := Blk.new w 25 #[.int .i64 0, .int .i64 0]
  go_enter Tryz.func67, Tryz.ntmps67
  go_wp2_with fail
  refine (spec_Next (w0 := w0) (A := A) (n := n) (c := c) _ (DrT.dr (ws := w) (by ((repeat (first | exact HD | refine DrT.alloc ?_ _ | refine DrT.drewN ?_ _ | refine DrT.drew ?_ | refine DrT.set ?_ (by first | omega | (simp; omega)) _))))) hn).mono ?_
  rintro e1 w1 ⟨r1, rfl, hr1, D1, G1⟩
  have HD := DrT.step (ws := w) (by ((repeat (first | exact HD | refine DrT.alloc ?_ _ | refine DrT.drewN ?_ _ | refine DrT.drew ?_ | refine DrT.set ?_ (by first | omega | (simp; omega)) _)))) D1 G1
  have z1 := HD.size
  replace R0 := Blk.keepG (g := g) (R0.q (by (repeat (first | assumption | exact Q.refl _ | refine Q.alloc ?_ _ | refine Q.drewN ?_ _ | refine Q.drew ?_)))) G1 (by omega)
  by_cases h1 : r1 = 0
  · subst h1
    clear hr1
    have cR0 := R0.cell
    have fR0 := R0.frozen
    have lR0 := R0.lt
    go_wp2_with fail
    go_region_with (first | (have qq := G2; go_at_call 17; refine (spec_Next (w0 := w0) (A := A) (n := n) (c := c) _ (DrT.dr (ws := w) (by ((repeat (first | exact HD | refine DrT.alloc ?_ _ | refine DrT.drewN ?_ _ | refine DrT.drew ?_ | refine DrT.set ?_ (by first | omega | (simp; omega)) _))))) hn).mono ?_; rintro e3 w3 ⟨r3, rfl, hr3, D3, G3⟩; have HD := DrT.step (ws := w) (by ((repeat (first | exact HD | refine DrT.alloc ?_ _ | refine DrT.drewN ?_ _ | refine DrT.drew ?_ | refine DrT.set ?_ (by first | omega | (simp; omega)) _)))) D3 G3; have z3 := HD.size; have R0 := Blk.keepG (g := g) (R0.q (by (repeat (first | assumption | exact Q.refl _ | refine Q.alloc ?_ _ | refine Q.drewN ?_ _ | refine Q.drew ?_)))) G3 (by omega); have cR0 := R0.cell; have fR0 := R0.frozen; have lR0 := R0.lt; obtain ⟨m3, rfl⟩ := Int.eq_ofNat_of_zero_le hr3.1; obtain ⟨v3, hv3, hvl3, hm3, hn3, hb3⟩ := pickR (-1000000) 1000000 1 hr3; (first | (have P3 := grown_box G3 (by first | omega | (simp; omega)); (try simp only [World.size_alloc] at P3); have cP3 := P3.cell; have lP3 := P3.lt) | (have P3 := grown_boxD G3 (by first | omega | (simp; omega)); (try simp only [World.size_alloc] at P3); have cP3 := P3.cell; have lP3 := P3.lt) | skip); (first | (have O3 := (by with_reducible first | exact grown_box2 G3 (by omega) | exact grown_box2D G3 (by omega) | exact grown_box2E G3 (by omega) | exact grown_box2F G3 (by omega) : Blk _ _ _ _); have cO3 := O3.cell; have lO3 := O3.lt) | skip); (first | (have P2 := Blk.keepG (P2.q (by (repeat (first | assumption | exact Q.refl _ | refine Q.alloc ?_ _ | refine Q.drewN ?_ _ | refine Q.drew ?_)))) G3 (by omega); have cP2 := P2.cell; have lP2 := P2.lt) | skip); (first | (have O2 := Blk.keepG (O2.q (by (repeat (first | assumption | exact Q.refl _ | refine Q.alloc ?_ _ | refine Q.drewN ?_ _ | refine Q.drew ?_)))) G3 (by omega); have cO2 := O2.cell; have lO2 := O2.lt) | skip)) | (go_at_call 17; refine (spec_Next (w0 := w0) (A := A) (n := n) (c := c) _ (DrT.dr (ws := w) (by ((repeat (first | exact HD | refine DrT.alloc ?_ _ | refine DrT.drewN ?_ _ | refine DrT.drew ?_ | refine DrT.set ?_ (by first | omega | (simp; omega)) _))))) hn).mono ?_; rintro e2 w2 ⟨r2, rfl, hr2, D2, G2⟩; have HD := DrT.step (ws := w) (by ((repeat (first | exact HD | refine DrT.alloc ?_ _ | refine DrT.drewN ?_ _ | refine DrT.drew ?_ | refine DrT.set ?_ (by first | omega | (simp; omega)) _)))) D2 G2; have z2 := HD.size; have R0 := Blk.keepG (g := g) (R0.q (by (repeat (first | assumption | exact Q.refl _ | refine Q.alloc ?_ _ | refine Q.drewN ?_ _ | refine Q.drew ?_)))) G2 (by omega); have cR0 := R0.cell; have fR0 := R0.frozen; have lR0 := R0.lt; obtain ⟨m2, rfl⟩ := Int.eq_ofNat_of_zero_le hr2.1; obtain ⟨v2, hv2, hvl2, hm2, hn2, hb2⟩ := pickR (-1000000) 1000000 0 hr2; (first | (have P2 := (grown_box G2 (by first | omega | (simp; omega))); (try simp only [World.size_alloc] at P2); have cP2 := P2.cell; have lP2 := P2.lt) | (have P2 := (grown_boxD G2 (by first | omega | (simp; omega))); (try simp only [World.size_alloc] at P2); have cP2 := P2.cell; have lP2 := P2.lt) | skip); (first | (have O2 := (by with_reducible first | exact grown_box2 G2 (by omega) | exact grown_box2D G2 (by omega) | exact grown_box2E G2 (by omega) | exact grown_box2F G2 (by omega) : Blk _ _ _ _); have cO2 := O2.cell; have lO2 := O2.lt) | skip)))
    all_goals go_wp2_with fail
    all_goals
      refine bodyPost_ret (v := .agg #[.int .i64 v2, .int .i64 v3]) (by simp [results, Tryz.results67, go_sem, cR0, lR0]) rfl ⟨v2, v3, rfl, ?_, ?_, ?_⟩
      · unfold In3 at hb2 hb3; unfold ptM; omega
      · exact DrT.dr (ws := w) (by ((repeat (first | exact HD | refine DrT.alloc ?_ _ | refine DrT.drewN ?_ _ | refine DrT.drew ?_ | refine DrT.set ?_ (by first | omega | (simp; omega)) _))))
      · exact DrT.gr (w0 := w0) (g := g) (A := A) (n := n) (c := c) (by ((repeat (first | exact HD | refine DrT.alloc ?_ _ | refine DrT.drewN ?_ _ | refine DrT.drew ?_ | refine DrT.set ?_ (by first | omega | (simp; omega)) _))))
  · have b1 : (r1 == 0) = false := by simpa using h1
    clear h1 hr1
    have cR0 := R0.cell
    have fR0 := R0.frozen
    have lR0 := R0.lt
    go_wp2_with (go_at_call 17; refine (spec_Next (w0 := w0) (A := A) (n := n) (c := c) _ (DrT.dr (ws := w) (by ((repeat (first | exact HD | refine DrT.alloc ?_ _ | refine DrT.drewN ?_ _ | refine DrT.drew ?_ | refine DrT.set ?_ (by first | omega | (simp; omega)) _))))) hn).mono ?_; rintro e2 w2 ⟨r2, rfl, hr2, D2, G2⟩; have HD := DrT.step (ws := w) (by ((repeat (first | exact HD | refine DrT.alloc ?_ _ | refine DrT.drewN ?_ _ | refine DrT.drew ?_ | refine DrT.set ?_ (by first | omega | (simp; omega)) _)))) D2 G2; have z2 := HD.size; have R0 := Blk.keepG (g := g) (R0.q (by (repeat (first | assumption | exact Q.refl _ | refine Q.alloc ?_ _ | refine Q.drewN ?_ _ | refine Q.drew ?_)))) G2 (by omega); obtain ⟨m2, rfl⟩ := Int.eq_ofNat_of_zero_le hr2.1; obtain ⟨v2, hv2, hvl2, hm2, hn2, hb2⟩ := pickR 7 41 1001 hr2; have P2 := (grown_box G2 (by omega)).cell; go_wp2_with fail)
    have hw2 : 0 ≤ v2 ∧ v2 ≤ 1001 := by unfold In3 at hb2; omega
    clear hv2 hvl2 P2 hm2 hn2
    refine (spec_Next (w0 := w0) (A := A) (n := n) (c := c) _ (DrT.dr (ws := w) (by ((repeat (first | exact HD | refine DrT.alloc ?_ _ | refine DrT.drewN ?_ _ | refine DrT.drew ?_ | refine DrT.set ?_ (by first | omega | (simp; omega)) _))))) hn).mono ?_
    rintro e3 w3 ⟨r3, rfl, hr3, D3, G3⟩
    have HD := DrT.step (ws := w) (by ((repeat (first | exact HD | refine DrT.alloc ?_ _ | refine DrT.drewN ?_ _ | refine DrT.drew ?_ | refine DrT.set ?_ (by first | omega | (simp; omega)) _)))) D3 G3
    have z3 := HD.size
    replace R0 := Blk.keepG (g := g) (R0.q (by (repeat (first | assumption | exact Q.refl _ | refine Q.alloc ?_ _ | refine Q.drewN ?_ _ | refine Q.drew ?_)))) G3 (by omega)
    have cR0 := R0.cell
    have fR0 := R0.frozen
    have lR0 := R0.lt
    go_wp2_with fail
    refine (spec_Next (w0 := w0) (A := A) (n := n) (c := c) _ (DrT.dr (ws := w) (by ((repeat (first | exact HD | refine DrT.alloc ?_ _ | refine DrT.drewN ?_ _ | refine DrT.drew ?_ | refine DrT.set ?_ (by first | omega | (simp; omega)) _))))) hn).mono ?_
    rintro e4 w4 ⟨r4, rfl, hr4, D4, G4⟩
    have HD := DrT.step (ws := w) (by ((repeat (first | exact HD | refine DrT.alloc ?_ _ | refine DrT.drewN ?_ _ | refine DrT.drew ?_ | refine DrT.set ?_ (by first | omega | (simp; omega)) _)))) D4 G4
    have z4 := HD.size
    replace R0 := Blk.keepG (g := g) (R0.q (by (repeat (first | assumption | exact Q.refl _ | refine Q.alloc ?_ _ | refine Q.drewN ?_ _ | refine Q.drew ?_)))) G4 (by omega)
    have cR0 := R0.cell
    have fR0 := R0.frozen
    have lR0 := R0.lt
    go_wp2_with fail
    refine bodyPost_ret (v := .agg #[.int .i64 (r3 - v2 / 2), .int .i64 (r4 - v2 / 2)]) (by simp [results, Tryz.results67, go_sem, cR0]) rfl ⟨r3 - v2 / 2, r4 - v2 / 2, rfl, ?_, ?_, ?_⟩
    · unfold ptM; omega
    · exact DrT.dr (ws := w) (by ((repeat (first | exact HD | refine DrT.alloc ?_ _ | refine DrT.drewN ?_ _ | refine DrT.drew ?_ | refine DrT.set ?_ (by first | omega | (simp; omega)) _))))
    · exact DrT.gr (w0 := w0) (g := g) (A := A) (n := n) (c := c) (by ((repeat (first | exact HD | refine DrT.alloc ?_ _ | refine DrT.drewN ?_ _ | refine DrT.drew ?_ | refine DrT.set ?_ (by first | omega | (simp; omega)) _))))
end Go.Proofs.YteofhfefbphjdaaGreatDoor
namespace Go.Proofs.YteofhfefbphjdaaGreatDoor
open Go.RowKit Go.WideShapes Go.ChangeShapes
def DrawLn (M : Int) (w0 w : World) (g : Nat) (A : Option Addr) (n c : Nat) (e : Ending) (w' : World) : Prop := ∃ x y z u : Int, e = .returned (.agg #[.int .i64 x, .int .i64 y, .int .i64 z, .int .i64 u]) ∧ (ptM M x y ∧ ptM M z u) ∧ Dr w0 w' g A n c ∧ w.grownBy w' (some g)
def DrawLnV (w0 w : World) (g : Nat) (A : Option Addr) (n c : Nat) (e : Ending) (w' : World) : Prop := ∃ x y z u : Int, e = .returned (.agg #[.int .i64 x, .int .i64 y, .int .i64 z, .int .i64 u]) ∧ ((ptM 1000000 x y ∧ ptM 1000000 z u) ∧ ¬ (x = z ∧ y = u)) ∧ Dr w0 w' g A n c ∧ w.grownBy w' (some g)
theorem DrawLnV.weak {w0 w : World} {g : Nat} {A : Option Addr} {n c : Nat} (e : Ending) (w' : World) (h : DrawLnV w0 w g A n c e w') : DrawLn 1000001 w0 w g A n c e w' := by
  obtain ⟨x, y, z, u, rfl, ⟨⟨⟨⟨h1, h2⟩, h3, h4⟩, ⟨h5, h6⟩, h7, h8⟩, _⟩, D, G⟩ := h
  exact ⟨x, y, z, u, rfl, ⟨⟨⟨by omega, by omega⟩, by omega, by omega⟩, ⟨by omega, by omega⟩, by omega, by omega⟩, D, G⟩
theorem Blk.st4 {w : World} {b : Nat} {T : TypeId} {x0 x1 x2 x3 : Value} (h : Blk w b T #[x0, x1, x2, x3]) (y0 y1 y2 y3 : Value) : Blk ((((w.setCell ⟨b, 0, none⟩ y0).setCell ⟨b, 1, none⟩ y1).setCell ⟨b, 2, none⟩ y2).setCell ⟨b, 3, none⟩ y3) b T #[y0, y1, y2, y3] := by
  have := (((h.set_ 0 y0).set_ 1 y1).set_ 2 y2).set_ 3 y3
  simpa using this
set_option maxRecDepth 100000 in
set_option maxHeartbeats 4000000 in
theorem spec_l02DrawV {w0 w : World} {g : Nat} {A : Option Addr} {n c : Nat} (h : Dr w0 w g A n c) (hn : n ≤ 140737488355327) : Calls Tryz.prog 98 #[.pointer (some ⟨g, 0, none⟩)] w (DrawLnV w0 w g A n c) := by
  have HD := DrT.start h
  have hlt := HD.glt
  have R0 := Blk.new w 118 #[.int .i64 0, .int .i64 0, .int .i64 0, .int .i64 0]
  go_enter Tryz.func98, Tryz.ntmps98
  go_wp2_with fail
  refine (spec_l01DrawPoint (w0 := w0) (A := A) (n := n) (c := c) (DrT.dr (ws := w) (by ((repeat (first | exact HD | refine DrT.alloc ?_ _ | refine DrT.drewN ?_ _ | refine DrT.drew ?_ | refine DrT.set ?_ (by first | omega | (simp; omega)) _))))) hn).mono ?_
  rintro e1 w1 ⟨x1, y1, rfl, hp1, D1, G1⟩
  replace HD := DrT.step (ws := w) (by ((repeat (first | exact HD | refine DrT.alloc ?_ _ | refine DrT.drewN ?_ _ | refine DrT.drew ?_ | refine DrT.set ?_ (by first | omega | (simp; omega)) _)))) D1 G1
  have z1 := HD.size
  replace R0 := Blk.keepG (g := g) (R0.q (by (repeat (first | assumption | exact Q.refl _ | refine Q.alloc ?_ _ | refine Q.drewN ?_ _ | refine Q.drew ?_)))) G1 (by omega)
  go_wp2_with fail
  refine (spec_l01DrawPoint (w0 := w0) (A := A) (n := n) (c := c) (DrT.dr (ws := w) (by ((repeat (first | exact HD | refine DrT.alloc ?_ _ | refine DrT.drewN ?_ _ | refine DrT.drew ?_ | refine DrT.set ?_ (by first | omega | (simp; omega)) _))))) hn).mono ?_
  rintro e2 w2 ⟨x2, y2, rfl, hp2, D2, G2⟩
  replace HD := DrT.step (ws := w) (by ((repeat (first | exact HD | refine DrT.alloc ?_ _ | refine DrT.drewN ?_ _ | refine DrT.drew ?_ | refine DrT.set ?_ (by first | omega | (simp; omega)) _)))) D2 G2
  have z2 := HD.size
  replace R0 := Blk.keepG (g := g) (R0.q (by (repeat (first | assumption | exact Q.refl _ | refine Q.alloc ?_ _ | refine Q.drewN ?_ _ | refine Q.drew ?_)))) G2 (by omega)
  have lR := R0.lt
  have P1 : Blk ((w2.alloc (.cells #[.int .i64 x1, .int .i64 y1] 25)).alloc (.cells #[.int .i64 x2, .int .i64 y2] 25)) w2.heap.size 25 #[.int .i64 x1, .int .i64 y1] := (Blk.new _ _ _).alloc _
  have P2 : Blk ((w2.alloc (.cells #[.int .i64 x1, .int .i64 y1] 25)).alloc (.cells #[.int .i64 x2, .int .i64 y2] 25)) (w2.heap.size + 1) 25 #[.int .i64 x2, .int .i64 y2] := by simpa using Blk.new (w2.alloc (.cells #[.int .i64 x1, .int .i64 y1] 25)) 25 #[.int .i64 x2, .int .i64 y2]
  replace HD := (HD.alloc (.cells #[.int .i64 x1, .int .i64 y1] 25)).alloc (.cells #[.int .i64 x2, .int .i64 y2] 25)
  replace R0 := (R0.alloc (.cells #[.int .i64 x1, .int .i64 y1] 25)).alloc (.cells #[.int .i64 x2, .int .i64 y2] 25)
  go_upto_region 2 with (fail)
  obtain ⟨b, hb⟩ : ∃ b, b = w2.heap.size := ⟨_, rfl⟩
  generalize hwb : (w2.alloc (.cells #[.int .i64 x1, .int .i64 y1] 25)).alloc (.cells #[.int .i64 x2, .int .i64 y2] 25) = wb at *
  rw [← hb] at P1 P2 lR z2 ⊢
  clear hwb hb
  have c1 := P1.cell
  have f1 := P1.frozen
  have l1 := P1.lt
  have c2 := P2.cell
  have f2 := P2.frozen
  have l2 := P2.lt
  have cR := R0.cell
  have fR := R0.frozen
  have lR' := R0.lt
  have hbw : w.heap.size ≤ b := by omega
  obtain ⟨⟨p1, p2⟩, p3, p4⟩ := hp1
  obtain ⟨⟨q1, q2⟩, q3, q4⟩ := hp2
  by_cases he : x1 = x2 ∧ y1 = y2
  · obtain ⟨rfl, rfl⟩ := he
    have P2' := P2.s2 (.int .i64 x1) (.int .i64 (y1 - 1))
    have P1' := (P1.far (p := ⟨b + 1, 0, none⟩) (by simp) (.int .i64 x1)).far (p := ⟨b + 1, 1, none⟩) (by simp) (.int .i64 (y1 - 1))
    have R0' := (R0.far (p := ⟨b + 1, 0, none⟩) (by simp only; omega) (.int .i64 x1)).far (p := ⟨b + 1, 1, none⟩) (by simp only; omega) (.int .i64 (y1 - 1))
    have HD' := (HD.set (b := b + 1) (i := 0) (by omega) (.int .i64 x1)).set (b := b + 1) (i := 1) (by omega) (.int .i64 (y1 - 1))
    by_cases hn0 : y1 < 0
    · have P2a := P2'.set_ 1 (.int .i64 (y1 + 1))
      replace P2a : Blk (((wb.setCell ⟨b + 1, 0, none⟩ (.int .i64 x1)).setCell ⟨b + 1, 1, none⟩ (.int .i64 (y1 - 1))).setCell ⟨b + 1, 1, none⟩ (.int .i64 (y1 + 1))) (b + 1) 25 #[.int .i64 x1, .int .i64 (y1 + 1)] := by simpa using P2a
      have P1a := P1'.far (p := ⟨b + 1, 1, none⟩) (by simp) (.int .i64 (y1 + 1))
      have R0a := R0'.far (p := ⟨b + 1, 1, none⟩) (by simp only; omega) (.int .i64 (y1 + 1))
      have HDa := HD'.set (b := b + 1) (i := 1) (by omega) (.int .i64 (y1 + 1))
      go_upto_region 6 with (fail)
      generalize ((wb.setCell ⟨b + 1, 0, none⟩ (.int .i64 x1)).setCell ⟨b + 1, 1, none⟩ (.int .i64 (y1 - 1))).setCell ⟨b + 1, 1, none⟩ (.int .i64 (y1 + 1)) = wx at *
      clear P1 P2 R0 HD P1' P2' R0' HD' c1 f1 l1 c2 f2 l2 cR fR lR'
      have HD := HDa
      have c1 := P1a.cell
      have l1 := P1a.lt
      have c2 := P2a.cell
      have l2 := P2a.lt
      have cR := R0a.cell
      have fR := R0a.frozen
      go_wp2_with fail
      have F := (R0a.st4 (.int .i64 x1) (.int .i64 y1) (.int .i64 x1) (.int .i64 (y1 + 1))).cell
      refine bodyPost_ret (v := .agg #[.int .i64 x1, .int .i64 y1, .int .i64 x1, .int .i64 (y1 + 1)]) (by simp [results, Tryz.results98, go_sem, F]) rfl ⟨x1, y1, _, _, rfl, ⟨⟨⟨⟨by omega, by omega⟩, by omega, by omega⟩, ⟨by omega, by omega⟩, by omega, by omega⟩, fun e => by omega⟩, ?_, ?_⟩
      · exact DrT.dr (ws := w) (by ((repeat (first | exact HD | refine DrT.alloc ?_ _ | refine DrT.drewN ?_ _ | refine DrT.drew ?_ | refine DrT.set ?_ (by first | omega | (simp; omega)) _))))
      · exact DrT.gr (w0 := w0) (g := g) (A := A) (n := n) (c := c) (by ((repeat (first | exact HD | refine DrT.alloc ?_ _ | refine DrT.drewN ?_ _ | refine DrT.drew ?_ | refine DrT.set ?_ (by first | omega | (simp; omega)) _))))
    · go_upto_region 6 with (fail)
      generalize (wb.setCell ⟨b + 1, 0, none⟩ (.int .i64 x1)).setCell ⟨b + 1, 1, none⟩ (.int .i64 (y1 - 1)) = wx at *
      clear P1 P2 R0 HD c1 f1 l1 c2 f2 l2 cR fR lR'
      have HD := HD'
      have c1 := P1'.cell
      have l1 := P1'.lt
      have c2 := P2'.cell
      have l2 := P2'.lt
      have cR := R0'.cell
      have fR := R0'.frozen
      go_wp2_with fail
      have F := (R0'.st4 (.int .i64 x1) (.int .i64 y1) (.int .i64 x1) (.int .i64 (y1 - 1))).cell
      refine bodyPost_ret (v := .agg #[.int .i64 x1, .int .i64 y1, .int .i64 x1, .int .i64 (y1 - 1)]) (by simp [results, Tryz.results98, go_sem, F]) rfl ⟨x1, y1, _, _, rfl, ⟨⟨⟨⟨by omega, by omega⟩, by omega, by omega⟩, ⟨by omega, by omega⟩, by omega, by omega⟩, fun e => by omega⟩, ?_, ?_⟩
      · exact DrT.dr (ws := w) (by ((repeat (first | exact HD | refine DrT.alloc ?_ _ | refine DrT.drewN ?_ _ | refine DrT.drew ?_ | refine DrT.set ?_ (by first | omega | (simp; omega)) _))))
      · exact DrT.gr (w0 := w0) (g := g) (A := A) (n := n) (c := c) (by ((repeat (first | exact HD | refine DrT.alloc ?_ _ | refine DrT.drewN ?_ _ | refine DrT.drew ?_ | refine DrT.set ?_ (by first | omega | (simp; omega)) _))))
  · by_cases hx : x1 = x2
    · subst hx
      have hy : (y1 == y2) = false := by simpa using fun e => he ⟨rfl, e⟩
      have HE := Lib.hid he
      clear he
      go_wp2_with fail
      have F := (R0.st4 (.int .i64 x1) (.int .i64 y1) (.int .i64 x1) (.int .i64 y2)).cell
      refine bodyPost_ret (v := .agg #[.int .i64 x1, .int .i64 y1, .int .i64 x1, .int .i64 y2]) (by simp [results, Tryz.results98, go_sem, F]) rfl ⟨x1, y1, _, _, rfl, ⟨⟨⟨⟨by omega, by omega⟩, by omega, by omega⟩, ⟨by omega, by omega⟩, by omega, by omega⟩, fun e => HE.out ⟨trivial, e.2⟩⟩, ?_, ?_⟩
      · exact DrT.dr (ws := w) (by ((repeat (first | exact HD | refine DrT.alloc ?_ _ | refine DrT.drewN ?_ _ | refine DrT.drew ?_ | refine DrT.set ?_ (by first | omega | (simp; omega)) _))))
      · exact DrT.gr (w0 := w0) (g := g) (A := A) (n := n) (c := c) (by ((repeat (first | exact HD | refine DrT.alloc ?_ _ | refine DrT.drewN ?_ _ | refine DrT.drew ?_ | refine DrT.set ?_ (by first | omega | (simp; omega)) _))))
    · have hxb : (x1 == x2) = false := by simpa using hx
      have HE := Lib.hid he
      clear he
      go_wp2_with fail
      have F := (R0.st4 (.int .i64 x1) (.int .i64 y1) (.int .i64 x2) (.int .i64 y2)).cell
      refine bodyPost_ret (v := .agg #[.int .i64 x1, .int .i64 y1, .int .i64 x2, .int .i64 y2]) (by simp [results, Tryz.results98, go_sem, F]) rfl ⟨x1, y1, _, _, rfl, ⟨⟨⟨⟨by omega, by omega⟩, by omega, by omega⟩, ⟨by omega, by omega⟩, by omega, by omega⟩, HE.out⟩, ?_, ?_⟩
      · exact DrT.dr (ws := w) (by ((repeat (first | exact HD | refine DrT.alloc ?_ _ | refine DrT.drewN ?_ _ | refine DrT.drew ?_ | refine DrT.set ?_ (by first | omega | (simp; omega)) _))))
      · exact DrT.gr (w0 := w0) (g := g) (A := A) (n := n) (c := c) (by ((repeat (first | exact HD | refine DrT.alloc ?_ _ | refine DrT.drewN ?_ _ | refine DrT.drew ?_ | refine DrT.set ?_ (by first | omega | (simp; omega)) _))))
set_option maxRecDepth 100000 in
set_option maxHeartbeats 4000000 in
theorem spec_l04DrawLineV {w0 w : World} {g : Nat} {A : Option Addr} {n c : Nat} (h : Dr w0 w g A n c) (hn : n ≤ 140737488355327) : Calls Tryz.prog 66 #[.pointer (some ⟨g, 0, none⟩)] w (DrawLnV w0 w g A n c) := by
  have HD := DrT.start h
  have hlt := HD.glt
  have R0 := Blk.new w 27 #[.int .i64 0, .int .i64 0, .int .i64 0, .int .i64 0]
  go_enter Tryz.func66, Tryz.ntmps66
  go_wp2_with fail
  refine (spec_l02DrawV (w0 := w0) (A := A) (n := n) (c := c) (DrT.dr (ws := w) (by ((repeat (first | exact HD | refine DrT.alloc ?_ _ | refine DrT.drewN ?_ _ | refine DrT.drew ?_ | refine DrT.set ?_ (by first | omega | (simp; omega)) _))))) hn).mono ?_
  rintro e1 w1 ⟨x, y, z, u, rfl, hp1, D1, G1⟩
  replace HD := DrT.step (ws := w) (by ((repeat (first | exact HD | refine DrT.alloc ?_ _ | refine DrT.drewN ?_ _ | refine DrT.drew ?_ | refine DrT.set ?_ (by first | omega | (simp; omega)) _)))) D1 G1
  have z1 := HD.size
  replace R0 := Blk.keepG (g := g) (R0.q (by (repeat (first | assumption | exact Q.refl _ | refine Q.alloc ?_ _ | refine Q.drewN ?_ _ | refine Q.drew ?_)))) G1 (by omega)
  have cR := R0.cell
  have fR := R0.frozen
  have lR := R0.lt
  go_wp2_with fail
  have F := ((R0.st4 (.int .i64 x) (.int .i64 y) (.int .i64 z) (.int .i64 u)).alloc (.cells #[.int .i64 x, .int .i64 y, .int .i64 z, .int .i64 u] 118)).cell
  refine bodyPost_ret (v := .agg #[.int .i64 x, .int .i64 y, .int .i64 z, .int .i64 u]) (by simp [results, Tryz.results66, go_sem, F]) rfl ⟨x, y, z, u, rfl, hp1, ?_, ?_⟩
  · exact DrT.dr (ws := w) (by ((repeat (first | exact HD | refine DrT.alloc ?_ _ | refine DrT.drewN ?_ _ | refine DrT.drew ?_ | refine DrT.set ?_ (by first | omega | (simp; omega)) _))))
  · exact DrT.gr (w0 := w0) (g := g) (A := A) (n := n) (c := c) (by ((repeat (first | exact HD | refine DrT.alloc ?_ _ | refine DrT.drewN ?_ _ | refine DrT.drew ?_ | refine DrT.set ?_ (by first | omega | (simp; omega)) _))))
theorem spec_l04DrawLine {w0 w : World} {g : Nat} {A : Option Addr} {n c : Nat} (h : Dr w0 w g A n c) (hn : n ≤ 140737488355327) : Calls Tryz.prog 66 #[.pointer (some ⟨g, 0, none⟩)] w (DrawLn 1000001 w0 w g A n c) :=
  (spec_l04DrawLineV h hn).mono DrawLnV.weak
end Go.Proofs.YteofhfefbphjdaaGreatDoor
