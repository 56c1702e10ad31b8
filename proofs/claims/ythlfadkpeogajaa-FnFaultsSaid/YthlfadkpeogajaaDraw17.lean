/- Walks: the reference's draws of protests. No condition. -/
import Derived.Test.YthlfadkpeogajaaDraw15
namespace Go.Proofs.Ythlfadkpeogajaa
open Go.RowKit Go.WideShapes Go.ChangeShapes
def Bx6 (w : World) (b : Nat) (T : TypeId) : Prop := ∃ x0 x1 x2 x3 x4 x5 : Int, Blk w b T #[.int .i64 x0, .int .i64 x1, .int .i64 x2, .int .i64 x3, .int .i64 x4, .int .i64 x5]
def Draw6 (w0 w : World) (g : Nat) (A : Option Addr) (n c : Nat) (e : Ending) (w' : World) : Prop := ∃ x0 x1 x2 x3 x4 x5 : Int, e = .returned (.agg #[.int .i64 x0, .int .i64 x1, .int .i64 x2, .int .i64 x3, .int .i64 x4, .int .i64 x5]) ∧ Dr w0 w' g A n c ∧ w.grownBy w' (some g)
def Z6 : Array Value := #[.int .i64 0, .int .i64 0, .int .i64 0, .int .i64 0, .int .i64 0, .int .i64 0]
theorem Bx6.set {w : World} {b i : Nat} {T : TypeId} (h : Bx6 w b T) (hi : i < 6) (v : Int) : Bx6 (w.setCell ⟨b, i, none⟩ (.int .i64 v)) b T := by
  obtain ⟨x0, x1, x2, x3, x4, x5, B⟩ := h
  match i, hi with
  | 0, _ => exact ⟨v, x1, x2, x3, x4, x5, by simpa using B.set_ 0 (.int .i64 v)⟩
  | 1, _ => exact ⟨x0, v, x2, x3, x4, x5, by simpa using B.set_ 1 (.int .i64 v)⟩
  | 2, _ => exact ⟨x0, x1, v, x3, x4, x5, by simpa using B.set_ 2 (.int .i64 v)⟩
  | 3, _ => exact ⟨x0, x1, x2, v, x4, x5, by simpa using B.set_ 3 (.int .i64 v)⟩
  | 4, _ => exact ⟨x0, x1, x2, x3, v, x5, by simpa using B.set_ 4 (.int .i64 v)⟩
  | 5, _ => exact ⟨x0, x1, x2, x3, x4, v, by simpa using B.set_ 5 (.int .i64 v)⟩
theorem Bx6.q {w w' : World} {b : Nat} {T : TypeId} (h : Bx6 w b T) (hq : Q w w') : Bx6 w' b T := by
  obtain ⟨x0, x1, x2, x3, x4, x5, B⟩ := h
  exact ⟨x0, x1, x2, x3, x4, x5, B.q hq⟩
set_option maxHeartbeats 2000000 in
theorem spec_l17Draw {w0 w : World} {g : Nat} {A : Option Addr} {n c : Nat} (h : Dr w0 w g A n c) (hn : n ≤ 140737488355327) : Calls Try.prog 65 #[.pointer (some ⟨g, 0, none⟩)] w (Draw6 w0 w g A n c) := by
  have HD := DrT.start h
  have hlt := HD.glt
  have R0 := Blk.new w 32 #[.int .i64 0, .int .i64 0, .int .i64 0, .int .i64 0, .int .i64 0, .int .i64 0]
  go_enter Try.func65, Try.ntmps65
  go_wp2_with fail
  refine (spec_Next (w0 := w0) (A := A) (n := n) (c := c) _ (DrT.dr (ws := w) (by ((repeat (first | exact HD | refine DrT.alloc ?_ _ | refine DrT.drewN ?_ _ | refine DrT.drew ?_ | refine DrT.set ?_ (by first | omega | (simp; omega)) _))))) hn).mono ?_
  rintro e1 w1 ⟨r1, rfl, hr1, D1, G1⟩
  have HD := DrT.step (ws := w) (by ((repeat (first | exact HD | refine DrT.alloc ?_ _ | refine DrT.drewN ?_ _ | refine DrT.drew ?_ | refine DrT.set ?_ (by first | omega | (simp; omega)) _)))) D1 G1
  have z1 := HD.size
  replace R0 := Blk.keepG (g := g) (R0.q (by (repeat (first | assumption | exact Q.refl _ | refine Q.alloc ?_ _ | refine Q.drewN ?_ _ | refine Q.drew ?_)))) G1 (by omega)
  go_wp2_with fail
  refine (spec_Next (w0 := w0) (A := A) (n := n) (c := c) _ (DrT.dr (ws := w) (by ((repeat (first | exact HD | refine DrT.alloc ?_ _ | refine DrT.drewN ?_ _ | refine DrT.drew ?_ | refine DrT.set ?_ (by first | omega | (simp; omega)) _))))) hn).mono ?_
  rintro e2 w2 ⟨r2, rfl, hr2, D2, G2⟩
  have HD := DrT.step (ws := w) (by ((repeat (first | exact HD | refine DrT.alloc ?_ _ | refine DrT.drewN ?_ _ | refine DrT.drew ?_ | refine DrT.set ?_ (by first | omega | (simp; omega)) _)))) D2 G2
  have z2 := HD.size
  replace R0 := Blk.keepG (g := g) (R0.q (by (repeat (first | assumption | exact Q.refl _ | refine Q.alloc ?_ _ | refine Q.drewN ?_ _ | refine Q.drew ?_)))) G2 (by omega)
  go_wp2_with fail
  refine (spec_Next (w0 := w0) (A := A) (n := n) (c := c) _ (DrT.dr (ws := w) (by ((repeat (first | exact HD | refine DrT.alloc ?_ _ | refine DrT.drewN ?_ _ | refine DrT.drew ?_ | refine DrT.set ?_ (by first | omega | (simp; omega)) _))))) hn).mono ?_
  rintro e3 w3 ⟨r3, rfl, hr3, D3, G3⟩
  have HD := DrT.step (ws := w) (by ((repeat (first | exact HD | refine DrT.alloc ?_ _ | refine DrT.drewN ?_ _ | refine DrT.drew ?_ | refine DrT.set ?_ (by first | omega | (simp; omega)) _)))) D3 G3
  have z3 := HD.size
  replace R0 := Blk.keepG (g := g) (R0.q (by (repeat (first | assumption | exact Q.refl _ | refine Q.alloc ?_ _ | refine Q.drewN ?_ _ | refine Q.drew ?_)))) G3 (by omega)
  go_wp2_with fail
  refine (spec_Next (w0 := w0) (A := A) (n := n) (c := c) _ (DrT.dr (ws := w) (by ((repeat (first | exact HD | refine DrT.alloc ?_ _ | refine DrT.drewN ?_ _ | refine DrT.drew ?_ | refine DrT.set ?_ (by first | omega | (simp; omega)) _))))) hn).mono ?_
  rintro e4 w4 ⟨r4, rfl, hr4, D4, G4⟩
  have HD := DrT.step (ws := w) (by ((repeat (first | exact HD | refine DrT.alloc ?_ _ | refine DrT.drewN ?_ _ | refine DrT.drew ?_ | refine DrT.set ?_ (by first | omega | (simp; omega)) _)))) D4 G4
  have z4 := HD.size
  replace R0 := Blk.keepG (g := g) (R0.q (by (repeat (first | assumption | exact Q.refl _ | refine Q.alloc ?_ _ | refine Q.drewN ?_ _ | refine Q.drew ?_)))) G4 (by omega)
  go_wp2_with fail
  refine (spec_Next (w0 := w0) (A := A) (n := n) (c := c) _ (DrT.dr (ws := w) (by ((repeat (first | exact HD | refine DrT.alloc ?_ _ | refine DrT.drewN ?_ _ | refine DrT.drew ?_ | refine DrT.set ?_ (by first | omega | (simp; omega)) _))))) hn).mono ?_
  rintro e5 w5 ⟨r5, rfl, hr5, D5, G5⟩
  have HD := DrT.step (ws := w) (by ((repeat (first | exact HD | refine DrT.alloc ?_ _ | refine DrT.drewN ?_ _ | refine DrT.drew ?_ | refine DrT.set ?_ (by first | omega | (simp; omega)) _)))) D5 G5
  have z5 := HD.size
  replace R0 := Blk.keepG (g := g) (R0.q (by (repeat (first | assumption | exact Q.refl _ | refine Q.alloc ?_ _ | refine Q.drewN ?_ _ | refine Q.drew ?_)))) G5 (by omega)
  go_wp2_with fail
  refine (spec_Next (w0 := w0) (A := A) (n := n) (c := c) _ (DrT.dr (ws := w) (by ((repeat (first | exact HD | refine DrT.alloc ?_ _ | refine DrT.drewN ?_ _ | refine DrT.drew ?_ | refine DrT.set ?_ (by first | omega | (simp; omega)) _))))) hn).mono ?_
  rintro e6 w6 ⟨r6, rfl, hr6, D6, G6⟩
  have HD := DrT.step (ws := w) (by ((repeat (first | exact HD | refine DrT.alloc ?_ _ | refine DrT.drewN ?_ _ | refine DrT.drew ?_ | refine DrT.set ?_ (by first | omega | (simp; omega)) _)))) D6 G6
  have z6 := HD.size
  replace R0 := Blk.keepG (g := g) (R0.q (by (repeat (first | assumption | exact Q.refl _ | refine Q.alloc ?_ _ | refine Q.drewN ?_ _ | refine Q.drew ?_)))) G6 (by omega)
  go_wp2_with fail
  have B := Blk.new w6 32 #[.int .i64 r2, .int .i64 r3, .int .i64 r1, .int .i64 (r1 + r4), .int .i64 (r1 + r5), .int .i64 (r1 + r6)]
  obtain ⟨b, hb⟩ : ∃ b, b = w6.heap.size := ⟨_, rfl⟩
  rw [← hb] at B ⊢
  have hbz : w.heap.size < b := by have := R0.lt; omega
  replace HD := HD.alloc (.cells #[.int .i64 r2, .int .i64 r3, .int .i64 r1, .int .i64 (r1 + r4), .int .i64 (r1 + r5), .int .i64 (r1 + r6)] 32)
  replace R0 := R0.alloc (.cells #[.int .i64 r2, .int .i64 r3, .int .i64 r1, .int .i64 (r1 + r4), .int .i64 (r1 + r5), .int .i64 (r1 + r6)] 32)
  generalize hwb : w6.alloc (.cells #[.int .i64 r2, .int .i64 r3, .int .i64 r1, .int .i64 (r1 + r4), .int .i64 (r1 + r5), .int .i64 (r1 + r6)] 32) = wb at *
  clear hwb hb
  refine (spec_Next (w0 := w0) (A := A) (n := n) (c := c) _ (DrT.dr (ws := w) (by ((repeat (first | exact HD | refine DrT.alloc ?_ _ | refine DrT.drewN ?_ _ | refine DrT.drew ?_ | refine DrT.set ?_ (by first | omega | (simp; omega)) _))))) hn).mono ?_
  rintro e7 w7 ⟨r7, rfl, hr7, D7, G7⟩
  have HD := DrT.step (ws := w) (by ((repeat (first | exact HD | refine DrT.alloc ?_ _ | refine DrT.drewN ?_ _ | refine DrT.drew ?_ | refine DrT.set ?_ (by first | omega | (simp; omega)) _)))) D7 G7
  have z7 := HD.size
  replace B := Blk.keepG (g := g) (B.q (by (repeat (first | assumption | exact Q.refl _ | refine Q.alloc ?_ _ | refine Q.drewN ?_ _ | refine Q.drew ?_)))) G7 (by omega)
  replace R0 := Blk.keepG (g := g) (R0.q (by (repeat (first | assumption | exact Q.refl _ | refine Q.alloc ?_ _ | refine Q.drewN ?_ _ | refine Q.drew ?_)))) G7 (by omega)
  go_upto_block 0 with (fail)
  go_cut [] from 5 (fun wc => Bx6 wc b 32 ∧ Blk wc w.heap.size 32 #[.int .i64 0, .int .i64 0, .int .i64 0, .int .i64 0, .int .i64 0, .int .i64 0] ∧ DrT w0 w wc g A n c)
  case first =>
    have BB : Bx6 w7 b 32 := ⟨_, _, _, _, _, _, B⟩
    have cB := B.cell
    have fB := B.frozen
    by_cases h0 : r7 = 0
    · subst h0
      clear hr7
      go_wp2_with fail
      go_meet
      exact ⟨BB.set (by decide) _, R0.far (p := ⟨b, 3, none⟩) (by simp; omega) _, HD.set (b := b) (i := 3) (by omega) _⟩
    · have b0 : (r7 == 0) = false := by simpa using h0
      by_cases h1 : r7 = 1
      · subst h1
        clear hr7 h0
        go_wp2_with (go_at_call 59; refine (spec_Next (w0 := w0) (A := A) (n := n) (c := c) _ (DrT.dr (ws := w) (by ((repeat (first | exact HD | refine DrT.alloc ?_ _ | refine DrT.drewN ?_ _ | refine DrT.drew ?_ | refine DrT.set ?_ (by first | omega | (simp; omega)) _))))) hn).mono ?_; rintro e8 w8 ⟨r8, rfl, hr8, D8, G8⟩; have HD := DrT.step (ws := w) (by ((repeat (first | exact HD | refine DrT.alloc ?_ _ | refine DrT.drewN ?_ _ | refine DrT.drew ?_ | refine DrT.set ?_ (by first | omega | (simp; omega)) _)))) D8 G8; have z8 := HD.size; have B := Blk.keepG (g := g) (B.q (by (repeat (first | assumption | exact Q.refl _ | refine Q.alloc ?_ _ | refine Q.drewN ?_ _ | refine Q.drew ?_)))) G8 (by omega); have cB := B.cell; have fB := B.frozen; have lB := B.lt; have R0 := Blk.keepG (g := g) (R0.q (by (repeat (first | assumption | exact Q.refl _ | refine Q.alloc ?_ _ | refine Q.drewN ?_ _ | refine Q.drew ?_)))) G8 (by omega); have cR0 := R0.cell; have fR0 := R0.frozen; have lR0 := R0.lt)
        go_meet
        exact ⟨Bx6.set ⟨_, _, _, _, _, _, B⟩ (by decide) _, R0.far (p := ⟨b, 5, none⟩) (by simp; omega) _, HD.set (b := b) (i := 5) (by omega) _⟩
      · have b1 : (r7 == 1) = false := by simpa using h1
        by_cases h2 : r7 = 2
        · subst h2
          clear hr7 h0 h1
          go_wp2_with (go_at_call 59; refine (spec_Next (w0 := w0) (A := A) (n := n) (c := c) _ (DrT.dr (ws := w) (by ((repeat (first | exact HD | refine DrT.alloc ?_ _ | refine DrT.drewN ?_ _ | refine DrT.drew ?_ | refine DrT.set ?_ (by first | omega | (simp; omega)) _))))) hn).mono ?_; rintro e8 w8 ⟨r8, rfl, hr8, D8, G8⟩; have HD := DrT.step (ws := w) (by ((repeat (first | exact HD | refine DrT.alloc ?_ _ | refine DrT.drewN ?_ _ | refine DrT.drew ?_ | refine DrT.set ?_ (by first | omega | (simp; omega)) _)))) D8 G8; have z8 := HD.size; have B := Blk.keepG (g := g) (B.q (by (repeat (first | assumption | exact Q.refl _ | refine Q.alloc ?_ _ | refine Q.drewN ?_ _ | refine Q.drew ?_)))) G8 (by omega); have cB := B.cell; have fB := B.frozen; have lB := B.lt; have R0 := Blk.keepG (g := g) (R0.q (by (repeat (first | assumption | exact Q.refl _ | refine Q.alloc ?_ _ | refine Q.drewN ?_ _ | refine Q.drew ?_)))) G8 (by omega); have cR0 := R0.cell; have fR0 := R0.frozen; have lR0 := R0.lt)
          go_meet
          exact ⟨Bx6.set ⟨_, _, _, _, _, _, B⟩ (by decide) _, R0.far (p := ⟨b, 3, none⟩) (by simp; omega) _, HD.set (b := b) (i := 3) (by omega) _⟩
        · have b2 : (r7 == 2) = false := by simpa using h2
          by_cases h3 : r7 = 3
          · subst h3
            clear hr7 h0 h1 h2
            go_wp2_with (go_at_call 59; refine (spec_Next (w0 := w0) (A := A) (n := n) (c := c) _ (DrT.dr (ws := w) (by ((repeat (first | exact HD | refine DrT.alloc ?_ _ | refine DrT.drewN ?_ _ | refine DrT.drew ?_ | refine DrT.set ?_ (by first | omega | (simp; omega)) _))))) hn).mono ?_; rintro e8 w8 ⟨r8, rfl, hr8, D8, G8⟩; have HD := DrT.step (ws := w) (by ((repeat (first | exact HD | refine DrT.alloc ?_ _ | refine DrT.drewN ?_ _ | refine DrT.drew ?_ | refine DrT.set ?_ (by first | omega | (simp; omega)) _)))) D8 G8; have z8 := HD.size; have B := Blk.keepG (g := g) (B.q (by (repeat (first | assumption | exact Q.refl _ | refine Q.alloc ?_ _ | refine Q.drewN ?_ _ | refine Q.drew ?_)))) G8 (by omega); have cB := B.cell; have fB := B.frozen; have lB := B.lt; have R0 := Blk.keepG (g := g) (R0.q (by (repeat (first | assumption | exact Q.refl _ | refine Q.alloc ?_ _ | refine Q.drewN ?_ _ | refine Q.drew ?_)))) G8 (by omega); have cR0 := R0.cell; have fR0 := R0.frozen; have lR0 := R0.lt)
            go_meet
            exact ⟨Bx6.set ⟨_, _, _, _, _, _, B⟩ (by decide) _, R0.far (p := ⟨b, 4, none⟩) (by simp; omega) _, HD.set (b := b) (i := 4) (by omega) _⟩
          · have b3 : (r7 == 3) = false := by simpa using h3
            go_wp2_with fail
            go_meet
            exact ⟨BB, R0, HD⟩
  case rest =>
    clear R0 HD B
    obtain ⟨⟨x0, x1, x2, x3, x4, x5, B⟩, R0, HD⟩ := hcut
    have cB := B.cell
    have cR := R0.cell
    have fR := R0.frozen
    go_wp2_with fail
    refine bodyPost_ret (v := .agg #[.int .i64 x0, .int .i64 x1, .int .i64 x2, .int .i64 x3, .int .i64 x4, .int .i64 x5]) (by simp [results, Try.results65, go_sem, cB, cR]) rfl ⟨x0, x1, x2, x3, x4, x5, rfl, ?_, ?_⟩
    · exact ((((((HD.set (Nat.le_refl _) _).set (Nat.le_refl _) _).set (Nat.le_refl _) _).set (Nat.le_refl _) _).set (Nat.le_refl _) _).set (Nat.le_refl _) _).dr
    · exact ((((((HD.set (Nat.le_refl _) _).set (Nat.le_refl _) _).set (Nat.le_refl _) _).set (Nat.le_refl _) _).set (Nat.le_refl _) _).set (Nat.le_refl _) _).gr
end Go.Proofs.Ythlfadkpeogajaa
