/- Walks: the reference's draw of an incident. No condition. -/
import Derived.Test.YtgdjgjkijcmkfaaDoorDraw15
namespace Go.Proofs.YtgdjgjkijcmkfaaDoor
open Go.RowKit Go.WideShapes Go.ChangeShapes
def Bx5 (w : World) (b : Nat) (T : TypeId) : Prop := ∃ x y z u v : Int, Blk w b T #[.int .i64 x, .int .i64 y, .int .i64 z, .int .i64 u, .int .i64 v]
theorem Blk.s5_0 {w : World} {g : Nat} {t : TypeId} {a b c d e : Value} (h : Blk w g t #[a, b, c, d, e]) (v : Value) : Blk (w.setCell ⟨g, 0, none⟩ v) g t #[v, b, c, d, e] := by simpa using h.set_ 0 v
theorem Blk.s5_1 {w : World} {g : Nat} {t : TypeId} {a b c d e : Value} (h : Blk w g t #[a, b, c, d, e]) (v : Value) : Blk (w.setCell ⟨g, 1, none⟩ v) g t #[a, v, c, d, e] := by simpa using h.set_ 1 v
theorem Blk.s5_2 {w : World} {g : Nat} {t : TypeId} {a b c d e : Value} (h : Blk w g t #[a, b, c, d, e]) (v : Value) : Blk (w.setCell ⟨g, 2, none⟩ v) g t #[a, b, v, d, e] := by simpa using h.set_ 2 v
theorem Blk.s5_3 {w : World} {g : Nat} {t : TypeId} {a b c d e : Value} (h : Blk w g t #[a, b, c, d, e]) (v : Value) : Blk (w.setCell ⟨g, 3, none⟩ v) g t #[a, b, c, v, e] := by simpa using h.set_ 3 v
theorem Blk.s5_4 {w : World} {g : Nat} {t : TypeId} {a b c d e : Value} (h : Blk w g t #[a, b, c, d, e]) (v : Value) : Blk (w.setCell ⟨g, 4, none⟩ v) g t #[a, b, c, d, v] := by simpa using h.set_ 4 v
def Draw5 (w0 w : World) (g : Nat) (A : Option Addr) (n c : Nat) (e : Ending) (w' : World) : Prop := ∃ x y z u v : Int, e = .returned (.agg #[.int .i64 x, .int .i64 y, .int .i64 z, .int .i64 u, .int .i64 v]) ∧ Dr w0 w' g A n c ∧ w.grownBy w' (some g)
set_option maxHeartbeats 4000000 in
theorem spec_l12DrawIncident {w0 w : World} {g : Nat} {A : Option Addr} {n c : Nat} (h : Dr w0 w g A n c) (hn : n ≤ 140737488355327) : Calls Tryd.prog 78 #[.pointer (some ⟨g, 0, none⟩)] w (Draw5 w0 w g A n c) := by
  have HD := DrT.start h
  have hlt := HD.glt
  have R0 := Blk.new w 38 #[.int .i64 0, .int .i64 0, .int .i64 0, .int .i64 0, .int .i64 0]
  go_enter Tryd.func78, Tryd.ntmps78
  go_wp2_with fail
  refine (spec_Next (w0 := w0) (A := A) (n := n) (c := c) _ (DrT.dr (ws := w) (by ((repeat (first | exact HD | refine DrT.alloc ?_ _ | refine DrT.drewN ?_ _ | refine DrT.drew ?_ | refine DrT.set ?_ (by first | omega | (simp; omega)) _))))) hn).mono ?_
  rintro e1 w1 ⟨r1, rfl, hr1, D1, G1⟩
  have HD := DrT.step (ws := w) (by ((repeat (first | exact HD | refine DrT.alloc ?_ _ | refine DrT.drewN ?_ _ | refine DrT.drew ?_ | refine DrT.set ?_ (by first | omega | (simp; omega)) _)))) D1 G1
  have z1 := HD.size
  replace R0 := Blk.keepG (g := g) (R0.q (by (repeat (first | assumption | exact Q.refl _ | refine Q.alloc ?_ _ | refine Q.drewN ?_ _ | refine Q.drew ?_)))) G1 (by omega)
  go_wp2_with fail
  refine (spec_Next (w0 := w0) (A := A) (n := n) (c := c) _ (DrT.dr (ws := w) (by ((repeat (first | exact HD | refine DrT.alloc ?_ _ | refine DrT.drewN ?_ _ | refine DrT.drew ?_ | refine DrT.set ?_ (by first | omega | (simp; omega)) _))))) hn).mono ?_
  rintro e2 w2 ⟨r2, rfl, hr2, D2, G2⟩
  have HD := DrT.step (ws := w) (by ((repeat (first | exact HD | refine DrT.alloc ?_ _ | refine DrT.drewN ?_ _ | refine DrT.drew ?_ | refine DrT.set ?_ (by first | omega | (simp; omega)) _)))) D2 G2
  have z2 := HD.size
  replace R0 := Blk.keepG (g := g) (R0.q (by (repeat (first | assumption | exact Q.refl _ | refine Q.alloc ?_ _ | refine Q.drewN ?_ _ | refine Q.drew ?_)))) G2 (by omega)
  go_wp2_with fail
  have B := Blk.new w2 38 #[.int .i64 r1, .int .i64 r2, .int .i64 0, .int .i64 (-1), .int .i64 5]
  obtain ⟨b, hb⟩ : ∃ b, b = w2.heap.size := ⟨_, rfl⟩
  rw [← hb] at B ⊢
  have hbz : w.heap.size < b := by have := R0.lt; omega
  replace HD := HD.alloc (.cells #[.int .i64 r1, .int .i64 r2, .int .i64 0, .int .i64 (-1), .int .i64 5] 38)
  replace R0 := R0.alloc (.cells #[.int .i64 r1, .int .i64 r2, .int .i64 0, .int .i64 (-1), .int .i64 5] 38)
  generalize hwb : w2.alloc (.cells #[.int .i64 r1, .int .i64 r2, .int .i64 0, .int .i64 (-1), .int .i64 5] 38) = wb at *
  clear hwb hb
  go_cut [] from 4 (fun wc => Bx5 wc b 38 ∧ Blk wc w.heap.size 38 #[.int .i64 0, .int .i64 0, .int .i64 0, .int .i64 0, .int .i64 0] ∧ DrT w0 w wc g A n c)
  case first =>
    have cB := B.cell
    have fB := B.frozen
    have e0 : wb.cell? ⟨b, 1, none⟩ = some (.int .i64 r2) := B.cell 1
    go_region_with (go_at_call 97; refine (spec_Next (w0 := w0) (A := A) (n := n) (c := c) _ (DrT.dr (ws := w) (by ((repeat (first | exact HD | refine DrT.alloc ?_ _ | refine DrT.drewN ?_ _ | refine DrT.drew ?_ | refine DrT.set ?_ (by first | omega | (simp; omega)) _))))) hn).mono ?_; rintro e3 w3 ⟨r3, rfl, hr3, D3, G3⟩; have HD := DrT.step (ws := w) (by ((repeat (first | exact HD | refine DrT.alloc ?_ _ | refine DrT.drewN ?_ _ | refine DrT.drew ?_ | refine DrT.set ?_ (by first | omega | (simp; omega)) _)))) D3 G3; have z3 := HD.size; have B := Blk.keepG (g := g) (B.q (by (repeat (first | assumption | exact Q.refl _ | refine Q.alloc ?_ _ | refine Q.drewN ?_ _ | refine Q.drew ?_)))) G3 (by omega); have cB := B.cell; have fB := B.frozen; have lB := B.lt; have R0 := Blk.keepG (g := g) (R0.q (by (repeat (first | assumption | exact Q.refl _ | refine Q.alloc ?_ _ | refine Q.drewN ?_ _ | refine Q.drew ?_)))) G3 (by omega); have cR0 := R0.cell; have fR0 := R0.frozen; have lR0 := R0.lt)
    all_goals (go_wp2_with fail; go_meet)
    all_goals exact ⟨⟨_, _, _, _, _, B.s5_2 _⟩, R0.far (by simp; omega) _, HD.set (by omega) _⟩
  case rest =>
    clear R0 HD B
    obtain ⟨⟨x, y, z, u, v, B⟩, R0, HD⟩ := hcut
    go_wp2_with fail
    refine (spec_Next (w0 := w0) (A := A) (n := n) (c := c) _ (DrT.dr (ws := w) (by ((repeat (first | exact HD | refine DrT.alloc ?_ _ | refine DrT.drewN ?_ _ | refine DrT.drew ?_ | refine DrT.set ?_ (by first | omega | (simp; omega)) _))))) hn).mono ?_
    rintro e4 w4 ⟨r4, rfl, hr4, D4, G4⟩
    have HD := DrT.step (ws := w) (by ((repeat (first | exact HD | refine DrT.alloc ?_ _ | refine DrT.drewN ?_ _ | refine DrT.drew ?_ | refine DrT.set ?_ (by first | omega | (simp; omega)) _)))) D4 G4
    have z4 := HD.size
    replace B := Blk.keepG (g := g) (B.q (by (repeat (first | assumption | exact Q.refl _ | refine Q.alloc ?_ _ | refine Q.drewN ?_ _ | refine Q.drew ?_)))) G4 (by omega)
    replace R0 := Blk.keepG (g := g) (R0.q (by (repeat (first | assumption | exact Q.refl _ | refine Q.alloc ?_ _ | refine Q.drewN ?_ _ | refine Q.drew ?_)))) G4 (by omega)
    go_upto_if 18 with (fail)
    go_cut [] from 4 (fun wc => Bx5 wc b 38 ∧ Blk wc w.heap.size 38 #[.int .i64 0, .int .i64 0, .int .i64 0, .int .i64 0, .int .i64 0] ∧ DrT w0 w wc g A n c)
    case first =>
      by_cases h4 : 0 < r4
      · clear hr4
        go_upto_region 4 with (fail)
        go_cut [] from 4 (fun wc => Bx5 wc b 38 ∧ Blk wc w.heap.size 38 #[.int .i64 0, .int .i64 0, .int .i64 0, .int .i64 0, .int .i64 0] ∧ DrT w0 w wc g A n c)
        case first =>
          have cB := B.cell
          have fB := B.frozen
          have e1 : w4.cell? ⟨b, 1, none⟩ = some (.int .i64 y) := B.cell 1
          have e2 : w4.cell? ⟨b, 2, none⟩ = some (.int .i64 z) := B.cell 2
          go_region_with (go_at_call 97; refine (spec_Next (w0 := w0) (A := A) (n := n) (c := c) _ (DrT.dr (ws := w) (by ((repeat (first | exact HD | refine DrT.alloc ?_ _ | refine DrT.drewN ?_ _ | refine DrT.drew ?_ | refine DrT.set ?_ (by first | omega | (simp; omega)) _))))) hn).mono ?_; rintro e5 w5 ⟨r5, rfl, hr5, D5, G5⟩; have HD := DrT.step (ws := w) (by ((repeat (first | exact HD | refine DrT.alloc ?_ _ | refine DrT.drewN ?_ _ | refine DrT.drew ?_ | refine DrT.set ?_ (by first | omega | (simp; omega)) _)))) D5 G5; have z5 := HD.size; have B := Blk.keepG (g := g) (B.q (by (repeat (first | assumption | exact Q.refl _ | refine Q.alloc ?_ _ | refine Q.drewN ?_ _ | refine Q.drew ?_)))) G5 (by omega); have cB := B.cell; have fB := B.frozen; have lB := B.lt; have R0 := Blk.keepG (g := g) (R0.q (by (repeat (first | assumption | exact Q.refl _ | refine Q.alloc ?_ _ | refine Q.drewN ?_ _ | refine Q.drew ?_)))) G5 (by omega); have cR0 := R0.cell; have fR0 := R0.frozen; have lR0 := R0.lt; obtain ⟨m5, rfl⟩ := Int.eq_ofNat_of_zero_le hr5.1; obtain ⟨v5, hv5, hvl5, hm5, hn5⟩ := pick2 y z hr5; (first | (have PP := (grown_box G5 (by omega)).cell) | (have PP := (grown_boxD G5 (by omega)).cell) | skip))
          all_goals (go_wp2_with fail; go_meet)
          all_goals exact ⟨⟨_, _, _, _, _, (B.s5_3 _).q (by (repeat (first | assumption | exact Q.refl _ | refine Q.alloc ?_ _ | refine Q.drewN ?_ _ | refine Q.drew ?_)))⟩, (R0.far (p := ⟨b, 3, none⟩) (by simp; omega) _).q (by (repeat (first | assumption | exact Q.refl _ | refine Q.alloc ?_ _ | refine Q.drewN ?_ _ | refine Q.drew ?_))), (HD.set (b := b) (i := 3) (by omega) _).q (by (repeat (first | assumption | exact Q.refl _ | refine Q.alloc ?_ _ | refine Q.drewN ?_ _ | refine Q.drew ?_)))⟩
        case rest =>
          clear R0 HD B
          obtain ⟨⟨x, y, z, u, v, B⟩, R0, HD⟩ := hcut
          go_wp2_with fail
          refine (spec_Next (w0 := w0) (A := A) (n := n) (c := c) _ (DrT.dr (ws := w) (by ((repeat (first | exact HD | refine DrT.alloc ?_ _ | refine DrT.drewN ?_ _ | refine DrT.drew ?_ | refine DrT.set ?_ (by first | omega | (simp; omega)) _))))) hn).mono ?_
          rintro e6 w6 ⟨r6, rfl, hr6, D6, G6⟩
          have HD := DrT.step (ws := w) (by ((repeat (first | exact HD | refine DrT.alloc ?_ _ | refine DrT.drewN ?_ _ | refine DrT.drew ?_ | refine DrT.set ?_ (by first | omega | (simp; omega)) _)))) D6 G6
          have z6 := HD.size
          replace B := Blk.keepG (g := g) (B.q (by (repeat (first | assumption | exact Q.refl _ | refine Q.alloc ?_ _ | refine Q.drewN ?_ _ | refine Q.drew ?_)))) G6 (by omega)
          replace R0 := Blk.keepG (g := g) (R0.q (by (repeat (first | assumption | exact Q.refl _ | refine Q.alloc ?_ _ | refine Q.drewN ?_ _ | refine Q.drew ?_)))) G6 (by omega)
          have cB := B.cell
          have fB := B.frozen
          go_wp2_with fail
          go_meet
          exact ⟨⟨_, _, _, _, _, B.s5_4 _⟩, R0.far (p := ⟨b, 4, none⟩) (by simp; omega) _, HD.set (b := b) (i := 4) (by omega) _⟩
      · go_wp2_with fail
        go_meet
        exact ⟨⟨_, _, _, _, _, B⟩, R0, HD⟩
    case rest =>
      clear R0 HD B
      obtain ⟨⟨x, y, z, u, v, B⟩, R0, HD⟩ := hcut
      go_wp2_with fail
      refine (spec_Next (w0 := w0) (A := A) (n := n) (c := c) _ (DrT.dr (ws := w) (by ((repeat (first | exact HD | refine DrT.alloc ?_ _ | refine DrT.drewN ?_ _ | refine DrT.drew ?_ | refine DrT.set ?_ (by first | omega | (simp; omega)) _))))) hn).mono ?_
      rintro e7 w7 ⟨r7, rfl, hr7, D7, G7⟩
      have HD := DrT.step (ws := w) (by ((repeat (first | exact HD | refine DrT.alloc ?_ _ | refine DrT.drewN ?_ _ | refine DrT.drew ?_ | refine DrT.set ?_ (by first | omega | (simp; omega)) _)))) D7 G7
      have z7 := HD.size
      replace B := Blk.keepG (g := g) (B.q (by (repeat (first | assumption | exact Q.refl _ | refine Q.alloc ?_ _ | refine Q.drewN ?_ _ | refine Q.drew ?_)))) G7 (by omega)
      replace R0 := Blk.keepG (g := g) (R0.q (by (repeat (first | assumption | exact Q.refl _ | refine Q.alloc ?_ _ | refine Q.drewN ?_ _ | refine Q.drew ?_)))) G7 (by omega)
      go_upto_block 0 with (fail)
      go_cut [] from 35 (fun wc => Bx5 wc b 38 ∧ Blk wc w.heap.size 38 #[.int .i64 0, .int .i64 0, .int .i64 0, .int .i64 0, .int .i64 0] ∧ DrT w0 w wc g A n c)
      case first =>
        have cB := B.cell
        have fB := B.frozen
        have e1 : w7.cell? ⟨b, 1, none⟩ = some (.int .i64 y) := B.cell 1
        by_cases h0 : r7 = 0
        · subst h0
          clear hr7 
          go_wp2_with (go_at_call 97; refine (spec_Next (w0 := w0) (A := A) (n := n) (c := c) _ (DrT.dr (ws := w) (by ((repeat (first | exact HD | refine DrT.alloc ?_ _ | refine DrT.drewN ?_ _ | refine DrT.drew ?_ | refine DrT.set ?_ (by first | omega | (simp; omega)) _))))) hn).mono ?_; rintro e8 w8 ⟨r8, rfl, hr8, D8, G8⟩; have HD := DrT.step (ws := w) (by ((repeat (first | exact HD | refine DrT.alloc ?_ _ | refine DrT.drewN ?_ _ | refine DrT.drew ?_ | refine DrT.set ?_ (by first | omega | (simp; omega)) _)))) D8 G8; have z8 := HD.size; have B := Blk.keepG (g := g) (B.q (by (repeat (first | assumption | exact Q.refl _ | refine Q.alloc ?_ _ | refine Q.drewN ?_ _ | refine Q.drew ?_)))) G8 (by omega); have cB := B.cell; have fB := B.frozen; have lB := B.lt; have R0 := Blk.keepG (g := g) (R0.q (by (repeat (first | assumption | exact Q.refl _ | refine Q.alloc ?_ _ | refine Q.drewN ?_ _ | refine Q.drew ?_)))) G8 (by omega); have cR0 := R0.cell; have fR0 := R0.frozen; have lR0 := R0.lt; obtain ⟨m8, rfl⟩ := Int.eq_ofNat_of_zero_le hr8.1; obtain ⟨v8, hv8, hvl8, hm8, hn8⟩ := pick3 (-1) 1000000000 1000000001 hr8; (first | (have PP := (grown_box G8 (by omega)).cell) | (have PP := (grown_boxD G8 (by omega)).cell) | skip))
          all_goals (go_wp2_with fail; go_meet)
          all_goals exact ⟨⟨_, _, _, _, _, (B.s5_0 _).q (by (repeat (first | assumption | exact Q.refl _ | refine Q.alloc ?_ _ | refine Q.drewN ?_ _ | refine Q.drew ?_)))⟩, (R0.far (p := ⟨b, 0, none⟩) (by simp; omega) _).q (by (repeat (first | assumption | exact Q.refl _ | refine Q.alloc ?_ _ | refine Q.drewN ?_ _ | refine Q.drew ?_))), (HD.set (b := b) (i := 0) (by omega) _).q (by (repeat (first | assumption | exact Q.refl _ | refine Q.alloc ?_ _ | refine Q.drewN ?_ _ | refine Q.drew ?_)))⟩
        · have b0 : (r7 == 0) = false := by simpa using h0
          by_cases h1 : r7 = 1
          · subst h1
            clear hr7 h0
            go_wp2_with fail
            go_region_with (go_at_call 97; refine (spec_Next (w0 := w0) (A := A) (n := n) (c := c) _ (DrT.dr (ws := w) (by ((repeat (first | exact HD | refine DrT.alloc ?_ _ | refine DrT.drewN ?_ _ | refine DrT.drew ?_ | refine DrT.set ?_ (by first | omega | (simp; omega)) _))))) hn).mono ?_; rintro e8 w8 ⟨r8, rfl, hr8, D8, G8⟩; have HD := DrT.step (ws := w) (by ((repeat (first | exact HD | refine DrT.alloc ?_ _ | refine DrT.drewN ?_ _ | refine DrT.drew ?_ | refine DrT.set ?_ (by first | omega | (simp; omega)) _)))) D8 G8; have z8 := HD.size; have B := Blk.keepG (g := g) (B.q (by (repeat (first | assumption | exact Q.refl _ | refine Q.alloc ?_ _ | refine Q.drewN ?_ _ | refine Q.drew ?_)))) G8 (by omega); have cB := B.cell; have fB := B.frozen; have lB := B.lt; have R0 := Blk.keepG (g := g) (R0.q (by (repeat (first | assumption | exact Q.refl _ | refine Q.alloc ?_ _ | refine Q.drewN ?_ _ | refine Q.drew ?_)))) G8 (by omega); have cR0 := R0.cell; have fR0 := R0.frozen; have lR0 := R0.lt; obtain ⟨m8, rfl⟩ := Int.eq_ofNat_of_zero_le hr8.1; obtain ⟨v8, hv8, hvl8, hm8, hn8⟩ := pick3 y 16 15 hr8; (first | (have PP := (grown_box G8 (by omega)).cell) | (have PP := (grown_boxD G8 (by omega)).cell) | skip))
            all_goals (go_wp2_with fail; go_meet)
            all_goals exact ⟨⟨_, _, _, _, _, (B.s5_2 _).q (by (repeat (first | assumption | exact Q.refl _ | refine Q.alloc ?_ _ | refine Q.drewN ?_ _ | refine Q.drew ?_)))⟩, (R0.far (p := ⟨b, 2, none⟩) (by simp; omega) _).q (by (repeat (first | assumption | exact Q.refl _ | refine Q.alloc ?_ _ | refine Q.drewN ?_ _ | refine Q.drew ?_))), (HD.set (b := b) (i := 2) (by omega) _).q (by (repeat (first | assumption | exact Q.refl _ | refine Q.alloc ?_ _ | refine Q.drewN ?_ _ | refine Q.drew ?_)))⟩
          · have b1 : (r7 == 1) = false := by simpa using h1
            by_cases h2 : r7 = 2
            · subst h2
              clear hr7 h0 h1
              go_wp2_with (go_at_call 97; refine (spec_Next (w0 := w0) (A := A) (n := n) (c := c) _ (DrT.dr (ws := w) (by ((repeat (first | exact HD | refine DrT.alloc ?_ _ | refine DrT.drewN ?_ _ | refine DrT.drew ?_ | refine DrT.set ?_ (by first | omega | (simp; omega)) _))))) hn).mono ?_; rintro e8 w8 ⟨r8, rfl, hr8, D8, G8⟩; have HD := DrT.step (ws := w) (by ((repeat (first | exact HD | refine DrT.alloc ?_ _ | refine DrT.drewN ?_ _ | refine DrT.drew ?_ | refine DrT.set ?_ (by first | omega | (simp; omega)) _)))) D8 G8; have z8 := HD.size; have B := Blk.keepG (g := g) (B.q (by (repeat (first | assumption | exact Q.refl _ | refine Q.alloc ?_ _ | refine Q.drewN ?_ _ | refine Q.drew ?_)))) G8 (by omega); have cB := B.cell; have fB := B.frozen; have lB := B.lt; have R0 := Blk.keepG (g := g) (R0.q (by (repeat (first | assumption | exact Q.refl _ | refine Q.alloc ?_ _ | refine Q.drewN ?_ _ | refine Q.drew ?_)))) G8 (by omega); have cR0 := R0.cell; have fR0 := R0.frozen; have lR0 := R0.lt; obtain ⟨m8, rfl⟩ := Int.eq_ofNat_of_zero_le hr8.1; obtain ⟨v8, hv8, hvl8, hm8, hn8⟩ := pick3 (-2) 15 (-1) hr8; (first | (have PP := (grown_box G8 (by omega)).cell) | (have PP := (grown_boxD G8 (by omega)).cell) | skip))
              all_goals (go_wp2_with fail; go_meet)
              all_goals exact ⟨⟨_, _, _, _, _, (B.s5_3 _).q (by (repeat (first | assumption | exact Q.refl _ | refine Q.alloc ?_ _ | refine Q.drewN ?_ _ | refine Q.drew ?_)))⟩, (R0.far (p := ⟨b, 3, none⟩) (by simp; omega) _).q (by (repeat (first | assumption | exact Q.refl _ | refine Q.alloc ?_ _ | refine Q.drewN ?_ _ | refine Q.drew ?_))), (HD.set (b := b) (i := 3) (by omega) _).q (by (repeat (first | assumption | exact Q.refl _ | refine Q.alloc ?_ _ | refine Q.drewN ?_ _ | refine Q.drew ?_)))⟩
            · have b2 : (r7 == 2) = false := by simpa using h2
              by_cases h3 : r7 = 3
              · subst h3
                clear hr7 h0 h1 h2
                go_wp2_with (go_at_call 97; refine (spec_Next (w0 := w0) (A := A) (n := n) (c := c) _ (DrT.dr (ws := w) (by ((repeat (first | exact HD | refine DrT.alloc ?_ _ | refine DrT.drewN ?_ _ | refine DrT.drew ?_ | refine DrT.set ?_ (by first | omega | (simp; omega)) _))))) hn).mono ?_; rintro e8 w8 ⟨r8, rfl, hr8, D8, G8⟩; have HD := DrT.step (ws := w) (by ((repeat (first | exact HD | refine DrT.alloc ?_ _ | refine DrT.drewN ?_ _ | refine DrT.drew ?_ | refine DrT.set ?_ (by first | omega | (simp; omega)) _)))) D8 G8; have z8 := HD.size; have B := Blk.keepG (g := g) (B.q (by (repeat (first | assumption | exact Q.refl _ | refine Q.alloc ?_ _ | refine Q.drewN ?_ _ | refine Q.drew ?_)))) G8 (by omega); have cB := B.cell; have fB := B.frozen; have lB := B.lt; have R0 := Blk.keepG (g := g) (R0.q (by (repeat (first | assumption | exact Q.refl _ | refine Q.alloc ?_ _ | refine Q.drewN ?_ _ | refine Q.drew ?_)))) G8 (by omega); have cR0 := R0.cell; have fR0 := R0.frozen; have lR0 := R0.lt; obtain ⟨m8, rfl⟩ := Int.eq_ofNat_of_zero_le hr8.1; obtain ⟨v8, hv8, hvl8, hm8, hn8⟩ := pick3 0 5 6 hr8; (first | (have PP := (grown_box G8 (by omega)).cell) | (have PP := (grown_boxD G8 (by omega)).cell) | skip))
                all_goals (go_wp2_with fail; go_meet)
                all_goals exact ⟨⟨_, _, _, _, _, (B.s5_4 _).q (by (repeat (first | assumption | exact Q.refl _ | refine Q.alloc ?_ _ | refine Q.drewN ?_ _ | refine Q.drew ?_)))⟩, (R0.far (p := ⟨b, 4, none⟩) (by simp; omega) _).q (by (repeat (first | assumption | exact Q.refl _ | refine Q.alloc ?_ _ | refine Q.drewN ?_ _ | refine Q.drew ?_))), (HD.set (b := b) (i := 4) (by omega) _).q (by (repeat (first | assumption | exact Q.refl _ | refine Q.alloc ?_ _ | refine Q.drewN ?_ _ | refine Q.drew ?_)))⟩
              · have b3 : (r7 == 3) = false := by simpa using h3
                go_wp2_with fail
                go_meet
                exact ⟨⟨_, _, _, _, _, B⟩, R0, HD⟩
      case rest =>
        clear R0 HD B
        obtain ⟨⟨x, y, z, u, v, B⟩, R0, HD⟩ := hcut
        have cB := B.cell
        have cR := R0.cell
        have fR := R0.frozen
        go_wp2_with fail
        refine bodyPost_ret (v := .agg #[.int .i64 x, .int .i64 y, .int .i64 z, .int .i64 u, .int .i64 v]) (by simp [results, Tryd.results78, go_sem, cB, cR]) rfl ⟨x, y, z, u, v, rfl, ?_, ?_⟩
        · exact (((((HD.set (Nat.le_refl _) _).set (Nat.le_refl _) _).set (Nat.le_refl _) _).set (Nat.le_refl _) _).set (Nat.le_refl _) _).dr
        · exact (((((HD.set (Nat.le_refl _) _).set (Nat.le_refl _) _).set (Nat.le_refl _) _).set (Nat.le_refl _) _).set (Nat.le_refl _) _).gr
end Go.Proofs.YtgdjgjkijcmkfaaDoor
