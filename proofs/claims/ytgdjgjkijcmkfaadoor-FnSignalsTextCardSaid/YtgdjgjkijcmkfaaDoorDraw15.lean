/- Walks: the reference's draws of limits, of legs and times. No condition. -/
import Derived.Test.YtgdjgjkijcmkfaaDoorDraw
import Derived.RegionTactic
import Derived.Deep.CutBlock
import Derived.Deep.RegionWith
namespace Go.Proofs.YtgdjgjkijcmkfaaDoor
open Go.RowKit Go.WideShapes Go.ChangeShapes
def Bx3 (w : World) (b : Nat) (T : TypeId) : Prop := ∃ x y z : Int, Blk w b T #[.int .i64 x, .int .i64 y, .int .i64 z]
set_option maxHeartbeats 2000000 in
theorem spec_l15Draw {w0 w : World} {g : Nat} {A : Option Addr} {n c : Nat} (h : Dr w0 w g A n c) (hn : n ≤ 140737488355327) : Calls Tryd.prog 76 #[.pointer (some ⟨g, 0, none⟩)] w (Draw3 w0 w g A n c) := by
  have HD := DrT.start h
  have hlt := HD.glt
  have R0 := Blk.new w 32 #[.int .i64 0, .int .i64 0, .int .i64 0]
  go_enter Tryd.func76, Tryd.ntmps76
  go_wp2_with fail
  refine (spec_Next (w0 := w0) (A := A) (n := n) (c := c) _ (DrT.dr (ws := w) (by ((repeat (first | exact HD | refine DrT.alloc ?_ _ | refine DrT.drewN ?_ _ | refine DrT.drew ?_ | refine DrT.set ?_ (by first | omega | (simp; omega)) _))))) hn).mono ?_
  rintro e1 w1 ⟨r1, rfl, hr1, D1, G1⟩
  have HD := DrT.step (ws := w) (by ((repeat (first | exact HD | refine DrT.alloc ?_ _ | refine DrT.drewN ?_ _ | refine DrT.drew ?_ | refine DrT.set ?_ (by first | omega | (simp; omega)) _)))) D1 G1
  have z1 := HD.size
  replace R0 := Blk.keepG (g := g) (R0.q (by (repeat (first | assumption | exact Q.refl _ | refine Q.alloc ?_ _ | refine Q.drewN ?_ _ | refine Q.drew ?_)))) G1 (by omega)
  go_wp2_with fail
  refine (spec_Next (w0 := w0) (A := A) (n := n) (c := c) _ (DrT.dr (ws := w) (by ((repeat (first | exact HD | refine DrT.alloc ?_ _ | refine DrT.drewN ?_ _ | refine DrT.drew ?_ | refine DrT.set ?_ (by first | omega | (simp; omega)) _))))) hn).mono ?_
  rintro e2 w2 ⟨r2, rfl, hr2, D2, G2⟩
  have HD := DrT.step (ws := w) (by ((repeat (first | exact HD | refine DrT.alloc ?_ _ | refine DrT.drewN ?_ _ | refine DrT.drew ?_ | refine DrT.set ?_ (by first | omega | (simp; omega)) _)))) D2 G2
  have z2 := HD.size
  replace R0 := Blk.keepG (g := g) (R0.q (by (repeat (first | assumption | exact Q.refl _ | refine Q.alloc ?_ _ | refine Q.drewN ?_ _ | refine Q.drew ?_)))) G2 (by omega)
  go_wp2_with fail
  have B := Blk.new w2 32 #[.int .i64 (1 + r1), .int .i64 0, .int .i64 (1 + r2)]
  obtain ⟨b, hb⟩ : ∃ b, b = w2.heap.size := ⟨_, rfl⟩
  rw [← hb] at B ⊢
  have hbz : w.heap.size < b := by have := R0.lt; omega
  replace HD := HD.alloc (.cells #[.int .i64 (1 + r1), .int .i64 0, .int .i64 (1 + r2)] 32)
  replace R0 := R0.alloc (.cells #[.int .i64 (1 + r1), .int .i64 0, .int .i64 (1 + r2)] 32)
  generalize hwb : w2.alloc (.cells #[.int .i64 (1 + r1), .int .i64 0, .int .i64 (1 + r2)] 32) = wb at *
  clear hwb hb
  go_cut [] from 4 (fun wc => Bx3 wc b 32 ∧ Blk wc w.heap.size 32 #[.int .i64 0, .int .i64 0, .int .i64 0] ∧ DrT w0 w wc g A n c)
  case first =>
    have cB := B.cell
    have fB := B.frozen
    have e0 : wb.cell? ⟨b, 0, none⟩ = some (.int .i64 (1 + r1)) := B.cell 0
    go_region_with (go_at_call 97; refine (spec_Next (w0 := w0) (A := A) (n := n) (c := c) _ (DrT.dr (ws := w) (by ((repeat (first | exact HD | refine DrT.alloc ?_ _ | refine DrT.drewN ?_ _ | refine DrT.drew ?_ | refine DrT.set ?_ (by first | omega | (simp; omega)) _))))) hn).mono ?_; rintro e3 w3 ⟨r3, rfl, hr3, D3, G3⟩; have HD := DrT.step (ws := w) (by ((repeat (first | exact HD | refine DrT.alloc ?_ _ | refine DrT.drewN ?_ _ | refine DrT.drew ?_ | refine DrT.set ?_ (by first | omega | (simp; omega)) _)))) D3 G3; have z3 := HD.size; have B := Blk.keepG (g := g) (B.q (by (repeat (first | assumption | exact Q.refl _ | refine Q.alloc ?_ _ | refine Q.drewN ?_ _ | refine Q.drew ?_)))) G3 (by omega); have cB := B.cell; have fB := B.frozen; have lB := B.lt; have R0 := Blk.keepG (g := g) (R0.q (by (repeat (first | assumption | exact Q.refl _ | refine Q.alloc ?_ _ | refine Q.drewN ?_ _ | refine Q.drew ?_)))) G3 (by omega); have cR0 := R0.cell; have fR0 := R0.frozen; have lR0 := R0.lt)
    all_goals (go_wp2_with fail; go_meet)
    all_goals exact ⟨⟨_, _, _, by simpa using B.set_ 1 _⟩, R0.far (by simp; omega) _, HD.set (by omega) _⟩
  case rest =>
    clear R0 HD B
    obtain ⟨⟨x, y, z, B⟩, R0, HD⟩ := hcut
    go_wp2_with fail
    refine (spec_Next (w0 := w0) (A := A) (n := n) (c := c) _ (DrT.dr (ws := w) (by ((repeat (first | exact HD | refine DrT.alloc ?_ _ | refine DrT.drewN ?_ _ | refine DrT.drew ?_ | refine DrT.set ?_ (by first | omega | (simp; omega)) _))))) hn).mono ?_
    rintro e4 w4 ⟨r4, rfl, hr4, D4, G4⟩
    have HD := DrT.step (ws := w) (by ((repeat (first | exact HD | refine DrT.alloc ?_ _ | refine DrT.drewN ?_ _ | refine DrT.drew ?_ | refine DrT.set ?_ (by first | omega | (simp; omega)) _)))) D4 G4
    have z4 := HD.size
    replace B := Blk.keepG (g := g) (B.q (by (repeat (first | assumption | exact Q.refl _ | refine Q.alloc ?_ _ | refine Q.drewN ?_ _ | refine Q.drew ?_)))) G4 (by omega)
    replace R0 := Blk.keepG (g := g) (R0.q (by (repeat (first | assumption | exact Q.refl _ | refine Q.alloc ?_ _ | refine Q.drewN ?_ _ | refine Q.drew ?_)))) G4 (by omega)
    go_upto_block 0 with (fail)
    go_cut [] from 19 (fun wc => Bx3 wc b 32 ∧ Blk wc w.heap.size 32 #[.int .i64 0, .int .i64 0, .int .i64 0] ∧ DrT w0 w wc g A n c)
    case first =>
      have cB := B.cell
      have fB := B.frozen
      have e0 : w4.cell? ⟨b, 1, none⟩ = some (.int .i64 y) := B.cell 1
      by_cases h0 : r4 = 0
      · subst h0
        clear hr4
        go_wp2_with fail
        go_region_with (go_at_call 97; refine (spec_Next (w0 := w0) (A := A) (n := n) (c := c) _ (DrT.dr (ws := w) (by ((repeat (first | exact HD | refine DrT.alloc ?_ _ | refine DrT.drewN ?_ _ | refine DrT.drew ?_ | refine DrT.set ?_ (by first | omega | (simp; omega)) _))))) hn).mono ?_; rintro e5 w5 ⟨r5, rfl, hr5, D5, G5⟩; have HD := DrT.step (ws := w) (by ((repeat (first | exact HD | refine DrT.alloc ?_ _ | refine DrT.drewN ?_ _ | refine DrT.drew ?_ | refine DrT.set ?_ (by first | omega | (simp; omega)) _)))) D5 G5; have z5 := HD.size; have B := Blk.keepG (g := g) (B.q (by (repeat (first | assumption | exact Q.refl _ | refine Q.alloc ?_ _ | refine Q.drewN ?_ _ | refine Q.drew ?_)))) G5 (by omega); have cB := B.cell; have fB := B.frozen; have lB := B.lt; have R0 := Blk.keepG (g := g) (R0.q (by (repeat (first | assumption | exact Q.refl _ | refine Q.alloc ?_ _ | refine Q.drewN ?_ _ | refine Q.drew ?_)))) G5 (by omega); have cR0 := R0.cell; have fR0 := R0.frozen; have lR0 := R0.lt; obtain ⟨m5, rfl⟩ := Int.eq_ofNat_of_zero_le hr5.1; obtain ⟨v5, hv5, hvl5, hm5, hn5⟩ := pick2 0 (IntKind.i64.wrap (y + 1)) hr5; (first | (have PP := (grown_box G5 (by omega)).cell) | (have PP := (grown_boxD G5 (by omega)).cell) | skip))
        all_goals (go_wp2_with fail; go_meet)
        all_goals exact ⟨⟨_, _, _, (B.set3_0 _).q (by (repeat (first | assumption | exact Q.refl _ | refine Q.alloc ?_ _ | refine Q.drewN ?_ _ | refine Q.drew ?_)))⟩, (R0.far (p := ⟨b, 0, none⟩) (by simp; omega) _).q (by (repeat (first | assumption | exact Q.refl _ | refine Q.alloc ?_ _ | refine Q.drewN ?_ _ | refine Q.drew ?_))), (HD.set (b := b) (i := 0) (by omega) _).q (by (repeat (first | assumption | exact Q.refl _ | refine Q.alloc ?_ _ | refine Q.drewN ?_ _ | refine Q.drew ?_)))⟩
      · have b0 : (r4 == 0) = false := by simpa using h0
        by_cases h1 : r4 = 1
        · subst h1
          clear hr4 h0
          go_wp2_with (go_at_call 97; refine (spec_Next (w0 := w0) (A := A) (n := n) (c := c) _ (DrT.dr (ws := w) (by ((repeat (first | exact HD | refine DrT.alloc ?_ _ | refine DrT.drewN ?_ _ | refine DrT.drew ?_ | refine DrT.set ?_ (by first | omega | (simp; omega)) _))))) hn).mono ?_; rintro e5 w5 ⟨r5, rfl, hr5, D5, G5⟩; have HD := DrT.step (ws := w) (by ((repeat (first | exact HD | refine DrT.alloc ?_ _ | refine DrT.drewN ?_ _ | refine DrT.drew ?_ | refine DrT.set ?_ (by first | omega | (simp; omega)) _)))) D5 G5; have z5 := HD.size; have B := Blk.keepG (g := g) (B.q (by (repeat (first | assumption | exact Q.refl _ | refine Q.alloc ?_ _ | refine Q.drewN ?_ _ | refine Q.drew ?_)))) G5 (by omega); have cB := B.cell; have fB := B.frozen; have lB := B.lt; have R0 := Blk.keepG (g := g) (R0.q (by (repeat (first | assumption | exact Q.refl _ | refine Q.alloc ?_ _ | refine Q.drewN ?_ _ | refine Q.drew ?_)))) G5 (by omega); have cR0 := R0.cell; have fR0 := R0.frozen; have lR0 := R0.lt; obtain ⟨m5, rfl⟩ := Int.eq_ofNat_of_zero_le hr5.1; obtain ⟨v5, hv5, hvl5, hm5, hn5⟩ := pick3 0 1000000000 1000000001 hr5; (first | (have PP := (grown_box G5 (by omega)).cell) | (have PP := (grown_boxD G5 (by omega)).cell) | skip))
          all_goals (go_wp2_with fail; go_meet)
          all_goals exact ⟨⟨_, _, _, (B.set3_2 _).q (by (repeat (first | assumption | exact Q.refl _ | refine Q.alloc ?_ _ | refine Q.drewN ?_ _ | refine Q.drew ?_)))⟩, (R0.far (p := ⟨b, 2, none⟩) (by simp; omega) _).q (by (repeat (first | assumption | exact Q.refl _ | refine Q.alloc ?_ _ | refine Q.drewN ?_ _ | refine Q.drew ?_))), (HD.set (b := b) (i := 2) (by omega) _).q (by (repeat (first | assumption | exact Q.refl _ | refine Q.alloc ?_ _ | refine Q.drewN ?_ _ | refine Q.drew ?_)))⟩
        · have b1 : (r4 == 1) = false := by simpa using h1
          by_cases h2 : r4 = 2
          · subst h2
            clear hr4 h0 h1
            go_wp2_with (go_at_call 97; refine (spec_Next (w0 := w0) (A := A) (n := n) (c := c) _ (DrT.dr (ws := w) (by ((repeat (first | exact HD | refine DrT.alloc ?_ _ | refine DrT.drewN ?_ _ | refine DrT.drew ?_ | refine DrT.set ?_ (by first | omega | (simp; omega)) _))))) hn).mono ?_; rintro e5 w5 ⟨r5, rfl, hr5, D5, G5⟩; have HD := DrT.step (ws := w) (by ((repeat (first | exact HD | refine DrT.alloc ?_ _ | refine DrT.drewN ?_ _ | refine DrT.drew ?_ | refine DrT.set ?_ (by first | omega | (simp; omega)) _)))) D5 G5; have z5 := HD.size; have B := Blk.keepG (g := g) (B.q (by (repeat (first | assumption | exact Q.refl _ | refine Q.alloc ?_ _ | refine Q.drewN ?_ _ | refine Q.drew ?_)))) G5 (by omega); have cB := B.cell; have fB := B.frozen; have lB := B.lt; have R0 := Blk.keepG (g := g) (R0.q (by (repeat (first | assumption | exact Q.refl _ | refine Q.alloc ?_ _ | refine Q.drewN ?_ _ | refine Q.drew ?_)))) G5 (by omega); have cR0 := R0.cell; have fR0 := R0.frozen; have lR0 := R0.lt; obtain ⟨m5, rfl⟩ := Int.eq_ofNat_of_zero_le hr5.1; obtain ⟨v5, hv5, hvl5, hm5, hn5⟩ := pick2 1000000000 1000000001 hr5; (first | (have PP := (grown_box G5 (by omega)).cell) | (have PP := (grown_boxD G5 (by omega)).cell) | skip))
            all_goals (go_wp2_with fail; go_meet)
            all_goals exact ⟨⟨_, _, _, (B.set3_1 _).q (by (repeat (first | assumption | exact Q.refl _ | refine Q.alloc ?_ _ | refine Q.drewN ?_ _ | refine Q.drew ?_)))⟩, (R0.far (p := ⟨b, 1, none⟩) (by simp; omega) _).q (by (repeat (first | assumption | exact Q.refl _ | refine Q.alloc ?_ _ | refine Q.drewN ?_ _ | refine Q.drew ?_))), (HD.set (b := b) (i := 1) (by omega) _).q (by (repeat (first | assumption | exact Q.refl _ | refine Q.alloc ?_ _ | refine Q.drewN ?_ _ | refine Q.drew ?_)))⟩
          · have b2 : (r4 == 2) = false := by simpa using h2
            go_wp2_with fail
            go_meet
            exact ⟨⟨_, _, _, B⟩, R0, HD⟩
    case rest =>
      clear R0 HD B
      obtain ⟨⟨x, y, z, B⟩, R0, HD⟩ := hcut
      have cB := B.cell
      have cR := R0.cell
      have fR := R0.frozen
      go_wp2_with fail
      refine bodyPost_ret (v := .agg #[.int .i64 x, .int .i64 y, .int .i64 z]) (by simp [results, Tryd.results76, go_sem, cR]) rfl ⟨x, y, z, rfl, ?_, ?_⟩
      · exact (((HD.set (Nat.le_refl _) _).set (Nat.le_refl _) _).set (Nat.le_refl _) _).dr
      · exact (((HD.set (Nat.le_refl _) _).set (Nat.le_refl _) _).set (Nat.le_refl _) _).gr
end Go.Proofs.YtgdjgjkijcmkfaaDoor
