/- Walks: the reference's draw for IsExpired. No condition. -/
import Derived.Test.YthlfadkpeogajaaDraw15
namespace Go.Proofs.Ythlfadkpeogajaa
open Go.RowKit Go.WideShapes Go.ChangeShapes
def DrawE (wz : World) (e : Ending) (w' : World) : Prop := ∃ x y z f m t : Int, e = .returned (.tuple #[.agg #[.int .i64 x, .int .i64 y, .int .i64 z], .int .i64 f, .int .i64 m, .int .i64 t]) ∧ Q wz w'
set_option maxHeartbeats 4000000 in
theorem spec_DrawIsExpired (A : Option Addr) (n c : Nat) (wz : World) (ha : Rd8 wz A n) (hn : n ≤ 140737488355327) : Calls Try.prog 12 #[.slice A n c] wz (DrawE wz) := by
  have R0 := Blk.new wz 25 #[.int .i64 0, .int .i64 0, .int .i64 0]
  have Z0 : Q wz (wz.alloc (.cells #[.int .i64 0, .int .i64 0, .int .i64 0] 25)) := by (repeat (first | assumption | exact Q.refl _ | refine Q.alloc ?_ _ | refine Q.drewN ?_ _ | refine Q.drew ?_))
  have zz : (wz.alloc (.cells #[.int .i64 0, .int .i64 0, .int .i64 0] 25)).heap.size = wz.heap.size + 1 := by simp
  go_enter Try.func12, Try.ntmps12
  go_wp2_with (go_at_call 57; refine (spec_From A n c _ (ha.q (by (repeat (first | assumption | exact Q.refl _ | refine Q.alloc ?_ _ | refine Q.drewN ?_ _ | refine Q.drew ?_)))) hn).mono ?_; rintro e w ⟨rfl, D0⟩)
  generalize wz.alloc (.cells #[.int .i64 0, .int .i64 0, .int .i64 0] 25) = w0 at *
  rw [zz] at D0
  obtain ⟨g, hg⟩ : ∃ g, g = wz.heap.size + 1 := ⟨_, rfl⟩
  rw [← hg] at D0 ⊢
  have HD := DrT.start D0
  have hlt := HD.glt
  replace R0 := R0.q D0.q
  have hgr : wz.heap.size < g := by omega
  have hwz : wz.heap.size < w.heap.size := by omega
  clear hg zz
  refine (spec_l15Draw D0 hn).mono ?_
  rintro e wa ⟨x, y, z, rfl, D1, G1⟩
  replace HD := HD.step D1 G1
  replace R0 := R0.keepG G1 (by omega)
  clear D0 D1 G1
  go_wp2_with fail
  have B := Blk.new wa 25 #[.int .i64 x, .int .i64 y, .int .i64 z]
  have hsz := HD.size
  obtain ⟨b, hb⟩ : ∃ b, b = wa.heap.size := ⟨_, rfl⟩
  rw [← hb] at B ⊢
  replace HD := HD.alloc (.cells #[.int .i64 x, .int .i64 y, .int .i64 z] 25)
  replace R0 := R0.alloc (.cells #[.int .i64 x, .int .i64 y, .int .i64 z] 25)
  have hbg : w.heap.size ≤ b := by omega
  generalize hwb : wa.alloc (.cells #[.int .i64 x, .int .i64 y, .int .i64 z] 25) = wb at *
  clear hwb hb hsz
  refine (spec_Next (w0 := w0) (A := A) (n := n) (c := c) _ (DrT.dr (ws := w) (by ((repeat (first | exact HD | refine DrT.alloc ?_ _ | refine DrT.drewN ?_ _ | refine DrT.drew ?_ | refine DrT.set ?_ (by first | omega | (simp; omega)) _))))) hn).mono ?_
  rintro e1 w1 ⟨r1, rfl, hr1, D1, G1⟩
  have HD := DrT.step (ws := w) (by ((repeat (first | exact HD | refine DrT.alloc ?_ _ | refine DrT.drewN ?_ _ | refine DrT.drew ?_ | refine DrT.set ?_ (by first | omega | (simp; omega)) _)))) D1 G1
  have z1 := HD.size
  replace B := Blk.keepG (g := g) (B.q (by (repeat (first | assumption | exact Q.refl _ | refine Q.alloc ?_ _ | refine Q.drewN ?_ _ | refine Q.drew ?_)))) G1 (by omega)
  replace R0 := Blk.keepG (g := g) (R0.q (by (repeat (first | assumption | exact Q.refl _ | refine Q.alloc ?_ _ | refine Q.drewN ?_ _ | refine Q.drew ?_)))) G1 (by omega)
  go_wp2_with fail
  go_cut [9] from 11 (fun v9 wc => ∃ m : Int, v9 = .int .i64 m ∧ Blk wc b 25 #[.int .i64 x, .int .i64 y, .int .i64 z] ∧ Blk wc wz.heap.size 25 #[.int .i64 0, .int .i64 0, .int .i64 0] ∧ DrT w0 w wc g A n c)
  case first =>
    have cB := B.cell
    have fB := B.frozen
    go_region_with (first | (have hr0 := hr2; (go_at_call 59; refine (spec_Next (w0 := w0) (A := A) (n := n) (c := c) _ (DrT.dr (ws := w) (by ((repeat (first | exact HD | refine DrT.alloc ?_ _ | refine DrT.drewN ?_ _ | refine DrT.drew ?_ | refine DrT.set ?_ (by first | omega | (simp; omega)) _))))) hn).mono ?_; rintro e3 w3 ⟨r3, rfl, hr3, D3, G3⟩; have HD := DrT.step (ws := w) (by ((repeat (first | exact HD | refine DrT.alloc ?_ _ | refine DrT.drewN ?_ _ | refine DrT.drew ?_ | refine DrT.set ?_ (by first | omega | (simp; omega)) _)))) D3 G3; have z3 := HD.size; have B := Blk.keepG (g := g) (B.q (by (repeat (first | assumption | exact Q.refl _ | refine Q.alloc ?_ _ | refine Q.drewN ?_ _ | refine Q.drew ?_)))) G3 (by omega); have cB := B.cell; have fB := B.frozen; have lB := B.lt; have R0 := Blk.keepG (g := g) (R0.q (by (repeat (first | assumption | exact Q.refl _ | refine Q.alloc ?_ _ | refine Q.drewN ?_ _ | refine Q.drew ?_)))) G3 (by omega); have cR0 := R0.cell; have fR0 := R0.frozen; have lR0 := R0.lt; obtain ⟨m3, rfl⟩ := Int.eq_ofNat_of_zero_le hr3.1; obtain ⟨v3, hv3, hvl3, hm3, hn3⟩ := pick4 (-1) x (IntKind.i64.wrap (x + 1)) r2 hr3; (first | (have PP := (grown_box G3 (by omega)).cell) | (have PP := (grown_boxD G3 (by omega)).cell) | skip))) | (go_at_call 59; refine (spec_Next (w0 := w0) (A := A) (n := n) (c := c) _ (DrT.dr (ws := w) (by ((repeat (first | exact HD | refine DrT.alloc ?_ _ | refine DrT.drewN ?_ _ | refine DrT.drew ?_ | refine DrT.set ?_ (by first | omega | (simp; omega)) _))))) hn).mono ?_; rintro e2 w2 ⟨r2, rfl, hr2, D2, G2⟩; have HD := DrT.step (ws := w) (by ((repeat (first | exact HD | refine DrT.alloc ?_ _ | refine DrT.drewN ?_ _ | refine DrT.drew ?_ | refine DrT.set ?_ (by first | omega | (simp; omega)) _)))) D2 G2; have z2 := HD.size; have B := Blk.keepG (g := g) (B.q (by (repeat (first | assumption | exact Q.refl _ | refine Q.alloc ?_ _ | refine Q.drewN ?_ _ | refine Q.drew ?_)))) G2 (by omega); have cB := B.cell; have fB := B.frozen; have lB := B.lt; have R0 := Blk.keepG (g := g) (R0.q (by (repeat (first | assumption | exact Q.refl _ | refine Q.alloc ?_ _ | refine Q.drewN ?_ _ | refine Q.drew ?_)))) G2 (by omega); have cR0 := R0.cell; have fR0 := R0.frozen; have lR0 := R0.lt))
    all_goals (go_wp2_with fail; go_meet)
    all_goals exact ⟨_, rfl, B.q (by (repeat (first | assumption | exact Q.refl _ | refine Q.alloc ?_ _ | refine Q.drewN ?_ _ | refine Q.drew ?_))), R0.q (by (repeat (first | assumption | exact Q.refl _ | refine Q.alloc ?_ _ | refine Q.drewN ?_ _ | refine Q.drew ?_))), HD.q (by (repeat (first | assumption | exact Q.refl _ | refine Q.alloc ?_ _ | refine Q.drewN ?_ _ | refine Q.drew ?_)))⟩
  case rest =>
    clear R0 HD B z1 D1 G1
    obtain ⟨m, rfl, B, R0, HD⟩ := hcut
    go_wp2_with fail
    go_cut [10] from 11 (fun v9 wc => ∃ m : Int, v9 = .int .i64 m ∧ Blk wc b 25 #[.int .i64 x, .int .i64 y, .int .i64 z] ∧ Blk wc wz.heap.size 25 #[.int .i64 0, .int .i64 0, .int .i64 0] ∧ DrT w0 w wc g A n c)
    case first =>
      have cB := B.cell
      have fB := B.frozen
      go_region_with (first | (have hr0 := hr2; (go_at_call 59; refine (spec_Next (w0 := w0) (A := A) (n := n) (c := c) _ (DrT.dr (ws := w) (by ((repeat (first | exact HD | refine DrT.alloc ?_ _ | refine DrT.drewN ?_ _ | refine DrT.drew ?_ | refine DrT.set ?_ (by first | omega | (simp; omega)) _))))) hn).mono ?_; rintro e3 w3 ⟨r3, rfl, hr3, D3, G3⟩; have HD := DrT.step (ws := w) (by ((repeat (first | exact HD | refine DrT.alloc ?_ _ | refine DrT.drewN ?_ _ | refine DrT.drew ?_ | refine DrT.set ?_ (by first | omega | (simp; omega)) _)))) D3 G3; have z3 := HD.size; have B := Blk.keepG (g := g) (B.q (by (repeat (first | assumption | exact Q.refl _ | refine Q.alloc ?_ _ | refine Q.drewN ?_ _ | refine Q.drew ?_)))) G3 (by omega); have cB := B.cell; have fB := B.frozen; have lB := B.lt; have R0 := Blk.keepG (g := g) (R0.q (by (repeat (first | assumption | exact Q.refl _ | refine Q.alloc ?_ _ | refine Q.drewN ?_ _ | refine Q.drew ?_)))) G3 (by omega); have cR0 := R0.cell; have fR0 := R0.frozen; have lR0 := R0.lt; obtain ⟨m3, rfl⟩ := Int.eq_ofNat_of_zero_le hr3.1; obtain ⟨v3, hv3, hvl3, hm3, hn3⟩ := pick4 (-1) y (IntKind.i64.wrap (y + 1)) (IntKind.i64.wrap (m + r2)) hr3; (first | (have PP := (grown_box G3 (by omega)).cell) | (have PP := (grown_boxD G3 (by omega)).cell) | skip))) | (go_at_call 59; refine (spec_Next (w0 := w0) (A := A) (n := n) (c := c) _ (DrT.dr (ws := w) (by ((repeat (first | exact HD | refine DrT.alloc ?_ _ | refine DrT.drewN ?_ _ | refine DrT.drew ?_ | refine DrT.set ?_ (by first | omega | (simp; omega)) _))))) hn).mono ?_; rintro e2 w2 ⟨r2, rfl, hr2, D2, G2⟩; have HD := DrT.step (ws := w) (by ((repeat (first | exact HD | refine DrT.alloc ?_ _ | refine DrT.drewN ?_ _ | refine DrT.drew ?_ | refine DrT.set ?_ (by first | omega | (simp; omega)) _)))) D2 G2; have z2 := HD.size; have B := Blk.keepG (g := g) (B.q (by (repeat (first | assumption | exact Q.refl _ | refine Q.alloc ?_ _ | refine Q.drewN ?_ _ | refine Q.drew ?_)))) G2 (by omega); have cB := B.cell; have fB := B.frozen; have lB := B.lt; have R0 := Blk.keepG (g := g) (R0.q (by (repeat (first | assumption | exact Q.refl _ | refine Q.alloc ?_ _ | refine Q.drewN ?_ _ | refine Q.drew ?_)))) G2 (by omega); have cR0 := R0.cell; have fR0 := R0.frozen; have lR0 := R0.lt))
      all_goals (go_wp2_with fail; go_meet)
      all_goals exact ⟨_, rfl, B.q (by (repeat (first | assumption | exact Q.refl _ | refine Q.alloc ?_ _ | refine Q.drewN ?_ _ | refine Q.drew ?_))), R0.q (by (repeat (first | assumption | exact Q.refl _ | refine Q.alloc ?_ _ | refine Q.drewN ?_ _ | refine Q.drew ?_))), HD.q (by (repeat (first | assumption | exact Q.refl _ | refine Q.alloc ?_ _ | refine Q.drewN ?_ _ | refine Q.drew ?_)))⟩
    case rest =>
      clear R0 HD B
      obtain ⟨f, rfl, B, R0, HD⟩ := hcut
      go_wp2_with fail
      refine (spec_Next (w0 := w0) (A := A) (n := n) (c := c) _ (DrT.dr (ws := w) (by ((repeat (first | exact HD | refine DrT.alloc ?_ _ | refine DrT.drewN ?_ _ | refine DrT.drew ?_ | refine DrT.set ?_ (by first | omega | (simp; omega)) _))))) hn).mono ?_
      rintro e4 w4 ⟨r4, rfl, hr4, D4, G4⟩
      have HD := DrT.step (ws := w) (by ((repeat (first | exact HD | refine DrT.alloc ?_ _ | refine DrT.drewN ?_ _ | refine DrT.drew ?_ | refine DrT.set ?_ (by first | omega | (simp; omega)) _)))) D4 G4
      have z4 := HD.size
      replace B := Blk.keepG (g := g) (B.q (by (repeat (first | assumption | exact Q.refl _ | refine Q.alloc ?_ _ | refine Q.drewN ?_ _ | refine Q.drew ?_)))) G4 (by omega)
      replace R0 := Blk.keepG (g := g) (R0.q (by (repeat (first | assumption | exact Q.refl _ | refine Q.alloc ?_ _ | refine Q.drewN ?_ _ | refine Q.drew ?_)))) G4 (by omega)
      go_upto_if 45 with (fail)
      go_cut [8] from 11 (fun v9 wc => ∃ m : Int, v9 = .int .i64 m ∧ Blk wc b 25 #[.int .i64 x, .int .i64 y, .int .i64 z] ∧ Blk wc wz.heap.size 25 #[.int .i64 0, .int .i64 0, .int .i64 0] ∧ DrT w0 w wc g A n c)
      case first =>
        by_cases h4 : 0 < r4
        · go_wp2_with fail
          all_goals (go_meet; exact ⟨_, rfl, B, R0, HD⟩)
        · go_wp2_with fail
          all_goals (go_meet; exact ⟨_, rfl, B, R0, HD⟩)
      case rest =>
        clear R0 HD B z4 D4 G4 hr4
        obtain ⟨t, rfl, B, R0, HD⟩ := hcut
        go_wp2_with fail
        refine (spec_Next (w0 := w0) (A := A) (n := n) (c := c) _ (DrT.dr (ws := w) (by ((repeat (first | exact HD | refine DrT.alloc ?_ _ | refine DrT.drewN ?_ _ | refine DrT.drew ?_ | refine DrT.set ?_ (by first | omega | (simp; omega)) _))))) hn).mono ?_
        rintro e5 w5 ⟨r5, rfl, hr5, D5, G5⟩
        have HD := DrT.step (ws := w) (by ((repeat (first | exact HD | refine DrT.alloc ?_ _ | refine DrT.drewN ?_ _ | refine DrT.drew ?_ | refine DrT.set ?_ (by first | omega | (simp; omega)) _)))) D5 G5
        have z5 := HD.size
        replace B := Blk.keepG (g := g) (B.q (by (repeat (first | assumption | exact Q.refl _ | refine Q.alloc ?_ _ | refine Q.drewN ?_ _ | refine Q.drew ?_)))) G5 (by omega)
        replace R0 := Blk.keepG (g := g) (R0.q (by (repeat (first | assumption | exact Q.refl _ | refine Q.alloc ?_ _ | refine Q.drewN ?_ _ | refine Q.drew ?_)))) G5 (by omega)
        go_upto_if 53 with (fail)
        go_cut [10] from 11 (fun v9 wc => ∃ m : Int, v9 = .int .i64 m ∧ Blk wc b 25 #[.int .i64 x, .int .i64 y, .int .i64 z] ∧ Blk wc wz.heap.size 25 #[.int .i64 0, .int .i64 0, .int .i64 0] ∧ DrT w0 w wc g A n c)
        case first =>
          by_cases h5 : r5 = 0
          · subst h5
            clear hr5
            go_wp2_with fail
            go_wp2_with (go_at_call 59; refine (spec_Next (w0 := w0) (A := A) (n := n) (c := c) _ (DrT.dr (ws := w) (by ((repeat (first | exact HD | refine DrT.alloc ?_ _ | refine DrT.drewN ?_ _ | refine DrT.drew ?_ | refine DrT.set ?_ (by first | omega | (simp; omega)) _))))) hn).mono ?_; rintro e6 w6 ⟨r6, rfl, hr6, D6, G6⟩; have HD := DrT.step (ws := w) (by ((repeat (first | exact HD | refine DrT.alloc ?_ _ | refine DrT.drewN ?_ _ | refine DrT.drew ?_ | refine DrT.set ?_ (by first | omega | (simp; omega)) _)))) D6 G6; have z6 := HD.size; have B := Blk.keepG (g := g) (B.q (by (repeat (first | assumption | exact Q.refl _ | refine Q.alloc ?_ _ | refine Q.drewN ?_ _ | refine Q.drew ?_)))) G6 (by omega); have cB := B.cell; have fB := B.frozen; have lB := B.lt; have R0 := Blk.keepG (g := g) (R0.q (by (repeat (first | assumption | exact Q.refl _ | refine Q.alloc ?_ _ | refine Q.drewN ?_ _ | refine Q.drew ?_)))) G6 (by omega); have cR0 := R0.cell; have fR0 := R0.frozen; have lR0 := R0.lt; obtain ⟨m6, rfl⟩ := Int.eq_ofNat_of_zero_le hr6.1; obtain ⟨v6, hv6, hvl6, hm6, hn6⟩ := pick3 (-2) 1000000001 (wrap64 (m - 1)) hr6; (first | (have PP := (grown_box G6 (by omega)).cell) | (have PP := (grown_boxD G6 (by omega)).cell) | skip))
            all_goals (go_wp2_with fail; go_meet)
            all_goals exact ⟨_, rfl, B.q (by (repeat (first | assumption | exact Q.refl _ | refine Q.alloc ?_ _ | refine Q.drewN ?_ _ | refine Q.drew ?_))), R0.q (by (repeat (first | assumption | exact Q.refl _ | refine Q.alloc ?_ _ | refine Q.drewN ?_ _ | refine Q.drew ?_))), HD.q (by (repeat (first | assumption | exact Q.refl _ | refine Q.alloc ?_ _ | refine Q.drewN ?_ _ | refine Q.drew ?_)))⟩
          · have b5 : (r5 == 0) = false := by simpa using h5
            go_wp2_with fail
            go_meet
            exact ⟨_, rfl, B, R0, HD⟩
        case rest =>
          clear R0 HD B z5 D5 G5 hr5
          obtain ⟨f, rfl, B, R0, HD⟩ := hcut
          have cB := B.cell
          have cR := R0.cell
          have fR := R0.frozen
          have QF := Z0.trans HD.dr.q
          clear HD
          go_wp2_with fail
          refine bodyPost_ret (v := .tuple #[.agg #[.int .i64 x, .int .i64 y, .int .i64 z], .int .i64 f, .int .i64 m, .int .i64 t]) (by simp [results, Try.results12, go_sem, cB, cR]) rfl ⟨x, y, z, f, m, t, rfl, ?_⟩
          exact (((QF.setCell (Nat.le_refl _) _).setCell (Nat.le_refl _) _).setCell (Nat.le_refl _) _)
end Go.Proofs.Ythlfadkpeogajaa
