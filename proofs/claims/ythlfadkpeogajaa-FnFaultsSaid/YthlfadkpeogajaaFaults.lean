/- Walks: the reference's draw for ProtestFaults, and the law on faults. No condition. -/
import Derived.Test.YthlfadkpeogajaaDraw17
import Derived.Test.YthlfadkpeogajaaLk
import Derived.Test.YthlfadkpeogajaaPf
namespace Go.Proofs.Ythlfadkpeogajaa
open Go.RowKit Go.WideShapes Go.ChangeShapes
def DrawPF (wz : World) (e : Ending) (w' : World) : Prop := ∃ x0 x1 x2 x3 x4 x5 bo dl : Int, e = .returned (.tuple #[.agg #[.int .i64 x0, .int .i64 x1, .int .i64 x2, .int .i64 x3, .int .i64 x4, .int .i64 x5], .int .i64 bo, .int .i64 dl]) ∧ Q wz w'
set_option maxHeartbeats 4000000 in
theorem spec_DrawProtestFaults (A : Option Addr) (n c : Nat) (wz : World) (ha : Rd8 wz A n) (hn : n ≤ 140737488355327) : Calls Try.prog 16 #[.slice A n c] wz (DrawPF wz) := by
  have R0 := Blk.new wz 32 #[.int .i64 0, .int .i64 0, .int .i64 0, .int .i64 0, .int .i64 0, .int .i64 0]
  have Z0 : Q wz (wz.alloc (.cells #[.int .i64 0, .int .i64 0, .int .i64 0, .int .i64 0, .int .i64 0, .int .i64 0] 32)) := by (repeat (first | assumption | exact Q.refl _ | refine Q.alloc ?_ _ | refine Q.drewN ?_ _ | refine Q.drew ?_))
  have zz : (wz.alloc (.cells #[.int .i64 0, .int .i64 0, .int .i64 0, .int .i64 0, .int .i64 0, .int .i64 0] 32)).heap.size = wz.heap.size + 1 := by simp
  go_enter Try.func16, Try.ntmps16
  go_wp2_with (go_at_call 57; refine (spec_From A n c _ (ha.q (by (repeat (first | assumption | exact Q.refl _ | refine Q.alloc ?_ _ | refine Q.drewN ?_ _ | refine Q.drew ?_)))) hn).mono ?_; rintro e w ⟨rfl, D0⟩)
  generalize wz.alloc (.cells #[.int .i64 0, .int .i64 0, .int .i64 0, .int .i64 0, .int .i64 0, .int .i64 0] 32) = w0 at *
  rw [zz] at D0
  obtain ⟨g, hg⟩ : ∃ g, g = wz.heap.size + 1 := ⟨_, rfl⟩
  rw [← hg] at D0 ⊢
  have HD := DrT.start D0
  have hlt := HD.glt
  replace R0 := R0.q D0.q
  have hgr : wz.heap.size < g := by omega
  have hwz : wz.heap.size < w.heap.size := by omega
  clear hg zz
  refine (spec_l17Draw D0 hn).mono ?_
  rintro e wa ⟨x0, x1, x2, x3, x4, x5, rfl, D1, G1⟩
  replace HD := HD.step D1 G1
  replace R0 := R0.keepG G1 (by omega)
  clear D0 D1 G1
  go_wp2_with fail
  have B := Blk.new wa 32 #[.int .i64 x0, .int .i64 x1, .int .i64 x2, .int .i64 x3, .int .i64 x4, .int .i64 x5]
  have hsz := HD.size
  obtain ⟨b, hb⟩ : ∃ b, b = wa.heap.size := ⟨_, rfl⟩
  rw [← hb] at B ⊢
  replace HD := HD.alloc (.cells #[.int .i64 x0, .int .i64 x1, .int .i64 x2, .int .i64 x3, .int .i64 x4, .int .i64 x5] 32)
  replace R0 := R0.alloc (.cells #[.int .i64 x0, .int .i64 x1, .int .i64 x2, .int .i64 x3, .int .i64 x4, .int .i64 x5] 32)
  have hbg : w.heap.size ≤ b := by omega
  generalize hwb : wa.alloc (.cells #[.int .i64 x0, .int .i64 x1, .int .i64 x2, .int .i64 x3, .int .i64 x4, .int .i64 x5] 32) = wb at *
  clear hwb hb hsz
  refine (spec_Next (w0 := w0) (A := A) (n := n) (c := c) _ (DrT.dr (ws := w) (by ((repeat (first | exact HD | refine DrT.alloc ?_ _ | refine DrT.drewN ?_ _ | refine DrT.drew ?_ | refine DrT.set ?_ (by first | omega | (simp; omega)) _))))) hn).mono ?_
  rintro e1 w1 ⟨r1, rfl, hr1, D1, G1⟩
  have HD := DrT.step (ws := w) (by ((repeat (first | exact HD | refine DrT.alloc ?_ _ | refine DrT.drewN ?_ _ | refine DrT.drew ?_ | refine DrT.set ?_ (by first | omega | (simp; omega)) _)))) D1 G1
  have z1 := HD.size
  replace B := Blk.keepG (g := g) (B.q (by (repeat (first | assumption | exact Q.refl _ | refine Q.alloc ?_ _ | refine Q.drewN ?_ _ | refine Q.drew ?_)))) G1 (by omega)
  replace R0 := Blk.keepG (g := g) (R0.q (by (repeat (first | assumption | exact Q.refl _ | refine Q.alloc ?_ _ | refine Q.drewN ?_ _ | refine Q.drew ?_)))) G1 (by omega)
  go_wp2_with fail
  refine (spec_Next (w0 := w0) (A := A) (n := n) (c := c) _ (DrT.dr (ws := w) (by ((repeat (first | exact HD | refine DrT.alloc ?_ _ | refine DrT.drewN ?_ _ | refine DrT.drew ?_ | refine DrT.set ?_ (by first | omega | (simp; omega)) _))))) hn).mono ?_
  rintro e2 w2 ⟨r2, rfl, hr2, D2, G2⟩
  have HD := DrT.step (ws := w) (by ((repeat (first | exact HD | refine DrT.alloc ?_ _ | refine DrT.drewN ?_ _ | refine DrT.drew ?_ | refine DrT.set ?_ (by first | omega | (simp; omega)) _)))) D2 G2
  have z2 := HD.size
  replace B := Blk.keepG (g := g) (B.q (by (repeat (first | assumption | exact Q.refl _ | refine Q.alloc ?_ _ | refine Q.drewN ?_ _ | refine Q.drew ?_)))) G2 (by omega)
  replace R0 := Blk.keepG (g := g) (R0.q (by (repeat (first | assumption | exact Q.refl _ | refine Q.alloc ?_ _ | refine Q.drewN ?_ _ | refine Q.drew ?_)))) G2 (by omega)
  go_upto_if 18 with (fail)
  go_cut [7] from 9 (fun v9 wc => ∃ m : Int, v9 = .int .i64 m ∧ Blk wc b 32 #[.int .i64 x0, .int .i64 x1, .int .i64 x2, .int .i64 x3, .int .i64 x4, .int .i64 x5] ∧ Blk wc wz.heap.size 32 #[.int .i64 0, .int .i64 0, .int .i64 0, .int .i64 0, .int .i64 0, .int .i64 0] ∧ DrT w0 w wc g A n c)
  case first =>
    by_cases h2 : r2 = 0
    · subst h2
      clear hr2
      go_wp2_with (go_at_call 59; refine (spec_Next (w0 := w0) (A := A) (n := n) (c := c) _ (DrT.dr (ws := w) (by ((repeat (first | exact HD | refine DrT.alloc ?_ _ | refine DrT.drewN ?_ _ | refine DrT.drew ?_ | refine DrT.set ?_ (by first | omega | (simp; omega)) _))))) hn).mono ?_; rintro e3 w3 ⟨r3, rfl, hr3, D3, G3⟩; have HD := DrT.step (ws := w) (by ((repeat (first | exact HD | refine DrT.alloc ?_ _ | refine DrT.drewN ?_ _ | refine DrT.drew ?_ | refine DrT.set ?_ (by first | omega | (simp; omega)) _)))) D3 G3; have z3 := HD.size; have B := Blk.keepG (g := g) (B.q (by (repeat (first | assumption | exact Q.refl _ | refine Q.alloc ?_ _ | refine Q.drewN ?_ _ | refine Q.drew ?_)))) G3 (by omega); have cB := B.cell; have fB := B.frozen; have lB := B.lt; have R0 := Blk.keepG (g := g) (R0.q (by (repeat (first | assumption | exact Q.refl _ | refine Q.alloc ?_ _ | refine Q.drewN ?_ _ | refine Q.drew ?_)))) G3 (by omega); have cR0 := R0.cell; have fR0 := R0.frozen; have lR0 := R0.lt)
      go_meet
      exact ⟨_, rfl, B, R0, HD⟩
    · have b2 : (r2 == 0) = false := by simpa using h2
      go_wp2_with fail
      go_meet
      exact ⟨_, rfl, B, R0, HD⟩
  case rest =>
    clear R0 HD B z1 D1 G1 z2 D2 G2 hr1 hr2
    obtain ⟨bo, rfl, B, R0, HD⟩ := hcut
    go_wp2_with fail
    refine (spec_Next (w0 := w0) (A := A) (n := n) (c := c) _ (DrT.dr (ws := w) (by ((repeat (first | exact HD | refine DrT.alloc ?_ _ | refine DrT.drewN ?_ _ | refine DrT.drew ?_ | refine DrT.set ?_ (by first | omega | (simp; omega)) _))))) hn).mono ?_
    rintro e3 w3 ⟨r3, rfl, hr3, D3, G3⟩
    have HD := DrT.step (ws := w) (by ((repeat (first | exact HD | refine DrT.alloc ?_ _ | refine DrT.drewN ?_ _ | refine DrT.drew ?_ | refine DrT.set ?_ (by first | omega | (simp; omega)) _)))) D3 G3
    have z3 := HD.size
    replace B := Blk.keepG (g := g) (B.q (by (repeat (first | assumption | exact Q.refl _ | refine Q.alloc ?_ _ | refine Q.drewN ?_ _ | refine Q.drew ?_)))) G3 (by omega)
    replace R0 := Blk.keepG (g := g) (R0.q (by (repeat (first | assumption | exact Q.refl _ | refine Q.alloc ?_ _ | refine Q.drewN ?_ _ | refine Q.drew ?_)))) G3 (by omega)
    go_wp2_with fail
    refine (spec_Next (w0 := w0) (A := A) (n := n) (c := c) _ (DrT.dr (ws := w) (by ((repeat (first | exact HD | refine DrT.alloc ?_ _ | refine DrT.drewN ?_ _ | refine DrT.drew ?_ | refine DrT.set ?_ (by first | omega | (simp; omega)) _))))) hn).mono ?_
    rintro e4 w4 ⟨r4, rfl, hr4, D4, G4⟩
    have HD := DrT.step (ws := w) (by ((repeat (first | exact HD | refine DrT.alloc ?_ _ | refine DrT.drewN ?_ _ | refine DrT.drew ?_ | refine DrT.set ?_ (by first | omega | (simp; omega)) _)))) D4 G4
    have z4 := HD.size
    replace B := Blk.keepG (g := g) (B.q (by (repeat (first | assumption | exact Q.refl _ | refine Q.alloc ?_ _ | refine Q.drewN ?_ _ | refine Q.drew ?_)))) G4 (by omega)
    replace R0 := Blk.keepG (g := g) (R0.q (by (repeat (first | assumption | exact Q.refl _ | refine Q.alloc ?_ _ | refine Q.drewN ?_ _ | refine Q.drew ?_)))) G4 (by omega)
    go_upto_if 26 with (fail)
    go_cut [8] from 9 (fun v9 wc => ∃ m : Int, v9 = .int .i64 m ∧ Blk wc b 32 #[.int .i64 x0, .int .i64 x1, .int .i64 x2, .int .i64 x3, .int .i64 x4, .int .i64 x5] ∧ Blk wc wz.heap.size 32 #[.int .i64 0, .int .i64 0, .int .i64 0, .int .i64 0, .int .i64 0, .int .i64 0] ∧ DrT w0 w wc g A n c)
    case first =>
      by_cases h4 : r4 = 0
      · subst h4
        clear hr4
        have cB := B.cell
        have fB := B.frozen
        go_wp2_with fail
        go_region_with (go_at_call 59; refine (spec_Next (w0 := w0) (A := A) (n := n) (c := c) _ (DrT.dr (ws := w) (by ((repeat (first | exact HD | refine DrT.alloc ?_ _ | refine DrT.drewN ?_ _ | refine DrT.drew ?_ | refine DrT.set ?_ (by first | omega | (simp; omega)) _))))) hn).mono ?_; rintro e5 w5 ⟨r5, rfl, hr5, D5, G5⟩; have HD := DrT.step (ws := w) (by ((repeat (first | exact HD | refine DrT.alloc ?_ _ | refine DrT.drewN ?_ _ | refine DrT.drew ?_ | refine DrT.set ?_ (by first | omega | (simp; omega)) _)))) D5 G5; have z5 := HD.size; have B := Blk.keepG (g := g) (B.q (by (repeat (first | assumption | exact Q.refl _ | refine Q.alloc ?_ _ | refine Q.drewN ?_ _ | refine Q.drew ?_)))) G5 (by omega); have cB := B.cell; have fB := B.frozen; have lB := B.lt; have R0 := Blk.keepG (g := g) (R0.q (by (repeat (first | assumption | exact Q.refl _ | refine Q.alloc ?_ _ | refine Q.drewN ?_ _ | refine Q.drew ?_)))) G5 (by omega); have cR0 := R0.cell; have fR0 := R0.frozen; have lR0 := R0.lt)
        all_goals (go_wp2_with fail; go_meet)
        all_goals exact ⟨_, rfl, B.q (by (repeat (first | assumption | exact Q.refl _ | refine Q.alloc ?_ _ | refine Q.drewN ?_ _ | refine Q.drew ?_))), R0.q (by (repeat (first | assumption | exact Q.refl _ | refine Q.alloc ?_ _ | refine Q.drewN ?_ _ | refine Q.drew ?_))), HD.q (by (repeat (first | assumption | exact Q.refl _ | refine Q.alloc ?_ _ | refine Q.drewN ?_ _ | refine Q.drew ?_)))⟩
      · have b4 : (r4 == 0) = false := by simpa using h4
        go_wp2_with fail
        go_meet
        exact ⟨_, rfl, B, R0, HD⟩
    case rest =>
      clear R0 HD B z3 D3 G3 z4 D4 G4 hr3 hr4
      obtain ⟨dl, rfl, B, R0, HD⟩ := hcut
      have cB := B.cell
      have cR := R0.cell
      have fR := R0.frozen
      have QF := Z0.trans HD.dr.q
      clear HD
      go_wp2_with fail
      refine bodyPost_ret (v := .tuple #[.agg #[.int .i64 x0, .int .i64 x1, .int .i64 x2, .int .i64 x3, .int .i64 x4, .int .i64 x5], .int .i64 bo, .int .i64 dl]) (by simp [results, Try.results16, go_sem, cB, cR]) rfl ⟨x0, x1, x2, x3, x4, x5, bo, dl, rfl, ?_⟩
      exact ((((((QF.setCell (Nat.le_refl _) _).setCell (Nat.le_refl _) _).setCell (Nat.le_refl _) _).setCell (Nat.le_refl _) _).setCell (Nat.le_refl _) _).setCell (Nat.le_refl _) _)
/-! ### The law -/
theorem pfC_next {c d e f bo dl : Int} (h : pfC c d e f bo dl = 0) (hd : dl ≠ 1000000000) : pfC c d e f bo (dl + 1) = 0 ∧ 0 ≤ dl ∧ dl < 1000000000 := by
  unfold pfC at h ⊢
  split at h
  · cases h
  · rename_i h1
    split at h
    · cases h
    · rename_i h2
      have h2 := Classical.not_not.1 h2
      exact ⟨by rw [if_neg h1, if_neg (by omega)], by omega⟩
theorem pfB_next {a b c d e f bo dl : Int} {k : Nat} (h : pfB a b c d e f bo (dl + 1) k = true) : pfB a b c d e f bo dl k = true := by
  match k, h with
  | 0, h => exact h
  | 1, h => exact h
  | 2, h => exact h
  | 3, h => exact h
  | _ + 4, h => simp [pfB] at h ⊢; omega
theorem pfL_next {a b c d e f bo dl : Int} (h0 : pfC c d e f bo dl = 0) (h1 : pfC c d e f bo (dl + 1) = 0) : ∀ x ∈ pfL a b c d e f bo (dl + 1), x ∈ pfL a b c d e f bo dl := by
  rw [pfL_yes h0, pfL_yes h1]
  unfold pfTo
  intro x hx
  obtain ⟨i, hi, rfl⟩ := List.mem_map.1 hx
  obtain ⟨hi1, hi2⟩ := List.mem_filter.1 hi
  exact List.mem_map.2 ⟨i, List.mem_filter.2 ⟨hi1, pfB_next hi2⟩, rfl⟩
theorem pfL_self {a b c d e f bo dl : Int} (h0 : pfC c d e f bo dl = 0) : decide ((1 : Int) ∈ pfL a b c d e f bo dl) = (a == b) := by
  rw [pfL_yes h0, Bool.eq_iff_iff, decide_eq_true_eq]
  unfold pfTo
  constructor
  · intro h
    obtain ⟨i, hi, hi1⟩ := List.mem_map.1 h
    obtain rfl : i = 0 := by omega
    exact (List.mem_filter.1 hi).2
  · intro h
    exact List.mem_map.2 ⟨0, List.mem_filter.2 ⟨by simp, h⟩, by simp⟩
set_option maxRecDepth 100000 in
set_option maxHeartbeats 4000000 in
theorem law_FnFaults (A : Option Addr) (n c : Nat) (hc : n ≤ c ∧ c ≤ maxLen) (w : World) (ha : Rd8 w A n) :
    Calls Try.prog 4 #[.slice A n c] w fun e w' => e = .returned (.bool true) ∧ Below w.heap.size w w' := by
  have hn : n ≤ 9223372036854775807 := by unfold maxLen at hc; omega
  clear hc
  have K0 := Lib.hid (fun wv => big_any A n c wv hn)
  by_cases h4 : 4096 < n
  · rw [decide_eq_true h4] at K0
    go_enter Try.func4, Try.ntmps4
    go_wp2_with (go_at_call 11; refine (K0.out _).mono ?_; rintro e w' ⟨rfl, rfl⟩)
    go_ret
    exact ⟨rfl, Q.refl _⟩
  · rw [decide_eq_false h4] at K0
    replace hn : n ≤ 140737488355327 := by omega
    have K1 := Lib.hid (fun wv (h : Rd8 wv A n) => spec_DrawProtestFaults A n c wv h hn)
    clear h4
    go_enter Try.func4, Try.ntmps4
    go_wp2_with (first | (go_at_call 11; refine (K0.out _).mono ?_; rintro e w' ⟨rfl, rfl⟩) | (go_at_call 16; refine (K1.out _ ha).mono ?_; rintro e w1 ⟨x0, x1, x2, x3, x4, x5, bo, dl, rfl, q1⟩))
    clear K0 K1 ha hn
    have B0 := Blk.new w1 32 #[.int .i64 x0, .int .i64 x1, .int .i64 x2, .int .i64 x3, .int .i64 x4, .int .i64 x5]
    have Q1 : Q w (w1.alloc (.cells #[.int .i64 x0, .int .i64 x1, .int .i64 x2, .int .i64 x3, .int .i64 x4, .int .i64 x5] 32)) := q1.alloc _
    have k2 := fun wv => impl_ProtestFaults x0 x1 x2 x3 x4 x5 bo dl wv
    have k3 := fun wv => spec_ProtestFaults x0 x1 x2 x3 x4 x5 bo dl wv
    have k4 := fun wv => impl_ProtestFaults x0 x1 x2 x3 x4 x5 bo (dl + 1) wv
    have k5 := fun wv => impl_IsProtest x0 x1 x2 x3 x4 x5 wv
    have k6 := fun wv => spec_IsProtest x0 x1 x2 x3 x4 x5 wv
    have hl := pfL_len x0 x1 x2 x3 x4 x5 bo dl
    have hl2 := pfL_len x0 x1 x2 x3 x4 x5 bo (dl + 1)
    generalize hw2 : w1.alloc (.cells #[.int .i64 x0, .int .i64 x1, .int .i64 x2, .int .i64 x3, .int .i64 x4, .int .i64 x5] 32) = w2 at *
    obtain ⟨b, hb⟩ : ∃ b, b = w1.heap.size := ⟨_, rfl⟩
    rw [← hb] at B0 ⊢
    clear hw2 hb
    obtain ⟨P, hP⟩ : ∃ P, P = isPro x2 x3 x4 x5 := ⟨_, rfl⟩
    rw [← hP] at k5 k6
    have HF : Hid (pfC x2 x3 x4 x5 bo dl = 0 → dl ≠ 1000000000 → (pfC x2 x3 x4 x5 bo (dl + 1) = 0 ∧ 0 ≤ dl ∧ dl < 1000000000) ∧ (∀ x ∈ pfL x0 x1 x2 x3 x4 x5 bo (dl + 1), x ∈ pfL x0 x1 x2 x3 x4 x5 bo dl) ∧ decide ((1 : Int) ∈ pfL x0 x1 x2 x3 x4 x5 bo dl) = (x0 == x1)) := Lib.hid fun h1 h2 => ⟨pfC_next h1 h2, pfL_next h1 (pfC_next h1 h2).1, pfL_self h1⟩
    obtain ⟨C, hCe⟩ : ∃ C, C = pfC x2 x3 x4 x5 bo dl := ⟨_, rfl⟩
    obtain ⟨C2, hCe2⟩ : ∃ C, C = pfC x2 x3 x4 x5 bo (dl + 1) := ⟨_, rfl⟩
    obtain ⟨L, hLe⟩ : ∃ L, L = pfL x0 x1 x2 x3 x4 x5 bo dl := ⟨_, rfl⟩
    obtain ⟨L2, hLe2⟩ : ∃ L, L = pfL x0 x1 x2 x3 x4 x5 bo (dl + 1) := ⟨_, rfl⟩
    rw [← hCe, ← hLe] at k2 k3 HF
    rw [← hCe2, ← hLe2] at k4 HF
    rw [← hLe] at hl
    rw [← hLe2] at hl2
    obtain ⟨N, hN⟩ : ∃ N, N = L.length := ⟨_, rfl⟩
    obtain ⟨N2, hN2⟩ : ∃ N, N = L2.length := ⟨_, rfl⟩
    rw [← hN] at k2 k3 hl
    rw [← hN2] at k4 hl2
    have K2 := Lib.hid k2
    have K3 := Lib.hid k3
    have K4 := Lib.hid k4
    have K5 := Lib.hid k5
    have K6 := Lib.hid k6
    have HN := Lib.hid hN.symm
    have HN2 := Lib.hid hN2.symm
    clear k2 k3 k4 k5 k6 hP hCe hCe2 hLe hLe2 hN hN2
    go_wp2_with (first | (go_at_call 18; refine (K3.out _).mono ?_; rintro e w4 ⟨A2, c2, rfl, o2, q4⟩; have Q4 := (Q1.trans q3).trans q4; have B4 := (B0.q q3).q q4; have p1 := o1.q q4; have l1 := later_cells B4.cell B4.lt) | (go_at_call 17; refine (K2.out _).mono ?_; rintro e w3 ⟨A1, c1, rfl, o1, q3⟩; have c3 := (B0.q q3).cell))
    clear o1 q3 q4 B0 Q1 q1 c3
    refine wp_region_later_lit (by kernel_rfl) (by kernel_rfl) ?_
    repeat (any_goals (first | go_big_quiet_step ((first | (go_at_call 19; exact later_call (likeInts_same _ _ _ _ _ L _ (p1.rd.q (Later.q _)) (o2.rd.q (Later.q _)) HN.out (by omega))) | (go_at_call 20; exact later_call (K5.out _)) | (go_at_call 21; exact later_call (K6.out _)))) | quiet_step ((first | (go_at_call 19; exact later_call (likeInts_same _ _ _ _ _ L _ (p1.rd.q (Later.q _)) (o2.rd.q (Later.q _)) HN.out (by omega))) | (go_at_call 20; exact later_call (K5.out _)) | (go_at_call 21; exact later_call (K6.out _)))) | (refine wpQuiet_step (fun K hK => ?_); go_simp; split <;> (refine hK _ ?_; clear hK K))))
    all_goals (refine wpQuiet_nil ?_; rintro _ ⟨⟨w5, q5⟩, rfl⟩; try dsimp only)
    clear l1 K5 K6 K2 K3
    have B5 := B4.q q5
    have Q5 := Q4.trans q5
    have p5 := p1.q q5
    clear B4 Q4 p1 o2
    by_cases hC : C = 0
    · subst hC
      by_cases hd : dl = 1000000000
      · subst hd
        go_wp2_with fail
        all_goals (go_ret; exact ⟨rfl, Q5⟩)
      · obtain ⟨⟨hc2, hd1, hd2⟩, hsub, hself⟩ := HF.out rfl hd
        subst hc2
        have hdb : (dl == 1000000000) = false := by simpa using hd
        have c5 := B5.cell
        have HS := Lib.hid hsub
        have HE := Lib.hid hself
        clear hd hsub hself HF
        go_wp2_with (go_at_call 17; refine (K4.out _).mono ?_; rintro e w6 ⟨A3, c6, rfl, o6, q6⟩; have Q6 := Q5.trans q6; have B6 := B5.q q6; have p6 := p5.q q6)
        go_loopw [12] (fun i wr => ∃ k : Nat, k ≤ N2 ∧ i = .int .i64 k ∧ Q w6 wr) (fun i _ => N2 - (intOf i).toNat)
        case atStart => exact ⟨0, Nat.zero_le _, rfl, Q.refl _⟩
        case round =>
          obtain ⟨k, hk, rfl, hq⟩ := hrel
          by_cases hlt : k < N2
          · have hltI : (k : Int) < (N2 : Int) := by omega
            obtain ⟨b1, ob, rfl, g0⟩ := (o6.rd.q hq).at1 HN2.out hlt
            have hin : decide (el L2 k ∈ L) = true := decide_eq_true (HS.out _ (by unfold el; rw [List.getD_eq_getElem?_getD, List.getElem?_eq_getElem (by rw [HN2.out]; exact hlt)]; exact List.getElem_mem _))
            have K7 := Lib.hid (fun wv (h : Rd wv A1 L) => hasInt_any A1 N c1 L (el L2 k) wv h HN.out (by omega))
            rw [hin] at K7
            clear hin
            go_wp2_with (go_at_call 22; refine (K7.out _ (p6.rd.q hq)).mono ?_; rintro e w7 ⟨rfl, q7⟩)
            go_roundw
            case rel => exact ⟨k + 1, by omega, by go_num, hq.trans q7⟩
            case measure => simp [intOf]; omega
          · obtain rfl : k = N2 := by omega
            have B7 := B6.q hq
            have l7 := later_cells B7.cell B7.lt
            have p7 := p6.q hq
            have K8 := Lib.hid (fun wv (h : Rd wv A1 L) => hasInt_any A1 N c1 L 1 wv h HN.out (by omega))
            rw [HE.out] at K8
            go_wp2_with fail
            refine wp_region_later_lit (by kernel_rfl) (by kernel_rfl) ?_
            repeat (any_goals (first | go_big_quiet_step ((go_at_call 22; exact later_call (K8.out _ (p7.rd.q (Later.q _))))) | quiet_step ((go_at_call 22; exact later_call (K8.out _ (p7.rd.q (Later.q _))))) | (refine wpQuiet_step (fun K hK => ?_); go_simp; split <;> (refine hK _ ?_; clear hK K))))
            all_goals (refine wpQuiet_nil ?_; rintro _ ⟨⟨w8, q8⟩, rfl⟩; try dsimp only)
            go_wp2_with fail
            go_ret
            exact ⟨ret_bool (by simp), (Q6.trans hq).trans q8⟩
    · have hCb : (C != 0) = true := by simpa using hC
      go_wp2_with fail
      all_goals (go_ret; exact ⟨rfl, Q5⟩)
end Go.Proofs.Ythlfadkpeogajaa
