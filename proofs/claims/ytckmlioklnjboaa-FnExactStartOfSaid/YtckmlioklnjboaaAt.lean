/- Walks: the position of a valid track at a time at which it lasts, as the program and the reference compute it. -/
import Derived.Test.YtckmlioklnjboaaPos
import Derived.Deep.Cut
import Derived.Deep.RegionWith
import Derived.Test.YtckmlioklnjboaaTail
namespace Go.Proofs.Ytckmlioklnjboaa
open Go.RowKit Go.WideShapes Go.ChangeShapes
set_option maxHeartbeats 2000000 in
theorem spec_l02At (a b g d : Int) (w : World) (ha : -1000000 ≤ a ∧ a ≤ 1000000) (hv : -2000000 ≤ b - a ∧ b - a ≤ 2000000) (hg : 0 ≤ g ∧ g ≤ d) (hd : 0 < d ∧ d ≤ 1000000000) :
    Calls Try.prog 104 #[.int .i64 a, .int .i64 b, .agg #[.int .i64 g, .int .i64 d]] w fun e w' => e = .returned (.int .i64 (posC a b g d)) ∧ Q w w' := by
  obtain ⟨h1, h2, h3, h4, h5, h6, h7, h8⟩ := l02_facts hv hg hd
  have HR := Lib.hid h7
  clear h7
  go_enter Try.func104, Try.ntmps104
  go_wp2_with (go_at_call 106; refine (spec_Floor _ _ _ (by omega) (by omega) (by omega)).mono ?_; rintro e w' ⟨rfl, rfl⟩)
  go_ret
  exact ⟨ret_int (by have := HR.out; unfold posC; omega), by (repeat (first | assumption | exact Q.refl _ | refine Q.alloc ?_ _ | refine Q.drewN ?_ _ | refine Q.drew ?_))⟩
def atX (xs : List Int) (n : Nat) (t : Int) : Int := posC (el xs (legS xs t (n - 1) * 3 + 1)) (el xs ((legS xs t (n - 1) + 1) * 3 + 1)) (t - el xs (legS xs t (n - 1) * 3)) (el xs ((legS xs t (n - 1) + 1) * 3) - el xs (legS xs t (n - 1) * 3))
def atY (xs : List Int) (n : Nat) (t : Int) : Int := posC (el xs (legS xs t (n - 1) * 3 + 2)) (el xs ((legS xs t (n - 1) + 1) * 3 + 2)) (t - el xs (legS xs t (n - 1) * 3)) (el xs ((legS xs t (n - 1) + 1) * 3) - el xs (legS xs t (n - 1) * 3))
/-- What a valid track says of two neighbouring fixes. -/
theorem trk_two {xs : List Int} {n k : Nat} (hT : isTrk xs n = true) (hk : k + 1 < n) :
    (0 ≤ el xs (k * 3) ∧ el xs (k * 3) < el xs ((k + 1) * 3) ∧ el xs ((k + 1) * 3) ≤ 1000000000) ∧ (-1000000 ≤ el xs (k * 3 + 1) ∧ el xs (k * 3 + 1) ≤ 1000000) ∧ (-1000000 ≤ el xs (k * 3 + 2) ∧ el xs (k * 3 + 2) ≤ 1000000) ∧
    (-1000000 ≤ el xs ((k + 1) * 3 + 1) ∧ el xs ((k + 1) * 3 + 1) ≤ 1000000) ∧ (-1000000 ≤ el xs ((k + 1) * 3 + 2) ∧ el xs ((k + 1) * 3 + 2) ≤ 1000000) := by
  unfold isTrk at hT
  simp only [Bool.and_eq_true] at hT
  obtain ⟨a1, a2, a3⟩ := fixAt_yes (fixTo_at hT.2 (show k < n by omega))
  obtain ⟨b1, b2, b3⟩ := fixAt_yes (fixTo_at hT.2 hk)
  have a2 := of_decide_eq_true a2
  have b2 := of_decide_eq_true b2
  rw [show k + 1 - 1 = k by omega] at b3
  have b3 : el xs (k * 3) < el xs ((k + 1) * 3) := b3.resolve_left (by omega)
  exact ⟨⟨a1.1, b3, b1.2⟩, ⟨a2.1, a2.2.1⟩, ⟨a2.2.2.1, a2.2.2.2⟩, ⟨b2.1, b2.2.1⟩, ⟨b2.2.2.1, b2.2.2.2⟩⟩
theorem trk_40 {xs : List Int} {n : Nat} (hT : isTrk xs n = true) : n ≤ 40 := by
  unfold isTrk at hT
  simp only [Bool.and_eq_true] at hT
  exact (of_decide_eq_true hT.1).2
theorem mul_bd3 {v g : Int} (hv : -2000000 ≤ v ∧ v ≤ 2000000) (hg : 0 ≤ g ∧ g ≤ 1000000000) : -2000000000000000 ≤ v * g ∧ v * g ≤ 2000000000000000 := by
  have h1 : v * g ≤ 2000000 * g := Int.mul_le_mul_of_nonneg_right hv.2 hg.1
  have h2 : (-2000000) * g ≤ v * g := Int.mul_le_mul_of_nonneg_right hv.1 hg.1
  omega
set_option maxHeartbeats 2000000 in
theorem impl_positionAt (A : Option Addr) (n c : Nat) (xs : List Int) (t : Int) (w : World) (ha : Rd w A xs) (hn : xs.length = n * 3) (hT : isTrk xs n = true) (hl : lastsB xs n t = true) :
    Calls Try.prog 91 #[.agg #[.slice A n c], .int .i64 t] w fun e w' => e = .returned (.agg #[.int .i64 (atX xs n t), .int .i64 (atY xs n t)]) ∧ Q w w' := by
  obtain ⟨hk, ht1, ht2⟩ := leg_facts hT hl
  have KL := Lib.hid (fun wv (h : Rd wv A xs) => impl_legAt A n c xs t wv h hn hT)
  unfold atX atY
  obtain ⟨k, hK⟩ : ∃ k, k = legS xs t (n - 1) := ⟨_, rfl⟩
  rw [← hK] at hk ht1 ht2 KL ⊢
  clear hK
  obtain ⟨⟨f1, f2, f3⟩, f4, f5, f6, f7⟩ := trk_two hT hk
  obtain ⟨b, o, rfl, g0, g1, g2⟩ := ha.at3 hn (show k < n by omega)
  obtain ⟨_, _, hA, j0, j1, j2⟩ := ha.at3 hn hk
  cases hA
  have hn40 := trk_40 hT
  have hk40 : (k : Int) ≤ 40 := by omega
  have hkI : (k : Int) < (n : Int) := by omega
  have hkJ : (k : Int) + 1 < (n : Int) := by omega
  clear hn hT hl hn40
  generalize el xs (k * 3) = t0 at *
  generalize el xs (k * 3 + 1) = x0 at *
  generalize el xs (k * 3 + 2) = y0 at *
  generalize el xs ((k + 1) * 3) = t1 at *
  generalize el xs ((k + 1) * 3 + 1) = x1 at *
  generalize el xs ((k + 1) * 3 + 2) = y1 at *
  go_enter Try.func91, Try.ntmps91
  go_wp2_with (go_at_call 108; refine (KL.out _ (ha.q (by (repeat (first | assumption | exact Q.refl _ | refine Q.alloc ?_ _ | refine Q.drewN ?_ _ | refine Q.drew ?_))))).mono ?_; rintro e w1 ⟨rfl, q1⟩; have bx := q1.box2; have lx := q1.boxB2.lt; have br := (Blk.new _ _ _).q q1; have Q1 : Q w w1 := Q.trans (by (repeat (first | assumption | exact Q.refl _ | refine Q.alloc ?_ _ | refine Q.drewN ?_ _ | refine Q.drew ?_))) q1; have g0 := Q1.cell g0; have g1 := Q1.cell g1; have g2 := Q1.cell g2; have j0 := Q1.cell j0; have j1 := Q1.cell j1; have j2 := Q1.cell j2; have lb := World.block_lt_of_cell? w1 _ j2)
  go_cut [6, 7] from 6 (fun p q wc => ∃ b6 b7, p = .pointer (some ⟨b6, 0, none⟩) ∧ q = .pointer (some ⟨b7, 0, none⟩) ∧ Blk wc b6 105 #[.int .i64 t0, .int .i64 x0, .int .i64 y0] ∧ Blk wc b7 105 #[.int .i64 t1, .int .i64 x1, .int .i64 y1] ∧ Blk wc (w.heap.size + 1) 34 #[.int .i64 0, .int .i64 0] ∧ Q w wc)
  case first =>
    go_region
    all_goals (go_wp2_with fail; go_meet)
    · refine ⟨_, _, rfl, rfl, ?_, ?_, ?_, Q1.trans (by (repeat (first | assumption | exact Q.refl _ | refine Q.alloc ?_ _ | refine Q.drewN ?_ _ | refine Q.drew ?_)))⟩
      · exact ((Blk.new w1 _ _).alloc _).drew
      · exact Blk.drew (by simpa using Blk.new (w1.alloc _) 105 #[.int .i64 t1, .int .i64 x1, .int .i64 y1])
      · exact Blk.drew (((by simpa using br : Blk w1 (w.heap.size + 1) _ _).alloc _).alloc _)
    · refine ⟨_, _, rfl, rfl, ?_, ?_, ?_, Q1.trans (by (repeat (first | assumption | exact Q.refl _ | refine Q.alloc ?_ _ | refine Q.drewN ?_ _ | refine Q.drew ?_)))⟩
      · exact Blk.drew (by simpa using Blk.new (w1.alloc _) 105 #[.int .i64 t0, .int .i64 x0, .int .i64 y0])
      · exact ((Blk.new w1 _ _).alloc _).drew
      · exact Blk.drew (((by simpa using br : Blk w1 (w.heap.size + 1) _ _).alloc _).alloc _)
  case rest =>
    obtain ⟨b6, b7, rfl, rfl, B6, B7, BR, QC⟩ := hcut
    have d6 := B6.cell
    have d7 := B7.cell
    have l6 := B6.lt
    have l7 := B7.lt
    have e4 := BR.cell
    have z4 := BR.frozen
    have m1 := posC_bd (a := x0) (b := x1) (g := t - t0) (d := t1 - t0) (V := 2000000) (by omega) (by omega) (by omega)
    have m2 := posC_bd (a := y0) (b := y1) (g := t - t0) (d := t1 - t0) (V := 2000000) (by omega) (by omega) (by omega)
    have p1 := mul_bd3 (v := x1 - x0) (g := t - t0) (by omega) (by omega)
    have p2 := mul_bd3 (v := y1 - y0) (g := t - t0) (by omega) (by omega)
    clear g0 g1 g2 j0 j1 j2 bx lx lb q1 br KL ha
    clear g0 g1 g2 j0 j1 j2
    have HX := Lib.hid (show posC x0 x1 (t - t0) (t1 - t0) = x0 + (x1 - x0) * (t - t0) / (t1 - t0) from rfl)
    have HY := Lib.hid (show posC y0 y1 (t - t0) (t1 - t0) = y0 + (y1 - y0) * (t - t0) / (t1 - t0) from rfl)
    have wx : IntKind.i64.wrap (x1 - x0) = x1 - x0 := by rw [IntKind.wrap_i64]; omega
    have wy : IntKind.i64.wrap (y1 - y0) = y1 - y0 := by rw [IntKind.wrap_i64]; omega
    have vx : IntKind.i64.wrap ((x1 - x0) * (t - t0)) = (x1 - x0) * (t - t0) := by rw [IntKind.wrap_i64]; omega
    have vy : IntKind.i64.wrap ((y1 - y0) * (t - t0)) = (y1 - y0) * (t - t0) := by rw [IntKind.wrap_i64]; omega
    have L6 := later_cells d6 l6
    have L7 := later_cells d7 l7
    clear d6 d7 e4 z4
    go_wp2_with fail
    refine wp_region_later_lit (by kernel_rfl) (by kernel_rfl) ?_
    repeat (any_goals (first | go_big_quiet_step (fail) | quiet_step (fail) | (refine wpQuiet_step (fun K hK => ?_); go_simp; split <;> (refine hK _ ?_; clear hK K))))
    all_goals (refine wpQuiet_nil ?_; rintro _ ⟨⟨w2, q2⟩, rfl⟩; try dsimp only)
    clear L6 L7
    have L6 := later_cells (B6.q q2).cell (B6.q q2).lt
    have L7 := later_cells (B7.q q2).cell (B7.q q2).lt
    go_wp2_with fail
    refine wp_region_later_tail 25 (by kernel_rfl) (by kernel_rfl) ?_
    simp only [List.take_succ_cons, List.take_zero, List.drop_succ_cons, List.drop_zero]
    repeat (any_goals (first | go_big_quiet_step ((go_at_call 109; exact later_same (impl_floorDiv _ _ _ (by omega) (by omega) (by omega)))) | quiet_step ((go_at_call 109; exact later_same (impl_floorDiv _ _ _ (by omega) (by omega) (by omega))))))
    refine wpQuiet_nil ?_
    rintro w3 ⟨⟨w4, q4⟩, hw⟩
    obtain rfl : w3 = w4 := hw
    clear L6 L7
    have e4 := ((BR.q q2).q q4).cell
    have z4 := ((BR.q q2).q q4).frozen
    have Q4 : Q w w3 := QC.trans (q2.trans q4)
    go_wp2_with fail
    have bf := ((((BR.q q2).q q4).set_ 0 (.int .i64 (x0 + (x1 - x0) * (t - t0) / (t1 - t0)))).set_ 1 (.int .i64 (y0 + (y1 - y0) * (t - t0) / (t1 - t0)))).cell
    exact bodyPost_ret (v := .agg #[.int .i64 (posC x0 x1 (t - t0) (t1 - t0)), .int .i64 (posC y0 y1 (t - t0) (t1 - t0))]) (by rw [HX.out, HY.out]; simp [results, Try.results91, go_sem, bf]) rfl ⟨rfl, (Q4.setCell (by simp) _).setCell (by simp) _⟩
set_option maxHeartbeats 2000000 in
theorem spec_l03At (A : Option Addr) (n c : Nat) (xs : List Int) (t : Int) (w : World) (ha : Rd w A xs) (hn : xs.length = n * 3) (hT : isTrk xs n = true) (hl : lastsB xs n t = true) :
    Calls Try.prog 84 #[.agg #[.slice A n c], .int .i64 t] w fun e w' => e = .returned (.agg #[.int .i64 (atX xs n t), .int .i64 (atY xs n t)]) ∧ Q w w' := by
  obtain ⟨hk, ht1, ht2⟩ := leg_facts hT hl
  have KL := Lib.hid (fun wv (h : Rd wv A xs) => spec_l03Leg A n c xs t wv h hn hT)
  unfold atX atY
  obtain ⟨k, hK⟩ : ∃ k, k = legS xs t (n - 1) := ⟨_, rfl⟩
  rw [← hK] at hk ht1 ht2 KL ⊢
  clear hK
  obtain ⟨⟨f1, f2, f3⟩, f4, f5, f6, f7⟩ := trk_two hT hk
  obtain ⟨b, o, rfl, g0, g1, g2⟩ := ha.at3 hn (show k < n by omega)
  obtain ⟨_, _, hA, j0, j1, j2⟩ := ha.at3 hn hk
  cases hA
  have hn40 := trk_40 hT
  have hk40 : (k : Int) ≤ 40 := by omega
  have hkI : (k : Int) < (n : Int) := by omega
  have hkJ : (k : Int) + 1 < (n : Int) := by omega
  clear hn hT hl hn40
  generalize el xs (k * 3) = t0 at *
  generalize el xs (k * 3 + 1) = x0 at *
  generalize el xs (k * 3 + 2) = y0 at *
  generalize el xs ((k + 1) * 3) = t1 at *
  generalize el xs ((k + 1) * 3 + 1) = x1 at *
  generalize el xs ((k + 1) * 3 + 2) = y1 at *
  go_enter Try.func84, Try.ntmps84
  go_wp2_with (go_at_call 103; refine (KL.out _ (ha.q (by (repeat (first | assumption | exact Q.refl _ | refine Q.alloc ?_ _ | refine Q.drewN ?_ _ | refine Q.drew ?_))))).mono ?_; rintro e w1 ⟨rfl, q1⟩; have bx := q1.box2; have lx := q1.boxB2.lt; have br := (Blk.new _ _ _).q q1; have Q1 : Q w w1 := Q.trans (by (repeat (first | assumption | exact Q.refl _ | refine Q.alloc ?_ _ | refine Q.drewN ?_ _ | refine Q.drew ?_))) q1; have g0 := Q1.cell g0; have g1 := Q1.cell g1; have g2 := Q1.cell g2; have j0 := Q1.cell j0; have j1 := Q1.cell j1; have j2 := Q1.cell j2; have lb := World.block_lt_of_cell? w1 _ j2)
  go_cut [6, 7] from 6 (fun p q wc => ∃ b6 b7, p = .pointer (some ⟨b6, 0, none⟩) ∧ q = .pointer (some ⟨b7, 0, none⟩) ∧ Blk wc b6 105 #[.int .i64 t0, .int .i64 x0, .int .i64 y0] ∧ Blk wc b7 105 #[.int .i64 t1, .int .i64 x1, .int .i64 y1] ∧ Blk wc (w.heap.size + 1) 34 #[.int .i64 0, .int .i64 0] ∧ Q w wc)
  case first =>
    go_region
    all_goals (go_wp2_with fail; go_meet)
    · refine ⟨_, _, rfl, rfl, ?_, ?_, ?_, Q1.trans (by (repeat (first | assumption | exact Q.refl _ | refine Q.alloc ?_ _ | refine Q.drewN ?_ _ | refine Q.drew ?_)))⟩
      · exact ((Blk.new w1 _ _).alloc _).drew
      · exact Blk.drew (by simpa using Blk.new (w1.alloc _) 105 #[.int .i64 t1, .int .i64 x1, .int .i64 y1])
      · exact Blk.drew (((by simpa using br : Blk w1 (w.heap.size + 1) _ _).alloc _).alloc _)
    · refine ⟨_, _, rfl, rfl, ?_, ?_, ?_, Q1.trans (by (repeat (first | assumption | exact Q.refl _ | refine Q.alloc ?_ _ | refine Q.drewN ?_ _ | refine Q.drew ?_)))⟩
      · exact Blk.drew (by simpa using Blk.new (w1.alloc _) 105 #[.int .i64 t0, .int .i64 x0, .int .i64 y0])
      · exact ((Blk.new w1 _ _).alloc _).drew
      · exact Blk.drew (((by simpa using br : Blk w1 (w.heap.size + 1) _ _).alloc _).alloc _)
  case rest =>
    obtain ⟨b6, b7, rfl, rfl, B6, B7, BR, QC⟩ := hcut
    have d6 := B6.cell
    have d7 := B7.cell
    have l6 := B6.lt
    have l7 := B7.lt
    clear g0 g1 g2 j0 j1 j2 bx lx lb q1 br KL ha
    clear g0 g1 g2 j0 j1 j2
    go_wp2_with fail
    have B8 := Blk.new wc 52 #[.int .i64 (t - t0), .int .i64 (t1 - t0)]
    have L6 := later_cells (B6.alloc (.cells #[.int .i64 (t - t0), .int .i64 (t1 - t0)] 52)).cell (B6.alloc _).lt
    have L7 := later_cells (B7.alloc (.cells #[.int .i64 (t - t0), .int .i64 (t1 - t0)] 52)).cell (B7.alloc _).lt
    have L8 := later_cells B8.cell B8.lt
    clear d6 d7
    refine wp_region_later_tail 13 (by kernel_rfl) (by kernel_rfl) ?_
    simp only [List.take_succ_cons, List.take_zero, List.drop_succ_cons, List.drop_zero]
    repeat (any_goals (first | go_big_quiet_step ((go_at_call 104; exact later_call (spec_l02At _ _ _ _ _ (by omega) (by omega) (by omega) (by omega)))) | quiet_step ((go_at_call 104; exact later_call (spec_l02At _ _ _ _ _ (by omega) (by omega) (by omega) (by omega))))))
    refine wpQuiet_nil ?_
    rintro w3 ⟨⟨w4, q4⟩, hw⟩
    obtain rfl : w3 = w4 := hw
    clear L6 L7 L8
    have br3 := (BR.alloc (.cells #[.int .i64 (t - t0), .int .i64 (t1 - t0)] 52)).q q4
    have e4 := br3.cell
    have z4 := br3.frozen
    have Q4 : Q w w3 := Q.trans (QC.alloc _) q4
    go_wp2_with fail
    have bf := ((br3.set_ 0 (.int .i64 (posC x0 x1 (t - t0) (t1 - t0)))).set_ 1 (.int .i64 (posC y0 y1 (t - t0) (t1 - t0)))).cell
    exact bodyPost_ret (v := .agg #[.int .i64 (posC x0 x1 (t - t0) (t1 - t0)), .int .i64 (posC y0 y1 (t - t0) (t1 - t0))]) (by simp [results, Try.results84, go_sem, bf]) rfl ⟨rfl, (Q4.setCell (by simp) _).setCell (by simp) _⟩
end Go.Proofs.Ytckmlioklnjboaa
