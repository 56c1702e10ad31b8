/- Walks: whether a track is early, as the program and the reference compute it. -/
import Derived.Test.YtlmaecmjpbgegaaLine
namespace Go.Proofs.Ytlmaecmjpbgegaa
open Go.RowKit Go.WideShapes Go.ChangeShapes
theorem posC_in {a b g d : Int} (hg : 0 ≤ g ∧ g ≤ d) (hd : 0 < d) (ha : -1000000 ≤ a ∧ a ≤ 1000000) (hb : -1000000 ≤ b ∧ b ≤ 1000000) : -1000000 ≤ posC a b g d ∧ posC a b g d ≤ 1000000 := by
  unfold posC
  rcases Int.le_total 0 (b - a) with h | h
  · have h1 := posC_bd (a := a) (b := b) (V := b - a) hg hd (by omega)
    have h2 : 0 ≤ (b - a) * g / d := Int.ediv_nonneg (Int.mul_nonneg h hg.1) (by omega)
    omega
  · have h1 := posC_bd (a := a) (b := b) (V := a - b) hg hd (by omega)
    have h2 : (b - a) * g ≤ 0 := Int.mul_nonpos_of_nonpos_of_nonneg h hg.1
    have h3 : (b - a) * g / d ≤ 0 := by
      have := Int.ediv_le_ediv hd h2
      rwa [Int.zero_ediv] at this
    omega
theorem pos_pt {xs : List Int} {n : Nat} {t : Int} (hT : isTrk xs n = true) (hl : lastsB xs n t = true) : pt (atX xs n t) (atY xs n t) := by
  obtain ⟨hk, ht1, ht2⟩ := leg_facts hT hl
  obtain ⟨⟨f1, f2, f3⟩, f4, f5, f6, f7⟩ := trk_two hT hk
  unfold atX atY
  exact ⟨posC_in (by omega) (by omega) f4 f6, posC_in (by omega) (by omega) f5 f7⟩
theorem impl_behindAt (a b c d : Int) (A : Option Addr) (n cc : Nat) (xs : List Int) (t : Int) (w : World) (hp : pt a b) (hq : pt c d) (ha : Rd w A xs) (hn : xs.length = n * 3) (hT : isTrk xs n = true) (hl : lastsB xs n t = true) :
    Calls Try.prog 98 #[.agg #[.int .i64 a, .int .i64 b, .int .i64 c, .int .i64 d], .agg #[.slice A n cc], .int .i64 t] w fun e w' => e = .returned (.bool (sgn (crossV a b c d (atX xs n t) (atY xs n t)) == 1)) ∧ Q w w' := by
  have hr := pos_pt hT hl
  have K1 := Lib.hid (fun wv (h : Rd wv A xs) => impl_positionAt A n cc xs t wv h hn hT hl)
  generalize atX xs n t = X at *
  generalize atY xs n t = Y at *
  have K2 := Lib.hid (fun wv => impl_sideOf a b c d X Y wv hp hq hr)
  generalize sgn (crossV a b c d X Y) = S at *
  clear hp hq hr hT hl hn
  obtain ⟨W, hW⟩ : ∃ W, W = (w.alloc (.cells #[.int .i64 a, .int .i64 b, .int .i64 c, .int .i64 d] 50)).alloc (.cells #[.slice A n cc] 35) := ⟨_, rfl⟩
  have B1 : Blk W w.heap.size 50 #[.int .i64 a, .int .i64 b, .int .i64 c, .int .i64 d] := by rw [hW]; exact (Blk.new _ _ _).alloc _
  have B2 : Blk W (w.heap.size + 1) 35 #[.slice A n cc] := by rw [hW]; exact (by simpa using Blk.new (w.alloc (.cells #[.int .i64 a, .int .i64 b, .int .i64 c, .int .i64 d] 50)) 35 #[.slice A n cc])
  have hRW : Rd W A xs := by rw [hW]; exact ha.q (by (repeat (first | assumption | exact Q.refl _ | refine Q.alloc ?_ _ | refine Q.drewN ?_ _ | refine Q.drew ?_)))
  have L1 := later_cells B1.cell B1.lt
  have L2 := later_cells B2.cell B2.lt
  clear B1 B2 ha
  subst hW
  go_enter Try.func98, Try.ntmps98
  go_wp2_with fail
  refine wp_region_later_lit (by kernel_rfl) (by kernel_rfl) ?_
  repeat (any_goals (first | go_big_quiet_step (((first | (go_at_call 111; exact later_call (K1.out _ (hRW.q (Later.q _)))) | (go_at_call 100; exact later_call (K2.out _))))) | quiet_step (((first | (go_at_call 111; exact later_call (K1.out _ (hRW.q (Later.q _)))) | (go_at_call 100; exact later_call (K2.out _))))) | (refine wpQuiet_step (fun K hK => ?_); go_simp; split <;> (refine hK _ ?_; clear hK K))))
  all_goals (refine wpQuiet_nil ?_; rintro _ ⟨⟨w2, q2⟩, rfl⟩; try dsimp only)
  all_goals go_wp2_with fail
  go_ret
  exact ⟨rfl, Q.trans (by (repeat (first | assumption | exact Q.refl _ | refine Q.alloc ?_ _ | refine Q.drewN ?_ _ | refine Q.drew ?_))) q2⟩
def sideV (a b c d : Int) (xs : List Int) (n : Nat) (t : Int) : Int := if lastsB xs n t = true then sgn (crossV a b c d (atX xs n t) (atY xs n t)) else 0
theorem impl_isEarly (a b c d : Int) (A : Option Addr) (n cc : Nat) (xs : List Int) (t : Int) (w : World) (hp : pt a b) (hq : pt c d) (ha : Rd w A xs) (hn : xs.length = n * 3) (hT : isTrk xs n = true) :
    Calls Try.prog 67 #[.agg #[.int .i64 a, .int .i64 b, .int .i64 c, .int .i64 d], .agg #[.slice A n cc], .int .i64 t] w fun e w' => e = .returned (.bool (sideV a b c d xs n t == 1)) ∧ Q w w' := by
  have K1 := (fun wv (h : Rd wv A xs) => impl_lasts A n cc xs t wv h hn hT)
  cases hl : lastsB xs n t
  · rw [hl] at K1
    have K1 := Lib.hid K1
    have HS := Lib.hid (show (sideV a b c d xs n t == 1) = false by simp [sideV, hl])
    clear hl
    go_enter Try.func67, Try.ntmps67
    go_wp2_with (go_at_call 97; refine (K1.out _ (ha.q (by (repeat (first | assumption | exact Q.refl _ | refine Q.alloc ?_ _ | refine Q.drewN ?_ _ | refine Q.drew ?_))))).mono ?_; rintro e w1 ⟨rfl, q1⟩)
    go_ret
    exact ⟨ret_bool (by rw [HS.out]), Q.trans (by (repeat (first | assumption | exact Q.refl _ | refine Q.alloc ?_ _ | refine Q.drewN ?_ _ | refine Q.drew ?_))) q1⟩
  · rw [hl] at K1
    have K1 := Lib.hid K1
    have K2 := Lib.hid (fun wv (h : Rd wv A xs) => impl_behindAt a b c d A n cc xs t wv hp hq h hn hT hl)
    rw [show sideV a b c d xs n t = sgn (crossV a b c d (atX xs n t) (atY xs n t)) by simp [sideV, hl]]
    generalize (sgn (crossV a b c d (atX xs n t) (atY xs n t)) == 1) = S at *
    clear hl hp hq hn hT
    go_enter Try.func67, Try.ntmps67
    go_wp2_with (first | (have q0 := q1; go_at_call 98; refine (K2.out _ (ha.q (Q.trans (by (repeat (first | assumption | exact Q.refl _ | refine Q.alloc ?_ _ | refine Q.drewN ?_ _ | refine Q.drew ?_))) q0))).mono ?_; rintro e w2 ⟨rfl, q2⟩; have Q2 := q0.trans q2) | (go_at_call 97; refine (K1.out _ (ha.q (by (repeat (first | assumption | exact Q.refl _ | refine Q.alloc ?_ _ | refine Q.drewN ?_ _ | refine Q.drew ?_))))).mono ?_; rintro e w1 ⟨rfl, q1⟩; have bx := q1.box2; have bx1 : ∀ i, w1.cell? ⟨w.heap.size + 1, i, none⟩ = #[Value.slice A n cc][i]? := (by simpa using q1.box)))
    go_ret
    exact ⟨ret_bool (by simp), Q.trans (by (repeat (first | assumption | exact Q.refl _ | refine Q.alloc ?_ _ | refine Q.drewN ?_ _ | refine Q.drew ?_))) Q2⟩
theorem spec_l14Side (a b c d : Int) (A : Option Addr) (n cc : Nat) (xs : List Int) (t : Int) (w : World) (hp : pt a b) (hq : pt c d) (ha : Rd w A xs) (hn : xs.length = n * 3) (hT : isTrk xs n = true) :
    Calls Try.prog 64 #[.agg #[.int .i64 a, .int .i64 b, .int .i64 c, .int .i64 d], .agg #[.slice A n cc], .int .i64 t] w fun e w' => e = .returned (.int .i64 (sideV a b c d xs n t)) ∧ Q w w' := by
  have K1 := (fun wv (h : Rd wv A xs) => spec_l03Lasts A n cc xs t wv h hn hT)
  cases hl : lastsB xs n t
  · rw [hl] at K1
    have K1 := Lib.hid K1
    have HS := Lib.hid (show sideV a b c d xs n t = 0 by simp [sideV, hl])
    clear hl
    go_enter Try.func64, Try.ntmps64
    go_wp2_with (go_at_call 91; refine (K1.out _ (ha.q (by (repeat (first | assumption | exact Q.refl _ | refine Q.alloc ?_ _ | refine Q.drewN ?_ _ | refine Q.drew ?_))))).mono ?_; rintro e w1 ⟨rfl, q1⟩)
    go_ret
    exact ⟨ret_int (by rw [HS.out]), Q.trans (by (repeat (first | assumption | exact Q.refl _ | refine Q.alloc ?_ _ | refine Q.drewN ?_ _ | refine Q.drew ?_))) q1⟩
  · rw [hl] at K1
    have K1 := Lib.hid K1
    have hr := pos_pt hT hl
    rw [show sideV a b c d xs n t = sgn (crossV a b c d (atX xs n t) (atY xs n t)) by simp [sideV, hl]]
    have K3 := Lib.hid (fun wv (h : Rd wv A xs) => spec_l03At A n cc xs t wv h hn hT hl)
    generalize atX xs n t = X at *
    generalize atY xs n t = Y at *
    have K2 := Lib.hid (fun wv => spec_l04Before a b c d X Y wv hp hq hr)
    generalize sgn (crossV a b c d X Y) = S at *
    clear hp hq hr hT hl hn
    go_enter Try.func64, Try.ntmps64
    go_wp2_with (go_at_call 91; refine (K1.out _ (ha.q (by (repeat (first | assumption | exact Q.refl _ | refine Q.alloc ?_ _ | refine Q.drewN ?_ _ | refine Q.drew ?_))))).mono ?_; rintro e w1 ⟨rfl, q1⟩; have L1 := later_cells q1.boxB2.cell q1.boxB2.lt; have B2 : Blk w1 (w.heap.size + 1) 35 #[.slice A n cc] := (by simpa using q1.boxB); have L2 := later_cells B2.cell B2.lt; have hRW : Rd w1 A xs := ha.q (Q.trans (by (repeat (first | assumption | exact Q.refl _ | refine Q.alloc ?_ _ | refine Q.drewN ?_ _ | refine Q.drew ?_))) q1))
    refine wp_region_later_lit (by kernel_rfl) (by kernel_rfl) ?_
    repeat (any_goals (first | go_big_quiet_step (((first | (go_at_call 93; exact later_call (K3.out _ (hRW.q (Later.q _)))) | (go_at_call 92; exact later_call (K2.out _))))) | quiet_step (((first | (go_at_call 93; exact later_call (K3.out _ (hRW.q (Later.q _)))) | (go_at_call 92; exact later_call (K2.out _))))) | (refine wpQuiet_step (fun K hK => ?_); go_simp; split <;> (refine hK _ ?_; clear hK K))))
    all_goals (refine wpQuiet_nil ?_; rintro _ ⟨⟨w2, q2⟩, rfl⟩; try dsimp only)
    all_goals go_wp2_with fail
    go_ret
    exact ⟨rfl, Q.trans (Q.trans (by (repeat (first | assumption | exact Q.refl _ | refine Q.alloc ?_ _ | refine Q.drewN ?_ _ | refine Q.drew ?_))) q1) q2⟩
end Go.Proofs.Ytlmaecmjpbgegaa
