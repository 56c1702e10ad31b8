/- Walks: the place at which a leg crosses a line. -/
import Derived.Test.YtomgdgdcpgeilaaGreatDoorPlace
namespace Go.Proofs.YtomgdgdcpgeilaaGreatDoor
open Go.RowKit Go.WideShapes Go.ChangeShapes
theorem crossV_bd {a b c d e f : Int} (hp : pt a b) (hq : pt c d) (hr : pt e f) : -8000000000000 ≤ crossV a b c d e f ∧ crossV a b c d e f ≤ 8000000000000 := by
  obtain ⟨h1, h2⟩ := hp
  obtain ⟨h3, h4⟩ := hq
  obtain ⟨h5, h6⟩ := hr
  have m1 := mul_2M (a := c - a) (b := f - b) (by omega) (by omega)
  have m2 := mul_2M (a := d - b) (b := e - a) (by omega) (by omega)
  unfold crossV
  omega
/-- One end is behind the line, the other is not. -/
def Xs (P R : Int) : Prop := (0 < P ∧ R ≤ 0) ∨ (P ≤ 0 ∧ 0 < R)
def plX (P : Int) : Nat := P.natAbs
def plY (P R : Int) : Nat := P.natAbs + R.natAbs
def plN (P R : Int) : Nat := plX P / Nat.gcd (plX P) (plY P R)
def plD (P R : Int) : Nat := plY P R / Nat.gcd (plX P) (plY P R)
theorem Xs_ne {a b c d e f g h : Int} (hx : Xs (crossV a b c d e f) (crossV a b c d g h)) : ¬ (e = g ∧ f = h) := by
  rintro ⟨rfl, rfl⟩
  rcases hx with hx | hx <;> omega
set_option maxHeartbeats 4000000 in
theorem impl_Place (a b c d e f g h : Int) (w : World) (hl : lnB a b c d = true) (hs : lnB e f g h = true) (hx : Xs (crossV a b c d e f) (crossV a b c d g h)) :
    Calls Tryz.prog 146 #[.agg #[.int .i64 e, .int .i64 f, .int .i64 g, .int .i64 h], .agg #[.int .i64 a, .int .i64 b, .int .i64 c, .int .i64 d]] w fun r w' => r = .returned (.tuple #[.agg #[.int .i64 ((plN (crossV a b c d e f) (crossV a b c d g h) : Nat) : Int), .int .i64 ((plD (crossV a b c d e f) (crossV a b c d g h) : Nat) : Int)], .int .i64 0]) ∧ Q w w' := by
  obtain ⟨hp, hq⟩ := lnB_pts hl
  obtain ⟨hr, ht⟩ := lnB_pts hs
  have k1 := fun wv => impl_IsSegment e f g h wv
  have k2 := fun wv => impl_IsSegment a b c d wv
  rw [hl] at k2
  rw [hs] at k1
  have k3 := fun wv => impl_cross a b c d e f wv hp hq hr
  have k4 := fun wv => impl_cross a b c d g h wv hp hq ht
  have b1 := crossV_bd hp hq hr
  have b2 := crossV_bd hp hq ht
  clear hp hq hr ht hl hs
  generalize crossV a b c d e f = P at *
  generalize crossV a b c d g h = R at *
  have HN : Hid (plN P R = plX P / Nat.gcd (plX P) (plY P R) ∧ plD P R = plY P R / Nat.gcd (plX P) (plY P R)) := Lib.hid ⟨rfl, rfl⟩
  have hX : plX P ≤ 4611686018427387904 := by unfold plX; omega
  have hY : plY P R ≤ 4611686018427387904 := by unfold plY; omega
  have hY0 : 0 < plY P R := by unfold plY; rcases hx with hx | hx <;> omega
  have k5 := fun wv => impl_lowest (plX P) (plY P R) hX hY hY0 wv
  rw [← HN.out.1, ← HN.out.2] at k5
  have e1 : max P (-P) = ((plX P : Nat) : Int) := by unfold plX; omega
  have e2 : max (P - R) (R - P) = ((plY P R : Nat) : Int) := by unfold plY; rcases hx with hx | hx <;> omega
  generalize plN P R = N at *
  generalize plD P R = D at *
  generalize plX P = X at *
  generalize plY P R = Y at *
  have K1 := Lib.hid k1
  have K2 := Lib.hid k2
  have K3 := Lib.hid k3
  have K4 := Lib.hid k4
  have K5 := Lib.hid k5
  clear k1 k2 k3 k4 k5 HN hX hY hY0
  obtain ⟨W, hW⟩ : ∃ W, W = ((w.alloc (.cells #[.int .i64 e, .int .i64 f, .int .i64 g, .int .i64 h] 172)).alloc (.cells #[.int .i64 a, .int .i64 b, .int .i64 c, .int .i64 d] 172)).alloc (.cells #[.int .i64 0, .int .i64 0] 133) := ⟨_, rfl⟩
  have B1 : Blk W w.heap.size 172 #[.int .i64 e, .int .i64 f, .int .i64 g, .int .i64 h] := by rw [hW]; exact ((Blk.new _ _ _).alloc _).alloc _
  have B2 : Blk W (w.heap.size + 1) 172 #[.int .i64 a, .int .i64 b, .int .i64 c, .int .i64 d] := by rw [hW]; exact Blk.alloc (by simpa using Blk.new (w.alloc (.cells #[.int .i64 e, .int .i64 f, .int .i64 g, .int .i64 h] 172)) 172 #[.int .i64 a, .int .i64 b, .int .i64 c, .int .i64 d]) _
  have B3 : Blk W (w.heap.size + 2) 133 #[.int .i64 0, .int .i64 0] := by rw [hW]; exact (by simpa using Blk.new ((w.alloc (.cells #[.int .i64 e, .int .i64 f, .int .i64 g, .int .i64 h] 172)).alloc (.cells #[.int .i64 a, .int .i64 b, .int .i64 c, .int .i64 d] 172)) 133 #[.int .i64 0, .int .i64 0])
  have Q0 : Q w W := by rw [hW]; exact (((Q.refl w).alloc _).alloc _).alloc _
  have hhx := Lib.hid hx
  clear hx
  subst hW
  have KK := Lib.hid (And.intro B1 (And.intro B2 B3))
  go_enter Tryz.func146, Tryz.ntmps146
  go_wp2_with (first | (have q0 := q1; go_at_call 116; refine (K2.out _).mono ?_; rintro r w2 ⟨rfl, q2⟩) | (go_at_call 116; refine (K1.out _).mono ?_; rintro r w1 ⟨rfl, q1⟩; have c2 := (B2.q q1).cell))
  replace B1 := (B1.q q1).q q2
  replace B2 := (B2.q q1).q q2
  replace B3 := (B3.q q1).q q2
  have Q2 := (Q0.trans q1).trans q2
  have l1 := later_cells B1.cell B1.lt
  have l2 := later_cells B2.cell B2.lt
  clear q0 q1 q2 c2 Q0 KK B1 B2 K1 K2
  refine wp_region_later_lit (by kernel_rfl) (by kernel_rfl) ?_
  repeat (any_goals (first | go_big_quiet_step ((go_at_call 154; first | with_reducible exact later_call (K3.out _) | exact later_call (K4.out _))) | quiet_step ((go_at_call 154; first | with_reducible exact later_call (K3.out _) | exact later_call (K4.out _))) | (refine wpQuiet_step (fun K hK => ?_); go_simp; split <;> (refine hK _ ?_; clear hK K))))
  all_goals (refine wpQuiet_nil ?_; rintro _ ⟨⟨w3, q3⟩, rfl⟩; try dsimp only)
  replace B3 := B3.q q3
  have Q3 := Q2.trans q3
  clear l1 l2 Q2 K3 K4 q3
  have cB := B3.cell
  have fB := B3.frozen
  obtain ⟨hA, hB⟩ | ⟨hA, hB⟩ := hhx.out
  · have hA2 : ¬ P < 0 := by omega
    have hB2 : ¬ 0 < R := by omega
    have hA3 : (P == 0) = false := by simp; omega
    go_wp2_with fail
    refine (K5.out _).mono ?_
    rintro r w5 ⟨rfl, q5⟩
    have B5 := B3.q q5
    have c5 := B5.cell
    have f5 := B5.frozen
    go_wp2_with fail
    have F := ((B5.set_ 0 (.int .i64 N)).set_ 1 (.int .i64 D)).cell
    refine bodyPost_ret (v := .tuple #[.agg #[.int .i64 N, .int .i64 D], .int .i64 0]) (by simp [results, Tryz.results146, go_sem, F]) rfl ⟨rfl, ((Q3.trans q5).setCell (by simp <;> omega) _).setCell (by simp <;> omega) _⟩
  · have hA2 : ¬ 0 < P := by omega
    have hB2 : ¬ R < 0 := by omega
    have hB3 : (R == 0) = false := by simp; omega
    by_cases hP : P = 0
    · have hP2 : ¬ P < 0 := by omega
      have hP3 : (P == 0) = true := by simpa using hP
      clear hP
      go_wp2_with fail
      refine (K5.out _).mono ?_
      rintro r w5 ⟨rfl, q5⟩
      have B5 := B3.q q5
      have c5 := B5.cell
      have f5 := B5.frozen
      go_wp2_with fail
      have F := ((B5.set_ 0 (.int .i64 N)).set_ 1 (.int .i64 D)).cell
      refine bodyPost_ret (v := .tuple #[.agg #[.int .i64 N, .int .i64 D], .int .i64 0]) (by simp [results, Tryz.results146, go_sem, F]) rfl ⟨rfl, ((Q3.trans q5).setCell (by simp <;> omega) _).setCell (by simp <;> omega) _⟩
    · have hA3 : (P == 0) = false := by simpa using hP
      have hP2 : P < 0 := by omega
      go_wp2_with fail
      refine (K5.out _).mono ?_
      rintro r w5 ⟨rfl, q5⟩
      have B5 := B3.q q5
      have c5 := B5.cell
      have f5 := B5.frozen
      go_wp2_with fail
      have F := ((B5.set_ 0 (.int .i64 N)).set_ 1 (.int .i64 D)).cell
      refine bodyPost_ret (v := .tuple #[.agg #[.int .i64 N, .int .i64 D], .int .i64 0]) (by simp [results, Tryz.results146, go_sem, F]) rfl ⟨rfl, ((Q3.trans q5).setCell (by simp <;> omega) _).setCell (by simp <;> omega) _⟩
theorem calls2 {P : Program} {F : FuncId} {k : IntKind} {x x' y y' : Int} {w : World} {Q : Ending → World → Prop} (h : Calls P F #[.int k x, .int k y] w Q) (hx : x' = x) (hy : y' = y) : Calls P F #[.int k x', .int k y'] w Q := by
  subst hx
  subst hy
  exact h
set_option maxHeartbeats 4000000 in
theorem spec_Place (a b c d e f g h : Int) (w : World) (hl : lnB a b c d = true) (hs : lnB e f g h = true) (hx : Xs (crossV a b c d e f) (crossV a b c d g h)) :
    Calls Tryz.prog 113 #[.agg #[.int .i64 e, .int .i64 f, .int .i64 g, .int .i64 h], .agg #[.int .i64 a, .int .i64 b, .int .i64 c, .int .i64 d]] w fun r w' => r = .returned (.tuple #[.agg #[.int .i64 ((plN (crossV a b c d e f) (crossV a b c d g h) : Nat) : Int), .int .i64 ((plD (crossV a b c d e f) (crossV a b c d g h) : Nat) : Int)], .bool true]) ∧ Q w w' := by
  obtain ⟨hp, hq⟩ := lnB_pts hl
  obtain ⟨hr, ht⟩ := lnB_pts hs
  have M1 := Lib.hid (fun wv => spec_Minus c d a b wv hq hp)
  have M2 := Lib.hid (fun wv => spec_Minus e f a b wv hr hp)
  have M3 := Lib.hid (fun wv => spec_Minus g h a b wv ht hp)
  have z1 : (-2000000 ≤ c - a ∧ c - a ≤ 2000000) ∧ (-2000000 ≤ d - b ∧ d - b ≤ 2000000) := by obtain ⟨⟨_, _⟩, _, _⟩ := hp; obtain ⟨⟨_, _⟩, _, _⟩ := hq; omega
  have z2 : (-2000000 ≤ e - a ∧ e - a ≤ 2000000) ∧ (-2000000 ≤ f - b ∧ f - b ≤ 2000000) := by obtain ⟨⟨_, _⟩, _, _⟩ := hp; obtain ⟨⟨_, _⟩, _, _⟩ := hr; omega
  have z3 : (-2000000 ≤ g - a ∧ g - a ≤ 2000000) ∧ (-2000000 ≤ h - b ∧ h - b ≤ 2000000) := by obtain ⟨⟨_, _⟩, _, _⟩ := hp; obtain ⟨⟨_, _⟩, _, _⟩ := ht; omega
  have k3 : ∀ wv, Calls Tryz.prog 139 #[.agg #[.int .i64 (c - a), .int .i64 (d - b)], .agg #[.int .i64 (e - a), .int .i64 (f - b)]] wv fun r w' => r = .returned (.int .i64 (crossV a b c d e f)) ∧ Q wv w' := fun wv => spec_Cross (c - a) (d - b) (e - a) (f - b) wv z1 z2
  have k4 : ∀ wv, Calls Tryz.prog 139 #[.agg #[.int .i64 (c - a), .int .i64 (d - b)], .agg #[.int .i64 (g - a), .int .i64 (h - b)]] wv fun r w' => r = .returned (.int .i64 (crossV a b c d g h)) ∧ Q wv w' := fun wv => spec_Cross (c - a) (d - b) (g - a) (h - b) wv z1 z3
  have b1 := crossV_bd hp hq hr
  have b2 := crossV_bd hp hq ht
  clear hp hq hr ht hl hs z1 z2 z3
  generalize crossV a b c d e f = P at *
  generalize crossV a b c d g h = R at *
  have HN : Hid (plN P R = plX P / Nat.gcd (plX P) (plY P R) ∧ plD P R = plY P R / Nat.gcd (plX P) (plY P R)) := Lib.hid ⟨rfl, rfl⟩
  have hX : plX P ≤ 4611686018427387904 := by unfold plX; omega
  have hY : plY P R ≤ 4611686018427387904 := by unfold plY; omega
  have hY0 : 0 < plY P R := by unfold plY; rcases hx with hx | hx <;> omega
  have k5 := fun wv => spec_Ratio (plX P) (plY P R) hX hY hY0 wv
  rw [← HN.out.1, ← HN.out.2] at k5
  have HX : Hid (plX P = P.natAbs ∧ plY P R = P.natAbs + R.natAbs) := Lib.hid ⟨rfl, rfl⟩
  have k6 := fun wv => spec_Sign P wv
  have k7 := fun wv => spec_Sign R wv
  have hM : sgn P * sgn R ≤ 0 ∧ -1 ≤ sgn P * sgn R := by
    rcases hx with ⟨h1, h2⟩ | ⟨h1, h2⟩
    · have e1 : sgn P = 1 := by unfold sgn; rw [if_pos h1]
      have e2 : sgn R = 0 ∨ sgn R = -1 := by unfold sgn; rw [if_neg (by omega)]; split <;> simp
      rcases e2 with e2 | e2 <;> rw [e1, e2] <;> decide
    · have e1 : sgn R = 1 := by unfold sgn; rw [if_pos h2]
      have e2 : sgn P = 0 ∨ sgn P = -1 := by unfold sgn; rw [if_neg (by omega)]; split <;> simp
      rcases e2 with e2 | e2 <;> rw [e1, e2] <;> decide
  generalize sgn P = SP at *
  generalize sgn R = SR at *
  obtain ⟨M, e3⟩ : ∃ M, SP * SR = M := ⟨_, rfl⟩
  rw [e3] at hM
  obtain ⟨hM1, hM2⟩ := hM
  have hM3 : ¬ 0 < M := by omega
  generalize plN P R = N at *
  generalize plD P R = D at *
  generalize plX P = X at *
  generalize plY P R = Y at *
  have K3 := Lib.hid k3
  have K4 := Lib.hid k4
  have K5 := Lib.hid k5
  have K6 := Lib.hid k6
  have K7 := Lib.hid k7
  clear k3 k4 k5 k6 k7 HN hX hY hY0
  obtain ⟨W, hW⟩ : ∃ W, W = ((w.alloc (.cells #[.int .i64 e, .int .i64 f, .int .i64 g, .int .i64 h] 172)).alloc (.cells #[.int .i64 a, .int .i64 b, .int .i64 c, .int .i64 d] 172)).alloc (.cells #[.int .i64 0, .int .i64 0] 133) := ⟨_, rfl⟩
  have B1 : Blk W w.heap.size 172 #[.int .i64 e, .int .i64 f, .int .i64 g, .int .i64 h] := by rw [hW]; exact ((Blk.new _ _ _).alloc _).alloc _
  have B2 : Blk W (w.heap.size + 1) 172 #[.int .i64 a, .int .i64 b, .int .i64 c, .int .i64 d] := by rw [hW]; exact Blk.alloc (by simpa using Blk.new (w.alloc (.cells #[.int .i64 e, .int .i64 f, .int .i64 g, .int .i64 h] 172)) 172 #[.int .i64 a, .int .i64 b, .int .i64 c, .int .i64 d]) _
  have B3 : Blk W (w.heap.size + 2) 133 #[.int .i64 0, .int .i64 0] := by rw [hW]; exact (by simpa using Blk.new ((w.alloc (.cells #[.int .i64 e, .int .i64 f, .int .i64 g, .int .i64 h] 172)).alloc (.cells #[.int .i64 a, .int .i64 b, .int .i64 c, .int .i64 d] 172)) 133 #[.int .i64 0, .int .i64 0])
  have Q0 : Q w W := by rw [hW]; exact (((Q.refl w).alloc _).alloc _).alloc _
  have l1 := later_cells B1.cell B1.lt
  have l2 := later_cells B2.cell B2.lt
  have hhx := Lib.hid hx
  clear hx
  subst hW
  go_enter Tryz.func113, Tryz.ntmps113
  go_wp2_with fail
  refine wp_region_later_lit (by kernel_rfl) (by kernel_rfl) ?_
  repeat (any_goals (first | go_big_quiet_step ((first | (go_at_call 96; first | with_reducible exact later_call (M1.out _) | with_reducible exact later_call (M2.out _)) | (go_at_call 139; exact later_call (K3.out _)))) | quiet_step ((first | (go_at_call 96; first | with_reducible exact later_call (M1.out _) | with_reducible exact later_call (M2.out _)) | (go_at_call 139; exact later_call (K3.out _)))) | (refine wpQuiet_step (fun K hK => ?_); go_simp; split <;> (refine hK _ ?_; clear hK K))))
  all_goals (refine wpQuiet_nil ?_; rintro _ ⟨⟨w3, q3⟩, rfl⟩; try dsimp only)
  replace B1 := B1.q q3
  replace B2 := B2.q q3
  replace B3 := B3.q q3
  replace Q0 := Q0.trans q3
  clear l1 l2 q3
  have l1 := later_cells B1.cell B1.lt
  have l2 := later_cells B2.cell B2.lt
  go_wp2_with fail
  refine wp_region_later_lit (by kernel_rfl) (by kernel_rfl) ?_
  repeat (any_goals (first | go_big_quiet_step ((first | (go_at_call 96; first | with_reducible exact later_call (M1.out _) | with_reducible exact later_call (M3.out _)) | (go_at_call 139; exact later_call (K4.out _)))) | quiet_step ((first | (go_at_call 96; first | with_reducible exact later_call (M1.out _) | with_reducible exact later_call (M3.out _)) | (go_at_call 139; exact later_call (K4.out _)))) | (refine wpQuiet_step (fun K hK => ?_); go_simp; split <;> (refine hK _ ?_; clear hK K))))
  all_goals (refine wpQuiet_nil ?_; rintro _ ⟨⟨w4, q4⟩, rfl⟩; try dsimp only)
  replace B3 := B3.q q4
  have Q3 := Q0.trans q4
  clear l1 l2 q4 Q0 B1 B2 K3 K4 M1 M2 M3
  have cB := B3.cell
  have fB := B3.frozen
  obtain ⟨hA, hB⟩ | ⟨hA, hB⟩ := hhx.out
  · have hA2 : ¬ P < 0 := by omega
    have hA3 : (P == 0) = false := by simp; omega
    by_cases hR : R < 0
    · go_wp2_with (first | (go_at_call 140; first | (with_reducible refine (K6.out _).mono ?_) | (with_reducible refine (K7.out _).mono ?_); rintro r w' ⟨rfl, rfl⟩) | (go_at_call 141; refine (calls2 (K5.out _) (by have := HX.out; omega) (by have := HX.out; omega)).mono ?_; rintro r w5 ⟨rfl, q5⟩; have B5 := B3.q q5; have c5 := B5.cell; have f5 := B5.frozen))
      have F := ((B5.set_ 0 (.int .i64 N)).set_ 1 (.int .i64 D)).cell
      refine bodyPost_ret (v := .tuple #[.agg #[.int .i64 N, .int .i64 D], .bool true]) (by simp [results, Tryz.results113, go_sem, F]) rfl ⟨rfl, ((Q3.trans q5).setCell (by simp <;> omega) _).setCell (by simp <;> omega) _⟩
    · go_wp2_with (first | (go_at_call 140; first | (with_reducible refine (K6.out _).mono ?_) | (with_reducible refine (K7.out _).mono ?_); rintro r w' ⟨rfl, rfl⟩) | (go_at_call 141; refine (calls2 (K5.out _) (by have := HX.out; omega) (by have := HX.out; omega)).mono ?_; rintro r w5 ⟨rfl, q5⟩; have B5 := B3.q q5; have c5 := B5.cell; have f5 := B5.frozen))
      have F := ((B5.set_ 0 (.int .i64 N)).set_ 1 (.int .i64 D)).cell
      refine bodyPost_ret (v := .tuple #[.agg #[.int .i64 N, .int .i64 D], .bool true]) (by simp [results, Tryz.results113, go_sem, F]) rfl ⟨rfl, ((Q3.trans q5).setCell (by simp <;> omega) _).setCell (by simp <;> omega) _⟩
  · have hB2 : ¬ R < 0 := by omega
    have hB3 : (R == 0) = false := by simp; omega
    by_cases hP : P = 0
    · have hP2 : ¬ P < 0 := by omega
      have hP3 : (P == 0) = true := by simpa using hP
      clear hP
      go_wp2_with (first | (go_at_call 140; first | (with_reducible refine (K6.out _).mono ?_) | (with_reducible refine (K7.out _).mono ?_); rintro r w' ⟨rfl, rfl⟩) | (go_at_call 141; refine (calls2 (K5.out _) (by have := HX.out; omega) (by have := HX.out; omega)).mono ?_; rintro r w5 ⟨rfl, q5⟩; have B5 := B3.q q5; have c5 := B5.cell; have f5 := B5.frozen))
      have F := ((B5.set_ 0 (.int .i64 N)).set_ 1 (.int .i64 D)).cell
      refine bodyPost_ret (v := .tuple #[.agg #[.int .i64 N, .int .i64 D], .bool true]) (by simp [results, Tryz.results113, go_sem, F]) rfl ⟨rfl, ((Q3.trans q5).setCell (by simp <;> omega) _).setCell (by simp <;> omega) _⟩
    · have hA3 : (P == 0) = false := by simpa using hP
      have hP2 : P < 0 := by omega
      go_wp2_with (first | (go_at_call 140; first | (with_reducible refine (K6.out _).mono ?_) | (with_reducible refine (K7.out _).mono ?_); rintro r w' ⟨rfl, rfl⟩) | (go_at_call 141; refine (calls2 (K5.out _) (by have := HX.out; omega) (by have := HX.out; omega)).mono ?_; rintro r w5 ⟨rfl, q5⟩; have B5 := B3.q q5; have c5 := B5.cell; have f5 := B5.frozen))
      have F := ((B5.set_ 0 (.int .i64 N)).set_ 1 (.int .i64 D)).cell
      refine bodyPost_ret (v := .tuple #[.agg #[.int .i64 N, .int .i64 D], .bool true]) (by simp [results, Tryz.results113, go_sem, F]) rfl ⟨rfl, ((Q3.trans q5).setCell (by simp <;> omega) _).setCell (by simp <;> omega) _⟩
end Go.Proofs.YtomgdgdcpgeilaaGreatDoor
