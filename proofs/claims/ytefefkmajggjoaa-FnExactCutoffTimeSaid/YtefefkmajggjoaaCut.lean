/- Walks: the cutoff time, as the program and the reference compute it, and the law that they agree, for all arguments. No condition. -/
import Derived.Test.YtefefkmajggjoaaLim
namespace Go.Proofs.Ytefefkmajggjoaa
open Go.RowKit Go.WideShapes Go.ChangeShapes
theorem ct_bad {a b c : Int} {xs : List Int} {n : Nat} (h : lmC a b c xs n ≠ 0) : ctV a b c xs n = 0 ∧ ctC a b c xs n = lmC a b c xs n := by simp [ctV, ctC, h]
theorem ct_none {a b c : Int} {xs : List Int} {n : Nat} (h : lmC a b c xs n = 0) (h2 : ftm xs n < 0) : ctV a b c xs n = 0 ∧ ctC a b c xs n = 4 := by simp [ctV, ctC, h, h2]
theorem ct_some {a b c : Int} {xs : List Int} {n : Nat} (h : lmC a b c xs n = 0) (h2 : ¬ ftm xs n < 0) : ctV a b c xs n = min 1000000000 (ftm xs n + c) ∧ ctC a b c xs n = 0 := by simp [ctV, ctC, h, h2]
theorem impl_CutoffTime (a b c : Int) (A : Option Addr) (n d : Nat) (xs : List Int) (w : World) (ha : Rd w A xs) (hn : xs.length = n * 3) (hn2 : n ≤ 9223372036854775807) :
    Calls Try.prog 24 #[.agg #[.int .i64 a, .int .i64 b, .int .i64 c], .slice A n d] w fun e w' => e = .returned (.tuple #[.int .i64 (ctV a b c xs n), .int .i64 (ctC a b c xs n)]) ∧ Q w w' := by
  have k0 := impl_limitsCode a b c A n d xs
  have kT := impl_firstTime A n d xs
  by_cases hC : lmC a b c xs n = 0
  · obtain ⟨hl, hf⟩ := lmC_zero hC
    have hL := isLim_bd hl
    have hT := ftm_bd hf
    have hT1 := hT.1
    have hT2 := hT.2.1
    by_cases hneg : ftm xs n < 0
    · rw [(ct_none hC hneg).1, (ct_none hC hneg).2]
      obtain ⟨f, hft⟩ : ∃ f, f = ftm xs n := ⟨_, rfl⟩
      rw [← hft] at kT hneg
      rw [hC] at k0
      have K0 := Lib.hid k0
      have KT := Lib.hid kT
      clear k0 kT hC hl hf hft hT hT1 hT2
      go_enter Try.func24, Try.ntmps24
      go_wp2_with (first | (go_at_call 50; refine (K0.out _ (ha.q (by (repeat (first | assumption | exact Q.refl _ | refine Q.alloc ?_ _ | refine Q.drewN ?_ _ | refine Q.drew ?_)))) hn hn2).mono ?_; rintro e w1 ⟨rfl, q1⟩; have Q1 : Q w w1 := Q.trans (by (repeat (first | assumption | exact Q.refl _ | refine Q.alloc ?_ _ | refine Q.drewN ?_ _ | refine Q.drew ?_))) q1) | (go_at_call 51; refine (KT.out _ (ha.q Q1) hn hn2).mono ?_; rintro e w2 ⟨rfl, q2⟩))
      go_ret2
      exact ⟨rfl, Q1.trans q2⟩
    · rw [(ct_some hC hneg).1, (ct_some hC hneg).2]
      obtain ⟨f, hft⟩ : ∃ f, f = ftm xs n := ⟨_, rfl⟩
      rw [← hft] at kT hneg hT1 hT2 ⊢
      rw [hC] at k0
      have K0 := Lib.hid k0
      have KT := Lib.hid kT
      clear k0 kT hC hl hf hft hT
      go_enter Try.func24, Try.ntmps24
      go_wp2_with (first | (go_at_call 50; refine (K0.out _ (ha.q (by (repeat (first | assumption | exact Q.refl _ | refine Q.alloc ?_ _ | refine Q.drewN ?_ _ | refine Q.drew ?_)))) hn hn2).mono ?_; rintro e w1 ⟨rfl, q1⟩; have Q1 : Q w w1 := Q.trans (by (repeat (first | assumption | exact Q.refl _ | refine Q.alloc ?_ _ | refine Q.drewN ?_ _ | refine Q.drew ?_))) q1; have c1 := q1.box) | (go_at_call 51; refine (KT.out _ (ha.q Q1) hn hn2).mono ?_; rintro e w2 ⟨rfl, q2⟩; have c2 := ((Blk.new _ _ _).q (q1.trans q2)).cell))
      all_goals (go_ret2; exact ⟨ret_ii (by omega) rfl, Q1.trans q2⟩)
  · rw [(ct_bad hC).1, (ct_bad hC).2]
    have K0 := Lib.hid k0
    have hb : (lmC a b c xs n != 0) = true := by simpa using hC
    clear k0 kT hC
    go_enter Try.func24, Try.ntmps24
    go_wp2_with (go_at_call 50; refine (K0.out _ (ha.q (by (repeat (first | assumption | exact Q.refl _ | refine Q.alloc ?_ _ | refine Q.drewN ?_ _ | refine Q.drew ?_)))) hn hn2).mono ?_; rintro e w1 ⟨rfl, q1⟩; have Q1 : Q w w1 := Q.trans (by (repeat (first | assumption | exact Q.refl _ | refine Q.alloc ?_ _ | refine Q.drewN ?_ _ | refine Q.drew ?_))) q1)
    go_ret2
    exact ⟨rfl, Q1⟩
theorem spec_CutoffTime (a b c : Int) (A : Option Addr) (n d : Nat) (xs : List Int) (w : World) (ha : Rd w A xs) (hn : xs.length = n * 3) (hn2 : n ≤ 9223372036854775807) :
    Calls Try.prog 23 #[.agg #[.int .i64 a, .int .i64 b, .int .i64 c], .slice A n d] w fun e w' => e = .returned (.tuple #[.int .i64 (ctV a b c xs n), .int .i64 (ctC a b c xs n)]) ∧ Q w w' := by
  have k0 := spec_l15Code a b c A n d xs
  have kT := spec_l16First A n d xs
  have hbd := bestF_bd xs n
  by_cases hC : lmC a b c xs n = 0
  · obtain ⟨hl, hf⟩ := lmC_zero hC
    have hL := isLim_bd hl
    have hT := ftm_bd hf
    have hT1 := hT.1
    have hT2 := hT.2.1
    by_cases hneg : bestF xs n < 0
    · rw [(ct_none hC (by rw [ftm_neg hneg]; decide)).1, (ct_none hC (by rw [ftm_neg hneg]; decide)).2]
      rw [show bestF xs n = -1 by omega] at kT
      rw [hC] at k0
      have K0 := Lib.hid k0
      have KT := Lib.hid kT
      clear k0 kT hC hl hf hT hT1 hT2 hneg hbd
      go_enter Try.func23, Try.ntmps23
      go_wp2_with (first | (go_at_call 49; refine (K0.out _ (ha.q (by (repeat (first | assumption | exact Q.refl _ | refine Q.alloc ?_ _ | refine Q.drewN ?_ _ | refine Q.drew ?_)))) hn hn2).mono ?_; rintro e w1 ⟨rfl, q1⟩; have Q1 : Q w w1 := Q.trans (by (repeat (first | assumption | exact Q.refl _ | refine Q.alloc ?_ _ | refine Q.drewN ?_ _ | refine Q.drew ?_))) q1) | (go_at_call 41; refine (KT.out _ (ha.q Q1) hn hn2).mono ?_; rintro e w2 ⟨rfl, q2⟩))
      go_ret2
      exact ⟨rfl, Q1.trans q2⟩
    · have hge := hT.2.2.2 (by omega)
      rw [(ct_some hC (by omega)).1, (ct_some hC (by omega)).2]
      obtain ⟨m, hm⟩ := Int.eq_ofNat_of_zero_le (show 0 ≤ bestF xs n by omega)
      have hmn : m < n := by omega
      have e0 := ftm_pos hm
      rw [e0] at hT1 hT2 ⊢
      rw [hm] at kT
      rw [hC] at k0
      have K0 := Lib.hid k0
      have KT := Lib.hid kT
      clear k0 kT hC hl hf hT hneg hbd e0 hm hge
      go_enter Try.func23, Try.ntmps23
      go_wp2_with (first | (go_at_call 49; refine (K0.out _ (ha.q (by (repeat (first | assumption | exact Q.refl _ | refine Q.alloc ?_ _ | refine Q.drewN ?_ _ | refine Q.drew ?_)))) hn hn2).mono ?_; rintro e w1 ⟨rfl, q1⟩; have Q1 : Q w w1 := Q.trans (by (repeat (first | assumption | exact Q.refl _ | refine Q.alloc ?_ _ | refine Q.drewN ?_ _ | refine Q.drew ?_))) q1) | (go_at_call 41; refine (KT.out _ (ha.q Q1) hn hn2).mono ?_; rintro e w2 ⟨rfl, q2⟩; have c2 := ((Blk.new _ _ _).q (q1.trans q2)).cell; obtain ⟨bl, o, hA, g0, g1, g2⟩ := (ha.q (Q1.trans q2)).at3 hn hmn; subst hA))
      all_goals (try (refine wp_region_quiet_lit (by kernel_rfl) (by kernel_rfl) ?_; (repeat (any_goals (first | go_big_quiet_step (fail) | quiet_step (fail) | (refine wpQuiet_step (fun K hK => ?_); go_simp; split <;> (refine hK _ ?_; clear hK K))))); all_goals (refine wpQuiet_nil ?_; intro _ hw'; obtain ⟨nq, hw''⟩ := hw'; subst hw'')))
      all_goals go_wp2_with fail
      all_goals (go_ret2; exact ⟨ret_ii (by omega) rfl, Q1.trans (q2.trans (by (repeat (first | assumption | exact Q.refl _ | refine Q.alloc ?_ _ | refine Q.drewN ?_ _ | refine Q.drew ?_))))⟩)
  · rw [(ct_bad hC).1, (ct_bad hC).2]
    have K0 := Lib.hid k0
    have hb : (lmC a b c xs n != 0) = true := by simpa using hC
    clear k0 kT hC hbd
    go_enter Try.func23, Try.ntmps23
    go_wp2_with (go_at_call 49; refine (K0.out _ (ha.q (by (repeat (first | assumption | exact Q.refl _ | refine Q.alloc ?_ _ | refine Q.drewN ?_ _ | refine Q.drew ?_)))) hn hn2).mono ?_; rintro e w1 ⟨rfl, q1⟩; have Q1 : Q w w1 := Q.trans (by (repeat (first | assumption | exact Q.refl _ | refine Q.alloc ?_ _ | refine Q.drewN ?_ _ | refine Q.drew ?_))) q1)
    go_ret2
    exact ⟨rfl, Q1⟩
set_option maxHeartbeats 4000000 in
theorem law_FnExactCutoffTime (a0x0 a0x1 a0x2 : Int) (ha0 : ∀ y ∈ [a0x0, a0x1, a0x2], -9223372036854775808 ≤ y ∧ y ≤ 9223372036854775807) (a1A : Option Addr) (a1n a1c : Nat) (a1xs : List Int) (ha1l : a1xs.length = a1n * 3) (ha1b : ∀ y ∈ a1xs, -9223372036854775808 ≤ y ∧ y ≤ 9223372036854775807) (ha1c : a1n ≤ a1c ∧ a1c ≤ maxLen) (w : World) (ha1 : Rd w a1A a1xs) :
    Calls Try.prog 6 #[.agg #[.int .i64 a0x0, .int .i64 a0x1, .int .i64 a0x2], .slice a1A a1n a1c] w fun e w' => e = .returned (.bool true) ∧ Below w.heap.size w w' := by
  have hn1 : a1n ≤ 9223372036854775807 := by have := ha1c; unfold maxLen at this; omega
  clear ha1c ha1b
  have HL1 := Lib.hid ha1l
  clear ha1l
  have HB0 := Lib.hid ha0
  clear ha0
  have k0 := fun (a1A : Option Addr) (a1c : Nat) => spec_CutoffTime a0x0 a0x1 a0x2 a1A a1n a1c a1xs
  have k1 := fun (a1A : Option Addr) (a1c : Nat) => impl_CutoffTime a0x0 a0x1 a0x2 a1A a1n a1c a1xs
  obtain ⟨r0, hr0⟩ : ∃ r0, r0 = ctV a0x0 a0x1 a0x2 a1xs a1n := ⟨_, rfl⟩
  obtain ⟨r1, hr1⟩ : ∃ r1, r1 = ctC a0x0 a0x1 a0x2 a1xs a1n := ⟨_, rfl⟩
  rw [← hr0, ← hr1] at k0 k1
  have K0 := Lib.hid k0
  have K1 := Lib.hid k1
  clear k0 k1 hr0 hr1
  rcases Nat.lt_or_ge 1048576 (a1n) with hsz1 | hsz1
  · go_enter Try.func6, Try.ntmps6
    go_wp2_with fail
    refine (szFinishS_any a1A a1n a1c 1048576 _ (by omega) (by omega) hn1).mono ?_
    rintro e w' ⟨rfl, rfl⟩
    rw [if_neg (by omega)]
    go_wp2_with fail
    go_ret
    exact ⟨rfl, by (repeat (first | assumption | exact Q.refl _ | refine Q.alloc ?_ _ | refine Q.drewN ?_ _ | refine Q.drew ?_))⟩
  · skip
    go_enter Try.func6, Try.ntmps6
    go_wp2_with fail
    refine (szFinishS_any a1A a1n a1c 1048576 _ (by omega) (by omega) hn1).mono ?_
    rintro e w' ⟨rfl, rfl⟩
    rw [if_pos (by omega)]
    go_wp2_with fail
    have B0 := (Blk.new w 31 #[.int .i64 a0x0, .int .i64 a0x1, .int .i64 a0x2])
    have gB0 : w.heap.size + 0 < w.heap.size + 1 := by omega
    have Q0 : Q w (w.alloc (.cells #[.int .i64 a0x0, .int .i64 a0x1, .int .i64 a0x2] 31)) := by (repeat (first | assumption | exact Q.refl _ | refine Q.alloc ?_ _ | refine Q.drewN ?_ _ | refine Q.drew ?_))
    have I1 := ha1
    replace I1 := I1.q Q0
    have z0 : w.heap.size + 1 ≤ ((w.alloc (.cells #[.int .i64 a0x0, .int .i64 a0x1, .int .i64 a0x2] 31))).heap.size := by simp
    have cB0 := B0.cell
    go_wp2_with fail
    clear cB0
    refine (toLimits_any _ _ _ _).mono ?_
    rintro e w1 ⟨rfl, q1⟩
    replace B0 := B0.q q1
    replace Q0 := Q0.trans q1
    replace I1 := I1.q q1
    have z1 := q1.size
    have cB0 := B0.cell
    go_wp2_with fail
    clear cB0
    refine (toFinishS_any a1A a1n a1c a1xs _ I1 HL1.out (by omega)).mono ?_
    rintro e w2 ⟨A1s, c1s, rfl, o1s, q2⟩
    replace B0 := B0.q q2
    replace Q0 := Q0.trans q2
    replace I1 := I1.q q2
    have z2 := q2.size
    have fo1s := o1s.from
    have cB0 := B0.cell
    go_wp2_with fail
    clear cB0
    refine (K0.out A1s c1s _ o1s.rd HL1.out (by omega)).mono ?_
    rintro e w3 ⟨rfl, q3⟩
    replace B0 := B0.q q3
    replace Q0 := Q0.trans q3
    replace I1 := I1.q q3
    replace o1s := o1s.q q3
    have z3 := q3.size
    have cB0 := B0.cell
    go_wp2_with fail
    clear cB0
    clear o1s
    refine (toFinishS_any a1A a1n a1c a1xs _ I1 HL1.out (by omega)).mono ?_
    rintro e w4 ⟨A1i, c1i, rfl, o1i, q4⟩
    replace B0 := B0.q q4
    replace Q0 := Q0.trans q4
    replace I1 := I1.q q4
    have z4 := q4.size
    have fo1i := o1i.from
    have cB0 := B0.cell
    go_wp2_with fail
    clear cB0
    refine (toLimits_any _ _ _ _).mono ?_
    rintro e w5 ⟨rfl, q5⟩
    replace B0 := B0.q q5
    replace Q0 := Q0.trans q5
    replace I1 := I1.q q5
    replace o1i := o1i.q q5
    have z5 := q5.size
    have cB0 := B0.cell
    go_wp2_with fail
    clear cB0
    refine (K1.out A1i c1i _ o1i.rd HL1.out (by omega)).mono ?_
    rintro e w6 ⟨rfl, q6⟩
    replace B0 := B0.q q6
    replace Q0 := Q0.trans q6
    replace I1 := I1.q q6
    replace o1i := o1i.q q6
    have z6 := q6.size
    have cB0 := B0.cell
    go_wp2_with fail
    clear cB0
    refine (toFinishS_any a1A a1n a1c a1xs _ I1 HL1.out (by omega)).mono ?_
    rintro e w7 ⟨A1e, c1e, rfl, o1e, q7⟩
    replace B0 := B0.q q7
    replace Q0 := Q0.trans q7
    replace I1 := I1.q q7
    replace o1i := o1i.q q7
    have z7 := q7.size
    have fo1e := o1e.from
    have cB0 := B0.cell
    go_wp2_with fail
    clear cB0
    refine (eqFinishS_same A1i A1e a1n c1i c1e a1xs _ o1i.rd o1e.rd HL1.out (by omega)).mono ?_
    rintro e w8 ⟨rfl, q8⟩
    replace B0 := B0.q q8
    replace Q0 := Q0.trans q8
    replace I1 := I1.q q8
    replace o1i := o1i.q q8
    replace o1e := o1e.q q8
    have z8 := q8.size
    have cB0 := B0.cell
    go_wp2_with fail
    clear cB0
    clear o1e
    go_ret
    exact ⟨rfl, Q0⟩
end Go.Proofs.Ytefefkmajggjoaa
