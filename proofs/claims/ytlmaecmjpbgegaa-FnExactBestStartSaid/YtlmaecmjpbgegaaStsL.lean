/- Walks: the laws that the program's StartsOf and BestStart return what the reference's return. -/
import Derived.Test.YtlmaecmjpbgegaaBst
import Derived.Test.YtlmaecmjpbgegaaEarlyL
import Derived.Deep.RegionHeld3
namespace Go.Proofs.Ytlmaecmjpbgegaa
open Go.RowKit Go.WideShapes Go.ChangeShapes
set_option maxRecDepth 100000 in
set_option maxHeartbeats 4000000 in
theorem law_FnExactStartsOf (a0x0 a0x1 a0x2 a0x3 : Int) (ha0 : ∀ y ∈ [a0x0, a0x1, a0x2, a0x3], -9223372036854775808 ≤ y ∧ y ≤ 9223372036854775807) (a1A : Option Addr) (a1n a1c : Nat) (a1d : List (Nat × List Int)) (ha1l : a1d.length = a1n) (ha1c : a1n ≤ a1c ∧ a1c ≤ maxLen) (a2 : Int) (ha2 : -9223372036854775808 ≤ a2 ∧ a2 ≤ 9223372036854775807) (a3 : Int) (ha3 : -9223372036854775808 ≤ a3 ∧ a3 ≤ 9223372036854775807) (w : World) (ha1 : RdD w a1A a1d) :
    Calls Try.prog 13 #[.agg #[.int .i64 a0x0, .int .i64 a0x1, .int .i64 a0x2, .int .i64 a0x3], .slice a1A a1n a1c, .int .i64 a2, .int .i64 a3] w fun e w' => e = .returned (.bool true) ∧ Below w.heap.size w w' := by
  have hn1 : a1n ≤ 9223372036854775807 := by have := ha1c; unfold maxLen at this; omega
  clear ha1c
  have HL1 := Lib.hid ha1l
  clear ha1l
  have HB0 := Lib.hid ha0
  clear ha0
  have HB2 := Lib.hid ha2
  clear ha2
  have HB3 := Lib.hid ha3
  clear ha3
  have k0 := fun (a1A : Option Addr) (a1c : Nat) => spec_StartsOf a0x0 a0x1 a0x2 a0x3 a1A a1n a1c a1d a2 a3
  have k1 := fun (a1A : Option Addr) (a1c : Nat) => impl_StartsOf a0x0 a0x1 a0x2 a0x3 a1A a1n a1c a1d a2 a3
  obtain ⟨n0, hn0⟩ : ∃ n0, n0 = (stsL a0x0 a0x1 a0x2 a0x3 a1d a2 a3).length := ⟨_, rfl⟩
  obtain ⟨L0, hL0⟩ : ∃ L0, L0 = stsL a0x0 a0x1 a0x2 a0x3 a1d a2 a3 := ⟨_, rfl⟩
  obtain ⟨r1, hr1⟩ : ∃ r1, r1 = stsC a0x0 a0x1 a0x2 a0x3 a1d a2 a3 := ⟨_, rfl⟩
  have hs0 : n0 ≤ 1048576 := by rw [hn0]; exact Nat.le_trans (stsL_len _ _ _ _ _ _ _) (by decide)
  rw [← hn0, ← hL0, ← hr1] at k0 k1
  have K0 := Lib.hid k0
  have K1 := Lib.hid k1
  clear k0 k1 hn0 hL0 hr1
  rcases Nat.lt_or_ge (1048576) (a1n + tot a1d) with hsz1 | hsz1
  · skip
    go_enter Try.func13, Try.ntmps13
    have B0 := Blk.new w 45 #[.int .i64 a0x0, .int .i64 a0x1, .int .i64 a0x2, .int .i64 a0x3]
    have gB0 : w.heap.size + 0 < w.heap.size + 1 := by omega
    have Q0 : Q w (w.alloc (.cells #[.int .i64 a0x0, .int .i64 a0x1, .int .i64 a0x2, .int .i64 a0x3] 45)) := by (repeat (first | assumption | exact Q.refl _ | refine Q.alloc ?_ _ | refine Q.drewN ?_ _ | refine Q.drew ?_))
    have I1 := ha1
    replace I1 := I1.q Q0
    have z0 : w.heap.size + 1 ≤ ((w.alloc (.cells #[.int .i64 a0x0, .int .i64 a0x1, .int .i64 a0x2, .int .i64 a0x3] 45))).heap.size := by simp
    go_wp2_with fail
    refine (szTrackS_any a1A a1n a1c a1d 1048576 _ I1 HL1.out (by omega) (by omega) hn1).mono ?_
    rintro e wz1 ⟨rfl, qz1⟩
    replace B0 := B0.q qz1
    replace Q0 := Q0.trans qz1
    replace I1 := I1.q qz1
    have zz1 := qz1.size
    rw [if_neg (by omega)]
    have cB0 := B0.cell
    go_wp2_with fail
    clear cB0
    go_ret
    exact ⟨rfl, Q0⟩
  · skip
    go_enter Try.func13, Try.ntmps13
    have B0 := Blk.new w 45 #[.int .i64 a0x0, .int .i64 a0x1, .int .i64 a0x2, .int .i64 a0x3]
    have gB0 : w.heap.size + 0 < w.heap.size + 1 := by omega
    have Q0 : Q w (w.alloc (.cells #[.int .i64 a0x0, .int .i64 a0x1, .int .i64 a0x2, .int .i64 a0x3] 45)) := by (repeat (first | assumption | exact Q.refl _ | refine Q.alloc ?_ _ | refine Q.drewN ?_ _ | refine Q.drew ?_))
    have I1 := ha1
    replace I1 := I1.q Q0
    have z0 : w.heap.size + 1 ≤ ((w.alloc (.cells #[.int .i64 a0x0, .int .i64 a0x1, .int .i64 a0x2, .int .i64 a0x3] 45))).heap.size := by simp
    go_wp2_with fail
    refine (szTrackS_any a1A a1n a1c a1d 1048576 _ I1 HL1.out (by omega) (by omega) hn1).mono ?_
    rintro e wz1 ⟨rfl, qz1⟩
    replace B0 := B0.q qz1
    replace Q0 := Q0.trans qz1
    replace I1 := I1.q qz1
    have zz1 := qz1.size
    rw [if_pos (by omega)]
    have cB0 := B0.cell
    go_wp2_with fail
    clear cB0
    have cB0 := B0.cell
    have lB0 := B0.lt
    go_wp2_with fail
    clear cB0 lB0
    refine (toLine_any _ _ _ _ _).mono ?_
    rintro e w1 ⟨rfl, q1⟩
    replace B0 := B0.q q1
    replace Q0 := Q0.trans q1
    replace I1 := I1.q q1
    have z1 := q1.size
    have cB0 := B0.cell
    have lB0 := B0.lt
    go_wp2_with fail
    clear cB0 lB0
    refine (toTrackS_any a1A a1n a1c a1d _ I1 HL1.out (by omega) (by omega)).mono ?_
    rintro e w2 ⟨A1s, c1s, rfl, o1s, q2⟩
    replace B0 := B0.q q2
    replace Q0 := Q0.trans q2
    replace I1 := I1.q q2
    have z2 := q2.size
    have fo1s := o1s.from
    have cB0 := B0.cell
    have lB0 := B0.lt
    go_wp2_with fail
    clear cB0 lB0
    refine (K0.out A1s c1s _ o1s.rd HL1.out (by omega)).mono ?_
    rintro e w3 ⟨Gs, ds, rfl, gs, q3⟩
    replace B0 := B0.q q3
    replace Q0 := Q0.trans q3
    replace I1 := I1.q q3
    replace o1s := o1s.q q3
    have z3 := q3.size
    have fgs := gs.from
    have HGs := Lib.hid (show L0.length = n0 * 1 by simpa using gs.1)
    have cB0 := B0.cell
    have lB0 := B0.lt
    go_wp2_with fail
    clear cB0 lB0
    clear o1s
    refine (toTrackS_any a1A a1n a1c a1d _ I1 HL1.out (by omega) (by omega)).mono ?_
    rintro e w4 ⟨A1i, c1i, rfl, o1i, q4⟩
    replace B0 := B0.q q4
    replace Q0 := Q0.trans q4
    replace I1 := I1.q q4
    replace gs := gs.q q4
    have z4 := q4.size
    have fo1i := o1i.from
    have cB0 := B0.cell
    have lB0 := B0.lt
    go_wp2_with fail
    clear cB0 lB0
    refine (toLine_any _ _ _ _ _).mono ?_
    rintro e w5 ⟨rfl, q5⟩
    replace B0 := B0.q q5
    replace Q0 := Q0.trans q5
    replace I1 := I1.q q5
    replace gs := gs.q q5
    replace o1i := o1i.q q5
    have z5 := q5.size
    have cB0 := B0.cell
    have lB0 := B0.lt
    go_wp2_with fail
    clear cB0 lB0
    refine (K1.out A1i c1i _ o1i.rd HL1.out (by omega)).mono ?_
    rintro e w6 ⟨Gi, di, rfl, gi, q6⟩
    replace B0 := B0.q q6
    replace Q0 := Q0.trans q6
    replace I1 := I1.q q6
    replace gs := gs.q q6
    replace o1i := o1i.q q6
    have z6 := q6.size
    have fgi := gi.from
    have HGi := Lib.hid (show L0.length = n0 * 1 by simpa using gi.1)
    have cB0 := B0.cell
    have lB0 := B0.lt
    go_wp2_with fail
    clear cB0 lB0
    refine (eqStartS_same Gi Gs n0 di ds L0 _ gi.rd gs.rd (by rw [HGi.out]; omega) (by omega)).mono ?_
    rintro e w7 ⟨rfl, q7⟩
    replace B0 := B0.q q7
    replace Q0 := Q0.trans q7
    replace I1 := I1.q q7
    replace gs := gs.q q7
    replace o1i := o1i.q q7
    replace gi := gi.q q7
    have z7 := q7.size
    have cB0 := B0.cell
    have lB0 := B0.lt
    go_wp2_with fail
    clear cB0 lB0
    refine (toTrackS_any a1A a1n a1c a1d _ I1 HL1.out (by omega) (by omega)).mono ?_
    rintro e w8 ⟨A1e, c1e, rfl, o1e, q8⟩
    replace B0 := B0.q q8
    replace Q0 := Q0.trans q8
    replace I1 := I1.q q8
    replace gs := gs.q q8
    replace o1i := o1i.q q8
    replace gi := gi.q q8
    have z8 := q8.size
    have fo1e := o1e.from
    have cB0 := B0.cell
    have lB0 := B0.lt
    go_wp2_with fail
    clear cB0 lB0
    refine (eqTrackS_same A1i A1e a1n c1i c1e a1d _ o1i.rd o1e.rd HL1.out (by omega)).mono ?_
    rintro e w9 ⟨rfl, q9⟩
    replace B0 := B0.q q9
    replace Q0 := Q0.trans q9
    replace I1 := I1.q q9
    replace gs := gs.q q9
    replace o1i := o1i.q q9
    replace gi := gi.q q9
    replace o1e := o1e.q q9
    have z9 := q9.size
    have cB0 := B0.cell
    have lB0 := B0.lt
    go_wp2_with fail
    clear cB0 lB0
    clear o1e
    refine (markTrackS_any A1i a1n c1i _ _ a1d 1 _ o1i (by omega) (by omega) (by omega)).mono ?_
    rintro e w10 ⟨rfl, G10⟩
    have z10 := G10.size
    replace B0 := Blk.markD B0 (.inl (by omega)) G10
    replace Q0 := Q0.markD (by omega) G10
    replace I1 := ha1.q Q0
    replace gs := gs.markD (fun a ha => by have := fgs a ha; first | exact .inr (by omega) | exact .inl (by omega)) G10
    replace gi := gi.markD (fun a ha => by have := fgi a ha; first | exact .inr (by omega) | exact .inl (by omega)) G10
    clear o1i
    have cB0 := B0.cell
    have lB0 := B0.lt
    go_wp2_with fail
    clear cB0 lB0
    refine (eqStartS_same Gi Gs n0 di ds L0 _ gi.rd gs.rd (by rw [HGi.out]; omega) (by omega)).mono ?_
    rintro e w11 ⟨rfl, q11⟩
    replace B0 := B0.q q11
    replace Q0 := Q0.trans q11
    replace I1 := I1.q q11
    replace gs := gs.q q11
    replace gi := gi.q q11
    have z11 := q11.size
    have cB0 := B0.cell
    have lB0 := B0.lt
    go_wp2_with fail
    clear cB0 lB0
    refine (markStartS_any Gi n0 di _ L0 1 _ gi (by omega) (by omega)).mono ?_
    rintro e w12 ⟨rfl, mgi, G12⟩
    have z12 := G12.size
    first | replace B0 := Blk.markU B0 fgi (by omega) G12 | replace B0 := Blk.markU2 B0 fgi (by omega) G12
    replace Q0 := Q0.markU fgi (by omega) G12
    replace I1 := ha1.q Q0
    replace gs := gs.far G12 (by first | exact far_lt fgs fgi (by omega) | exact (far_lt fgi fgs (by omega)).symm)
    replace gi := mgi
    have cB0 := B0.cell
    have lB0 := B0.lt
    go_wp2_with fail
    clear cB0 lB0
    refine (heldStartS_any Gi n0 di 1 _ gi.rd (by omega) (by omega)).mono ?_
    rintro e w13 ⟨rfl, q13⟩
    replace B0 := B0.q q13
    replace Q0 := Q0.trans q13
    replace I1 := I1.q q13
    replace gs := gs.q q13
    replace gi := gi.q q13
    have z13 := q13.size
    have cB0 := B0.cell
    have lB0 := B0.lt
    go_wp2_with fail
    clear cB0 lB0
    refine (toLine_any _ _ _ _ _).mono ?_
    rintro e w14 ⟨rfl, q14⟩
    replace B0 := B0.q q14
    replace Q0 := Q0.trans q14
    replace I1 := I1.q q14
    replace gs := gs.q q14
    replace gi := gi.q q14
    have z14 := q14.size
    have cB0 := B0.cell
    have lB0 := B0.lt
    go_wp2_with fail
    clear cB0 lB0
    refine (toTrackS_any a1A a1n a1c a1d _ I1 HL1.out (by omega) (by omega)).mono ?_
    rintro e w15 ⟨A1h, c1h, rfl, o1h, q15⟩
    replace B0 := B0.q q15
    replace Q0 := Q0.trans q15
    replace I1 := I1.q q15
    replace gs := gs.q q15
    replace gi := gi.q q15
    have z15 := q15.size
    have fo1h := o1h.from
    have cB0 := B0.cell
    have lB0 := B0.lt
    go_wp2_with fail
    clear cB0 lB0
    refine (K1.out A1h c1h _ o1h.rd HL1.out (by omega)).mono ?_
    rintro e w16 ⟨Gh, dh, rfl, gh, q16⟩
    replace B0 := B0.q q16
    replace Q0 := Q0.trans q16
    replace I1 := I1.q q16
    replace gs := gs.q q16
    replace gi := gi.q q16
    replace o1h := o1h.q q16
    have z16 := q16.size
    have fgh := gh.from
    have HGh := Lib.hid (show L0.length = n0 * 1 by simpa using gh.1)
    have cB0 := B0.cell
    have lB0 := B0.lt
    go_wp2_with fail
    clear cB0 lB0
    refine (eqStartS_same Gh Gs n0 dh ds L0 _ gh.rd gs.rd (by rw [HGh.out]; omega) (by omega)).mono ?_
    rintro e w17 ⟨rfl, q17⟩
    replace B0 := B0.q q17
    replace Q0 := Q0.trans q17
    replace I1 := I1.q q17
    replace gs := gs.q q17
    replace gi := gi.q q17
    replace o1h := o1h.q q17
    replace gh := gh.q q17
    have z17 := q17.size
    have cB0 := B0.cell
    have lB0 := B0.lt
    go_wp2_with fail
    clear cB0 lB0
    refine (heldStartS_any Gi n0 di 1 _ gi.rd (by omega) (by omega)).mono ?_
    rintro e w18 ⟨rfl, q18⟩
    replace B0 := B0.q q18
    replace Q0 := Q0.trans q18
    replace I1 := I1.q q18
    replace gs := gs.q q18
    replace gi := gi.q q18
    replace o1h := o1h.q q18
    replace gh := gh.q q18
    have z18 := q18.size
    have cB0 := B0.cell
    have lB0 := B0.lt
    go_wp2_with fail
    clear cB0 lB0
    go_ret
    exact ⟨rfl, Q0⟩
set_option maxRecDepth 100000 in
set_option maxHeartbeats 4000000 in
theorem law_FnExactBestStart (a0x0 a0x1 a0x2 a0x3 : Int) (ha0 : ∀ y ∈ [a0x0, a0x1, a0x2, a0x3], -9223372036854775808 ≤ y ∧ y ≤ 9223372036854775807) (a1A : Option Addr) (a1n a1c : Nat) (a1d : List (Nat × List Int)) (ha1l : a1d.length = a1n) (ha1c : a1n ≤ a1c ∧ a1c ≤ maxLen) (a2 : Int) (ha2 : -9223372036854775808 ≤ a2 ∧ a2 ≤ 9223372036854775807) (a3 : Int) (ha3 : -9223372036854775808 ≤ a3 ∧ a3 ≤ 9223372036854775807) (w : World) (ha1 : RdD w a1A a1d) :
    Calls Try.prog 10 #[.agg #[.int .i64 a0x0, .int .i64 a0x1, .int .i64 a0x2, .int .i64 a0x3], .slice a1A a1n a1c, .int .i64 a2, .int .i64 a3] w fun e w' => e = .returned (.bool true) ∧ Below w.heap.size w w' := by
  have hn1 : a1n ≤ 9223372036854775807 := by have := ha1c; unfold maxLen at this; omega
  clear ha1c
  have HL1 := Lib.hid ha1l
  clear ha1l
  have HB0 := Lib.hid ha0
  clear ha0
  have HB2 := Lib.hid ha2
  clear ha2
  have HB3 := Lib.hid ha3
  clear ha3
  have k0 := fun (a1A : Option Addr) (a1c : Nat) => spec_BestStart a0x0 a0x1 a0x2 a0x3 a1A a1n a1c a1d a2 a3
  have k1 := fun (a1A : Option Addr) (a1c : Nat) => impl_BestStart a0x0 a0x1 a0x2 a0x3 a1A a1n a1c a1d a2 a3
  obtain ⟨r0, hr0⟩ : ∃ r0, r0 = bsV a0x0 a0x1 a0x2 a0x3 a1d a2 a3 := ⟨_, rfl⟩
  obtain ⟨r1, hr1⟩ : ∃ r1, r1 = bsC a0x0 a0x1 a0x2 a0x3 a1d a2 a3 := ⟨_, rfl⟩
  rw [← hr0, ← hr1] at k0 k1
  have K0 := Lib.hid k0
  have K1 := Lib.hid k1
  clear k0 k1 hr0 hr1
  rcases Nat.lt_or_ge (1048576) (a1n + tot a1d) with hsz1 | hsz1
  · skip
    go_enter Try.func10, Try.ntmps10
    have B0 := Blk.new w 45 #[.int .i64 a0x0, .int .i64 a0x1, .int .i64 a0x2, .int .i64 a0x3]
    have gB0 : w.heap.size + 0 < w.heap.size + 1 := by omega
    have Q0 : Q w (w.alloc (.cells #[.int .i64 a0x0, .int .i64 a0x1, .int .i64 a0x2, .int .i64 a0x3] 45)) := by (repeat (first | assumption | exact Q.refl _ | refine Q.alloc ?_ _ | refine Q.drewN ?_ _ | refine Q.drew ?_))
    have I1 := ha1
    replace I1 := I1.q Q0
    have z0 : w.heap.size + 1 ≤ ((w.alloc (.cells #[.int .i64 a0x0, .int .i64 a0x1, .int .i64 a0x2, .int .i64 a0x3] 45))).heap.size := by simp
    go_wp2_with fail
    refine (szTrackS_any a1A a1n a1c a1d 1048576 _ I1 HL1.out (by omega) (by omega) hn1).mono ?_
    rintro e wz1 ⟨rfl, qz1⟩
    replace B0 := B0.q qz1
    replace Q0 := Q0.trans qz1
    replace I1 := I1.q qz1
    have zz1 := qz1.size
    rw [if_neg (by omega)]
    have cB0 := B0.cell
    go_wp2_with fail
    clear cB0
    go_ret
    exact ⟨rfl, Q0⟩
  · skip
    go_enter Try.func10, Try.ntmps10
    have B0 := Blk.new w 45 #[.int .i64 a0x0, .int .i64 a0x1, .int .i64 a0x2, .int .i64 a0x3]
    have gB0 : w.heap.size + 0 < w.heap.size + 1 := by omega
    have Q0 : Q w (w.alloc (.cells #[.int .i64 a0x0, .int .i64 a0x1, .int .i64 a0x2, .int .i64 a0x3] 45)) := by (repeat (first | assumption | exact Q.refl _ | refine Q.alloc ?_ _ | refine Q.drewN ?_ _ | refine Q.drew ?_))
    have I1 := ha1
    replace I1 := I1.q Q0
    have z0 : w.heap.size + 1 ≤ ((w.alloc (.cells #[.int .i64 a0x0, .int .i64 a0x1, .int .i64 a0x2, .int .i64 a0x3] 45))).heap.size := by simp
    go_wp2_with fail
    refine (szTrackS_any a1A a1n a1c a1d 1048576 _ I1 HL1.out (by omega) (by omega) hn1).mono ?_
    rintro e wz1 ⟨rfl, qz1⟩
    replace B0 := B0.q qz1
    replace Q0 := Q0.trans qz1
    replace I1 := I1.q qz1
    have zz1 := qz1.size
    rw [if_pos (by omega)]
    have cB0 := B0.cell
    go_wp2_with fail
    clear cB0
    have cB0 := B0.cell
    have lB0 := B0.lt
    go_wp2_with fail
    clear cB0 lB0
    refine (toLine_any _ _ _ _ _).mono ?_
    rintro e w1 ⟨rfl, q1⟩
    replace B0 := B0.q q1
    replace Q0 := Q0.trans q1
    replace I1 := I1.q q1
    have z1 := q1.size
    have cB0 := B0.cell
    have lB0 := B0.lt
    go_wp2_with fail
    clear cB0 lB0
    refine (toTrackS_any a1A a1n a1c a1d _ I1 HL1.out (by omega) (by omega)).mono ?_
    rintro e w2 ⟨A1s, c1s, rfl, o1s, q2⟩
    replace B0 := B0.q q2
    replace Q0 := Q0.trans q2
    replace I1 := I1.q q2
    have z2 := q2.size
    have fo1s := o1s.from
    have cB0 := B0.cell
    have lB0 := B0.lt
    go_wp2_with fail
    clear cB0 lB0
    refine (K0.out A1s c1s _ o1s.rd HL1.out (by omega)).mono ?_
    rintro e w3 ⟨rfl, q3⟩
    replace B0 := B0.q q3
    replace Q0 := Q0.trans q3
    replace I1 := I1.q q3
    replace o1s := o1s.q q3
    have z3 := q3.size
    have cB0 := B0.cell
    have lB0 := B0.lt
    go_wp2_with fail
    clear cB0 lB0
    clear o1s
    refine (toTrackS_any a1A a1n a1c a1d _ I1 HL1.out (by omega) (by omega)).mono ?_
    rintro e w4 ⟨A1i, c1i, rfl, o1i, q4⟩
    replace B0 := B0.q q4
    replace Q0 := Q0.trans q4
    replace I1 := I1.q q4
    have z4 := q4.size
    have fo1i := o1i.from
    have cB0 := B0.cell
    have lB0 := B0.lt
    go_wp2_with fail
    clear cB0 lB0
    refine (toLine_any _ _ _ _ _).mono ?_
    rintro e w5 ⟨rfl, q5⟩
    replace B0 := B0.q q5
    replace Q0 := Q0.trans q5
    replace I1 := I1.q q5
    replace o1i := o1i.q q5
    have z5 := q5.size
    have cB0 := B0.cell
    have lB0 := B0.lt
    go_wp2_with fail
    clear cB0 lB0
    refine (K1.out A1i c1i _ o1i.rd HL1.out (by omega)).mono ?_
    rintro e w6 ⟨rfl, q6⟩
    replace B0 := B0.q q6
    replace Q0 := Q0.trans q6
    replace I1 := I1.q q6
    replace o1i := o1i.q q6
    have z6 := q6.size
    have cB0 := B0.cell
    have lB0 := B0.lt
    go_wp2_with fail
    clear cB0 lB0
    refine (toTrackS_any a1A a1n a1c a1d _ I1 HL1.out (by omega) (by omega)).mono ?_
    rintro e w7 ⟨A1e, c1e, rfl, o1e, q7⟩
    replace B0 := B0.q q7
    replace Q0 := Q0.trans q7
    replace I1 := I1.q q7
    replace o1i := o1i.q q7
    have z7 := q7.size
    have fo1e := o1e.from
    have cB0 := B0.cell
    have lB0 := B0.lt
    go_wp2_with fail
    clear cB0 lB0
    refine (eqTrackS_same A1i A1e a1n c1i c1e a1d _ o1i.rd o1e.rd HL1.out (by omega)).mono ?_
    rintro e w8 ⟨rfl, q8⟩
    replace B0 := B0.q q8
    replace Q0 := Q0.trans q8
    replace I1 := I1.q q8
    replace o1i := o1i.q q8
    replace o1e := o1e.q q8
    have z8 := q8.size
    have cB0 := B0.cell
    have lB0 := B0.lt
    go_wp2_with fail
    clear cB0 lB0
    clear o1e
    go_ret
    exact ⟨rfl, Q0⟩
end Go.Proofs.Ytlmaecmjpbgegaa
