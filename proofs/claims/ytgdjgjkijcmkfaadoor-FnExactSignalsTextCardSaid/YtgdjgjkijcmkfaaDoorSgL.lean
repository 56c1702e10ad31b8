/- Walks: the law that the program's SignalsText returns what the reference's returns. Condition: the library's table (Tbl). -/
import Derived.Test.YtgdjgjkijcmkfaaDoorSgS
namespace Go.Proofs.YtgdjgjkijcmkfaaDoor
open Go.RowKit Go.WideShapes Go.ChangeShapes
set_option maxRecDepth 100000 in
set_option maxHeartbeats 4000000 in
theorem law_FnExactSignalsText (a0A : Option Addr) (a0n a0c : Nat) (a0xs : List Int) (ha0l : a0xs.length = a0n * 2) (ha0b : ∀ y ∈ a0xs, -9223372036854775808 ≤ y ∧ y ≤ 9223372036854775807) (ha0c : a0n ≤ a0c ∧ a0c ≤ maxLen) (w : World) (ha0 : Rd w a0A a0xs) (hT : Tbl w) :
    Calls Tryd.prog 3 #[.slice a0A a0n a0c] w fun e w' => e = .returned (.bool true) ∧ Below w.heap.size w w' := by
  have hn0 : a0n ≤ 9223372036854775807 := by have := ha0c; unfold maxLen at this; omega
  clear ha0c ha0b
  have HL0 := Lib.hid ha0l
  clear ha0l
  have k0 := fun (a0A : Option Addr) (a0c : Nat) => spec_SignalsText a0A a0n a0c a0xs
  have k1 := fun (a0A : Option Addr) (a0c : Nat) => impl_SignalsText a0A a0n a0c a0xs
  obtain ⟨r0, hr0⟩ : ∃ r0, r0 = sgT a0xs a0n := ⟨_, rfl⟩
  rw [← hr0] at k0 k1
  have K0 := Lib.hid k0
  have K1 := Lib.hid k1
  clear k0 k1 hr0
  rcases Nat.lt_or_ge (1048576) a0n with hsz0 | hsz0
  · skip
    go_enter Tryd.func3, Tryd.ntmps3
    have Q0 : Q w w := by (repeat (first | assumption | exact Q.refl _ | refine Q.alloc ?_ _ | refine Q.drewN ?_ _ | refine Q.drew ?_))
    have I0 := ha0
    have z0 : w.heap.size + 0 ≤ (w).heap.size := by simp
    go_wp2_with fail
    refine (szSignalS_any a0A a0n a0c 1048576 _ (by omega) (by omega) hn0).mono ?_
    rintro e w' ⟨rfl, rfl⟩
    rw [if_neg (by omega)]
    go_wp2_with fail
    go_ret
    exact ⟨rfl, Q0⟩
  · skip
    go_enter Tryd.func3, Tryd.ntmps3
    have Q0 : Q w w := by (repeat (first | assumption | exact Q.refl _ | refine Q.alloc ?_ _ | refine Q.drewN ?_ _ | refine Q.drew ?_))
    have I0 := ha0
    have z0 : w.heap.size + 0 ≤ (w).heap.size := by simp
    go_wp2_with fail
    refine (szSignalS_any a0A a0n a0c 1048576 _ (by omega) (by omega) hn0).mono ?_
    rintro e w' ⟨rfl, rfl⟩
    rw [if_pos (by omega)]
    go_wp2_with fail
    go_wp2_with fail
    refine (toSignalS_any a0A a0n a0c a0xs _ I0 HL0.out (by omega)).mono ?_
    rintro e w1 ⟨A0s, c0s, rfl, o0s, q1⟩
    replace Q0 := Q0.trans q1
    replace I0 := I0.q q1
    have z1 := q1.size
    have fo0s := o0s.from
    go_wp2_with fail
    refine (K0.out A0s c0s _ o0s.rd HL0.out (by omega)).mono ?_
    rintro e w2 ⟨rfl, q2⟩
    replace Q0 := Q0.trans q2
    replace I0 := I0.q q2
    replace o0s := o0s.q q2
    have z2 := q2.size
    go_wp2_with fail
    clear o0s
    refine (toSignalS_any a0A a0n a0c a0xs _ I0 HL0.out (by omega)).mono ?_
    rintro e w3 ⟨A0i, c0i, rfl, o0i, q3⟩
    replace Q0 := Q0.trans q3
    replace I0 := I0.q q3
    have z3 := q3.size
    have fo0i := o0i.from
    go_wp2_with fail
    refine (K1.out A0i c0i _ o0i.rd HL0.out (by omega) (hT.q Q0)).mono ?_
    rintro e w4 ⟨rfl, q4⟩
    replace Q0 := Q0.trans q4
    replace I0 := I0.q q4
    replace o0i := o0i.q q4
    have z4 := q4.size
    go_wp2_with fail
    refine (toSignalS_any a0A a0n a0c a0xs _ I0 HL0.out (by omega)).mono ?_
    rintro e w5 ⟨A0e, c0e, rfl, o0e, q5⟩
    replace Q0 := Q0.trans q5
    replace I0 := I0.q q5
    replace o0i := o0i.q q5
    have z5 := q5.size
    have fo0e := o0e.from
    go_wp2_with fail
    refine (eqSignalS_same A0i A0e a0n c0i c0e a0xs _ o0i.rd o0e.rd HL0.out (by omega)).mono ?_
    rintro e w6 ⟨rfl, q6⟩
    replace Q0 := Q0.trans q6
    replace I0 := I0.q q6
    replace o0i := o0i.q q6
    replace o0e := o0e.q q6
    have z6 := q6.size
    go_wp2_with fail
    clear o0e
    go_ret
    exact ⟨rfl, Q0⟩
end Go.Proofs.YtgdjgjkijcmkfaaDoor
