/- Walks: the law that the program's FinishesOf returns what the reference's returns, for all arguments. No condition. -/
import Derived.Test.YtomgdgdcpgeilaaGreatDoorMkZ
import Derived.Test.YtomgdgdcpgeilaaGreatDoorMkM
import Derived.Deep.RegionHeld3
namespace Go.Proofs.YtomgdgdcpgeilaaGreatDoor
open Go.RowKit Go.WideShapes Go.ChangeShapes
theorem OwnD.markD {w w' : World} {B U C V n c : Nat} {A : Option Addr} {D : List (Nat × List Int)} (h : OwnD w C V A n c D) (hf : V ≤ B ∨ U ≤ C) (hg : GrD B U w w') : OwnD w' C V A n c D := by
  obtain ⟨ts, h1, h2, h3, h4, h5⟩ := h
  refine ⟨ts, h1, ⟨h2.1, ?_⟩, fun T hT => ?_, h4, h5⟩
  · rcases h2.2 with h6 | ⟨g, cap, cur, e1, e3, e4, e5⟩
    · exact .inl h6
    · refine .inr ⟨g, cap, cur, e1, e3, ?_, e5⟩
      injection e1 with e1 _ _
      rw [← e4]
      refine hg.block g (Blk.lt e4) ?_
      have := h5 _ e1
      simp only at this
      omega
  · obtain ⟨a1, a2, a3⟩ := h3 T hT
    exact ⟨a1.markD (fun a ha => by have := a2 a ha; omega) hg, a2, a3⟩
set_option maxRecDepth 100000 in
set_option maxHeartbeats 4000000 in
theorem law_FnExactFinishesOf (a0x0 a0x1 a0x2 a0x3 a0x4 a0x5 a0x6 a0x7 : Int) (a0A : Option Addr) (a0n a0c : Nat) (a0ms : List Mk) (ha0l : a0ms.length = a0n) (ha0c : a0n ≤ a0c ∧ a0c ≤ maxLen) (a1A : Option Addr) (a1n a1c : Nat) (a1d : List (Nat × List Int)) (ha1l : a1d.length = a1n) (ha1c : a1n ≤ a1c ∧ a1c ≤ maxLen) (a2 : Int) (ha2 : -9223372036854775808 ≤ a2 ∧ a2 ≤ 9223372036854775807) (a3 : Int) (ha3 : -9223372036854775808 ≤ a3 ∧ a3 ≤ 9223372036854775807) (w : World) (ha0 : RdM w a0A a0ms) (ha1 : RdD w a1A a1d) :
    Calls Tryz.prog 5 #[.agg #[.int .i64 a0x0, .int .i64 a0x1, .int .i64 a0x2, .int .i64 a0x3, .int .i64 a0x4, .int .i64 a0x5, .int .i64 a0x6, .int .i64 a0x7, .slice a0A a0n a0c], .slice a1A a1n a1c, .int .i64 a2, .int .i64 a3] w fun e w' => e = .returned (.bool true) ∧ Below w.heap.size w w' := by
  have hn0 : a0n ≤ 9223372036854775807 := by have := ha0c; unfold maxLen at this; omega
  clear ha0c
  have HL0 := Lib.hid ha0l
  clear ha0l
  have hn1 : a1n ≤ 9223372036854775807 := by have := ha1c; unfold maxLen at this; omega
  clear ha1c
  have HL1 := Lib.hid ha1l
  clear ha1l
  have HB2 := Lib.hid ha2
  clear ha2
  have HB3 := Lib.hid ha3
  clear ha3
  have k0 := fun (a0A : Option Addr) (a0c : Nat) (a1A : Option Addr) (a1c : Nat) => spec_FinishesOf a0x0 a0x1 a0x2 a0x3 a0x4 a0x5 a0x6 a0x7 a0A a0n a0c a0ms a1A a1n a1c a1d a2 a3
  have k1 := fun (a0A : Option Addr) (a0c : Nat) (a1A : Option Addr) (a1c : Nat) => impl_FinishesOf a0x0 a0x1 a0x2 a0x3 a0x4 a0x5 a0x6 a0x7 a0A a0n a0c a0ms a1A a1n a1c a1d a2 a3
  obtain ⟨n0, hn0⟩ : ∃ n0, n0 = fsN a0x0 a0x1 a0x2 a0x3 a0x4 a0x5 a0x6 a0x7 a0ms a1d a2 a3 := ⟨_, rfl⟩
  obtain ⟨L0, hL0⟩ : ∃ L0, L0 = fsL a0x0 a0x1 a0x2 a0x3 a0x4 a0x5 a0x6 a0x7 a0ms a1d a2 a3 := ⟨_, rfl⟩
  obtain ⟨r1, hr1⟩ : ∃ r1, r1 = fsC a0x0 a0x1 a0x2 a0x3 a0x4 a0x5 a0x6 a0x7 a0ms a1d a2 a3 := ⟨_, rfl⟩
  have hs0 : n0 ≤ 1048576 := by rw [hn0]; exact Nat.le_trans (fsN_le _ _ _ _ _ _ _ _ _ _ _ _) (by decide)
  rw [← hn0, ← hL0, ← hr1] at k0 k1
  have K0 := Lib.hid k0
  have K1 := Lib.hid k1
  clear k0 k1 hn0 hL0 hr1
  rcases Nat.lt_or_ge (1048576) (a0n + tmN a0ms) with hsz0 | hsz0
  · skip
    go_enter Tryz.func5, Tryz.ntmps5
    have B0 := Blk.new w 28 #[.int .i64 a0x0, .int .i64 a0x1, .int .i64 a0x2, .int .i64 a0x3, .int .i64 a0x4, .int .i64 a0x5, .int .i64 a0x6, .int .i64 a0x7, .slice a0A a0n a0c]
    have gB0 : w.heap.size + 0 < w.heap.size + 1 := by omega
    have Q0 : Q w (w.alloc (.cells #[.int .i64 a0x0, .int .i64 a0x1, .int .i64 a0x2, .int .i64 a0x3, .int .i64 a0x4, .int .i64 a0x5, .int .i64 a0x6, .int .i64 a0x7, .slice a0A a0n a0c] 28)) := by (repeat (first | assumption | exact Q.refl _ | refine Q.alloc ?_ _ | refine Q.drewN ?_ _ | refine Q.drew ?_))
    have I0 := ha0
    replace I0 := I0.q Q0
    have I1 := ha1
    replace I1 := I1.q Q0
    have z0 : w.heap.size + 1 ≤ ((w.alloc (.cells #[.int .i64 a0x0, .int .i64 a0x1, .int .i64 a0x2, .int .i64 a0x3, .int .i64 a0x4, .int .i64 a0x5, .int .i64 a0x6, .int .i64 a0x7, .slice a0A a0n a0c] 28))).heap.size := by simp
    go_wp2_with fail
    refine (szCourse_any a0x0 a0x1 a0x2 a0x3 a0x4 a0x5 a0x6 a0x7 a0A a0n a0c a0ms 1048576 _ I0 HL0.out (by omega) (by omega) hn0).mono ?_
    rintro e wz0 ⟨rfl, qz0⟩
    replace B0 := B0.q qz0
    replace Q0 := Q0.trans qz0
    replace I0 := I0.q qz0
    replace I1 := I1.q qz0
    have zz0 := qz0.size
    rw [if_neg (by omega)]
    have cB0 := B0.cell
    go_wp2_with fail
    clear cB0
    go_ret
    exact ⟨rfl, Q0⟩
  · skip
    rcases Nat.lt_or_ge (1048576 - (a0n + tmN a0ms)) (a1n + tot a1d) with hsz1 | hsz1
    · skip
      go_enter Tryz.func5, Tryz.ntmps5
      have B0 := Blk.new w 28 #[.int .i64 a0x0, .int .i64 a0x1, .int .i64 a0x2, .int .i64 a0x3, .int .i64 a0x4, .int .i64 a0x5, .int .i64 a0x6, .int .i64 a0x7, .slice a0A a0n a0c]
      have gB0 : w.heap.size + 0 < w.heap.size + 1 := by omega
      have Q0 : Q w (w.alloc (.cells #[.int .i64 a0x0, .int .i64 a0x1, .int .i64 a0x2, .int .i64 a0x3, .int .i64 a0x4, .int .i64 a0x5, .int .i64 a0x6, .int .i64 a0x7, .slice a0A a0n a0c] 28)) := by (repeat (first | assumption | exact Q.refl _ | refine Q.alloc ?_ _ | refine Q.drewN ?_ _ | refine Q.drew ?_))
      have I0 := ha0
      replace I0 := I0.q Q0
      have I1 := ha1
      replace I1 := I1.q Q0
      have z0 : w.heap.size + 1 ≤ ((w.alloc (.cells #[.int .i64 a0x0, .int .i64 a0x1, .int .i64 a0x2, .int .i64 a0x3, .int .i64 a0x4, .int .i64 a0x5, .int .i64 a0x6, .int .i64 a0x7, .slice a0A a0n a0c] 28))).heap.size := by simp
      go_wp2_with fail
      refine (szCourse_any a0x0 a0x1 a0x2 a0x3 a0x4 a0x5 a0x6 a0x7 a0A a0n a0c a0ms 1048576 _ I0 HL0.out (by omega) (by omega) hn0).mono ?_
      rintro e wz0 ⟨rfl, qz0⟩
      replace B0 := B0.q qz0
      replace Q0 := Q0.trans qz0
      replace I0 := I0.q qz0
      replace I1 := I1.q qz0
      have zz0 := qz0.size
      rw [if_pos (by omega)]
      have cB0 := B0.cell
      go_wp2_with fail
      clear cB0
      refine (szTrackS_any a1A a1n a1c a1d (1048576 - ((a0n + tmN a0ms : Nat) : Int)) _ I1 HL1.out (by omega) (by omega) hn1).mono ?_
      rintro e wz1 ⟨rfl, qz1⟩
      replace B0 := B0.q qz1
      replace Q0 := Q0.trans qz1
      replace I0 := I0.q qz1
      replace I1 := I1.q qz1
      have zz1 := qz1.size
      rw [if_neg (by omega)]
      have cB0 := B0.cell
      go_wp2_with fail
      clear cB0
      go_ret
      exact ⟨rfl, Q0⟩
    · skip
      go_enter Tryz.func5, Tryz.ntmps5
      have B0 := Blk.new w 28 #[.int .i64 a0x0, .int .i64 a0x1, .int .i64 a0x2, .int .i64 a0x3, .int .i64 a0x4, .int .i64 a0x5, .int .i64 a0x6, .int .i64 a0x7, .slice a0A a0n a0c]
      have gB0 : w.heap.size + 0 < w.heap.size + 1 := by omega
      have Q0 : Q w (w.alloc (.cells #[.int .i64 a0x0, .int .i64 a0x1, .int .i64 a0x2, .int .i64 a0x3, .int .i64 a0x4, .int .i64 a0x5, .int .i64 a0x6, .int .i64 a0x7, .slice a0A a0n a0c] 28)) := by (repeat (first | assumption | exact Q.refl _ | refine Q.alloc ?_ _ | refine Q.drewN ?_ _ | refine Q.drew ?_))
      have I0 := ha0
      replace I0 := I0.q Q0
      have I1 := ha1
      replace I1 := I1.q Q0
      have z0 : w.heap.size + 1 ≤ ((w.alloc (.cells #[.int .i64 a0x0, .int .i64 a0x1, .int .i64 a0x2, .int .i64 a0x3, .int .i64 a0x4, .int .i64 a0x5, .int .i64 a0x6, .int .i64 a0x7, .slice a0A a0n a0c] 28))).heap.size := by simp
      go_wp2_with fail
      refine (szCourse_any a0x0 a0x1 a0x2 a0x3 a0x4 a0x5 a0x6 a0x7 a0A a0n a0c a0ms 1048576 _ I0 HL0.out (by omega) (by omega) hn0).mono ?_
      rintro e wz0 ⟨rfl, qz0⟩
      replace B0 := B0.q qz0
      replace Q0 := Q0.trans qz0
      replace I0 := I0.q qz0
      replace I1 := I1.q qz0
      have zz0 := qz0.size
      rw [if_pos (by omega)]
      have cB0 := B0.cell
      go_wp2_with fail
      clear cB0
      refine (szTrackS_any a1A a1n a1c a1d (1048576 - ((a0n + tmN a0ms : Nat) : Int)) _ I1 HL1.out (by omega) (by omega) hn1).mono ?_
      rintro e wz1 ⟨rfl, qz1⟩
      replace B0 := B0.q qz1
      replace Q0 := Q0.trans qz1
      replace I0 := I0.q qz1
      replace I1 := I1.q qz1
      have zz1 := qz1.size
      rw [if_pos (by omega)]
      have cB0 := B0.cell
      go_wp2_with fail
      clear cB0
      have cB0 := B0.cell
      have lB0 := B0.lt
      go_wp2_with fail
      clear cB0 lB0
      refine (toCourse_own a0x0 a0x1 a0x2 a0x3 a0x4 a0x5 a0x6 a0x7 a0A a0n a0c a0ms _ I0 HL0.out (by omega)).mono ?_
      rintro e w1 ⟨A0s, rfl, o0s, q1⟩
      replace B0 := B0.q q1
      replace Q0 := Q0.trans q1
      replace I0 := I0.q q1
      replace I1 := I1.q q1
      have z1 := q1.size
      have fo0s := o0s.from
      have cB0 := B0.cell
      have lB0 := B0.lt
      go_wp2_with fail
      clear cB0 lB0
      refine (toTrackS_any a1A a1n a1c a1d _ I1 HL1.out (by omega) (by omega)).mono ?_
      rintro e w2 ⟨A1s, c1s, rfl, o1s, q2⟩
      replace B0 := B0.q q2
      replace Q0 := Q0.trans q2
      replace I0 := I0.q q2
      replace I1 := I1.q q2
      replace o0s := o0s.q q2
      have z2 := q2.size
      have fo1s := o1s.from
      have cB0 := B0.cell
      have lB0 := B0.lt
      go_wp2_with fail
      clear cB0 lB0
      refine (K0.out A0s a0n A1s c1s _ o0s.rd HL0.out (by omega) o1s.rd HL1.out (by omega)).mono ?_
      rintro e w3 ⟨Gs, ds, rfl, gs, q3⟩
      replace B0 := B0.q q3
      replace Q0 := Q0.trans q3
      replace I0 := I0.q q3
      replace I1 := I1.q q3
      replace o0s := o0s.q q3
      replace o1s := o1s.q q3
      have z3 := q3.size
      have fgs := gs.from
      have HGs := Lib.hid (show L0.length = n0 * 3 by simpa using gs.1)
      have cB0 := B0.cell
      have lB0 := B0.lt
      go_wp2_with fail
      clear cB0 lB0
      clear o0s
      clear o1s
      refine (toCourse_own a0x0 a0x1 a0x2 a0x3 a0x4 a0x5 a0x6 a0x7 a0A a0n a0c a0ms _ I0 HL0.out (by omega)).mono ?_
      rintro e w4 ⟨A0i, rfl, o0i, q4⟩
      replace B0 := B0.q q4
      replace Q0 := Q0.trans q4
      replace I0 := I0.q q4
      replace I1 := I1.q q4
      replace gs := gs.q q4
      have z4 := q4.size
      have fo0i := o0i.from
      have cB0 := B0.cell
      have lB0 := B0.lt
      go_wp2_with fail
      clear cB0 lB0
      have BX0 := Blk.new w4 43 #[.int .i64 a0x0, .int .i64 a0x1, .int .i64 a0x2, .int .i64 a0x3, .int .i64 a0x4, .int .i64 a0x5, .int .i64 a0x6, .int .i64 a0x7, .slice A0i a0n a0n]
      replace B0 := B0.q ((Q.refl _).alloc (.cells #[.int .i64 a0x0, .int .i64 a0x1, .int .i64 a0x2, .int .i64 a0x3, .int .i64 a0x4, .int .i64 a0x5, .int .i64 a0x6, .int .i64 a0x7, .slice A0i a0n a0n] 43))
      replace Q0 := Q0.trans ((Q.refl _).alloc (.cells #[.int .i64 a0x0, .int .i64 a0x1, .int .i64 a0x2, .int .i64 a0x3, .int .i64 a0x4, .int .i64 a0x5, .int .i64 a0x6, .int .i64 a0x7, .slice A0i a0n a0n] 43))
      replace I0 := I0.q ((Q.refl _).alloc (.cells #[.int .i64 a0x0, .int .i64 a0x1, .int .i64 a0x2, .int .i64 a0x3, .int .i64 a0x4, .int .i64 a0x5, .int .i64 a0x6, .int .i64 a0x7, .slice A0i a0n a0n] 43))
      replace I1 := I1.q ((Q.refl _).alloc (.cells #[.int .i64 a0x0, .int .i64 a0x1, .int .i64 a0x2, .int .i64 a0x3, .int .i64 a0x4, .int .i64 a0x5, .int .i64 a0x6, .int .i64 a0x7, .slice A0i a0n a0n] 43))
      replace gs := gs.q ((Q.refl _).alloc (.cells #[.int .i64 a0x0, .int .i64 a0x1, .int .i64 a0x2, .int .i64 a0x3, .int .i64 a0x4, .int .i64 a0x5, .int .i64 a0x6, .int .i64 a0x7, .slice A0i a0n a0n] 43))
      replace o0i := o0i.q ((Q.refl _).alloc (.cells #[.int .i64 a0x0, .int .i64 a0x1, .int .i64 a0x2, .int .i64 a0x3, .int .i64 a0x4, .int .i64 a0x5, .int .i64 a0x6, .int .i64 a0x7, .slice A0i a0n a0n] 43))
      have zx0 : w4.heap.size ≤ (w4.alloc (.cells #[.int .i64 a0x0, .int .i64 a0x1, .int .i64 a0x2, .int .i64 a0x3, .int .i64 a0x4, .int .i64 a0x5, .int .i64 a0x6, .int .i64 a0x7, .slice A0i a0n a0n] 43)).heap.size := by simp
      have gx0 : w4.heap.size < (w4.alloc (.cells #[.int .i64 a0x0, .int .i64 a0x1, .int .i64 a0x2, .int .i64 a0x3, .int .i64 a0x4, .int .i64 a0x5, .int .i64 a0x6, .int .i64 a0x7, .slice A0i a0n a0n] 43)).heap.size := by simp
      refine (toTrackS_any a1A a1n a1c a1d _ I1 HL1.out (by omega) (by omega)).mono ?_
      rintro e w5 ⟨A1i, c1i, rfl, o1i, q5⟩
      replace B0 := B0.q q5
      replace Q0 := Q0.trans q5
      replace I0 := I0.q q5
      replace I1 := I1.q q5
      replace gs := gs.q q5
      replace o0i := o0i.q q5
      replace BX0 := BX0.q q5
      have z5 := q5.size
      have fo1i := o1i.from
      have cB0 := B0.cell
      have lB0 := B0.lt
      have cBX0 := BX0.cell
      have lBX0 := BX0.lt
      go_wp2_with fail
      clear cB0 lB0
      clear cBX0 lBX0
      refine (K1.out A0i a0n A1i c1i _ o0i.rd HL0.out (Nat.le_refl _) (by omega) o1i.rd HL1.out (by omega) ).mono ?_
      rintro e w6 ⟨Gi, di, rfl, gi, q6⟩
      replace B0 := B0.q q6
      replace Q0 := Q0.trans q6
      replace I0 := I0.q q6
      replace I1 := I1.q q6
      replace gs := gs.q q6
      replace o0i := o0i.q q6
      replace BX0 := BX0.q q6
      replace o1i := o1i.q q6
      have z6 := q6.size
      have fgi := gi.from
      have HGi := Lib.hid (show L0.length = n0 * 3 by simpa using gi.1)
      have cB0 := B0.cell
      have lB0 := B0.lt
      have cBX0 := BX0.cell
      have lBX0 := BX0.lt
      go_wp2_with fail
      clear cB0 lB0
      clear cBX0 lBX0
      refine (eqFinishS_same Gi Gs n0 di ds L0 _ gi.rd gs.rd HGi.out (by omega)).mono ?_
      rintro e w7 ⟨rfl, q7⟩
      replace B0 := B0.q q7
      replace Q0 := Q0.trans q7
      replace I0 := I0.q q7
      replace I1 := I1.q q7
      replace gs := gs.q q7
      replace o0i := o0i.q q7
      replace BX0 := BX0.q q7
      replace o1i := o1i.q q7
      replace gi := gi.q q7
      have z7 := q7.size
      have cB0 := B0.cell
      have lB0 := B0.lt
      have cBX0 := BX0.cell
      have lBX0 := BX0.lt
      go_wp2_with fail
      clear cB0 lB0
      clear cBX0 lBX0
      have hS8 : ∀ w', Q w7 w' → (Q w7 w' ∧ w'.cell? ⟨w4.heap.size, 0, none⟩ = some (.int .i64 a0x0) ∧ w'.cell? ⟨w4.heap.size, 1, none⟩ = some (.int .i64 a0x1) ∧ w'.cell? ⟨w4.heap.size, 2, none⟩ = some (.int .i64 a0x2) ∧ w'.cell? ⟨w4.heap.size, 3, none⟩ = some (.int .i64 a0x3) ∧ w'.cell? ⟨w4.heap.size, 4, none⟩ = some (.int .i64 a0x4) ∧ w'.cell? ⟨w4.heap.size, 5, none⟩ = some (.int .i64 a0x5) ∧ w'.cell? ⟨w4.heap.size, 6, none⟩ = some (.int .i64 a0x6) ∧ w'.cell? ⟨w4.heap.size, 7, none⟩ = some (.int .i64 a0x7) ∧ w'.cell? ⟨w4.heap.size, 8, none⟩ = some (.slice A0i a0n a0n) ∧ w'.cell? ⟨w.heap.size, 0, none⟩ = some (.int .i64 a0x0) ∧ w'.cell? ⟨w.heap.size, 1, none⟩ = some (.int .i64 a0x1) ∧ w'.cell? ⟨w.heap.size, 2, none⟩ = some (.int .i64 a0x2) ∧ w'.cell? ⟨w.heap.size, 3, none⟩ = some (.int .i64 a0x3) ∧ w'.cell? ⟨w.heap.size, 4, none⟩ = some (.int .i64 a0x4) ∧ w'.cell? ⟨w.heap.size, 5, none⟩ = some (.int .i64 a0x5) ∧ w'.cell? ⟨w.heap.size, 6, none⟩ = some (.int .i64 a0x6) ∧ w'.cell? ⟨w.heap.size, 7, none⟩ = some (.int .i64 a0x7) ∧ w'.cell? ⟨w.heap.size, 8, none⟩ = some (.slice a0A a0n a0c)) := fun w' q => ⟨q, (BX0.q q).cell _, (BX0.q q).cell _, (BX0.q q).cell _, (BX0.q q).cell _, (BX0.q q).cell _, (BX0.q q).cell _, (BX0.q q).cell _, (BX0.q q).cell _, (BX0.q q).cell _, (B0.q q).cell _, (B0.q q).cell _, (B0.q q).cell _, (B0.q q).cell _, (B0.q q).cell _, (B0.q q).cell _, (B0.q q).cell _, (B0.q q).cell _, (B0.q q).cell _⟩
      go_region_held3 (fun w' => Q w7 w' ∧ w'.cell? ⟨w4.heap.size, 0, none⟩ = some (.int .i64 a0x0) ∧ w'.cell? ⟨w4.heap.size, 1, none⟩ = some (.int .i64 a0x1) ∧ w'.cell? ⟨w4.heap.size, 2, none⟩ = some (.int .i64 a0x2) ∧ w'.cell? ⟨w4.heap.size, 3, none⟩ = some (.int .i64 a0x3) ∧ w'.cell? ⟨w4.heap.size, 4, none⟩ = some (.int .i64 a0x4) ∧ w'.cell? ⟨w4.heap.size, 5, none⟩ = some (.int .i64 a0x5) ∧ w'.cell? ⟨w4.heap.size, 6, none⟩ = some (.int .i64 a0x6) ∧ w'.cell? ⟨w4.heap.size, 7, none⟩ = some (.int .i64 a0x7) ∧ w'.cell? ⟨w4.heap.size, 8, none⟩ = some (.slice A0i a0n a0n) ∧ w'.cell? ⟨w.heap.size, 0, none⟩ = some (.int .i64 a0x0) ∧ w'.cell? ⟨w.heap.size, 1, none⟩ = some (.int .i64 a0x1) ∧ w'.cell? ⟨w.heap.size, 2, none⟩ = some (.int .i64 a0x2) ∧ w'.cell? ⟨w.heap.size, 3, none⟩ = some (.int .i64 a0x3) ∧ w'.cell? ⟨w.heap.size, 4, none⟩ = some (.int .i64 a0x4) ∧ w'.cell? ⟨w.heap.size, 5, none⟩ = some (.int .i64 a0x5) ∧ w'.cell? ⟨w.heap.size, 6, none⟩ = some (.int .i64 a0x6) ∧ w'.cell? ⟨w.heap.size, 7, none⟩ = some (.int .i64 a0x7) ∧ w'.cell? ⟨w.heap.size, 8, none⟩ = some (.slice a0A a0n a0c)) (first | exact hS8 _ (by first | assumption | exact QR | exact (Q.refl _).drew) | (go_split_ands; exact hS8 _ (by first | assumption | exact QR | exact (Q.refl _).drew))) (first | (go_at_call 10; with_reducible refine Calls.mono (toCourse_any a0x0 a0x1 a0x2 a0x3 a0x4 a0x5 a0x6 a0x7 a0A a0n a0c a0ms _ ?h1 HL0.out (by omega)) ?_; (case h1 => exact I0.q (by with_reducible first | assumption | exact (Q.refl _).drew)); rintro e wr8 ⟨A0q8, rfl, o0q8, qr8⟩; have QR : Q w7 _ := Q.trans (by with_reducible first | assumption | exact (Q.refl _).drew) qr8) | (go_at_call 14; with_reducible refine Calls.mono (eqCourse_same a0x0 a0x1 a0x2 a0x3 a0x4 a0x5 a0x6 a0x7 A0i A0q8 a0n a0n a0n a0ms _ ?h1 o0q8 HL0.out (by omega)) ?_; (case h1 => exact o0i.rd.q (by with_reducible first | assumption | exact (Q.refl _).drew)); rintro e w8 ⟨rfl, qf8⟩; have QR : Q w7 _ := Q.trans (by with_reducible first | assumption | exact (Q.refl _).drew) qf8))
      replace B0 := B0.q QR
      replace Q0 := Q0.trans QR
      replace I0 := I0.q QR
      replace I1 := I1.q QR
      replace gs := gs.q QR
      replace o0i := o0i.q QR
      replace BX0 := BX0.q QR
      replace o1i := o1i.q QR
      replace gi := gi.q QR
      have z8 := QR.size
      clear QR
      have cB0 := B0.cell
      have lB0 := B0.lt
      have cBX0 := BX0.cell
      have lBX0 := BX0.lt
      go_wp2_with fail
      clear cB0 lB0
      clear cBX0 lBX0
      refine (toTrackS_any a1A a1n a1c a1d _ I1 HL1.out (by omega) (by omega)).mono ?_
      rintro e w9 ⟨A1e, c1e, rfl, o1e, q9⟩
      replace B0 := B0.q q9
      replace Q0 := Q0.trans q9
      replace I0 := I0.q q9
      replace I1 := I1.q q9
      replace gs := gs.q q9
      replace o0i := o0i.q q9
      replace BX0 := BX0.q q9
      replace o1i := o1i.q q9
      replace gi := gi.q q9
      have z9 := q9.size
      have fo1e := o1e.from
      have cB0 := B0.cell
      have lB0 := B0.lt
      have cBX0 := BX0.cell
      have lBX0 := BX0.lt
      go_wp2_with fail
      clear cB0 lB0
      clear cBX0 lBX0
      refine (eqTrackS_same A1i A1e a1n c1i c1e a1d _ o1i.rd o1e.rd HL1.out (by omega)).mono ?_
      rintro e w10 ⟨rfl, q10⟩
      replace B0 := B0.q q10
      replace Q0 := Q0.trans q10
      replace I0 := I0.q q10
      replace I1 := I1.q q10
      replace gs := gs.q q10
      replace o0i := o0i.q q10
      replace BX0 := BX0.q q10
      replace o1i := o1i.q q10
      replace gi := gi.q q10
      replace o1e := o1e.q q10
      have z10 := q10.size
      have cB0 := B0.cell
      have lB0 := B0.lt
      have cBX0 := BX0.cell
      have lBX0 := BX0.lt
      go_wp2_with fail
      clear cB0 lB0
      clear cBX0 lBX0
      clear o1e
      refine (markCourse_any a0x0 a0x1 a0x2 a0x3 a0x4 a0x5 a0x6 a0x7 A0i a0n _ _ a0ms 1 _ o0i (by omega) (by omega) (by omega)).mono ?_
      rintro e w11 ⟨rfl, G11⟩
      have z11 := G11.size
      replace B0 := Blk.markD B0 (by first | exact .inl (by omega) | exact .inr (by omega)) G11
      replace Q0 := Q0.markD (by omega) G11
      replace I0 := ha0.q Q0
      replace I1 := ha1.q Q0
      replace gs := gs.markD (fun a ha => by have := fgs a ha; first | exact .inr (by omega) | exact .inl (by omega)) G11
      replace BX0 := Blk.markD BX0 (by first | exact .inl (by omega) | exact .inr (by omega)) G11
      replace o1i := OwnD.markD o1i (by first | exact .inl (by omega) | exact .inr (by omega)) G11
      replace gi := gi.markD (fun a ha => by have := fgi a ha; first | exact .inr (by omega) | exact .inl (by omega)) G11
      clear o0i
      have cB0 := B0.cell
      have lB0 := B0.lt
      have cBX0 := BX0.cell
      have lBX0 := BX0.lt
      go_wp2_with fail
      clear cB0 lB0
      clear cBX0 lBX0
      refine (markTrackS_any A1i a1n c1i _ _ a1d (1 + (a0n : Int) * 5) _ o1i (by omega) (by omega) (by omega)).mono ?_
      rintro e w12 ⟨rfl, G12⟩
      have z12 := G12.size
      replace B0 := Blk.markD B0 (by first | exact .inl (by omega) | exact .inr (by omega)) G12
      replace Q0 := Q0.markD (by omega) G12
      replace I0 := ha0.q Q0
      replace I1 := ha1.q Q0
      replace gs := gs.markD (fun a ha => by have := fgs a ha; first | exact .inr (by omega) | exact .inl (by omega)) G12
      replace BX0 := Blk.markD BX0 (by first | exact .inl (by omega) | exact .inr (by omega)) G12
      replace gi := gi.markD (fun a ha => by have := fgi a ha; first | exact .inr (by omega) | exact .inl (by omega)) G12
      clear o1i
      have cB0 := B0.cell
      have lB0 := B0.lt
      have cBX0 := BX0.cell
      have lBX0 := BX0.lt
      go_wp2_with fail
      clear cB0 lB0
      clear cBX0 lBX0
      refine (eqFinishS_same Gi Gs n0 di ds L0 _ gi.rd gs.rd HGi.out (by omega)).mono ?_
      rintro e w13 ⟨rfl, q13⟩
      replace B0 := B0.q q13
      replace Q0 := Q0.trans q13
      replace I0 := I0.q q13
      replace I1 := I1.q q13
      replace gs := gs.q q13
      replace BX0 := BX0.q q13
      replace gi := gi.q q13
      have z13 := q13.size
      have cB0 := B0.cell
      have lB0 := B0.lt
      have cBX0 := BX0.cell
      have lBX0 := BX0.lt
      go_wp2_with fail
      clear cB0 lB0
      clear cBX0 lBX0
      refine (markFinishS_any Gi n0 di _ L0 1 _ gi (by omega) (by omega)).mono ?_
      rintro e w14 ⟨rfl, mgi, G14⟩
      have z14 := G14.size
      first | replace B0 := Blk.markU B0 fgi (by omega) G14 | replace B0 := Blk.markU2 B0 fgi (by omega) G14
      replace Q0 := Q0.markU fgi (by omega) G14
      replace I0 := ha0.q Q0
      replace I1 := ha1.q Q0
      replace gs := gs.far G14 (by first | exact far_lt fgs fgi (by omega) | exact (far_lt fgi fgs (by omega)).symm)
      first | replace BX0 := Blk.markU BX0 fgi (by omega) G14 | replace BX0 := Blk.markU2 BX0 fgi (by omega) G14
      replace gi := mgi
      have cB0 := B0.cell
      have lB0 := B0.lt
      have cBX0 := BX0.cell
      have lBX0 := BX0.lt
      go_wp2_with fail
      clear cB0 lB0
      clear cBX0 lBX0
      refine (heldFinishS_any Gi n0 di 1 _ gi.rd (by omega) (by omega)).mono ?_
      rintro e w15 ⟨rfl, q15⟩
      replace B0 := B0.q q15
      replace Q0 := Q0.trans q15
      replace I0 := I0.q q15
      replace I1 := I1.q q15
      replace gs := gs.q q15
      replace BX0 := BX0.q q15
      replace gi := gi.q q15
      have z15 := q15.size
      have cB0 := B0.cell
      have lB0 := B0.lt
      have cBX0 := BX0.cell
      have lBX0 := BX0.lt
      go_wp2_with fail
      clear cB0 lB0
      clear cBX0 lBX0
      refine (toCourse_own a0x0 a0x1 a0x2 a0x3 a0x4 a0x5 a0x6 a0x7 a0A a0n a0c a0ms _ I0 HL0.out (by omega)).mono ?_
      rintro e w16 ⟨A0h, rfl, o0h, q16⟩
      replace B0 := B0.q q16
      replace Q0 := Q0.trans q16
      replace I0 := I0.q q16
      replace I1 := I1.q q16
      replace gs := gs.q q16
      replace BX0 := BX0.q q16
      replace gi := gi.q q16
      have z16 := q16.size
      have fo0h := o0h.from
      have cB0 := B0.cell
      have lB0 := B0.lt
      have cBX0 := BX0.cell
      have lBX0 := BX0.lt
      go_wp2_with fail
      clear cB0 lB0
      clear cBX0 lBX0
      refine (toTrackS_any a1A a1n a1c a1d _ I1 HL1.out (by omega) (by omega)).mono ?_
      rintro e w17 ⟨A1h, c1h, rfl, o1h, q17⟩
      replace B0 := B0.q q17
      replace Q0 := Q0.trans q17
      replace I0 := I0.q q17
      replace I1 := I1.q q17
      replace gs := gs.q q17
      replace BX0 := BX0.q q17
      replace gi := gi.q q17
      replace o0h := o0h.q q17
      have z17 := q17.size
      have fo1h := o1h.from
      have cB0 := B0.cell
      have lB0 := B0.lt
      have cBX0 := BX0.cell
      have lBX0 := BX0.lt
      go_wp2_with fail
      clear cB0 lB0
      clear cBX0 lBX0
      refine (K1.out A0h a0n A1h c1h _ o0h.rd HL0.out (Nat.le_refl _) (by omega) o1h.rd HL1.out (by omega) ).mono ?_
      rintro e w18 ⟨Gh, dh, rfl, gh, q18⟩
      replace B0 := B0.q q18
      replace Q0 := Q0.trans q18
      replace I0 := I0.q q18
      replace I1 := I1.q q18
      replace gs := gs.q q18
      replace BX0 := BX0.q q18
      replace gi := gi.q q18
      replace o0h := o0h.q q18
      replace o1h := o1h.q q18
      have z18 := q18.size
      have fgh := gh.from
      have HGh := Lib.hid (show L0.length = n0 * 3 by simpa using gh.1)
      have cB0 := B0.cell
      have lB0 := B0.lt
      have cBX0 := BX0.cell
      have lBX0 := BX0.lt
      go_wp2_with fail
      clear cB0 lB0
      clear cBX0 lBX0
      refine (eqFinishS_same Gh Gs n0 dh ds L0 _ gh.rd gs.rd HGh.out (by omega)).mono ?_
      rintro e w19 ⟨rfl, q19⟩
      replace B0 := B0.q q19
      replace Q0 := Q0.trans q19
      replace I0 := I0.q q19
      replace I1 := I1.q q19
      replace gs := gs.q q19
      replace BX0 := BX0.q q19
      replace gi := gi.q q19
      replace o0h := o0h.q q19
      replace o1h := o1h.q q19
      replace gh := gh.q q19
      have z19 := q19.size
      have cB0 := B0.cell
      have lB0 := B0.lt
      have cBX0 := BX0.cell
      have lBX0 := BX0.lt
      go_wp2_with fail
      clear cB0 lB0
      clear cBX0 lBX0
      refine (heldFinishS_any Gi n0 di 1 _ gi.rd (by omega) (by omega)).mono ?_
      rintro e w20 ⟨rfl, q20⟩
      replace B0 := B0.q q20
      replace Q0 := Q0.trans q20
      replace I0 := I0.q q20
      replace I1 := I1.q q20
      replace gs := gs.q q20
      replace BX0 := BX0.q q20
      replace gi := gi.q q20
      replace o0h := o0h.q q20
      replace o1h := o1h.q q20
      replace gh := gh.q q20
      have z20 := q20.size
      have cB0 := B0.cell
      have lB0 := B0.lt
      have cBX0 := BX0.cell
      have lBX0 := BX0.lt
      go_wp2_with fail
      clear cB0 lB0
      clear cBX0 lBX0
      go_ret
      exact ⟨rfl, Q0⟩
end Go.Proofs.YtomgdgdcpgeilaaGreatDoor
