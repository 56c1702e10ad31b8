/- Walks: the ruling for two tracks at a time, as the program and the reference tell it, where both hulls are known. No condition. -/
import Derived.Test.YtkpdoikjfibflaaGreatDoorUmH
import Derived.Test.YtkpdoikjfibflaaGreatDoorUmE
import Derived.Test.YtkpdoikjfibflaaGreatDoorNrO
namespace Go.Proofs.YtkpdoikjfibflaaGreatDoor
open Go.RowKit Go.WideShapes Go.ChangeShapes
theorem bxA (w : World) (wx wy : Int) (A1 : Option Addr) (n c1 : Nat) (A2 : Option Addr) (m c2 : Nat) :
    Blk ((((w.alloc (.cells #[.int .i64 wx, .int .i64 wy] 25)).alloc (.cells #[.slice A1 n c1] 37)).alloc (.cells #[.slice A2 m c2] 37)).alloc (.cells #[.int .i64 0, .int .i64 0] 73)) w.heap.size 25 #[.int .i64 wx, .int .i64 wy] ∧ Blk ((((w.alloc (.cells #[.int .i64 wx, .int .i64 wy] 25)).alloc (.cells #[.slice A1 n c1] 37)).alloc (.cells #[.slice A2 m c2] 37)).alloc (.cells #[.int .i64 0, .int .i64 0] 73)) (w.heap.size + 1) 37 #[.slice A1 n c1] ∧ Blk ((((w.alloc (.cells #[.int .i64 wx, .int .i64 wy] 25)).alloc (.cells #[.slice A1 n c1] 37)).alloc (.cells #[.slice A2 m c2] 37)).alloc (.cells #[.int .i64 0, .int .i64 0] 73)) (w.heap.size + 1 + 1) 37 #[.slice A2 m c2] ∧ Blk ((((w.alloc (.cells #[.int .i64 wx, .int .i64 wy] 25)).alloc (.cells #[.slice A1 n c1] 37)).alloc (.cells #[.slice A2 m c2] 37)).alloc (.cells #[.int .i64 0, .int .i64 0] 73)) (w.heap.size + 1 + 1 + 1) 73 #[.int .i64 0, .int .i64 0] :=
  ⟨(((Blk.new _ _ _).alloc _).alloc _).alloc _, by simpa using ((Blk.new (w.alloc (.cells #[.int .i64 wx, .int .i64 wy] 25)) 37 #[.slice A1 n c1]).alloc (.cells #[.slice A2 m c2] 37)).alloc (.cells #[.int .i64 0, .int .i64 0] 73),
    by simpa using (Blk.new ((w.alloc (.cells #[.int .i64 wx, .int .i64 wy] 25)).alloc (.cells #[.slice A1 n c1] 37)) 37 #[.slice A2 m c2]).alloc (.cells #[.int .i64 0, .int .i64 0] 73), by simpa using Blk.new (((w.alloc (.cells #[.int .i64 wx, .int .i64 wy] 25)).alloc (.cells #[.slice A1 n c1] 37)).alloc (.cells #[.slice A2 m c2] 37)) 73 #[.int .i64 0, .int .i64 0]⟩
set_option maxHeartbeats 2000000 in
theorem impl_RuleAt1 (wx wy : Int) (A1 : Option Addr) (n c1 : Nat) (xs : List Int) (A2 : Option Addr) (m c2 : Nat) (ys : List Int) (t l sp : Int) (w : World) (hw : wnd wx wy) (hwn : wnB wx wy = true) (ha : Rd w A1 xs) (hn : xs.length = n * 3) (h1 : isTrk xs n = true) (hb : Rd w A2 ys) (hm : ys.length = m * 3) (h2 : isTrk ys m = true)
    (z1 : hdC xs n t = 0) (z2 : hdC ys m t = 0) (hl : 1 ≤ l ∧ l ≤ 1000) (hs : 0 ≤ sp ∧ sp ≤ 60000) :
    Calls Tryz.prog 40 #[.agg #[.int .i64 wx, .int .i64 wy], .agg #[.slice A1 n c1], .agg #[.slice A2 m c2], .int .i64 t, .int .i64 l, .int .i64 sp] w fun e w' => e = .returned (.tuple #[.agg #[.int .i64 (ruT wx wy l sp xs n ys m t).1, .int .i64 (ruT wx wy l sp xs n ys m t).2], .int .i64 0]) ∧ Q w w' := by
  have K1 := Lib.hid (fun wv (h : Rd wv A1 xs) => impl_BoatAt1 wx wy A1 n c1 xs t l sp wv hw h hn h1 hwn z1 hl hs)
  have K2 := Lib.hid (fun wv (h : Rd wv A2 ys) => impl_BoatAt1 wx wy A2 m c2 ys t l sp wv hw h hm h2 hwn z2 hl hs)
  have K3 := Lib.hid (fun wv => impl_rule wx wy (atX xs n t) (atY xs n t) (hdX xs n t) (hdY xs n t) l (tuB wx wy xs n t sp) (atX ys m t) (atY ys m t) (hdX ys m t) (hdY ys m t) l (tuB wx wy ys m t sp) wv hw (hd_ok h1 z1).1 (hd_ok h1 z1).2 hl (hd_ok h2 z2).1 (hd_ok h2 z2).2 hl (ruT wx wy l sp xs n ys m t).1 (ruT wx wy l sp xs n ys m t).2 rfl)
  obtain ⟨B0, B1, B2, B3⟩ := bxA w wx wy A1 n c1 A2 m c2
  have Q0 : Q w ((((w.alloc (.cells #[.int .i64 wx, .int .i64 wy] 25)).alloc (.cells #[.slice A1 n c1] 37)).alloc (.cells #[.slice A2 m c2] 37)).alloc (.cells #[.int .i64 0, .int .i64 0] 73)) := by (repeat (first | assumption | exact Q.refl _ | refine Q.alloc ?_ _ | refine Q.drewN ?_ _ | refine Q.drew ?_))
  clear hw hwn hn h1 hm h2 z1 z2 hl hs
  generalize (ruT wx wy l sp xs n ys m t).1 = R1 at *
  generalize (ruT wx wy l sp xs n ys m t).2 = R2 at *
  generalize tuB wx wy xs n t sp = ta at *
  generalize tuB wx wy ys m t sp = tb at *
  generalize atX xs n t = p1 at *
  generalize atY xs n t = p2 at *
  generalize hdX xs n t = p3 at *
  generalize hdY xs n t = p4 at *
  generalize atX ys m t = r1 at *
  generalize atY ys m t = r2 at *
  generalize hdX ys m t = r3 at *
  generalize hdY ys m t = r4 at *
  go_enter Tryz.func40, Tryz.ntmps40
  go_wp2_with fail
  refine (K1.out _ (ha.q Q0)).mono ?_
  rintro e1 w1 ⟨rfl, q1⟩
  have Q1 := Q0.trans q1
  replace B0 := B0.q q1
  replace B2 := B2.q q1
  replace B3 := B3.q q1
  have c0 := B0.cell
  have c2 := B2.cell
  have l0 := B0.lt
  have l2 := B2.lt
  have l3 := B3.lt
  clear q1 B1 Q0 K1
  go_wp2_with fail
  refine (K2.out _ (hb.q (Q1.trans ((Q.refl w1).alloc _)))).mono ?_
  rintro e2 w2 ⟨rfl, q2⟩
  have BA := q2.boxB
  have Q2 := (Q1.trans ((Q.refl w1).alloc _)).trans q2
  replace B0 := (B0.alloc _).q q2
  replace B3 := (B3.alloc _).q q2
  clear c0 c2 l0 l2 l3 B2 Q1 K2
  have c0 := B0.cell
  have l0 := B0.lt
  have l3 := B3.lt
  have cA := BA.cell
  have lA := BA.lt
  go_wp2_with fail
  refine (K3.out _).mono ?_
  rintro e3 w3 ⟨rfl, q3⟩
  have Q3 := (Q2.trans ((Q.refl w2).alloc _)).trans q3
  replace B3 := (B3.alloc _).q q3
  clear c0 l0 l3 cA lA q2 q3
  have c3 := B3.cell
  have f3 := B3.frozen
  have l3 := B3.lt
  go_wp2_with fail
  have F := ((B3.set_ 0 (.int .i64 R1)).set_ 1 (.int .i64 R2)).cell
  exact bodyPost_ret (v := .tuple #[.agg #[.int .i64 R1, .int .i64 R2], .int .i64 0]) (by simp [results, Tryz.results40, go_sem, F]) rfl ⟨rfl, (Q3.setCell (by simp; omega) _).setCell (by simp; omega) _⟩
set_option maxHeartbeats 2000000 in
theorem spec_RuleAt1 (wx wy : Int) (A1 : Option Addr) (n c1 : Nat) (xs : List Int) (A2 : Option Addr) (m c2 : Nat) (ys : List Int) (t l sp : Int) (w : World) (hw : wnd wx wy) (hwn : wnB wx wy = true) (ha : Rd w A1 xs) (hn : xs.length = n * 3) (h1 : isTrk xs n = true) (hb : Rd w A2 ys) (hm : ys.length = m * 3) (h2 : isTrk ys m = true)
    (z1 : hdC xs n t = 0) (z2 : hdC ys m t = 0) (hl : 1 ≤ l ∧ l ≤ 1000) (hs : 0 ≤ sp ∧ sp ≤ 60000) :
    Calls Tryz.prog 46 #[.agg #[.int .i64 wx, .int .i64 wy], .agg #[.slice A1 n c1], .agg #[.slice A2 m c2], .int .i64 t, .int .i64 l, .int .i64 sp] w fun e w' => e = .returned (.tuple #[.agg #[.int .i64 (ruT wx wy l sp xs n ys m t).1, .int .i64 (ruT wx wy l sp xs n ys m t).2], .int .i64 0]) ∧ Q w w' := by
  have K1 := Lib.hid (fun wv (h : Rd wv A1 xs) => spec_BoatAt1 wx wy A1 n c1 xs t l sp wv hw h hn h1 hwn z1 hl hs)
  have K2 := Lib.hid (fun wv (h : Rd wv A2 ys) => spec_BoatAt1 wx wy A2 m c2 ys t l sp wv hw h hm h2 hwn z2 hl hs)
  have K3 := Lib.hid (fun wv => spec_rule wx wy (atX xs n t) (atY xs n t) (hdX xs n t) (hdY xs n t) l (tuB wx wy xs n t sp) (atX ys m t) (atY ys m t) (hdX ys m t) (hdY ys m t) l (tuB wx wy ys m t sp) wv hw (hd_ok h1 z1).1 (hd_ok h1 z1).2 hl (hd_ok h2 z2).1 (hd_ok h2 z2).2 hl (ruT wx wy l sp xs n ys m t).1 (ruT wx wy l sp xs n ys m t).2 rfl)
  obtain ⟨B0, B1, B2, B3⟩ := bxA w wx wy A1 n c1 A2 m c2
  have Q0 : Q w ((((w.alloc (.cells #[.int .i64 wx, .int .i64 wy] 25)).alloc (.cells #[.slice A1 n c1] 37)).alloc (.cells #[.slice A2 m c2] 37)).alloc (.cells #[.int .i64 0, .int .i64 0] 73)) := by (repeat (first | assumption | exact Q.refl _ | refine Q.alloc ?_ _ | refine Q.drewN ?_ _ | refine Q.drew ?_))
  clear hw hwn hn h1 hm h2 z1 z2 hl hs
  generalize (ruT wx wy l sp xs n ys m t).1 = R1 at *
  generalize (ruT wx wy l sp xs n ys m t).2 = R2 at *
  generalize tuB wx wy xs n t sp = ta at *
  generalize tuB wx wy ys m t sp = tb at *
  generalize atX xs n t = p1 at *
  generalize atY xs n t = p2 at *
  generalize hdX xs n t = p3 at *
  generalize hdY xs n t = p4 at *
  generalize atX ys m t = r1 at *
  generalize atY ys m t = r2 at *
  generalize hdX ys m t = r3 at *
  generalize hdY ys m t = r4 at *
  go_enter Tryz.func46, Tryz.ntmps46
  go_wp2_with fail
  refine (K1.out _ (ha.q Q0)).mono ?_
  rintro e1 w1 ⟨rfl, q1⟩
  have Q1 := Q0.trans q1
  replace B0 := B0.q q1
  replace B2 := B2.q q1
  replace B3 := B3.q q1
  have c0 := B0.cell
  have c2 := B2.cell
  have l0 := B0.lt
  have l2 := B2.lt
  have l3 := B3.lt
  clear q1 B1 Q0 K1
  go_wp2_with fail
  refine (K2.out _ (hb.q (Q1.trans ((Q.refl w1).alloc _)))).mono ?_
  rintro e2 w2 ⟨rfl, q2⟩
  have BA := q2.boxB
  have Q2 := (Q1.trans ((Q.refl w1).alloc _)).trans q2
  replace B0 := (B0.alloc _).q q2
  replace B3 := (B3.alloc _).q q2
  clear c0 c2 l0 l2 l3 B2 Q1 K2
  have c0 := B0.cell
  have l0 := B0.lt
  have l3 := B3.lt
  have cA := BA.cell
  have lA := BA.lt
  go_wp2_with fail
  refine (K3.out _).mono ?_
  rintro e3 w3 ⟨rfl, q3⟩
  have Q3 := (Q2.trans ((Q.refl w2).alloc _)).trans q3
  replace B3 := (B3.alloc _).q q3
  clear c0 l0 l3 cA lA q2 q3
  have c3 := B3.cell
  have f3 := B3.frozen
  have l3 := B3.lt
  go_wp2_with fail
  have F := ((B3.set_ 0 (.int .i64 R1)).set_ 1 (.int .i64 R2)).cell
  exact bodyPost_ret (v := .tuple #[.agg #[.int .i64 R1, .int .i64 R2], .int .i64 0]) (by simp [results, Tryz.results46, go_sem, F]) rfl ⟨rfl, (Q3.setCell (by simp; omega) _).setCell (by simp; omega) _⟩
end Go.Proofs.YtkpdoikjfibflaaGreatDoor
