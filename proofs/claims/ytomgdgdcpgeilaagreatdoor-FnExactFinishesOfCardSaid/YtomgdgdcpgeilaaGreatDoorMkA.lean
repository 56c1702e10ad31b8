/- Walks: marks, as the program and the reference tell whether they are valid. No condition. -/
import Derived.Test.YtomgdgdcpgeilaaGreatDoorMkN
import Derived.Test.YtomgdgdcpgeilaaGreatDoorTrk
namespace Go.Proofs.YtomgdgdcpgeilaaGreatDoor
open Go.RowKit Go.WideShapes Go.ChangeShapes
/-- A mark: name, place, side, zone. -/
structure Mk where
  nm : ByteArray
  x : Int
  y : Int
  sd : Int
  zn : Int
def Mk.val (m : Mk) : List Value := [.string m.nm, .int .i64 m.x, .int .i64 m.y, .int .i64 m.sd, .int .i64 m.zn]
def Mk.agg (m : Mk) : Value := .agg #[.string m.nm, .int .i64 m.x, .int .i64 m.y, .int .i64 m.sd, .int .i64 m.zn]
def mkB (m : Mk) : Bool := nmB m.nm && (ptB m.x m.y && (inR m.sd 1 2 && inR m.zn 1 5000))
set_option maxHeartbeats 1000000 in
theorem impl_isMark (m : Mk) (hs : m.nm.size ≤ maxLen) (w : World) : Calls Tryz.prog 82 #[.agg #[.string m.nm, .int .i64 m.x, .int .i64 m.y, .int .i64 m.sd, .int .i64 m.zn]] w fun e w' => e = .returned (.bool (mkB m)) ∧ Q w w' := by
  have K1 := Lib.hid (fun wv => impl_isMarkName m.nm hs wv)
  have K2 := Lib.hid (fun wv => impl_IsPoint m.x m.y wv)
  have K3 := Lib.hid (fun wv => impl_inR m.sd 1 2 wv)
  have K4 := Lib.hid (fun wv => impl_inR m.zn 1 5000 wv)
  have HB := Lib.hid (show mkB m = (nmB m.nm && (ptB m.x m.y && (inR m.sd 1 2 && inR m.zn 1 5000))) from rfl)
  have B0 := Blk.new w 120 #[.string m.nm, .int .i64 m.x, .int .i64 m.y, .int .i64 m.sd, .int .i64 m.zn]
  have Q0 : Q w (w.alloc (.cells #[.string m.nm, .int .i64 m.x, .int .i64 m.y, .int .i64 m.sd, .int .i64 m.zn] 120)) := by (repeat (first | assumption | exact Q.refl _ | refine Q.alloc ?_ _ | refine Q.drewN ?_ _ | refine Q.drew ?_))
  generalize mkB m = R at *
  generalize nmB m.nm = r1 at *
  generalize ptB m.x m.y = r2 at *
  generalize inR m.sd 1 2 = r3 at *
  generalize inR m.zn 1 5000 = r4 at *
  clear hs
  cases r1
  · go_enter Tryz.func82, Tryz.ntmps82
    go_wp2_with fail
    refine (K1.out _).mono ?_
    rintro e1 w1 ⟨rfl, q1⟩
    replace B0 := B0.q q1
    replace Q0 := Q0.trans q1
    go_wp2_with fail
    go_ret
    exact ⟨ret_bool (by rw [HB.out]; rfl), Q0⟩
  · cases r2
    · go_enter Tryz.func82, Tryz.ntmps82
      go_wp2_with fail
      refine (K1.out _).mono ?_
      rintro e1 w1 ⟨rfl, q1⟩
      replace B0 := B0.q q1
      replace Q0 := Q0.trans q1
      have c0 := B0.cell
      have l0 := B0.lt
      go_wp2_with fail
      refine (K2.out _).mono ?_
      rintro e2 w2 ⟨rfl, q2⟩
      replace B0 := B0.q q2
      replace Q0 := Q0.trans q2
      clear c0 l0
      go_wp2_with fail
      go_ret
      exact ⟨ret_bool (by rw [HB.out]; rfl), Q0⟩
    · cases r3
      · go_enter Tryz.func82, Tryz.ntmps82
        go_wp2_with fail
        refine (K1.out _).mono ?_
        rintro e1 w1 ⟨rfl, q1⟩
        replace B0 := B0.q q1
        replace Q0 := Q0.trans q1
        have c0 := B0.cell
        have l0 := B0.lt
        go_wp2_with fail
        refine (K2.out _).mono ?_
        rintro e2 w2 ⟨rfl, q2⟩
        replace B0 := B0.q q2
        replace Q0 := Q0.trans q2
        clear c0 l0
        have c0 := B0.cell
        have l0 := B0.lt
        go_wp2_with fail
        refine (K3.out _).mono ?_
        rintro e3 w3 ⟨rfl, rfl⟩
        go_wp2_with fail
        go_ret
        exact ⟨ret_bool (by rw [HB.out]; rfl), Q0⟩
      · go_enter Tryz.func82, Tryz.ntmps82
        go_wp2_with fail
        refine (K1.out _).mono ?_
        rintro e1 w1 ⟨rfl, q1⟩
        replace B0 := B0.q q1
        replace Q0 := Q0.trans q1
        have c0 := B0.cell
        have l0 := B0.lt
        go_wp2_with fail
        refine (K2.out _).mono ?_
        rintro e2 w2 ⟨rfl, q2⟩
        replace B0 := B0.q q2
        replace Q0 := Q0.trans q2
        clear c0 l0
        have c0 := B0.cell
        have l0 := B0.lt
        go_wp2_with fail
        refine (K3.out _).mono ?_
        rintro e3 w3 ⟨rfl, rfl⟩
        go_wp2_with fail
        refine (K4.out _).mono ?_
        rintro e4 w4 ⟨rfl, rfl⟩
        go_wp2_with fail
        go_ret
        exact ⟨ret_bool (by rw [HB.out]; simp), Q0⟩
set_option maxHeartbeats 1000000 in
theorem spec_isMark (m : Mk) (hs : m.nm.size ≤ maxLen) (w : World) : Calls Tryz.prog 91 #[.agg #[.string m.nm, .int .i64 m.x, .int .i64 m.y, .int .i64 m.sd, .int .i64 m.zn]] w fun e w' => e = .returned (.bool (mkB m)) ∧ Q w w' := by
  have K1 := Lib.hid (fun wv => spec_Name m.nm hs wv)
  have K2 := Lib.hid (fun wv => spec_IsPoint m.x m.y wv)
  have K3 := Lib.hid (fun wv => spec_inR m.sd 1 2 wv)
  have K4 := Lib.hid (fun wv => spec_inR m.zn 1 5000 wv)
  have HB := Lib.hid (show mkB m = (nmB m.nm && (ptB m.x m.y && (inR m.sd 1 2 && inR m.zn 1 5000))) from rfl)
  have B0 := Blk.new w 120 #[.string m.nm, .int .i64 m.x, .int .i64 m.y, .int .i64 m.sd, .int .i64 m.zn]
  have Q0 : Q w (w.alloc (.cells #[.string m.nm, .int .i64 m.x, .int .i64 m.y, .int .i64 m.sd, .int .i64 m.zn] 120)) := by (repeat (first | assumption | exact Q.refl _ | refine Q.alloc ?_ _ | refine Q.drewN ?_ _ | refine Q.drew ?_))
  generalize mkB m = R at *
  generalize nmB m.nm = r1 at *
  generalize ptB m.x m.y = r2 at *
  generalize inR m.sd 1 2 = r3 at *
  generalize inR m.zn 1 5000 = r4 at *
  clear hs
  cases r1
  · go_enter Tryz.func91, Tryz.ntmps91
    go_wp2_with fail
    refine (K1.out _).mono ?_
    rintro e1 w1 ⟨rfl, q1⟩
    replace B0 := B0.q q1
    replace Q0 := Q0.trans q1
    go_wp2_with fail
    go_ret
    exact ⟨ret_bool (by rw [HB.out]; rfl), Q0⟩
  · cases r2
    · go_enter Tryz.func91, Tryz.ntmps91
      go_wp2_with fail
      refine (K1.out _).mono ?_
      rintro e1 w1 ⟨rfl, q1⟩
      replace B0 := B0.q q1
      replace Q0 := Q0.trans q1
      have c0 := B0.cell
      have l0 := B0.lt
      go_wp2_with fail
      refine (K2.out _).mono ?_
      rintro e2 w2 ⟨rfl, q2⟩
      replace B0 := B0.q q2
      replace Q0 := Q0.trans q2
      clear c0 l0
      go_wp2_with fail
      go_ret
      exact ⟨ret_bool (by rw [HB.out]; rfl), Q0⟩
    · cases r3
      · go_enter Tryz.func91, Tryz.ntmps91
        go_wp2_with fail
        refine (K1.out _).mono ?_
        rintro e1 w1 ⟨rfl, q1⟩
        replace B0 := B0.q q1
        replace Q0 := Q0.trans q1
        have c0 := B0.cell
        have l0 := B0.lt
        go_wp2_with fail
        refine (K2.out _).mono ?_
        rintro e2 w2 ⟨rfl, q2⟩
        replace B0 := B0.q q2
        replace Q0 := Q0.trans q2
        clear c0 l0
        have c0 := B0.cell
        have l0 := B0.lt
        go_wp2_with fail
        refine (K3.out _).mono ?_
        rintro e3 w3 ⟨rfl, rfl⟩
        go_wp2_with fail
        go_ret
        exact ⟨ret_bool (by rw [HB.out]; rfl), Q0⟩
      · go_enter Tryz.func91, Tryz.ntmps91
        go_wp2_with fail
        refine (K1.out _).mono ?_
        rintro e1 w1 ⟨rfl, q1⟩
        replace B0 := B0.q q1
        replace Q0 := Q0.trans q1
        have c0 := B0.cell
        have l0 := B0.lt
        go_wp2_with fail
        refine (K2.out _).mono ?_
        rintro e2 w2 ⟨rfl, q2⟩
        replace B0 := B0.q q2
        replace Q0 := Q0.trans q2
        clear c0 l0
        have c0 := B0.cell
        have l0 := B0.lt
        go_wp2_with fail
        refine (K3.out _).mono ?_
        rintro e3 w3 ⟨rfl, rfl⟩
        go_wp2_with fail
        refine (K4.out _).mono ?_
        rintro e4 w4 ⟨rfl, rfl⟩
        go_wp2_with fail
        go_ret
        exact ⟨ret_bool (by rw [HB.out]; simp), Q0⟩
end Go.Proofs.YtomgdgdcpgeilaaGreatDoor
