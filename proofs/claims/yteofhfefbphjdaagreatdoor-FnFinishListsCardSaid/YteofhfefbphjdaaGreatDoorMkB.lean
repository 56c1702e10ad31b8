/- Walks: marks, as the program and the reference tell whether they are valid. No condition. Walks: the mark with a name, as the program and the reference find it. No condition. -/
import Derived.Test.YteofhfefbphjdaaGreatDoorMkN
import Derived.Test.YteofhfefbphjdaaGreatDoorTrk
namespace Go.Proofs.YteofhfefbphjdaaGreatDoor
open Go.RowKit Go.WideShapes Go.ChangeShapes
/-- A mark: name, place, side, zone. -/
structure Mk where
  nm : ByteArray
  x : Int
  y : Int
  sd : Int
  zn : Int
def Mk.val (m : Mk) : List Value := [.string m.nm, .int .i64 m.x, .int .i64 m.y, .int .i64 m.sd, .int .i64 m.zn]
def Mk.agg (m : Mk) : Value := .agg #[.string m.nm, .int .i64 m.x, .int .i64 m.y, .int .i64 m.sd, .int .i64 m.zn]
def mkB (m : Mk) : Bool := nmB m.nm && (ptB m.x m.y && (inR m.sd 1 2 && inR m.zn 1 5000))
set_option maxHeartbeats 1000000 in
theorem impl_isMark (m : Mk) (hs : m.nm.size ≤ maxLen) (w : World) : Calls Tryz.prog 47 #[.agg #[.string m.nm, .int .i64 m.x, .int .i64 m.y, .int .i64 m.sd, .int .i64 m.zn]] w fun e w' => e = .returned (.bool (mkB m)) ∧ Q w w' := by
  have K1 := Lib.hid (fun wv => impl_isMarkName m.nm hs wv)
  have K2 := Lib.hid (fun wv => impl_IsPoint m.x m.y wv)
  have K3 := Lib.hid (fun wv => impl_inR m.sd 1 2 wv)
  have K4 := Lib.hid (fun wv => impl_inR m.zn 1 5000 wv)
  have HB := Lib.hid (show mkB m = (nmB m.nm && (ptB m.x m.y && (inR m.sd 1 2 && inR m.zn 1 5000))) from rfl)
  have B0 := Blk.new w 85 #[.string m.nm, .int .i64 m.x, .int .i64 m.y, .int .i64 m.sd, .int .i64 m.zn]
  have Q0 : Q w (w.alloc (.cells #[.string m.nm, .int .i64 m.x, .int .i64 m.y, .int .i64 m.sd, .int .i64 m.zn] 85)) := by (repeat (first | assumption | exact Q.refl _ | refine Q.alloc ?_ _ | refine Q.drewN ?_ _ | refine Q.drew ?_))
  generalize mkB m = R at *
  generalize nmB m.nm = r1 at *
  generalize ptB m.x m.y = r2 at *
  generalize inR m.sd 1 2 = r3 at *
  generalize inR m.zn 1 5000 = r4 at *
  clear hs
  cases r1
  · go_enter Tryz.func47, Tryz.ntmps47
    go_wp2_with fail
    refine (K1.out _).mono ?_
    rintro e1 w1 ⟨rfl, q1⟩
    replace B0 := B0.q q1
    replace Q0 := Q0.trans q1
    go_wp2_with fail
    go_ret
    exact ⟨ret_bool (by rw [HB.out]; rfl), Q0⟩
  · cases r2
    · go_enter Tryz.func47, Tryz.ntmps47
      go_wp2_with fail
      refine (K1.out _).mono ?_
      rintro e1 w1 ⟨rfl, q1⟩
      replace B0 := B0.q q1
      replace Q0 := Q0.trans q1
      have c0 := B0.cell
      have l0 := B0.lt
      go_wp2_with fail
      refine (K2.out _).mono ?_
      rintro e2 w2 ⟨rfl, q2⟩
      replace B0 := B0.q q2
      replace Q0 := Q0.trans q2
      clear c0 l0
      go_wp2_with fail
      go_ret
      exact ⟨ret_bool (by rw [HB.out]; rfl), Q0⟩
    · cases r3
      · go_enter Tryz.func47, Tryz.ntmps47
        go_wp2_with fail
        refine (K1.out _).mono ?_
        rintro e1 w1 ⟨rfl, q1⟩
        replace B0 := B0.q q1
        replace Q0 := Q0.trans q1
        have c0 := B0.cell
        have l0 := B0.lt
        go_wp2_with fail
        refine (K2.out _).mono ?_
        rintro e2 w2 ⟨rfl, q2⟩
        replace B0 := B0.q q2
        replace Q0 := Q0.trans q2
        clear c0 l0
        have c0 := B0.cell
        have l0 := B0.lt
        go_wp2_with fail
        refine (K3.out _).mono ?_
        rintro e3 w3 ⟨rfl, rfl⟩
        go_wp2_with fail
        go_ret
        exact ⟨ret_bool (by rw [HB.out]; rfl), Q0⟩
      · go_enter Tryz.func47, Tryz.ntmps47
        go_wp2_with fail
        refine (K1.out _).mono ?_
        rintro e1 w1 ⟨rfl, q1⟩
        replace B0 := B0.q q1
        replace Q0 := Q0.trans q1
        have c0 := B0.cell
        have l0 := B0.lt
        go_wp2_with fail
        refine (K2.out _).mono ?_
        rintro e2 w2 ⟨rfl, q2⟩
        replace B0 := B0.q q2
        replace Q0 := Q0.trans q2
        clear c0 l0
        have c0 := B0.cell
        have l0 := B0.lt
        go_wp2_with fail
        refine (K3.out _).mono ?_
        rintro e3 w3 ⟨rfl, rfl⟩
        go_wp2_with fail
        refine (K4.out _).mono ?_
        rintro e4 w4 ⟨rfl, rfl⟩
        go_wp2_with fail
        go_ret
        exact ⟨ret_bool (by rw [HB.out]; simp), Q0⟩
set_option maxHeartbeats 1000000 in
theorem spec_isMark (m : Mk) (hs : m.nm.size ≤ maxLen) (w : World) : Calls Tryz.prog 35 #[.agg #[.string m.nm, .int .i64 m.x, .int .i64 m.y, .int .i64 m.sd, .int .i64 m.zn]] w fun e w' => e = .returned (.bool (mkB m)) ∧ Q w w' := by
  have K1 := Lib.hid (fun wv => spec_Name m.nm hs wv)
  have K2 := Lib.hid (fun wv => spec_IsPoint m.x m.y wv)
  have K3 := Lib.hid (fun wv => spec_inR m.sd 1 2 wv)
  have K4 := Lib.hid (fun wv => spec_inR m.zn 1 5000 wv)
  have HB := Lib.hid (show mkB m = (nmB m.nm && (ptB m.x m.y && (inR m.sd 1 2 && inR m.zn 1 5000))) from rfl)
  have B0 := Blk.new w 85 #[.string m.nm, .int .i64 m.x, .int .i64 m.y, .int .i64 m.sd, .int .i64 m.zn]
  have Q0 : Q w (w.alloc (.cells #[.string m.nm, .int .i64 m.x, .int .i64 m.y, .int .i64 m.sd, .int .i64 m.zn] 85)) := by (repeat (first | assumption | exact Q.refl _ | refine Q.alloc ?_ _ | refine Q.drewN ?_ _ | refine Q.drew ?_))
  generalize mkB m = R at *
  generalize nmB m.nm = r1 at *
  generalize ptB m.x m.y = r2 at *
  generalize inR m.sd 1 2 = r3 at *
  generalize inR m.zn 1 5000 = r4 at *
  clear hs
  cases r1
  · go_enter Tryz.func35, Tryz.ntmps35
    go_wp2_with fail
    refine (K1.out _).mono ?_
    rintro e1 w1 ⟨rfl, q1⟩
    replace B0 := B0.q q1
    replace Q0 := Q0.trans q1
    go_wp2_with fail
    go_ret
    exact ⟨ret_bool (by rw [HB.out]; rfl), Q0⟩
  · cases r2
    · go_enter Tryz.func35, Tryz.ntmps35
      go_wp2_with fail
      refine (K1.out _).mono ?_
      rintro e1 w1 ⟨rfl, q1⟩
      replace B0 := B0.q q1
      replace Q0 := Q0.trans q1
      have c0 := B0.cell
      have l0 := B0.lt
      go_wp2_with fail
      refine (K2.out _).mono ?_
      rintro e2 w2 ⟨rfl, q2⟩
      replace B0 := B0.q q2
      replace Q0 := Q0.trans q2
      clear c0 l0
      go_wp2_with fail
      go_ret
      exact ⟨ret_bool (by rw [HB.out]; rfl), Q0⟩
    · cases r3
      · go_enter Tryz.func35, Tryz.ntmps35
        go_wp2_with fail
        refine (K1.out _).mono ?_
        rintro e1 w1 ⟨rfl, q1⟩
        replace B0 := B0.q q1
        replace Q0 := Q0.trans q1
        have c0 := B0.cell
        have l0 := B0.lt
        go_wp2_with fail
        refine (K2.out _).mono ?_
        rintro e2 w2 ⟨rfl, q2⟩
        replace B0 := B0.q q2
        replace Q0 := Q0.trans q2
        clear c0 l0
        have c0 := B0.cell
        have l0 := B0.lt
        go_wp2_with fail
        refine (K3.out _).mono ?_
        rintro e3 w3 ⟨rfl, rfl⟩
        go_wp2_with fail
        go_ret
        exact ⟨ret_bool (by rw [HB.out]; rfl), Q0⟩
      · go_enter Tryz.func35, Tryz.ntmps35
        go_wp2_with fail
        refine (K1.out _).mono ?_
        rintro e1 w1 ⟨rfl, q1⟩
        replace B0 := B0.q q1
        replace Q0 := Q0.trans q1
        have c0 := B0.cell
        have l0 := B0.lt
        go_wp2_with fail
        refine (K2.out _).mono ?_
        rintro e2 w2 ⟨rfl, q2⟩
        replace B0 := B0.q q2
        replace Q0 := Q0.trans q2
        clear c0 l0
        have c0 := B0.cell
        have l0 := B0.lt
        go_wp2_with fail
        refine (K3.out _).mono ?_
        rintro e3 w3 ⟨rfl, rfl⟩
        go_wp2_with fail
        refine (K4.out _).mono ?_
        rintro e4 w4 ⟨rfl, rfl⟩
        go_wp2_with fail
        go_ret
        exact ⟨ret_bool (by rw [HB.out]; simp), Q0⟩
end Go.Proofs.YteofhfefbphjdaaGreatDoor
namespace Go.Proofs.YteofhfefbphjdaaGreatDoor
open Go.RowKit Go.WideShapes Go.ChangeShapes
def mx (ms : List Mk) (k : Nat) : Mk := ms.getD k ⟨⟨#[]⟩, 0, 0, 0, 0⟩
/-- The marks ms stand from address A on. -/
def RdM (w : World) (A : Option Addr) (ms : List Mk) : Prop := ∃ b o, (0 < ms.length → A = some ⟨b, o, none⟩) ∧ ∀ k, k < ms.length →
  (w.cell? ⟨b, o + k * 5, none⟩ = some (.string (mx ms k).nm) ∧ w.cell? ⟨b, o + k * 5 + 1, none⟩ = some (.int .i64 (mx ms k).x) ∧ w.cell? ⟨b, o + k * 5 + 2, none⟩ = some (.int .i64 (mx ms k).y) ∧ w.cell? ⟨b, o + k * 5 + 3, none⟩ = some (.int .i64 (mx ms k).sd) ∧ w.cell? ⟨b, o + k * 5 + 4, none⟩ = some (.int .i64 (mx ms k).zn)) ∧ (mx ms k).nm.size ≤ maxLen
theorem RdM.q {w w' : World} {A : Option Addr} {ms : List Mk} (h : RdM w A ms) (hq : Q w w') : RdM w' A ms := by
  obtain ⟨b, o, hA, hc⟩ := h
  refine ⟨b, o, hA, fun k hk => ?_⟩
  obtain ⟨⟨h0, h1, h2, h3, h4⟩, h5⟩ := hc k hk
  exact ⟨⟨hq.cell h0, hq.cell h1, hq.cell h2, hq.cell h3, hq.cell h4⟩, h5⟩
theorem RdM.at_ {w : World} {A : Option Addr} {ms : List Mk} {n k : Nat} (h : RdM w A ms) (hn : ms.length = n) (hk : k < n) : ∃ b o, A = some ⟨b, o, none⟩ ∧
    w.cell? ⟨b, o + k * 5, none⟩ = some (.string (mx ms k).nm) ∧ w.cell? ⟨b, o + k * 5 + 1, none⟩ = some (.int .i64 (mx ms k).x) ∧ w.cell? ⟨b, o + k * 5 + 2, none⟩ = some (.int .i64 (mx ms k).y) ∧ w.cell? ⟨b, o + k * 5 + 3, none⟩ = some (.int .i64 (mx ms k).sd) ∧ w.cell? ⟨b, o + k * 5 + 4, none⟩ = some (.int .i64 (mx ms k).zn) ∧ (mx ms k).nm.size ≤ maxLen := by
  obtain ⟨b, o, hA, hc⟩ := h
  obtain ⟨⟨h0, h1, h2, h3, h4⟩, h5⟩ := hc k (by omega)
  exact ⟨b, o, hA (by omega), h0, h1, h2, h3, h4, h5⟩
theorem mx_take {ms : List Mk} {k j : Nat} (h : j < k) : mx (ms.take k) j = mx ms j := by
  unfold mx
  rw [List.getD_eq_getElem?_getD, List.getD_eq_getElem?_getD, List.getElem?_take_of_lt h]
theorem RdM.take {w : World} {A : Option Addr} {ms : List Mk} (h : RdM w A ms) (k : Nat) : RdM w A (ms.take k) := by
  obtain ⟨b, o, hA, hc⟩ := h
  refine ⟨b, o, fun h0 => hA (by rw [List.length_take] at h0; omega), fun j hj => ?_⟩
  rw [List.length_take] at hj
  rw [mx_take (by omega)]
  exact hc j (by omega)
theorem str_eqB (a b : ByteArray) : (a.toList == b.toList) = decide (a = b) := by
  by_cases h : a = b
  · subst h; rw [decide_eq_true rfl]; simp
  · rw [decide_eq_false h]
    cases hb : (a.toList == b.toList)
    · rfl
    · exact absurd (bytes_eq hb) h
/-- None of the first k marks bears the name. -/
def noNm (ms : List Mk) (nm : ByteArray) (k : Nat) : Prop := ∀ j, j < k → ((mx ms j).nm.toList == nm.toList) = false
theorem noNm.succ {ms : List Mk} {nm : ByteArray} {k : Nat} (h : noNm ms nm k) (hk : ((mx ms k).nm.toList == nm.toList) = false) : noNm ms nm (k + 1) := fun j hj => by
  rcases Nat.lt_or_ge j k with h' | h'
  · exact h j h'
  · obtain rfl : j = k := by omega
    exact hk
/-- The first mark with a name: k, or none of n (-1). -/
def NmR (ms : List Mk) (nm : ByteArray) (n : Nat) (r : Int) : Prop := (∃ k : Nat, k < n ∧ r = k ∧ ((mx ms k).nm.toList == nm.toList) = true ∧ noNm ms nm k) ∨ (r = -1 ∧ noNm ms nm n)
theorem impl_named1 (m : Mk) (nm : ByteArray) (b : Nat) (w : World) (hb : w.cell? ⟨b, 0, none⟩ = some (.string nm)) :
    Calls Tryz.prog 80 #[.agg #[.string m.nm, .int .i64 m.x, .int .i64 m.y, .int .i64 m.sd, .int .i64 m.zn], .pointer (some ⟨b, 0, none⟩)] w fun e w' => e = .returned (.bool (m.nm.toList == nm.toList)) ∧ Q w w' := by
  have B0 := (Blk.new w 85 #[.string m.nm, .int .i64 m.x, .int .i64 m.y, .int .i64 m.sd, .int .i64 m.zn]).cell
  have hb2 := ((Q.refl w).alloc (.cells #[.string m.nm, .int .i64 m.x, .int .i64 m.y, .int .i64 m.sd, .int .i64 m.zn] 85)).cell hb
  have hlt := World.block_lt_of_cell? w _ hb
  obtain ⟨R, hR⟩ : ∃ R, R = (m.nm.toList == nm.toList) := ⟨_, rfl⟩
  go_enter Tryz.func80, Tryz.ntmps80
  go_wp2_with fail
  go_ret
  exact ⟨rfl, by (repeat (first | assumption | exact Q.refl _ | refine Q.alloc ?_ _ | refine Q.drewN ?_ _ | refine Q.drew ?_))⟩
set_option maxHeartbeats 1000000 in
theorem run_IndexM (nm : ByteArray) (b : Nat) (A : Option Addr) (n c : Nat) (ms : List Mk) (w : World) (ha : RdM w A ms) (hn : ms.length = n) (hn2 : n ≤ 9223372036854775807) (hb : w.cell? ⟨b, 0, none⟩ = some (.string nm)) :
    Calls Tryz.prog 79 #[.slice A n c, .func (.func 80) #[] #[.pointer (some ⟨b, 0, none⟩)]] w fun e w' => ∃ r, e = .returned (.int .i64 r) ∧ NmR ms nm n r ∧ Q w w' := by
  go_enter Tryz.func79, Tryz.ntmps79
  go_wp2_with fail
  go_loopw [8] (fun i wr => ∃ k : Nat, k ≤ n ∧ i = .int .i64 k ∧ Hid (noNm ms nm k) ∧ Q w wr) (fun i _ => n - (intOf i).toNat)
  case atStart => exact ⟨0, by omega, rfl, Lib.hid (fun j hj => absurd hj (Nat.not_lt_zero _)), by (repeat (first | assumption | exact Q.refl _ | refine Q.alloc ?_ _ | refine Q.drewN ?_ _ | refine Q.drew ?_))⟩
  case round =>
    obtain ⟨k, hk, rfl, HA, hq⟩ := hrel
    by_cases hlt : k < n
    · obtain ⟨b1, o1, rfl, g0, g1, g2, g3, g4, _⟩ := (ha.q hq).at_ hn hlt
      have hltI : (k : Int) < (n : Int) := by omega
      obtain ⟨m, hm⟩ : ∃ m, m = mx ms k := ⟨_, rfl⟩
      rw [← hm] at g0 g1 g2 g3 g4
      have k1 := impl_named1 m nm b wr (hq.cell hb)
      cases hp : (m.nm.toList == nm.toList)
      · rw [hp] at k1
        have HP := Lib.hid hp
        have HU := Lib.hid hm
        clear hp hm
        go_wp2_with (go_at_call 80; refine k1.mono ?_; rintro e w1 ⟨rfl, q1⟩)
        go_roundw
        case rel => exact ⟨k + 1, by omega, by go_num, Lib.hid (HA.out.succ (by rw [← HU.out]; exact HP.out)), hq.trans q1⟩
        case measure => simp [intOf]; omega
      · rw [hp] at k1
        have HP := Lib.hid hp
        have HU := Lib.hid hm
        clear hp hm
        go_wp2_with (go_at_call 80; refine k1.mono ?_; rintro e w1 ⟨rfl, q1⟩)
        go_ret
        exact ⟨k, rfl, .inl ⟨k, hlt, rfl, by rw [← HU.out]; exact HP.out, HA.out⟩, hq.trans q1⟩
    · obtain rfl : k = n := by omega
      go_wp2_with fail
      go_ret
      exact ⟨-1, rfl, .inr ⟨rfl, HA.out⟩, hq⟩
set_option maxHeartbeats 1000000 in
theorem impl_markNamed (nm : ByteArray) (A : Option Addr) (n c : Nat) (ms : List Mk) (w : World) (ha : RdM w A ms) (hn : ms.length = n) (hn2 : n ≤ 9223372036854775807) :
    Calls Tryz.prog 48 #[.slice A n c, .string nm] w fun e w' => ∃ r, e = .returned (.int .i64 r) ∧ NmR ms nm n r ∧ Q w w' := by
  have hb := (Blk.new w 9 #[.string nm]).cell 0
  have Q0 : Q w (w.alloc (.cells #[.string nm] 9)) := by (repeat (first | assumption | exact Q.refl _ | refine Q.alloc ?_ _ | refine Q.drewN ?_ _ | refine Q.drew ?_))
  have K1 := Lib.hid (run_IndexM nm w.heap.size A n c ms _ (ha.q Q0) hn hn2 hb)
  clear ha hb
  go_enter Tryz.func48, Tryz.ntmps48
  go_wp2_with fail
  refine K1.out.mono ?_
  rintro e w1 ⟨r, rfl, hr, q1⟩
  have HR := Lib.hid hr
  clear hr
  go_wp2_with fail
  go_ret
  exact ⟨r, rfl, HR.out, Q0.trans q1⟩
end Go.Proofs.YteofhfefbphjdaaGreatDoor
