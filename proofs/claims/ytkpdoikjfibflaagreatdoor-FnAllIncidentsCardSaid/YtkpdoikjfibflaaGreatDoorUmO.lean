/- Walks: the incidents of two tracks at check times, as the program makes them. No condition. Walks: the incidents of two tracks at check times, as the reference makes them. No condition. Walks: a stable sort of incidents by their times. No condition. Words and walks: the incidents of two tracks, as the reference makes them. No condition. Words: the incidents of all pairs of tracks (plain). No condition. Words: append of all that another row of the call's own holds, within a region or not. No condition. Words: the times of incidents lie within the times of the tracks (plain). No condition. -/
import Derived.Test.YtkpdoikjfibflaaGreatDoorUmI
import Derived.Test.YtkpdoikjfibflaaGreatDoorNrT
import Derived.Test.YtkpdoikjfibflaaGreatDoorEqIncident
import Derived.Deep.RegionHeld3
import Derived.Deep.CutBlock
import Derived.Test.YtkpdoikjfibflaaGreatDoorSoD
import Derived.Test.YtkpdoikjfibflaaGreatDoorUmP
import Derived.Test.YtkpdoikjfibflaaGreatDoorTdsT
namespace Go.Proofs.YtkpdoikjfibflaaGreatDoor
open Go.RowKit Go.WideShapes Go.ChangeShapes
theorem elInc : EltT 31 42 5 := EltT.mk infoIncident Tryz.underlying31 (by decide) rfl (by decide)
theorem bxI (w : World) (wx wy a b d s : Int) (A1 : Option Addr) (n c1 : Nat) (A2 : Option Addr) (m c2 : Nat) :
    Blk ((((w.alloc (.cells #[.int .i64 wx, .int .i64 wy] 25)).alloc (.cells #[.int .i64 a, .int .i64 b, .int .i64 d, .int .i64 s] 27)).alloc (.cells #[.slice A1 n c1] 37)).alloc (.cells #[.slice A2 m c2] 37)) w.heap.size 25 #[.int .i64 wx, .int .i64 wy] ∧ Blk ((((w.alloc (.cells #[.int .i64 wx, .int .i64 wy] 25)).alloc (.cells #[.int .i64 a, .int .i64 b, .int .i64 d, .int .i64 s] 27)).alloc (.cells #[.slice A1 n c1] 37)).alloc (.cells #[.slice A2 m c2] 37)) (w.heap.size + 1) 27 #[.int .i64 a, .int .i64 b, .int .i64 d, .int .i64 s] ∧ Blk ((((w.alloc (.cells #[.int .i64 wx, .int .i64 wy] 25)).alloc (.cells #[.int .i64 a, .int .i64 b, .int .i64 d, .int .i64 s] 27)).alloc (.cells #[.slice A1 n c1] 37)).alloc (.cells #[.slice A2 m c2] 37)) (w.heap.size + 1 + 1) 37 #[.slice A1 n c1] ∧ Blk ((((w.alloc (.cells #[.int .i64 wx, .int .i64 wy] 25)).alloc (.cells #[.int .i64 a, .int .i64 b, .int .i64 d, .int .i64 s] 27)).alloc (.cells #[.slice A1 n c1] 37)).alloc (.cells #[.slice A2 m c2] 37)) (w.heap.size + 1 + 1 + 1) 37 #[.slice A2 m c2] :=
  ⟨(((Blk.new _ _ _).alloc _).alloc _).alloc _, by simpa using ((Blk.new (w.alloc (.cells #[.int .i64 wx, .int .i64 wy] 25)) 27 #[.int .i64 a, .int .i64 b, .int .i64 d, .int .i64 s]).alloc (.cells #[.slice A1 n c1] 37)).alloc (.cells #[.slice A2 m c2] 37),
    by simpa using (Blk.new ((w.alloc (.cells #[.int .i64 wx, .int .i64 wy] 25)).alloc (.cells #[.int .i64 a, .int .i64 b, .int .i64 d, .int .i64 s] 27)) 37 #[.slice A1 n c1]).alloc (.cells #[.slice A2 m c2] 37), by simpa using Blk.new (((w.alloc (.cells #[.int .i64 wx, .int .i64 wy] 25)).alloc (.cells #[.int .i64 a, .int .i64 b, .int .i64 d, .int .i64 s] 27)).alloc (.cells #[.slice A1 n c1] 37)) 37 #[.slice A2 m c2]⟩
/-- The incident of two boats at a time. -/
def evT (wx wy a b : Int) (xs : List Int) (n : Nat) (ys : List Int) (m : Nat) (f g t : Int) : List Int := evR (ruT wx wy a b xs n ys m t) t f g
/-- The incidents of two boats at times. -/
def inL (wx wy a b d : Int) (xs : List Int) (n : Nat) (ys : List Int) (m : Nat) (f g : Int) (L : List Int) : List Int := icTo (naR a d xs n ys m) (evT wx wy a b xs n ys m f g) L L.length
theorem inL_len (wx wy a b d : Int) (xs : List Int) (n : Nat) (ys : List Int) (m : Nat) (f g : Int) (L : List Int) : ∃ c, c ≤ L.length ∧ (inL wx wy a b d xs n ys m f g L).length = c * 5 := icTo_len (fun _ => evR_len _ _ _ _) _
theorem naR_hd {l D : Int} {xs ys : List Int} {n m : Nat} {t : Int} (h : naR l D xs n ys m t = true) : hdC xs n t = 0 ∧ hdC ys m t = 0 := by
  unfold naR at h
  simp at h
  exact ⟨h.1.1, h.1.2⟩
theorem evR_0 {r1 r2 t f s : Int} (h : r1 = 0) : evR (r1, r2) t f s = [t, f, s, -1, 5] := by subst h; rfl
theorem evR_1 {r1 r2 t f s : Int} (h : r1 = 1) : evR (r1, r2) t f s = [t, f, s, f, r2] := by subst h; rfl
theorem evR_2 {r1 r2 t f s : Int} (h : r1 = 2) : evR (r1, r2) t f s = [t, f, s, s, r2] := by subst h; rfl
set_option maxRecDepth 100000 in
set_option maxHeartbeats 8000000 in
theorem impl_incidents (wx wy a b d s : Int) (AT : Option Addr) (N cT : Nat) (L : List Int) (A1 : Option Addr) (n c1 : Nat) (xs : List Int) (A2 : Option Addr) (m c2 : Nat) (ys : List Int) (f g : Int) (w : World) (hw : wnd wx wy) (hwn : wnB wx wy = true) (hx : isWat a b d s = true) (hL : Rd w AT L) (hN : L.length = N) (hN2 : N ≤ 401) (ha : Rd w A1 xs) (hn : xs.length = n * 3) (h1 : isTrk xs n = true) (hb : Rd w A2 ys) (hm : ys.length = m * 3) (h2 : isTrk ys m = true) :
    Calls Tryz.prog 20 #[.agg #[.int .i64 wx, .int .i64 wy], .agg #[.int .i64 a, .int .i64 b, .int .i64 d, .int .i64 s], .slice AT N cT, .agg #[.slice A1 n c1], .agg #[.slice A2 m c2], .int .i64 f, .int .i64 g] w (RL w 42 5 ((inL wx wy a b d xs n ys m f g L).length / 5) (inL wx wy a b d xs n ys m f g L)) := by
  obtain ⟨hw1, hw2, hw3, hw4⟩ := isWat_all hx
  have KN := Lib.hid (fun t (wv : World) (h : Rd wv A1 xs) (h' : Rd wv A2 ys) => impl_near a b d s A1 n c1 xs A2 m c2 ys t wv h hn h1 h' hm h2 hx)
  have KR := Lib.hid (fun t (wv : World) (h : Rd wv A1 xs) (h' : Rd wv A2 ys) (hp : naR a d xs n ys m t = true) => impl_RuleAt1 wx wy A1 n c1 xs A2 m c2 ys t a b wv hw hwn h hn h1 h' hm h2 (naR_hd hp).1 (naR_hd hp).2 hw1 hw2)
  have HK := Lib.hid (fun t => ruT_keeper wx wy a b xs n ys m t)
  have hle := fun k => icTo_len (p := naR a d xs n ys m) (L := L) (ev := evT wx wy a b xs n ys m f g) (fun t => evR_len (ruT wx wy a b xs n ys m t) t f g) k
  have HEV := Lib.hid (show ∀ t, evT wx wy a b xs n ys m f g t = evR ((ruT wx wy a b xs n ys m t).1, (ruT wx wy a b xs n ys m t).2) t f g from fun _ => rfl)
  unfold inL
  rw [hN]
  have HN := Lib.hid hN
  have HLE := Lib.hid hle
  clear hw hwn hx hn h1 hm h2 hw1 hw2 hw3 hw4 hN hle
  obtain ⟨rF, hrF⟩ : ∃ rF, rF = ruT wx wy a b xs n ys m := ⟨_, rfl⟩
  rw [← hrF] at HK HEV KR
  clear hrF
  generalize naR a d xs n ys m = p at *
  generalize evT wx wy a b xs n ys m f g = ev at *
  obtain ⟨W, hW⟩ : ∃ W, W = (((w.alloc (.cells #[.int .i64 wx, .int .i64 wy] 25)).alloc (.cells #[.int .i64 a, .int .i64 b, .int .i64 d, .int .i64 s] 27)).alloc (.cells #[.slice A1 n c1] 37)).alloc (.cells #[.slice A2 m c2] 37) := ⟨_, rfl⟩
  obtain ⟨B0, B1, B2, B3⟩ := bxI w wx wy a b d s A1 n c1 A2 m c2
  rw [← hW] at B0 B1 B2 B3
  have Q0 : Q w W := by rw [hW]; exact ((((Q.refl w).alloc _).alloc _).alloc _).alloc _
  have zW : W.heap.size = w.heap.size + 1 + 1 + 1 + 1 := by rw [hW]; simp
  have HW := Lib.hid hW
  clear hW
  go_enter Tryz.func20, Tryz.ntmps20
  go_wp2_with fail
  rw [← HW.out]
  go_loopw [15, 16, 26] (fun v bf i wr => ∃ k : Nat, k ≤ N ∧ i = .int .i64 k ∧ bf = .bool (beB p L k) ∧ OwnL wr W.heap.size 42 5 v (icTo p ev L k) ∧ Q W wr) (fun _ _ i _ => N - (intOf i).toNat)
  case atStart => exact ⟨0, by omega, rfl, rfl, (by have h := OwnL.new W 42 5 (Nat.le_refl W.heap.size); rw [zW] at h ⊢; exact h), by (repeat (first | assumption | exact Q.refl _ | refine Q.alloc ?_ _ | refine Q.drewN ?_ _ | refine Q.drew ?_))⟩
  case round =>
    obtain ⟨k, hk, rfl, rfl, ⟨A5, k5, c5, rfl, hown⟩, hq⟩ := hrel
    obtain ⟨wo, rfl⟩ : ∃ wo, wo = wr := ⟨_, rfl⟩
    have hqw : Q w wo := Q0.trans hq
    have hlen : k5 ≤ k := by obtain ⟨c, h1, h2⟩ := HLE.out k; have := hown.len; omega
    by_cases hlt : k < N
    · obtain ⟨bl, ol, rfl, g0⟩ := (hL.q hqw).at1 HN.out hlt
      have hltI : (k : Int) < (N : Int) := by omega
      have b0 := B0.q hq
      have b1 := B1.q hq
      have b2 := B2.q hq
      have b3 := B3.q hq
      have hI := Lib.hid (beB_succ p L k)
      have hE := Lib.hid (show icTo p ev L (k + 1) = icTo p ev L k ++ icK p ev L k from rfl)
      have HNO := Lib.hid (@icK_no p ev L k)
      have HBE := Lib.hid (@icK_be p ev L k)
      have HYE := Lib.hid (@icK_yes p ev L k)
      obtain ⟨T, hT⟩ : ∃ T, T = el L k := ⟨_, rfl⟩
      rw [← hT] at g0 hI HNO HYE
      have hk1 := KR.out T
      have kk := HK.out T
      have hev := HEV.out T
      clear hT
      have k1 := fun wv h h' => KN.out T wv h h'
      generalize ev T = E at *
      generalize (rF T).1 = R1 at *
      generalize (rF T).2 = R2 at *
      generalize icK p ev L k = IK at *
      have HA := ha.q hqw
      have HB := hb.q hqw
      generalize hpT : p T = P at *
      generalize beB p L k = be at *
      have K1 := Lib.hid k1
      clear k1
      try clear c_b1
      try clear l_b1
      try clear c_b2
      try clear l_b2
      try clear c_b3
      try clear l_b3
      have c_b1 := b1.cell
      have l_b1 := b1.lt
      have c_b2 := b2.cell
      have l_b2 := b2.lt
      have c_b3 := b3.cell
      have l_b3 := b3.lt
      go_wp2_with fail
      refine (K1.out _ HA HB).mono ?_
      rintro e1 w1 ⟨rfl, q1⟩
      replace b0 := b0.q q1
      replace b1 := b1.q q1
      replace b2 := b2.q q1
      replace b3 := b3.q q1
      replace HA := HA.q q1
      replace HB := HB.q q1
      cases P with
      | false =>
        go_wp2_with fail
        go_roundw
        case rel => exact ⟨k + 1, by omega, by go_num, by rw [hI.out], by rw [hE.out, HNO.out (by trivial), List.append_nil]; exact ⟨_, _, _, rfl, hown.q q1⟩, hq.trans q1⟩
        case measure => simp [intOf]; omega
      | true =>
        cases be with
        | true =>
          go_wp2_with fail
          go_roundw
          case rel => exact ⟨k + 1, by omega, by go_num, by rw [hI.out], by rw [hE.out, HBE.out (by trivial), List.append_nil]; exact ⟨_, _, _, rfl, hown.q q1⟩, hq.trans q1⟩
          case measure => simp [intOf]; omega
        | false =>
          try clear c_b0
          try clear l_b0
          try clear c_b1
          try clear l_b1
          try clear c_b2
          try clear l_b2
          try clear c_b3
          try clear l_b3
          have c_b0 := b0.cell
          have l_b0 := b0.lt
          have c_b1 := b1.cell
          have l_b1 := b1.lt
          have c_b2 := b2.cell
          have l_b2 := b2.lt
          have c_b3 := b3.cell
          have l_b3 := b3.lt
          have KR1 := Lib.hid (fun wv h h' => hk1 wv h h' (by trivial))
          go_wp2_with fail
          have QE : Q w1 (w1.alloc (.cells #[.int .i64 T, .int .i64 f, .int .i64 g, .int .i64 (-1), .int .i64 5] 42)) := (Q.refl w1).alloc _
          refine (KR1.out _ (HA.q QE) (HB.q QE)).mono ?_
          rintro e2 w2 ⟨rfl, q2⟩
          have BE := q2.boxB
          have Q2 : Q wo w2 := q1.trans (QE.trans q2)
          have hge : wo.heap.size ≤ w1.heap.size := q1.size
          have cE := BE.cell
          have fE := BE.frozen
          have lE := BE.lt
          clear c_b0 l_b0 c_b1 l_b1 c_b2 l_b2 c_b3 l_b3
          rcases kk with hk0 | hk1' | hk2
          · have HEE := Lib.hid (show E = [T, f, g, -1, 5] by rw [hev, evR_0 hk0])
            subst hk0
            have Q5 : Q wo (w2.alloc (.cells #[.int .i64 0, .int .i64 R2] 73)) := Q2.alloc _
            have o5 := hown.q Q5
            have cE1 := (BE.alloc (.cells #[.int .i64 0, .int .i64 R2] 73)).cell
            go_wp2_with (at_builtin; refine appK elInc rfl _ _ rfl [T, f, g, -1, 5] rfl o5 rfl (by simp) rfl _ _ rfl (by omega) (Q.size (hq.trans Q5)) ?_; intro A' c' w' hown' hg' hgr')
            go_roundw
            case rel => exact ⟨k + 1, by omega, by go_num, by rw [hI.out], by rw [hE.out, HYE.out (by trivial) (by trivial), HEE.out]; exact ⟨_, _, _, rfl, hown'⟩, (hq.trans Q5).mark o5 (Nat.le_refl _) hg'⟩
            case measure => simp [intOf]; omega
          · have HEE := Lib.hid (show E = [T, f, g, f, R2] by rw [hev, evR_1 hk1'])
            subst hk1'
            have E1 : Blk (w2.setCell ⟨w1.heap.size, 4, none⟩ (.int .i64 R2)) w1.heap.size 42 #[.int .i64 T, .int .i64 f, .int .i64 g, .int .i64 (-1), .int .i64 R2] := by simpa using BE.set_ 4 (.int .i64 R2)
            have QS1 : Q wo (w2.setCell ⟨w1.heap.size, 4, none⟩ (.int .i64 R2)) := Q2.setCell (p := ⟨w1.heap.size, 4, none⟩) hge _
            have d1 := E1.cell
            have e1 := E1.frozen
            have m1 := E1.lt
            have dd1 := (E1.alloc (.cells #[.int .i64 1, .int .i64 R2] 73)).cell
            have E2 : Blk ((w2.setCell ⟨w1.heap.size, 4, none⟩ (.int .i64 R2)).setCell ⟨w1.heap.size, 3, none⟩ (.int .i64 f)) w1.heap.size 42 #[.int .i64 T, .int .i64 f, .int .i64 g, .int .i64 f, .int .i64 R2] := by simpa using E1.set_ 3 (.int .i64 f)
            have QS2 : Q wo ((w2.setCell ⟨w1.heap.size, 4, none⟩ (.int .i64 R2)).setCell ⟨w1.heap.size, 3, none⟩ (.int .i64 f)) := QS1.setCell (p := ⟨w1.heap.size, 3, none⟩) hge _
            have d2 := E2.cell
            have e2 := E2.frozen
            have m2 := E2.lt
            have dd2 := (E2.alloc (.cells #[.int .i64 1, .int .i64 R2] 73)).cell
            have Q5 := QS2.alloc (.cells #[.int .i64 1, .int .i64 R2] 73)
            have o5 := hown.q Q5
            go_wp2_with (at_builtin; refine appK elInc rfl _ _ rfl [T, f, g, f, R2] rfl o5 rfl (by simp) rfl _ _ rfl (by omega) (Q.size (hq.trans Q5)) ?_; intro A' c' w' hown' hg' hgr')
            go_roundw
            case rel => exact ⟨k + 1, by omega, by go_num, by rw [hI.out], by rw [hE.out, HYE.out (by trivial) (by trivial), HEE.out]; exact ⟨_, _, _, rfl, hown'⟩, (hq.trans Q5).mark o5 (Nat.le_refl _) hg'⟩
            case measure => simp [intOf]; omega
          · have HEE := Lib.hid (show E = [T, f, g, g, R2] by rw [hev, evR_2 hk2])
            subst hk2
            have E1 : Blk (w2.setCell ⟨w1.heap.size, 4, none⟩ (.int .i64 R2)) w1.heap.size 42 #[.int .i64 T, .int .i64 f, .int .i64 g, .int .i64 (-1), .int .i64 R2] := by simpa using BE.set_ 4 (.int .i64 R2)
            have QS1 : Q wo (w2.setCell ⟨w1.heap.size, 4, none⟩ (.int .i64 R2)) := Q2.setCell (p := ⟨w1.heap.size, 4, none⟩) hge _
            have d1 := E1.cell
            have e1 := E1.frozen
            have m1 := E1.lt
            have dd1 := (E1.alloc (.cells #[.int .i64 2, .int .i64 R2] 73)).cell
            have E2 : Blk ((w2.setCell ⟨w1.heap.size, 4, none⟩ (.int .i64 R2)).setCell ⟨w1.heap.size, 3, none⟩ (.int .i64 f)) w1.heap.size 42 #[.int .i64 T, .int .i64 f, .int .i64 g, .int .i64 f, .int .i64 R2] := by simpa using E1.set_ 3 (.int .i64 f)
            have QS2 : Q wo ((w2.setCell ⟨w1.heap.size, 4, none⟩ (.int .i64 R2)).setCell ⟨w1.heap.size, 3, none⟩ (.int .i64 f)) := QS1.setCell (p := ⟨w1.heap.size, 3, none⟩) hge _
            have d2 := E2.cell
            have e2 := E2.frozen
            have m2 := E2.lt
            have dd2 := (E2.alloc (.cells #[.int .i64 2, .int .i64 R2] 73)).cell
            have E3 : Blk (((w2.setCell ⟨w1.heap.size, 4, none⟩ (.int .i64 R2)).setCell ⟨w1.heap.size, 3, none⟩ (.int .i64 f)).setCell ⟨w1.heap.size, 3, none⟩ (.int .i64 g)) w1.heap.size 42 #[.int .i64 T, .int .i64 f, .int .i64 g, .int .i64 g, .int .i64 R2] := by simpa using E2.set_ 3 (.int .i64 g)
            have QS3 : Q wo (((w2.setCell ⟨w1.heap.size, 4, none⟩ (.int .i64 R2)).setCell ⟨w1.heap.size, 3, none⟩ (.int .i64 f)).setCell ⟨w1.heap.size, 3, none⟩ (.int .i64 g)) := QS2.setCell (p := ⟨w1.heap.size, 3, none⟩) hge _
            have d3 := E3.cell
            have e3 := E3.frozen
            have m3 := E3.lt
            have dd3 := (E3.alloc (.cells #[.int .i64 2, .int .i64 R2] 73)).cell
            have Q5 := QS3.alloc (.cells #[.int .i64 2, .int .i64 R2] 73)
            have o5 := hown.q Q5
            go_wp2_with (at_builtin; refine appK elInc rfl _ _ rfl [T, f, g, g, R2] rfl o5 rfl (by simp) rfl _ _ rfl (by omega) (Q.size (hq.trans Q5)) ?_; intro A' c' w' hown' hg' hgr')
            go_roundw
            case rel => exact ⟨k + 1, by omega, by go_num, by rw [hI.out], by rw [hE.out, HYE.out (by trivial) (by trivial), HEE.out]; exact ⟨_, _, _, rfl, hown'⟩, (hq.trans Q5).mark o5 (Nat.le_refl _) hg'⟩
            case measure => simp [intOf]; omega
    · obtain rfl : k = N := by omega
      go_wp2_with fail
      go_ret
      obtain ⟨c, h1, h2⟩ := HLE.out k
      refine RL.mk' (hown.mono Q0.size) hqw ?_ (by decide)
      rw [h2]
      omega
end Go.Proofs.YtkpdoikjfibflaaGreatDoor
namespace Go.Proofs.YtkpdoikjfibflaaGreatDoor
open Go.RowKit Go.WideShapes Go.ChangeShapes
set_option maxRecDepth 100000 in
set_option maxHeartbeats 8000000 in
theorem spec_incidents (wx wy a b d s : Int) (AT : Option Addr) (N cT : Nat) (L : List Int) (A1 : Option Addr) (n c1 : Nat) (xs : List Int) (A2 : Option Addr) (m c2 : Nat) (ys : List Int) (f g : Int) (w : World) (hw : wnd wx wy) (hwn : wnB wx wy = true) (hx : isWat a b d s = true) (hL : Rd w AT L) (hN : L.length = N) (hN2 : N ≤ 401) (ha : Rd w A1 xs) (hn : xs.length = n * 3) (h1 : isTrk xs n = true) (hb : Rd w A2 ys) (hm : ys.length = m * 3) (h2 : isTrk ys m = true) :
    Calls Tryz.prog 27 #[.agg #[.int .i64 wx, .int .i64 wy], .agg #[.int .i64 a, .int .i64 b, .int .i64 d, .int .i64 s], .agg #[.slice A1 n c1], .agg #[.slice A2 m c2], .int .i64 f, .int .i64 g, .slice AT N cT] w (RL w 42 5 ((inL wx wy a b d xs n ys m f g L).length / 5) (inL wx wy a b d xs n ys m f g L)) := by
  obtain ⟨hw1, hw2, hw3, hw4⟩ := isWat_all hx
  have KN := Lib.hid (fun t (wv : World) (h : Rd wv A1 xs) (h' : Rd wv A2 ys) => spec_near a b d s A1 n c1 xs A2 m c2 ys t wv h hn h1 h' hm h2 hx)
  have KR := Lib.hid (fun t (wv : World) (h : Rd wv A1 xs) (h' : Rd wv A2 ys) (hp : naR a d xs n ys m t = true) => spec_RuleAt1 wx wy A1 n c1 xs A2 m c2 ys t a b wv hw hwn h hn h1 h' hm h2 (naR_hd hp).1 (naR_hd hp).2 hw1 hw2)
  have HK := Lib.hid (fun t => ruT_keeper wx wy a b xs n ys m t)
  have hle := fun k => icTo_len (p := naR a d xs n ys m) (L := L) (ev := evT wx wy a b xs n ys m f g) (fun t => evR_len (ruT wx wy a b xs n ys m t) t f g) k
  have HEV := Lib.hid (show ∀ t, evT wx wy a b xs n ys m f g t = evR ((ruT wx wy a b xs n ys m t).1, (ruT wx wy a b xs n ys m t).2) t f g from fun _ => rfl)
  unfold inL
  rw [hN]
  have HN := Lib.hid hN
  have HLE := Lib.hid hle
  clear hw hwn hx hn h1 hm h2 hw1 hw2 hw3 hw4 hN hle
  obtain ⟨rF, hrF⟩ : ∃ rF, rF = ruT wx wy a b xs n ys m := ⟨_, rfl⟩
  rw [← hrF] at HK HEV KR
  clear hrF
  generalize naR a d xs n ys m = p at *
  generalize evT wx wy a b xs n ys m f g = ev at *
  obtain ⟨W, hW⟩ : ∃ W, W = (((w.alloc (.cells #[.int .i64 wx, .int .i64 wy] 25)).alloc (.cells #[.int .i64 a, .int .i64 b, .int .i64 d, .int .i64 s] 27)).alloc (.cells #[.slice A1 n c1] 37)).alloc (.cells #[.slice A2 m c2] 37) := ⟨_, rfl⟩
  obtain ⟨B0, B1, B2, B3⟩ := bxI w wx wy a b d s A1 n c1 A2 m c2
  rw [← hW] at B0 B1 B2 B3
  have Q0 : Q w W := by rw [hW]; exact ((((Q.refl w).alloc _).alloc _).alloc _).alloc _
  have zW : W.heap.size = w.heap.size + 1 + 1 + 1 + 1 := by rw [hW]; simp
  have HW := Lib.hid hW
  clear hW
  go_enter Tryz.func27, Tryz.ntmps27
  go_wp2_with fail
  rw [← HW.out]
  go_loopw [15, 16, 17] (fun v bf i wr => ∃ k : Nat, k ≤ N ∧ i = .int .i64 k ∧ bf = .bool (beB p L k) ∧ OwnL wr W.heap.size 42 5 v (icTo p ev L k) ∧ Q W wr) (fun _ _ i _ => N - (intOf i).toNat)
  case atStart => exact ⟨0, by omega, rfl, rfl, (by have h := OwnL.new W 42 5 (Nat.le_refl W.heap.size); rw [zW] at h ⊢; exact h), by (repeat (first | assumption | exact Q.refl _ | refine Q.alloc ?_ _ | refine Q.drewN ?_ _ | refine Q.drew ?_))⟩
  case round =>
    obtain ⟨k, hk, rfl, rfl, ⟨A5, k5, c5, rfl, hown⟩, hq⟩ := hrel
    obtain ⟨wo, rfl⟩ : ∃ wo, wo = wr := ⟨_, rfl⟩
    have hqw : Q w wo := Q0.trans hq
    have hlen : k5 ≤ k := by obtain ⟨c, h1, h2⟩ := HLE.out k; have := hown.len; omega
    by_cases hlt : k < N
    · obtain ⟨bl, ol, rfl, g0⟩ := (hL.q hqw).at1 HN.out hlt
      have hltI : (k : Int) < (N : Int) := by omega
      have b0 := B0.q hq
      have b1 := B1.q hq
      have b2 := B2.q hq
      have b3 := B3.q hq
      have hI := Lib.hid (beB_succ p L k)
      have hE := Lib.hid (show icTo p ev L (k + 1) = icTo p ev L k ++ icK p ev L k from rfl)
      have HNO := Lib.hid (@icK_no p ev L k)
      have HBE := Lib.hid (@icK_be p ev L k)
      have HYE := Lib.hid (@icK_yes p ev L k)
      obtain ⟨T, hT⟩ : ∃ T, T = el L k := ⟨_, rfl⟩
      rw [← hT] at g0 hI HNO HYE
      have hk1 := KR.out T
      have kk := HK.out T
      have hev := HEV.out T
      clear hT
      have k1 := fun wv h h' => KN.out T wv h h'
      generalize ev T = E at *
      generalize (rF T).1 = R1 at *
      generalize (rF T).2 = R2 at *
      generalize icK p ev L k = IK at *
      have HA := ha.q hqw
      have HB := hb.q hqw
      generalize hpT : p T = P at *
      generalize beB p L k = be at *
      have d0 := later_cells b0.cell b0.lt
      have d1 := later_cells b1.cell b1.lt
      have d2 := later_cells b2.cell b2.lt
      have d3 := later_cells b3.cell b3.lt
      have d4 := later_cell g0
      have kn := fun (u : Later wo) => k1 u.val (HA.q u.q) (HB.q u.q)
      clear k1
      cases P with
      | false =>
        have KT := Lib.hid kn
        clear kn
        go_wp2_with fail
        refine wp_region_later_lit (by kernel_rfl) (by kernel_rfl) ?_
        repeat (any_goals (first | go_big_quiet_step ((go_at_call 45; with_reducible exact later_call (KT.out _))) | quiet_step ((go_at_call 45; with_reducible exact later_call (KT.out _))) | (refine wpQuiet_step (fun K hK => ?_); go_simp; split <;> (refine hK _ ?_; clear hK K))))
        refine wpQuiet_nil ?_
        rintro w1 ⟨⟨w1x, q1⟩, hwx⟩
        obtain rfl : w1 = w1x := hwx
        clear d0 d1 d2 d3 d4
        replace b0 := b0.q q1
        replace b1 := b1.q q1
        replace b2 := b2.q q1
        replace b3 := b3.q q1
        replace HA := HA.q q1
        replace HB := HB.q q1
        replace g0 := q1.cell g0
        go_wp2_with fail
        go_roundw
        case rel => exact ⟨k + 1, by omega, by go_num, by rw [hI.out], by rw [hE.out, HNO.out (by trivial), List.append_nil]; exact ⟨_, _, _, rfl, hown.q q1⟩, hq.trans q1⟩
        case measure => simp [intOf]; omega
      | true =>
        cases be with
        | true =>
          have KT := Lib.hid kn
          clear kn
          go_wp2_with fail
          refine wp_region_later_lit (by kernel_rfl) (by kernel_rfl) ?_
          repeat (any_goals (first | go_big_quiet_step ((go_at_call 45; with_reducible exact later_call (KT.out _))) | quiet_step ((go_at_call 45; with_reducible exact later_call (KT.out _))) | (refine wpQuiet_step (fun K hK => ?_); go_simp; split <;> (refine hK _ ?_; clear hK K))))
          refine wpQuiet_nil ?_
          rintro w1 ⟨⟨w1x, q1⟩, hwx⟩
          obtain rfl : w1 = w1x := hwx
          clear d0 d1 d2 d3 d4
          replace b0 := b0.q q1
          replace b1 := b1.q q1
          replace b2 := b2.q q1
          replace b3 := b3.q q1
          replace HA := HA.q q1
          replace HB := HB.q q1
          replace g0 := q1.cell g0
          go_wp2_with fail
          go_roundw
          case rel => exact ⟨k + 1, by omega, by go_num, by rw [hI.out], by rw [hE.out, HBE.out (by trivial), List.append_nil]; exact ⟨_, _, _, rfl, hown.q q1⟩, hq.trans q1⟩
          case measure => simp [intOf]; omega
        | false =>
          have KT := Lib.hid kn
          clear kn
          go_wp2_with fail
          refine wp_region_later_lit (by kernel_rfl) (by kernel_rfl) ?_
          repeat (any_goals (first | go_big_quiet_step ((go_at_call 45; with_reducible exact later_call (KT.out _))) | quiet_step ((go_at_call 45; with_reducible exact later_call (KT.out _))) | (refine wpQuiet_step (fun K hK => ?_); go_simp; split <;> (refine hK _ ?_; clear hK K))))
          refine wpQuiet_nil ?_
          rintro w1 ⟨⟨w1x, q1⟩, hwx⟩
          obtain rfl : w1 = w1x := hwx
          clear d0 d1 d2 d3 d4
          replace b0 := b0.q q1
          replace b1 := b1.q q1
          replace b2 := b2.q q1
          replace b3 := b3.q q1
          replace HA := HA.q q1
          replace HB := HB.q q1
          replace g0 := q1.cell g0
          have KR1 := Lib.hid (fun wv h h' => hk1 wv h h' (by trivial))
          have QE : Q w1 (w1.alloc (.cells #[.int .i64 T, .int .i64 f, .int .i64 g, .int .i64 (-1), .int .i64 5] 42)) := (Q.refl w1).alloc _
          have hge : wo.heap.size ≤ w1.heap.size := q1.size
          have lg := World.block_lt_of_cell? w1 _ g0
          go_upto_region 9 with (fail)
          replace b0 := b0.q QE
          replace b1 := b1.q QE
          replace b2 := b2.q QE
          replace b3 := b3.q QE
          replace HA := HA.q QE
          replace HB := HB.q QE
          replace g0 := QE.cell g0
          have BE := Blk.new w1 42 #[.int .i64 T, .int .i64 f, .int .i64 g, .int .i64 (-1), .int .i64 5]
          have Q1 : Q wo _ := q1.trans QE
          have z1 : w1.heap.size + 1 = (w1.alloc (.cells #[.int .i64 T, .int .i64 f, .int .i64 g, .int .i64 (-1), .int .i64 5] 42)).heap.size := by simp
          generalize hwb : w1.alloc (.cells #[.int .i64 T, .int .i64 f, .int .i64 g, .int .i64 (-1), .int .i64 5] 42) = wb at *
          clear hwb QE q1
          go_cut [20, 21] from 50 to 87 (fun pv cv wc => ∃ b7, pv = .pointer (some ⟨b7, 0, none⟩) ∧ cv = .int .i64 0 ∧ wb.heap.size ≤ b7 ∧ Blk wc b7 73 #[.int .i64 R1, .int .i64 R2] ∧ Blk wc w1.heap.size 42 #[.int .i64 T, .int .i64 f, .int .i64 g, .int .i64 (-1), .int .i64 5] ∧ Q wb wc)
          case first =>
            have hS : ∀ w', Q wb w' → (Q wb w' ∧ w'.cell? ⟨w.heap.size, 0, none⟩ = some (.int .i64 wx) ∧ w'.cell? ⟨w.heap.size, 1, none⟩ = some (.int .i64 wy) ∧ w'.cell? ⟨w.heap.size + 1, 0, none⟩ = some (.int .i64 a) ∧ w'.cell? ⟨w.heap.size + 1, 1, none⟩ = some (.int .i64 b) ∧ w'.cell? ⟨w.heap.size + 1 + 1, 0, none⟩ = some (.slice A1 n c1) ∧ w'.cell? ⟨w.heap.size + 1 + 1 + 1, 0, none⟩ = some (.slice A2 m c2) ∧ w'.cell? ⟨bl, ol + k, none⟩ = some (.int .i64 T)) := fun w' q => ⟨q, (b0.q q).cell 0, (b0.q q).cell 1, (b1.q q).cell 0, (b1.q q).cell 1, (b2.q q).cell 0, (b3.q q).cell 0, q.cell g0⟩
            go_region_held3 (fun w' => Q wb w' ∧ w'.cell? ⟨w.heap.size, 0, none⟩ = some (.int .i64 wx) ∧ w'.cell? ⟨w.heap.size, 1, none⟩ = some (.int .i64 wy) ∧ w'.cell? ⟨w.heap.size + 1, 0, none⟩ = some (.int .i64 a) ∧ w'.cell? ⟨w.heap.size + 1, 1, none⟩ = some (.int .i64 b) ∧ w'.cell? ⟨w.heap.size + 1 + 1, 0, none⟩ = some (.slice A1 n c1) ∧ w'.cell? ⟨w.heap.size + 1 + 1 + 1, 0, none⟩ = some (.slice A2 m c2) ∧ w'.cell? ⟨bl, ol + k, none⟩ = some (.int .i64 T)) (first | exact hS _ (by (repeat (first | with_reducible assumption | with_reducible exact Q.refl _ | with_reducible refine Q.alloc ?_ _ | with_reducible refine Q.drewN ?_ _ | with_reducible refine Q.drew ?_ | with_reducible refine Q.setCell ?_ (by first | with_reducible exact Nat.le_refl _ | (simp only; omega) | (simp; done) | (simp; omega)) _))) | (go_split_ands; exact hS _ (by (repeat (first | with_reducible assumption | with_reducible exact Q.refl _ | with_reducible refine Q.alloc ?_ _ | with_reducible refine Q.drewN ?_ _ | with_reducible refine Q.drew ?_ | with_reducible refine Q.setCell ?_ (by first | with_reducible exact Nat.le_refl _ | (simp only; omega) | (simp; done) | (simp; omega)) _))))) (first | (go_at_call 46; refine (KR1.out _ (HA.q (by (repeat (first | with_reducible assumption | with_reducible exact Q.refl _ | with_reducible refine Q.alloc ?_ _ | with_reducible refine Q.drewN ?_ _ | with_reducible refine Q.drew ?_ | with_reducible refine Q.setCell ?_ (by first | with_reducible exact Nat.le_refl _ | (simp only; omega) | (simp; done) | (simp; omega)) _)))) (HB.q (by (repeat (first | with_reducible assumption | with_reducible exact Q.refl _ | with_reducible refine Q.alloc ?_ _ | with_reducible refine Q.drewN ?_ _ | with_reducible refine Q.drew ?_ | with_reducible refine Q.setCell ?_ (by first | with_reducible exact Nat.le_refl _ | (simp only; omega) | (simp; done) | (simp; omega)) _))))).mono ?_; rintro e w5 ⟨rfl, q5⟩; have QR : Q wb w5 := Q.trans (by (repeat (first | with_reducible assumption | with_reducible exact Q.refl _ | with_reducible refine Q.alloc ?_ _ | with_reducible refine Q.drewN ?_ _ | with_reducible refine Q.drew ?_ | with_reducible refine Q.setCell ?_ (by first | with_reducible exact Nat.le_refl _ | (simp only; omega) | (simp; done) | (simp; omega)) _))) q5; have zr := QR.size; (first | (have Y1 := (q5).boxB2; have Y20 := (q5).boxB; have Y1c := Y1.cell; have Y1f := Y1.frozen; have Y1l := Y1.lt; simp only [World.size_alloc] at Y20; have Y2 := Y20; have Y2c := Y2.cell; have Y2f := Y2.frozen; have Y2l := Y2.lt) | (have Y1 := (q5).boxB; have Y1c := Y1.cell; have Y1f := Y1.frozen; have Y1l := Y1.lt) | (have Y1 := (Q.trans ((Q.refl _).drew) q5).boxB2; have Y20 := (Q.trans ((Q.refl _).drew) q5).boxB; have Y1c := Y1.cell; have Y1f := Y1.frozen; have Y1l := Y1.lt; simp only [World.size_alloc] at Y20; have Y2 := Y20; have Y2c := Y2.cell; have Y2f := Y2.frozen; have Y2l := Y2.lt) | (have Y1 := (Q.trans ((Q.refl _).drew) q5).boxB; have Y1c := Y1.cell; have Y1f := Y1.frozen; have Y1l := Y1.lt) | skip)))
            all_goals (go_wp2_with fail; go_meet)
            all_goals clear hS
            all_goals first | with_reducible exact ⟨_, rfl, rfl, zr, Blk.new _ _ _, (BE.q QR).alloc _, QR.alloc _⟩ | with_reducible exact ⟨_, rfl, rfl, by omega, (Y1.p2_0 (.int .i64 R1)).p2_1 (.int .i64 R2), ((BE.q QR).far (p := ⟨_, 0, none⟩) (by simp only; omega) _).far (p := ⟨_, 1, none⟩) (by simp only; omega) _, (QR.setCell (by simp only; omega) _).setCell (by simp only; omega) _⟩
          case rest =>
            obtain ⟨b7, rfl, rfl, hb7, BR, BE, QC⟩ := hcut
            have Q2 : Q wo wc := Q1.trans QC
            clear g0 lg HA HB KR1
            have hne : b7 ≠ w1.heap.size := by omega
            have cR := BR.cell
            have lR := BR.lt
            have cE := BE.cell
            have fE := BE.frozen
            have lE := BE.lt
            rcases kk with hk0 | hk1' | hk2
            · have HEE := Lib.hid (show E = [T, f, g, -1, 5] by rw [hev, evR_0 hk0])
              subst hk0
              have o5 := hown.q Q2
              go_wp2_with (at_builtin; refine appK elInc rfl _ _ rfl [T, f, g, -1, 5] rfl o5 rfl (by simp) rfl _ _ rfl (by omega) (Q.size (hq.trans Q2)) ?_; intro A' c' w' hown' hg' hgr')
              go_roundw
              case rel => exact ⟨k + 1, by omega, by go_num, by rw [hI.out], by rw [hE.out, HYE.out (by trivial) (by trivial), HEE.out]; exact ⟨_, _, _, rfl, hown'⟩, (hq.trans Q2).mark o5 (Nat.le_refl _) hg'⟩
              case measure => simp [intOf]; omega
            · have HEE := Lib.hid (show E = [T, f, g, f, R2] by rw [hev, evR_1 hk1'])
              subst hk1'
              have E1 : Blk (wc.setCell ⟨w1.heap.size, 3, none⟩ (.int .i64 f)) w1.heap.size 42 #[.int .i64 T, .int .i64 f, .int .i64 g, .int .i64 f, .int .i64 5] := by simpa using BE.set_ 3 (.int .i64 f)
              have QS1 : Q wo (wc.setCell ⟨w1.heap.size, 3, none⟩ (.int .i64 f)) := Q2.setCell (p := ⟨w1.heap.size, 3, none⟩) hge _
              have R1x := BR.far (p := ⟨w1.heap.size, 3, none⟩) hne (.int .i64 f)
              have d1 := E1.cell
              have e1 := E1.frozen
              have m1 := E1.lt
              have dd1 := (E1.alloc (.cells #[.int .i64 f, .int .i64 g] 2)).cell
              have r1 := R1x.cell
              have rl1 := R1x.lt
              have E2 : Blk ((wc.setCell ⟨w1.heap.size, 3, none⟩ (.int .i64 f)).setCell ⟨w1.heap.size, 4, none⟩ (.int .i64 R2)) w1.heap.size 42 #[.int .i64 T, .int .i64 f, .int .i64 g, .int .i64 f, .int .i64 R2] := by simpa using E1.set_ 4 (.int .i64 R2)
              have QS2 : Q wo ((wc.setCell ⟨w1.heap.size, 3, none⟩ (.int .i64 f)).setCell ⟨w1.heap.size, 4, none⟩ (.int .i64 R2)) := QS1.setCell (p := ⟨w1.heap.size, 4, none⟩) hge _
              have R2x := R1x.far (p := ⟨w1.heap.size, 4, none⟩) hne (.int .i64 R2)
              have d2 := E2.cell
              have e2 := E2.frozen
              have m2 := E2.lt
              have dd2 := (E2.alloc (.cells #[.int .i64 f, .int .i64 g] 2)).cell
              have r2 := R2x.cell
              have rl2 := R2x.lt
              have Q5 := QS2.alloc (.cells #[.int .i64 f, .int .i64 g] 2)
              have o5 := hown.q Q5
              go_wp2_with (at_builtin; refine appK elInc rfl _ _ rfl [T, f, g, f, R2] rfl o5 rfl (by simp) rfl _ _ rfl (by omega) (Q.size (hq.trans Q5)) ?_; intro A' c' w' hown' hg' hgr')
              go_roundw
              case rel => exact ⟨k + 1, by omega, by go_num, by rw [hI.out], by rw [hE.out, HYE.out (by trivial) (by trivial), HEE.out]; exact ⟨_, _, _, rfl, hown'⟩, (hq.trans Q5).mark o5 (Nat.le_refl _) hg'⟩
              case measure => simp [intOf]; omega
            · have HEE := Lib.hid (show E = [T, f, g, g, R2] by rw [hev, evR_2 hk2])
              subst hk2
              have E1 : Blk (wc.setCell ⟨w1.heap.size, 3, none⟩ (.int .i64 g)) w1.heap.size 42 #[.int .i64 T, .int .i64 f, .int .i64 g, .int .i64 g, .int .i64 5] := by simpa using BE.set_ 3 (.int .i64 g)
              have QS1 : Q wo (wc.setCell ⟨w1.heap.size, 3, none⟩ (.int .i64 g)) := Q2.setCell (p := ⟨w1.heap.size, 3, none⟩) hge _
              have R1x := BR.far (p := ⟨w1.heap.size, 3, none⟩) hne (.int .i64 g)
              have d1 := E1.cell
              have e1 := E1.frozen
              have m1 := E1.lt
              have dd1 := (E1.alloc (.cells #[.int .i64 f, .int .i64 g] 2)).cell
              have r1 := R1x.cell
              have rl1 := R1x.lt
              have E2 : Blk ((wc.setCell ⟨w1.heap.size, 3, none⟩ (.int .i64 g)).setCell ⟨w1.heap.size, 4, none⟩ (.int .i64 R2)) w1.heap.size 42 #[.int .i64 T, .int .i64 f, .int .i64 g, .int .i64 g, .int .i64 R2] := by simpa using E1.set_ 4 (.int .i64 R2)
              have QS2 : Q wo ((wc.setCell ⟨w1.heap.size, 3, none⟩ (.int .i64 g)).setCell ⟨w1.heap.size, 4, none⟩ (.int .i64 R2)) := QS1.setCell (p := ⟨w1.heap.size, 4, none⟩) hge _
              have R2x := R1x.far (p := ⟨w1.heap.size, 4, none⟩) hne (.int .i64 R2)
              have d2 := E2.cell
              have e2 := E2.frozen
              have m2 := E2.lt
              have dd2 := (E2.alloc (.cells #[.int .i64 f, .int .i64 g] 2)).cell
              have r2 := R2x.cell
              have rl2 := R2x.lt
              have Q5 := QS2.alloc (.cells #[.int .i64 f, .int .i64 g] 2)
              have o5 := hown.q Q5
              go_wp2_with (at_builtin; refine appK elInc rfl _ _ rfl [T, f, g, g, R2] rfl o5 rfl (by simp) rfl _ _ rfl (by omega) (Q.size (hq.trans Q5)) ?_; intro A' c' w' hown' hg' hgr')
              go_roundw
              case rel => exact ⟨k + 1, by omega, by go_num, by rw [hI.out], by rw [hE.out, HYE.out (by trivial) (by trivial), HEE.out]; exact ⟨_, _, _, rfl, hown'⟩, (hq.trans Q5).mark o5 (Nat.le_refl _) hg'⟩
              case measure => simp [intOf]; omega
    · obtain rfl : k = N := by omega
      go_wp2_with fail
      go_ret
      obtain ⟨c, h1, h2⟩ := HLE.out k
      refine RL.mk' (hown.mono Q0.size) hqw ?_ (by decide)
      rw [h2]
      omega
end Go.Proofs.YtkpdoikjfibflaaGreatDoor
namespace Go.Proofs.YtkpdoikjfibflaaGreatDoor
open Go.RowKit Go.WideShapes Go.ChangeShapes Go.Shelf
set_option maxRecDepth 100000 in
set_option maxHeartbeats 4000000 in
theorem run_stable (B g N c : Nat) (X : List Int) (w : World) (h : SO w B g N c X id) (hK : KB X N) (hN : N ≤ 1000000000) :
    Calls Tryz.prog 41 #[.slice (some ⟨g, 0, none⟩) N c, .int .i64 N, .func (.func 22) #[] #[]] w fun e w' => e = .returned (.tuple #[]) ∧ ∃ f', Prm 0 N f' ∧ Srt (keyI X) f' 0 N ∧ SO w' B g N c X f' ∧ w.grownBy w' (some g) := by
  have HK := Lib.hid hK
  have HN := Lib.hid hN
  have hNI : (N : Int) ≤ 1000000000 := by omega
  clear hK hN
  go_enter Tryz.func41, Tryz.ntmps41
  go_wp2_with fail
  go_loopw [7, 8] (fun s7 s8 wr => ∃ (A a : Nat) (f1 : Nat → Nat), s7 = .int .i64 (a : Nat) ∧ s8 = .int .i64 ((a : Int) + 20) ∧ a ≤ N ∧ Hid (a = A * 20) ∧ Hid (BlkR (keyI X) N 20 A f1) ∧ SO wr B g N c X f1 ∧ w.grownBy wr (some g)) (fun s7 _ _ => N + 1 - (intOf s7).toNat)
  case atStart => exact ⟨0, 0, id, rfl, rfl, by omega, Lib.hid (by omega), Lib.hid (BlkR.start _ _ _), h, grown_refl _ _⟩
  case round =>
    obtain ⟨A, a, f1, rfl, rfl, haN, HA, HB, h1, hg⟩ := hrel
    clear h
    have haI : (a : Int) ≤ 1000000000 := by omega
    by_cases hlt : a + 20 ≤ N
    · have hltI : (a : Int) + 20 ≤ (N : Int) := by omega
      have K := Lib.hid (run_insertion B g N c X f1 a (a + 20))
      have hI := Lib.hid (show Inc f1 a (a + 20) by rw [HA.out]; exact HB.out.inc)
      go_wp2_with fail
      refine (K.out _ h1 HK.out HN.out (by omega) hlt hI.out).mono ?_
      rintro e w2 ⟨rfl, f2, hs, h2, hg2⟩
      have HB2 : Hid (BlkR (keyI X) N 20 (A + 1) f2) := Lib.hid (HB.out.next (by have := HA.out; omega) (by have e := HA.out; rw [show A * 20 = a from e.symm, show (A + 1) * 20 = a + 20 by omega]; exact hs))
      go_wp2_with fail
      go_roundw
      case rel => exact ⟨A + 1, a + 20, f2, by go_num, by go_num, hlt, Lib.hid (by have := HA.out; omega), HB2, h2, grown_two hg hg2⟩
      case measure => simp [intOf]; omega
    · have hltI : ¬ (a : Int) + 20 ≤ (N : Int) := by omega
      have K := Lib.hid (run_insertion B g N c X f1 a N)
      have hI := Lib.hid (show Inc f1 a N by rw [HA.out]; exact HB.out.inc)
      go_wp2_with fail
      refine (K.out _ h1 HK.out HN.out haN (Nat.le_refl _) hI.out).mono ?_
      rintro e w2 ⟨rfl, f2, hs, h2, hg2⟩
      have HAll : Hid (AllR (keyI X) N 20 f2) := Lib.hid (HB.out.all (by have := HA.out; omega) (by have := HA.out; omega) (by rw [← HA.out]; exact hs))
      have hg3 := grown_two hg hg2
      clear h1 hg hg2 hs HB hI K HA
      go_wp2_with fail
      go_loopw [6, 7, 8, 9] (fun s6 _ _ _ wr => ∃ (s : Nat) (f3 : Nat → Nat), s6 = .int .i64 (s : Nat) ∧ 20 ≤ s ∧ s ≤ 2000000000 ∧ Hid (AllR (keyI X) N s f3) ∧ SO wr B g N c X f3 ∧ w.grownBy wr (some g)) (fun s6 _ _ _ _ => N - (intOf s6).toNat)
      case atStart => exact ⟨20, f2, rfl, by omega, by omega, HAll, h2, hg3⟩
      case round =>
        obtain ⟨s, f3, rfl, hs20, hs2, HL, h4, hg4⟩ := hrel
        clear h2 hg3 HAll
        have hsI : (s : Int) ≤ 2000000000 := by omega
        have hs0 : (20 : Int) ≤ (s : Int) := by omega
        by_cases hsN : s < N
        · have hsNI : (s : Int) < (N : Int) := by omega
          obtain ⟨t, ht⟩ : ∃ t, t = 2 * s := ⟨_, rfl⟩
          have htE : 2 * (s : Int) = (t : Int) := by omega
          have htE2 : (s : Int) * 2 = (t : Int) := by omega
          have htI : (t : Int) ≤ 2000000000 := by omega
          have HT := Lib.hid ht
          clear ht
          go_wp2_with fail
          go_loopw [7, 8] (fun s7 s8 wr => ∃ (A a : Nat) (f5 : Nat → Nat), s7 = .int .i64 (a : Nat) ∧ s8 = .int .i64 ((a : Int) + (t : Int)) ∧ a ≤ N ∧ Hid (a = A * (2 * s)) ∧ Hid (MgR (keyI X) N s A f5) ∧ SO wr B g N c X f5 ∧ w.grownBy wr (some g)) (fun s7 _ _ => N + 1 - (intOf s7).toNat)
          case atStart => exact ⟨0, 0, f3, rfl, by go_num, by omega, Lib.hid (by omega), Lib.hid HL.out.mg, h4, hg4⟩
          case round =>
            obtain ⟨A, a, f5, rfl, rfl, haN, HA, HM, h5, hg5⟩ := hrel
            clear h4 hg4
            have haI : (a : Int) ≤ 1000000000 := by omega
            by_cases hlt : a + t ≤ N
            · have hltI : (a : Int) + (t : Int) ≤ (N : Int) := by omega
              have ht := HT.out
              have K := Lib.hid (run_symMerge B g N c X HK.out HN.out (a + t - a) a (a + s) (a + t) f5)
              have HP := Lib.hid (show Srt (keyI X) f5 a (a + s) ∧ Srt (keyI X) f5 (a + s) (a + t) ∧ Low f5 a (a + s) (a + t) from by
                have h := HM.out.pre (v := a + t) (by omega) (by rw [← HA.out]; omega) (by rw [← HA.out, Nat.min_eq_left (by omega)]; omega)
                rw [← HA.out] at h
                exact ⟨h.1, h.2.1, h.2.2.1⟩)
              have hsp : 0 < s := by omega
              have hst : s < t := by omega
              clear ht
              go_wp2_with fail
              refine (K.out _ (Nat.le_refl _) h5 (by omega) (by omega) hlt HP.out.1 HP.out.2.1 HP.out.2.2).mono ?_
              rintro e w6 ⟨rfl, f6, hs6, h6, hg6⟩
              have HM2 : Hid (MgR (keyI X) N s (A + 1) f6) := Lib.hid (HM.out.next hsp (by rw [← HA.out]; have := HT.out; omega) (by rw [← HA.out, show a + s + s = a + t by have := HT.out; omega]; exact hs6))
              go_wp2_with fail
              go_roundw
              case rel => exact ⟨A + 1, a + t, f6, by go_num, by go_num, hlt, Lib.hid (by rw [Nat.succ_mul, ← HA.out, ← HT.out]), HM2, h6, grown_two hg5 hg6⟩
              case measure => simp [intOf]; omega
            · have hltI : ¬ (a : Int) + (t : Int) ≤ (N : Int) := by omega
              have ht := HT.out
              have hsp : 0 < s := by omega
              by_cases hm : a + s < N
              · have hmI : (a : Int) + (s : Int) < (N : Int) := by omega
                have K := Lib.hid (run_symMerge B g N c X HK.out HN.out (N - a) a (a + s) N f5)
                have HP := Lib.hid (show Srt (keyI X) f5 a (a + s) ∧ Srt (keyI X) f5 (a + s) N ∧ Low f5 a (a + s) N from by
                  have h := HM.out.pre (v := N) (by omega) (by rw [← HA.out]; omega) (by rw [← HA.out, Nat.min_eq_right (by omega)])
                  rw [← HA.out] at h
                  exact ⟨h.1, h.2.1, h.2.2.1⟩)
                have hE1 : N < a + s + s := by omega
                clear ht
                go_wp2_with fail
                refine (K.out _ (Nat.le_refl _) h5 (by omega) hm (Nat.le_refl _) HP.out.1 HP.out.2.1 HP.out.2.2).mono ?_
                rintro e w6 ⟨rfl, f6, hs6, h6, hg6⟩
                have HM2 : Hid (AllR (keyI X) N t f6) := Lib.hid (by rw [HT.out]; exact HM.out.end_ hsp (by rw [← HA.out]; exact hE1) (by rw [← HA.out]; exact hm) (by rw [← HA.out]; exact hs6))
                go_wp2_with fail
                go_roundw
                case rel => exact ⟨t, f6, by go_num, by have := HT.out; omega, by have := HT.out; omega, HM2, h6, grown_two hg5 hg6⟩
                case measure => have := HT.out; simp [intOf]; omega
              · have hmI : ¬ (a : Int) + (s : Int) < (N : Int) := by omega
                have HM2 : Hid (AllR (keyI X) N t f5) := Lib.hid (by rw [HT.out]; exact HM.out.end0 (by rw [← HA.out]; omega))
                clear ht
                go_wp2_with fail
                go_roundw
                case rel => exact ⟨t, f5, by go_num, by have := HT.out; omega, by have := HT.out; omega, HM2, h5, hg5⟩
                case measure => have := HT.out; simp [intOf]; omega
        · have hsNI : ¬ (s : Int) < (N : Int) := by omega
          have HD := Lib.hid (HL.out.done (by omega))
          go_wp2_with fail
          go_end0
          exact ⟨rfl, f3, HD.out.1, HD.out.2, h4, hg4⟩
theorem run_SortStable (B g N c : Nat) (X : List Int) (w : World) (h : Own w B 42 5 (.slice (some ⟨g, 0, none⟩) N c) N X) (hK : KB X N) (hN : N ≤ 1000000000) :
    Calls Tryz.prog 21 #[.slice (some ⟨g, 0, none⟩) N c, .func (.func 22) #[] #[]] w fun e w' => e = .returned (.tuple #[]) ∧ Own w' B 42 5 (.slice (some ⟨g, 0, none⟩) N c) N (srtL X N) ∧ w.grownBy w' (some g) := by
  have hl : X.length = N * 5 := h.len
  have h0 : SO w B g N c X id := ⟨by rw [← flatP_id hl]; exact h, fun j hj => hj⟩
  have K := Lib.hid (run_stable B g N c X w h0 hK hN)
  go_enter Tryz.func21, Tryz.ntmps21
  go_wp2_with fail
  refine K.out.mono ?_
  rintro e w2 ⟨rfl, f, hp, hs, h2, hg⟩
  go_wp2_with fail
  go_end0
  refine ⟨rfl, ?_, hg⟩
  rw [← srtL_of hp hs]
  exact h2.own
end Go.Proofs.YtkpdoikjfibflaaGreatDoor
namespace Go.Proofs.YtkpdoikjfibflaaGreatDoor
open Go.RowKit Go.WideShapes Go.ChangeShapes
def ioC (wx wy a b d s : Int) (xs : List Int) (n : Nat) (ys : List Int) (m : Nat) : Int := if wnB wx wy = true then ctimC a b d s xs n ys m else 1
def ioL (wx wy a b d s : Int) (xs : List Int) (n : Nat) (ys : List Int) (m : Nat) : List Int := if wnB wx wy = true ∧ ctimC a b d s xs n ys m = 0 then inL wx wy a b d xs n ys m 0 1 (ctimL a b d s xs n ys m) else []
theorem ioL_len (wx wy a b d s : Int) (xs : List Int) (n : Nat) (ys : List Int) (m : Nat) : ∃ c, c ≤ 401 ∧ (ioL wx wy a b d s xs n ys m).length = c * 5 := by
  unfold ioL
  split
  · obtain ⟨c, h1, h2⟩ := inL_len wx wy a b d xs n ys m 0 1 (ctimL a b d s xs n ys m)
    exact ⟨c, Nat.le_trans h1 (ctimL_len a b d s xs n ys m), h2⟩
  · exact ⟨0, by omega, rfl⟩
end Go.Proofs.YtkpdoikjfibflaaGreatDoor
namespace Go.Proofs.YtkpdoikjfibflaaGreatDoor
open Go.RowKit Go.WideShapes Go.ChangeShapes
/-- The check times of two tracks. -/
def kTm (s : Int) (D : List (Nat × List Int)) (i k : Nat) : Option (List Int) := ckGo s (ckTo (dx D i) (dn D i) (dx D k) (dn D k)) 401 (ckFrom s (dx D i) (dx D k))
def prL (wx wy a b d : Int) (D : List (Nat × List Int)) (i k : Nat) (T : List Int) : List Int := inL wx wy a b d (dx D i) (dn D i) (dx D k) (dn D k) i k T
/-- The incidents of track i with the j tracks behind it, if all have their check times. -/
def aiIn (wx wy a b d s : Int) (D : List (Nat × List Int)) (i : Nat) : Nat → Option (List Int)
  | 0 => some []
  | j + 1 => match aiIn wx wy a b d s D i j, kTm s D i (i + 1 + j) with
    | some L, some T => some (L ++ prL wx wy a b d D i (i + 1 + j) T)
    | _, _ => none
/-- The incidents of the first i tracks with those behind them, of n. -/
def aiTo (wx wy a b d s : Int) (D : List (Nat × List Int)) (n : Nat) : Nat → Option (List Int)
  | 0 => some []
  | i + 1 => match aiTo wx wy a b d s D n i, aiIn wx wy a b d s D i (n - 1 - i) with
    | some L, some M => some (L ++ M)
    | _, _ => none
section
variable {wx wy a b d s : Int} {D : List (Nat × List Int)} {i n : Nat}
theorem aiIn_yes {j : Nat} {L T : List Int} (h : aiIn wx wy a b d s D i j = some L) (hT : kTm s D i (i + 1 + j) = some T) : aiIn wx wy a b d s D i (j + 1) = some (L ++ prL wx wy a b d D i (i + 1 + j) T) := by
  rw [aiIn, h, hT]
theorem aiIn_no {j : Nat} (hT : kTm s D i (i + 1 + j) = none) : aiIn wx wy a b d s D i (j + 1) = none := by
  rw [aiIn, hT]
  cases aiIn wx wy a b d s D i j <;> rfl
theorem aiIn_none {j : Nat} (h : aiIn wx wy a b d s D i j = none) : ∀ e, aiIn wx wy a b d s D i (j + e) = none
  | 0 => h
  | e + 1 => by
    show aiIn wx wy a b d s D i (j + e + 1) = none
    rw [aiIn, aiIn_none h e]
theorem aiTo_yes {L M : List Int} (h : aiTo wx wy a b d s D n i = some L) (hM : aiIn wx wy a b d s D i (n - 1 - i) = some M) : aiTo wx wy a b d s D n (i + 1) = some (L ++ M) := by
  rw [aiTo, h, hM]
theorem aiTo_no (hM : aiIn wx wy a b d s D i (n - 1 - i) = none) : aiTo wx wy a b d s D n (i + 1) = none := by
  rw [aiTo, hM]
  cases aiTo wx wy a b d s D n i <;> rfl
theorem aiTo_none (h : aiTo wx wy a b d s D n i = none) : ∀ e, aiTo wx wy a b d s D n (i + e) = none
  | 0 => h
  | e + 1 => by
    show aiTo wx wy a b d s D n (i + e + 1) = none
    rw [aiTo, aiTo_none h e]
theorem ai_fail {j : Nat} (hT : kTm s D i (i + 1 + j) = none) (hj : i + 1 + j < n) : aiTo wx wy a b d s D n n = none := by
  have h1 := aiIn_none (aiIn_no (wx := wx) (wy := wy) (a := a) (b := b) (d := d) hT) (n - 1 - i - (j + 1))
  rw [show j + 1 + (n - 1 - i - (j + 1)) = n - 1 - i by omega] at h1
  have h2 := aiTo_none (aiTo_no h1) (n - (i + 1))
  rw [show i + 1 + (n - (i + 1)) = n by omega] at h2
  exact h2
end
theorem prL_len (wx wy a b d : Int) (D : List (Nat × List Int)) (i k : Nat) (T : List Int) : ∃ c, c ≤ T.length ∧ (prL wx wy a b d D i k T).length = c * 5 := inL_len _ _ _ _ _ _ _ _ _ _ _ _
theorem kTm_len {s : Int} {D : List (Nat × List Int)} {i k : Nat} {T : List Int} (h : kTm s D i k = some T) : T.length ≤ 401 := ckGo_len 401 _ T h
/-- The code and the list of the incidents of all tracks. -/
def allT (D : List (Nat × List Int)) : Bool := (List.range D.length).all fun k => isTrk (dx D k) (dn D k)
def aiC (wx wy a b d s : Int) (D : List (Nat × List Int)) : Int :=
  if 16 < D.length then 3 else if wnB wx wy = true ∧ isWat a b d s = true ∧ allT D = true then (match aiTo wx wy a b d s D D.length D.length with | none => 3 | some _ => 0) else 1
def aiL (wx wy a b d s : Int) (D : List (Nat × List Int)) : List Int :=
  if aiC wx wy a b d s D = 0 then (match aiTo wx wy a b d s D D.length D.length with | none => [] | some X => srtL X (X.length / 5)) else []
theorem allT_at {D : List (Nat × List Int)} (h : allT D = true) {k : Nat} (hk : k < D.length) : isTrk (dx D k) (dn D k) = true := by
  unfold allT at h
  exact List.all_eq_true.1 h k (List.mem_range.2 hk)
theorem allT_ts {ts : List Tk} : allT (ts.map Tk.dat) = ts.all Tk.trk := by
  unfold allT
  rw [List.length_map]
  have e : ∀ k (hk : k < ts.length), isTrk (dx (ts.map Tk.dat) k) (dn (ts.map Tk.dat) k) = ts[k].trk := fun k hk => by
    have hd : (ts.map Tk.dat).getD k (0, []) = ts[k].dat := by rw [List.getD_eq_getElem?_getD, List.getElem?_map, List.getElem?_eq_getElem hk]; rfl
    unfold dn dx
    rw [hd]
    rfl
  cases h : ts.all Tk.trk
  · obtain ⟨T, hT, hn⟩ := List.all_eq_false.1 h
    obtain ⟨k, hk, rfl⟩ := List.mem_iff_getElem.1 hT
    refine List.all_eq_false.2 ⟨k, List.mem_range.2 hk, ?_⟩
    rw [e k hk]
    exact hn
  · refine List.all_eq_true.2 fun k hk => ?_
    have hk' := List.mem_range.1 hk
    rw [e k hk']
    exact List.all_eq_true.1 h _ (List.getElem_mem hk')
end Go.Proofs.YtkpdoikjfibflaaGreatDoor
namespace Go.Proofs.YtkpdoikjfibflaaGreatDoor
open Go.RowKit Go.WideShapes Go.ChangeShapes
theorem run_appOwn {wr : World} {st ty e : TypeId} {k : Nat} (E : EltT st e k) {B B2 : Nat} {A A2 : Option Addr} {n c m d : Nat} {xs ys : List Int} (hown : Own wr B e k (.slice A n c) n xs) (hown2 : Own wr B2 e k (.slice A2 m d) m ys)
    (hn : n + m ≤ 1073741823) (hB : B ≤ wr.heap.size) : ∃ A' c' w', (Builtin.append_ #[st, st] ty #[.slice A n c, .slice A2 m d]).run Tryz.prog wr = .ok (.slice A' (n + m) c') w' ∧ Own w' B e k (.slice A' (n + m) c') (n + m) (xs ++ ys) ∧ wr.grownBy w' (A.map (·.block)) ∧ (A ≠ none → A' ≠ none) := by
  obtain ⟨i, z, hu, hi, hz0, hz1, hz2, hz3, hk⟩ := E
  rcases hown2.2 with ⟨h1, h0⟩ | ⟨g, cap, cur, h1, _⟩
  · injection h1 with e1 e2 e3
    subst e1 e2 e3
    have hy : ys = [] := List.eq_nil_of_length_eq_zero (by have := hown2.len; omega)
    subst hy
    exact ⟨A, c, wr, by simpa using run_append_owned_none wr B st ty e i k hu hi _ n _ hown, by simpa using hown, grown_refl _ _, fun h => h⟩
  · injection h1 with e1 e2 e3
    subst e1
    obtain ⟨v', w', hrun, ho', hg, _, hat⟩ := run_append_own_at (P := Tryz.prog) wr B st ty e i z k i.bytes hu hi hz0 hz1 rfl (by rw [hz3]; simp) hk (.slice A n c) n _ hown
      ⟨g, 0, none⟩ m d (ys.map (Value.int .i64)) (by simpa using hown2.len) (by
        intro j u hu
        rw [List.getElem?_map] at hu
        have hj : j < ys.length := by
          rcases Nat.lt_or_ge j ys.length with h | h
          · exact h
          · rw [List.getElem?_eq_none h] at hu; cases hu
        have hl := hown2.len
        have hc := hown2.cell (j := j) (by omega)
        rw [Go.WideShapes.add_plain, Nat.zero_add, hc, List.getD_eq_getElem?_getD]
        rw [List.getElem?_eq_getElem hj] at hu ⊢
        simpa using hu) (ints_one ys) (by unfold maxLen; omega) (by
        have : (n + m) * i.bytes ≤ 1073741824 * 65536 := Nat.mul_le_mul (by omega) hz2
        omega) (by omega)
    rw [← List.map_append] at ho'
    have hO : Own w' B e k v' (n + m) (xs ++ ys) := ho'
    obtain ⟨_, A', c', rfl, _, _⟩ := hO.form
    refine ⟨A', c', w', hrun, hO, by cases A <;> exact hg, fun hA hA' => ?_⟩
    subst hA'
    rcases hat with h | h
    · cases A with
      | none => exact hA rfl
      | some _ => simp [Value.ownBlock] at h
    · simp [Value.ownBlock] at h
theorem step_appOwn {wr : World} {ops : Array Oper} {o : Oper} {a : Act} {K : Act → World → Prop} {Q' : Exit → Act → World → Prop} {E' : Prop} {st e : TypeId} {k : Nat} (E : EltT st e k) (hgd : o.guard = none) (s x : Operand)
    (ho : o.op = .call { callee := .builtin .append, args := #[s, x], argTypes := #[st, st] })
    {B B2 : Nat} {A A2 : Option Addr} {n c m d : Nat} {xs ys : List Int} (hs : a.eval s = .slice A n c) (hown : Own wr B e k (.slice A n c) n xs) (hx : a.eval x = .slice A2 m d) (hown2 : Own wr B2 e k (.slice A2 m d) m ys) (hn : n + m ≤ 1073741823) (hB : B ≤ wr.heap.size)
    (h : ∀ A' c' w', Own w' B e k (.slice A' (n + m) c') (n + m) (xs ++ ys) → wr.grownBy w' (A.map (·.block)) → (A ≠ none → A' ≠ none) → K (a.put o.dst (.slice A' (n + m) c')) w') :
    if Region.wanted o (yielded ops a.tmps) = true then Oper.wp Tryz.prog o a wr K Q' else E' := by
  rw [if_pos (by simp [Region.wanted, hgd])]
  obtain ⟨A', c', w', hrun, h1, h2, h3⟩ := run_appOwn (ty := o.type) E hown hown2 hn hB
  unfold Oper.wp execOp
  simp only [ho, resolve, invoke, builtin, Sem.run_bind, Sem.run_pure, Result.andThen_ok, List.map_toArray, List.map_cons, List.map_nil, hs, hx, hrun]
  exact h A' c' w' h1 h2 h3
theorem impl_areD (A : Option Addr) (n c : Nat) (D : List (Nat × List Int)) (w : World) (ha : RdD w A D) (hD : D.length = n) (hn2 : n ≤ 9223372036854775807) :
    Calls Tryz.prog 18 #[.slice A n c] w fun e w' => e = .returned (.bool (allT D)) ∧ Q w w' := by
  obtain ⟨ts, h1, rfl⟩ := ha
  rw [allT_ts]
  exact impl_areTracks A n c ts w h1 (by simpa using hD) hn2
end Go.Proofs.YtkpdoikjfibflaaGreatDoor
namespace Go.Proofs.YtkpdoikjfibflaaGreatDoor
open Go.RowKit Go.WideShapes Go.ChangeShapes
/-- Rows of five, whose first numbers are times. -/
def PK (L : List Int) : Prop := ∃ c, L.length = c * 5 ∧ ∀ r, r < c → 0 ≤ el L (r * 5) ∧ el L (r * 5) ≤ 1000000000
theorem PK.nil : PK [] := ⟨0, rfl, fun r h => by omega⟩
theorem PK.app {L M : List Int} (h : PK L) (h' : PK M) : PK (L ++ M) := by
  obtain ⟨c, h1, h2⟩ := h
  obtain ⟨e, h3, h4⟩ := h'
  refine ⟨c + e, by rw [List.length_append, h1, h3]; omega, fun r hr => ?_⟩
  by_cases hc : r < c
  · rw [el_app_lt (by omega)]; exact h2 r hc
  · have := el_app_ge (L := L) (E := M) (j := (r - c) * 5)
    rw [h1, show c * 5 + (r - c) * 5 = r * 5 by omega] at this
    rw [this]
    exact h4 _ (by omega)
theorem PK.kb {L : List Int} (h : PK L) : KB L (L.length / 5) := by
  obtain ⟨c, h1, h2⟩ := h
  intro i hi
  exact h2 i (by omega)
theorem ckGo_in {s u : Int} (hs : 1 ≤ s) : ∀ (f : Nat) (t : Int) (L : List Int), ckGo s u f t = some L → ∀ x ∈ L, t ≤ x ∧ x ≤ u
  | 0, _, _, h => by cases h
  | f + 1, t, L, h => by
    unfold ckGo at h
    split at h
    · cases hg : ckGo s u f (t + s) with
      | none => rw [hg] at h; cases h
      | some M =>
        rw [hg] at h
        injection h with h
        subst h
        intro x hx
        rcases List.mem_cons.1 hx with rfl | hx
        · omega
        · have := ckGo_in hs f _ M hg x hx
          omega
    · injection h with h
      subst h
      intro x hx
      cases hx
theorem evR_head (r : Int × Int) (t f s : Int) : el (evR r t f s) 0 = t := by unfold evR; split <;> rfl
theorem icTo_PK {p : Int → Bool} {ev : Int → List Int} {L : List Int} (he : ∀ t, (ev t).length = 5) (hh : ∀ t, el (ev t) 0 = t) (hL : ∀ x ∈ L, 0 ≤ x ∧ x ≤ 1000000000) : ∀ k, k ≤ L.length → PK (icTo p ev L k)
  | 0, _ => PK.nil
  | k + 1, hk => by
    unfold icTo
    refine (icTo_PK he hh hL k (by omega)).app ?_
    unfold icK
    split
    · refine ⟨1, by rw [he], fun r hr => ?_⟩
      obtain rfl : r = 0 := by omega
      rw [Nat.zero_mul, hh, el_get (by omega)]
      exact hL _ (List.getElem_mem _)
    · exact PK.nil
theorem ck_bd {s : Int} {xs ys : List Int} {n m : Nat} (hs : 1 ≤ s) (h1 : isTrk xs n = true) (_h2 : isTrk ys m = true) : 0 ≤ ckFrom s xs ys ∧ ckTo xs n ys m ≤ 1000000000 := by
  have hn : 2 ≤ n := by
    have : (decide (2 ≤ n ∧ n ≤ 40) && fixTo xs n) = true := h1
    simp at this
    omega
  have a0 := (trk_at h1 (show 0 < n by omega)).1
  have a1 := (trk_at h1 (show n - 1 < n by omega)).1
  rw [Nat.zero_mul] at a0
  have f := ck_floor (f := max (el xs 0) (el ys 0)) hs (by omega)
  unfold ckFrom ckTo
  omega
theorem kTm_PK {wx wy a b d s : Int} {D : List (Nat × List Int)} {i k : Nat} {T : List Int} (hs : 1 ≤ s) (hi : isTrk (dx D i) (dn D i) = true) (hk : isTrk (dx D k) (dn D k) = true) (h : kTm s D i k = some T) : PK (prL wx wy a b d D i k T) := by
  refine icTo_PK (fun _ => evR_len _ _ _ _) (fun _ => evR_head _ _ _ _) (fun x hx => ?_) _ (Nat.le_refl _)
  have h1 := ckGo_in hs 401 _ T h x hx
  have h2 := ck_bd hs hi hk
  omega
theorem aiIn_PK {wx wy a b d s : Int} {D : List (Nat × List Int)} {i : Nat} (hs : 1 ≤ s) (hT : allT D = true) (hi : i < D.length) : ∀ (j : Nat) (L : List Int), i + 1 + j ≤ D.length → aiIn wx wy a b d s D i j = some L → PK L
  | 0, L, _, h => by injection h with h; subst h; exact PK.nil
  | j + 1, L, hj, h => by
    rw [aiIn] at h
    cases h1 : aiIn wx wy a b d s D i j with
    | none => rw [h1] at h; cases h
    | some L1 =>
      rw [h1] at h
      cases h2 : kTm s D i (i + 1 + j) with
      | none => rw [h2] at h; cases h
      | some T =>
        rw [h2] at h
        injection h with h
        subst h
        exact (aiIn_PK hs hT hi j L1 (by omega) h1).app (kTm_PK hs (allT_at hT hi) (allT_at hT (by omega)) h2)
theorem aiTo_PK {wx wy a b d s : Int} {D : List (Nat × List Int)} (hs : 1 ≤ s) (hT : allT D = true) : ∀ (i : Nat) (L : List Int), i ≤ D.length → aiTo wx wy a b d s D D.length i = some L → PK L
  | 0, L, _, h => by injection h with h; subst h; exact PK.nil
  | i + 1, L, hi, h => by
    rw [aiTo] at h
    cases h1 : aiTo wx wy a b d s D D.length i with
    | none => rw [h1] at h; cases h
    | some L1 =>
      rw [h1] at h
      cases h2 : aiIn wx wy a b d s D i (D.length - 1 - i) with
      | none => rw [h2] at h; cases h
      | some M =>
        rw [h2] at h
        injection h with h
        subst h
        exact (aiTo_PK hs hT i L1 (by omega) h1).app (aiIn_PK hs hT (by omega) _ M (by omega) h2)
end Go.Proofs.YtkpdoikjfibflaaGreatDoor
