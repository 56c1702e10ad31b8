/- Walks: the incidents of two tracks at check times, as the program makes them. No condition. -/
import Derived.Test.YtkpdoikjfibflaaGreatUmI
import Derived.Test.YtkpdoikjfibflaaGreatNrT
import Derived.Test.YtkpdoikjfibflaaGreatEqIncident
import Derived.Deep.RegionHeld3
import Derived.Deep.CutBlock
namespace Go.Proofs.YtkpdoikjfibflaaGreat
open Go.RowKit Go.WideShapes Go.ChangeShapes
theorem elInc : EltT 30 55 5 := EltT.mk infoIncident Tryz.underlying30 (by decide) rfl (by decide)
theorem bxI (w : World) (wx wy a b d s : Int) (A1 : Option Addr) (n c1 : Nat) (A2 : Option Addr) (m c2 : Nat) :
    Blk ((((w.alloc (.cells #[.int .i64 wx, .int .i64 wy] 33)).alloc (.cells #[.int .i64 a, .int .i64 b, .int .i64 d, .int .i64 s] 35)).alloc (.cells #[.slice A1 n c1] 39)).alloc (.cells #[.slice A2 m c2] 39)) w.heap.size 33 #[.int .i64 wx, .int .i64 wy] ∧ Blk ((((w.alloc (.cells #[.int .i64 wx, .int .i64 wy] 33)).alloc (.cells #[.int .i64 a, .int .i64 b, .int .i64 d, .int .i64 s] 35)).alloc (.cells #[.slice A1 n c1] 39)).alloc (.cells #[.slice A2 m c2] 39)) (w.heap.size + 1) 35 #[.int .i64 a, .int .i64 b, .int .i64 d, .int .i64 s] ∧ Blk ((((w.alloc (.cells #[.int .i64 wx, .int .i64 wy] 33)).alloc (.cells #[.int .i64 a, .int .i64 b, .int .i64 d, .int .i64 s] 35)).alloc (.cells #[.slice A1 n c1] 39)).alloc (.cells #[.slice A2 m c2] 39)) (w.heap.size + 1 + 1) 39 #[.slice A1 n c1] ∧ Blk ((((w.alloc (.cells #[.int .i64 wx, .int .i64 wy] 33)).alloc (.cells #[.int .i64 a, .int .i64 b, .int .i64 d, .int .i64 s] 35)).alloc (.cells #[.slice A1 n c1] 39)).alloc (.cells #[.slice A2 m c2] 39)) (w.heap.size + 1 + 1 + 1) 39 #[.slice A2 m c2] :=
  ⟨(((Blk.new _ _ _).alloc _).alloc _).alloc _, by simpa using ((Blk.new (w.alloc (.cells #[.int .i64 wx, .int .i64 wy] 33)) 35 #[.int .i64 a, .int .i64 b, .int .i64 d, .int .i64 s]).alloc (.cells #[.slice A1 n c1] 39)).alloc (.cells #[.slice A2 m c2] 39),
    by simpa using (Blk.new ((w.alloc (.cells #[.int .i64 wx, .int .i64 wy] 33)).alloc (.cells #[.int .i64 a, .int .i64 b, .int .i64 d, .int .i64 s] 35)) 39 #[.slice A1 n c1]).alloc (.cells #[.slice A2 m c2] 39), by simpa using Blk.new (((w.alloc (.cells #[.int .i64 wx, .int .i64 wy] 33)).alloc (.cells #[.int .i64 a, .int .i64 b, .int .i64 d, .int .i64 s] 35)).alloc (.cells #[.slice A1 n c1] 39)) 39 #[.slice A2 m c2]⟩
/-- The incident of two boats at a time. -/
def evT (wx wy a b : Int) (xs : List Int) (n : Nat) (ys : List Int) (m : Nat) (f g t : Int) : List Int := evR (ruT wx wy a b xs n ys m t) t f g
/-- The incidents of two boats at times. -/
def inL (wx wy a b d : Int) (xs : List Int) (n : Nat) (ys : List Int) (m : Nat) (f g : Int) (L : List Int) : List Int := icTo (naR a d xs n ys m) (evT wx wy a b xs n ys m f g) L L.length
theorem inL_len (wx wy a b d : Int) (xs : List Int) (n : Nat) (ys : List Int) (m : Nat) (f g : Int) (L : List Int) : ∃ c, c ≤ L.length ∧ (inL wx wy a b d xs n ys m f g L).length = c * 5 := icTo_len (fun _ => evR_len _ _ _ _) _
theorem naR_hd {l D : Int} {xs ys : List Int} {n m : Nat} {t : Int} (h : naR l D xs n ys m t = true) : hdC xs n t = 0 ∧ hdC ys m t = 0 := by
  unfold naR at h
  simp at h
  exact ⟨h.1.1, h.1.2⟩
theorem evR_0 {r1 r2 t f s : Int} (h : r1 = 0) : evR (r1, r2) t f s = [t, f, s, -1, 5] := by subst h; rfl
theorem evR_1 {r1 r2 t f s : Int} (h : r1 = 1) : evR (r1, r2) t f s = [t, f, s, f, r2] := by subst h; rfl
theorem evR_2 {r1 r2 t f s : Int} (h : r1 = 2) : evR (r1, r2) t f s = [t, f, s, s, r2] := by subst h; rfl
set_option maxRecDepth 100000 in
set_option maxHeartbeats 8000000 in
theorem impl_incidents (wx wy a b d s : Int) (AT : Option Addr) (N cT : Nat) (L : List Int) (A1 : Option Addr) (n c1 : Nat) (xs : List Int) (A2 : Option Addr) (m c2 : Nat) (ys : List Int) (f g : Int) (w : World) (hw : wnd wx wy) (hwn : wnB wx wy = true) (hx : isWat a b d s = true) (hL : Rd w AT L) (hN : L.length = N) (hN2 : N ≤ 401) (ha : Rd w A1 xs) (hn : xs.length = n * 3) (h1 : isTrk xs n = true) (hb : Rd w A2 ys) (hm : ys.length = m * 3) (h2 : isTrk ys m = true) :
    Calls Tryz.prog 53 #[.agg #[.int .i64 wx, .int .i64 wy], .agg #[.int .i64 a, .int .i64 b, .int .i64 d, .int .i64 s], .slice AT N cT, .agg #[.slice A1 n c1], .agg #[.slice A2 m c2], .int .i64 f, .int .i64 g] w (RL w 55 5 ((inL wx wy a b d xs n ys m f g L).length / 5) (inL wx wy a b d xs n ys m f g L)) := by
  obtain ⟨hw1, hw2, hw3, hw4⟩ := isWat_all hx
  have KN := Lib.hid (fun t (wv : World) (h : Rd wv A1 xs) (h' : Rd wv A2 ys) => impl_near a b d s A1 n c1 xs A2 m c2 ys t wv h hn h1 h' hm h2 hx)
  have KR := Lib.hid (fun t (wv : World) (h : Rd wv A1 xs) (h' : Rd wv A2 ys) (hp : naR a d xs n ys m t = true) => impl_RuleAt1 wx wy A1 n c1 xs A2 m c2 ys t a b wv hw hwn h hn h1 h' hm h2 (naR_hd hp).1 (naR_hd hp).2 hw1 hw2)
  have HK := Lib.hid (fun t => ruT_keeper wx wy a b xs n ys m t)
  have hle := fun k => icTo_len (p := naR a d xs n ys m) (L := L) (ev := evT wx wy a b xs n ys m f g) (fun t => evR_len (ruT wx wy a b xs n ys m t) t f g) k
  have HEV := Lib.hid (show ∀ t, evT wx wy a b xs n ys m f g t = evR ((ruT wx wy a b xs n ys m t).1, (ruT wx wy a b xs n ys m t).2) t f g from fun _ => rfl)
  unfold inL
  rw [hN]
  have HN := Lib.hid hN
  have HLE := Lib.hid hle
  clear hw hwn hx hn h1 hm h2 hw1 hw2 hw3 hw4 hN hle
  obtain ⟨rF, hrF⟩ : ∃ rF, rF = ruT wx wy a b xs n ys m := ⟨_, rfl⟩
  rw [← hrF] at HK HEV KR
  clear hrF
  generalize naR a d xs n ys m = p at *
  generalize evT wx wy a b xs n ys m f g = ev at *
  obtain ⟨W, hW⟩ : ∃ W, W = (((w.alloc (.cells #[.int .i64 wx, .int .i64 wy] 33)).alloc (.cells #[.int .i64 a, .int .i64 b, .int .i64 d, .int .i64 s] 35)).alloc (.cells #[.slice A1 n c1] 39)).alloc (.cells #[.slice A2 m c2] 39) := ⟨_, rfl⟩
  obtain ⟨B0, B1, B2, B3⟩ := bxI w wx wy a b d s A1 n c1 A2 m c2
  rw [← hW] at B0 B1 B2 B3
  have Q0 : Q w W := by rw [hW]; exact ((((Q.refl w).alloc _).alloc _).alloc _).alloc _
  have zW : W.heap.size = w.heap.size + 1 + 1 + 1 + 1 := by rw [hW]; simp
  have HW := Lib.hid hW
  clear hW
  go_enter Tryz.func53, Tryz.ntmps53
  go_wp2_with fail
  rw [← HW.out]
  go_loopw [15, 16, 26] (fun v bf i wr => ∃ k : Nat, k ≤ N ∧ i = .int .i64 k ∧ bf = .bool (beB p L k) ∧ OwnL wr W.heap.size 55 5 v (icTo p ev L k) ∧ Q W wr) (fun _ _ i _ => N - (intOf i).toNat)
  case atStart => exact ⟨0, by omega, rfl, rfl, (by have h := OwnL.new W 55 5 (Nat.le_refl W.heap.size); rw [zW] at h ⊢; exact h), by (repeat (first | assumption | exact Q.refl _ | refine Q.alloc ?_ _ | refine Q.drewN ?_ _ | refine Q.drew ?_))⟩
  case round =>
    obtain ⟨k, hk, rfl, rfl, ⟨A5, k5, c5, rfl, hown⟩, hq⟩ := hrel
    obtain ⟨wo, rfl⟩ : ∃ wo, wo = wr := ⟨_, rfl⟩
    have hqw : Q w wo := Q0.trans hq
    have hlen : k5 ≤ k := by obtain ⟨c, h1, h2⟩ := HLE.out k; have := hown.len; omega
    by_cases hlt : k < N
    · obtain ⟨bl, ol, rfl, g0⟩ := (hL.q hqw).at1 HN.out hlt
      have hltI : (k : Int) < (N : Int) := by omega
      have b0 := B0.q hq
      have b1 := B1.q hq
      have b2 := B2.q hq
      have b3 := B3.q hq
      have hI := Lib.hid (beB_succ p L k)
      have hE := Lib.hid (show icTo p ev L (k + 1) = icTo p ev L k ++ icK p ev L k from rfl)
      have HNO := Lib.hid (@icK_no p ev L k)
      have HBE := Lib.hid (@icK_be p ev L k)
      have HYE := Lib.hid (@icK_yes p ev L k)
      obtain ⟨T, hT⟩ : ∃ T, T = el L k := ⟨_, rfl⟩
      rw [← hT] at g0 hI HNO HYE
      have hk1 := KR.out T
      have kk := HK.out T
      have hev := HEV.out T
      clear hT
      have k1 := fun wv h h' => KN.out T wv h h'
      generalize ev T = E at *
      generalize (rF T).1 = R1 at *
      generalize (rF T).2 = R2 at *
      generalize icK p ev L k = IK at *
      have HA := ha.q hqw
      have HB := hb.q hqw
      generalize hpT : p T = P at *
      generalize beB p L k = be at *
      have K1 := Lib.hid k1
      clear k1
      try clear c_b1
      try clear l_b1
      try clear c_b2
      try clear l_b2
      try clear c_b3
      try clear l_b3
      have c_b1 := b1.cell
      have l_b1 := b1.lt
      have c_b2 := b2.cell
      have l_b2 := b2.lt
      have c_b3 := b3.cell
      have l_b3 := b3.lt
      go_wp2_with fail
      refine (K1.out _ HA HB).mono ?_
      rintro e1 w1 ⟨rfl, q1⟩
      replace b0 := b0.q q1
      replace b1 := b1.q q1
      replace b2 := b2.q q1
      replace b3 := b3.q q1
      replace HA := HA.q q1
      replace HB := HB.q q1
      cases P with
      | false =>
        go_wp2_with fail
        go_roundw
        case rel => exact ⟨k + 1, by omega, by go_num, by rw [hI.out], by rw [hE.out, HNO.out (by trivial), List.append_nil]; exact ⟨_, _, _, rfl, hown.q q1⟩, hq.trans q1⟩
        case measure => simp [intOf]; omega
      | true =>
        cases be with
        | true =>
          go_wp2_with fail
          go_roundw
          case rel => exact ⟨k + 1, by omega, by go_num, by rw [hI.out], by rw [hE.out, HBE.out (by trivial), List.append_nil]; exact ⟨_, _, _, rfl, hown.q q1⟩, hq.trans q1⟩
          case measure => simp [intOf]; omega
        | false =>
          try clear c_b0
          try clear l_b0
          try clear c_b1
          try clear l_b1
          try clear c_b2
          try clear l_b2
          try clear c_b3
          try clear l_b3
          have c_b0 := b0.cell
          have l_b0 := b0.lt
          have c_b1 := b1.cell
          have l_b1 := b1.lt
          have c_b2 := b2.cell
          have l_b2 := b2.lt
          have c_b3 := b3.cell
          have l_b3 := b3.lt
          have KR1 := Lib.hid (fun wv h h' => hk1 wv h h' (by trivial))
          go_wp2_with fail
          have QE : Q w1 (w1.alloc (.cells #[.int .i64 T, .int .i64 f, .int .i64 g, .int .i64 (-1), .int .i64 5] 55)) := (Q.refl w1).alloc _
          refine (KR1.out _ (HA.q QE) (HB.q QE)).mono ?_
          rintro e2 w2 ⟨rfl, q2⟩
          have BE := q2.boxB
          have Q2 : Q wo w2 := q1.trans (QE.trans q2)
          have hge : wo.heap.size ≤ w1.heap.size := q1.size
          have cE := BE.cell
          have fE := BE.frozen
          have lE := BE.lt
          clear c_b0 l_b0 c_b1 l_b1 c_b2 l_b2 c_b3 l_b3
          rcases kk with hk0 | hk1' | hk2
          · have HEE := Lib.hid (show E = [T, f, g, -1, 5] by rw [hev, evR_0 hk0])
            subst hk0
            have Q5 : Q wo (w2.alloc (.cells #[.int .i64 0, .int .i64 R2] 91)) := Q2.alloc _
            have o5 := hown.q Q5
            have cE1 := (BE.alloc (.cells #[.int .i64 0, .int .i64 R2] 91)).cell
            go_wp2_with (at_builtin; refine appK elInc rfl _ _ rfl [T, f, g, -1, 5] rfl o5 rfl (by simp) rfl _ _ rfl (by omega) (Q.size (hq.trans Q5)) ?_; intro A' c' w' hown' hg' hgr')
            go_roundw
            case rel => exact ⟨k + 1, by omega, by go_num, by rw [hI.out], by rw [hE.out, HYE.out (by trivial) (by trivial), HEE.out]; exact ⟨_, _, _, rfl, hown'⟩, (hq.trans Q5).mark o5 (Nat.le_refl _) hg'⟩
            case measure => simp [intOf]; omega
          · have HEE := Lib.hid (show E = [T, f, g, f, R2] by rw [hev, evR_1 hk1'])
            subst hk1'
            have E1 : Blk (w2.setCell ⟨w1.heap.size, 4, none⟩ (.int .i64 R2)) w1.heap.size 55 #[.int .i64 T, .int .i64 f, .int .i64 g, .int .i64 (-1), .int .i64 R2] := by simpa using BE.set_ 4 (.int .i64 R2)
            have QS1 : Q wo (w2.setCell ⟨w1.heap.size, 4, none⟩ (.int .i64 R2)) := Q2.setCell (p := ⟨w1.heap.size, 4, none⟩) hge _
            have d1 := E1.cell
            have e1 := E1.frozen
            have m1 := E1.lt
            have dd1 := (E1.alloc (.cells #[.int .i64 1, .int .i64 R2] 91)).cell
            have E2 : Blk ((w2.setCell ⟨w1.heap.size, 4, none⟩ (.int .i64 R2)).setCell ⟨w1.heap.size, 3, none⟩ (.int .i64 f)) w1.heap.size 55 #[.int .i64 T, .int .i64 f, .int .i64 g, .int .i64 f, .int .i64 R2] := by simpa using E1.set_ 3 (.int .i64 f)
            have QS2 : Q wo ((w2.setCell ⟨w1.heap.size, 4, none⟩ (.int .i64 R2)).setCell ⟨w1.heap.size, 3, none⟩ (.int .i64 f)) := QS1.setCell (p := ⟨w1.heap.size, 3, none⟩) hge _
            have d2 := E2.cell
            have e2 := E2.frozen
            have m2 := E2.lt
            have dd2 := (E2.alloc (.cells #[.int .i64 1, .int .i64 R2] 91)).cell
            have Q5 := QS2.alloc (.cells #[.int .i64 1, .int .i64 R2] 91)
            have o5 := hown.q Q5
            go_wp2_with (at_builtin; refine appK elInc rfl _ _ rfl [T, f, g, f, R2] rfl o5 rfl (by simp) rfl _ _ rfl (by omega) (Q.size (hq.trans Q5)) ?_; intro A' c' w' hown' hg' hgr')
            go_roundw
            case rel => exact ⟨k + 1, by omega, by go_num, by rw [hI.out], by rw [hE.out, HYE.out (by trivial) (by trivial), HEE.out]; exact ⟨_, _, _, rfl, hown'⟩, (hq.trans Q5).mark o5 (Nat.le_refl _) hg'⟩
            case measure => simp [intOf]; omega
          · have HEE := Lib.hid (show E = [T, f, g, g, R2] by rw [hev, evR_2 hk2])
            subst hk2
            have E1 : Blk (w2.setCell ⟨w1.heap.size, 4, none⟩ (.int .i64 R2)) w1.heap.size 55 #[.int .i64 T, .int .i64 f, .int .i64 g, .int .i64 (-1), .int .i64 R2] := by simpa using BE.set_ 4 (.int .i64 R2)
            have QS1 : Q wo (w2.setCell ⟨w1.heap.size, 4, none⟩ (.int .i64 R2)) := Q2.setCell (p := ⟨w1.heap.size, 4, none⟩) hge _
            have d1 := E1.cell
            have e1 := E1.frozen
            have m1 := E1.lt
            have dd1 := (E1.alloc (.cells #[.int .i64 2, .int .i64 R2] 91)).cell
            have E2 : Blk ((w2.setCell ⟨w1.heap.size, 4, none⟩ (.int .i64 R2)).setCell ⟨w1.heap.size, 3, none⟩ (.int .i64 f)) w1.heap.size 55 #[.int .i64 T, .int .i64 f, .int .i64 g, .int .i64 f, .int .i64 R2] := by simpa using E1.set_ 3 (.int .i64 f)
            have QS2 : Q wo ((w2.setCell ⟨w1.heap.size, 4, none⟩ (.int .i64 R2)).setCell ⟨w1.heap.size, 3, none⟩ (.int .i64 f)) := QS1.setCell (p := ⟨w1.heap.size, 3, none⟩) hge _
            have d2 := E2.cell
            have e2 := E2.frozen
            have m2 := E2.lt
            have dd2 := (E2.alloc (.cells #[.int .i64 2, .int .i64 R2] 91)).cell
            have E3 : Blk (((w2.setCell ⟨w1.heap.size, 4, none⟩ (.int .i64 R2)).setCell ⟨w1.heap.size, 3, none⟩ (.int .i64 f)).setCell ⟨w1.heap.size, 3, none⟩ (.int .i64 g)) w1.heap.size 55 #[.int .i64 T, .int .i64 f, .int .i64 g, .int .i64 g, .int .i64 R2] := by simpa using E2.set_ 3 (.int .i64 g)
            have QS3 : Q wo (((w2.setCell ⟨w1.heap.size, 4, none⟩ (.int .i64 R2)).setCell ⟨w1.heap.size, 3, none⟩ (.int .i64 f)).setCell ⟨w1.heap.size, 3, none⟩ (.int .i64 g)) := QS2.setCell (p := ⟨w1.heap.size, 3, none⟩) hge _
            have d3 := E3.cell
            have e3 := E3.frozen
            have m3 := E3.lt
            have dd3 := (E3.alloc (.cells #[.int .i64 2, .int .i64 R2] 91)).cell
            have Q5 := QS3.alloc (.cells #[.int .i64 2, .int .i64 R2] 91)
            have o5 := hown.q Q5
            go_wp2_with (at_builtin; refine appK elInc rfl _ _ rfl [T, f, g, g, R2] rfl o5 rfl (by simp) rfl _ _ rfl (by omega) (Q.size (hq.trans Q5)) ?_; intro A' c' w' hown' hg' hgr')
            go_roundw
            case rel => exact ⟨k + 1, by omega, by go_num, by rw [hI.out], by rw [hE.out, HYE.out (by trivial) (by trivial), HEE.out]; exact ⟨_, _, _, rfl, hown'⟩, (hq.trans Q5).mark o5 (Nat.le_refl _) hg'⟩
            case measure => simp [intOf]; omega
    · obtain rfl : k = N := by omega
      go_wp2_with fail
      go_ret
      obtain ⟨c, h1, h2⟩ := HLE.out k
      refine RL.mk' (hown.mono Q0.size) hqw ?_ (by decide)
      rw [h2]
      omega
end Go.Proofs.YtkpdoikjfibflaaGreat
