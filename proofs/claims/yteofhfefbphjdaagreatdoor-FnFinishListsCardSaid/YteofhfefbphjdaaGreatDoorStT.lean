/- Walks: the start of a track, as the reference finds it. Walks: the start of a hasty track, as the reference finds it. -/
import Derived.Test.YteofhfefbphjdaaGreatDoorStI
import Derived.Test.YteofhfefbphjdaaGreatDoorHasS
import Derived.Test.YteofhfefbphjdaaGreatDoorFirS
namespace Go.Proofs.YteofhfefbphjdaaGreatDoor
open Go.RowKit Go.WideShapes Go.ChangeShapes
set_option maxRecDepth 100000 in
set_option maxHeartbeats 16000000 in
theorem spec_StartF (a b c d : Int) (A : Option Addr) (n cc : Nat) (xs : List Int) (t fl : Int) (w : World) (hHS : hsI a b c d xs n t = false) (ha : Rd w A xs) (hn : xs.length = n * 3) (hT : isTrk xs n = true) (hl : lnB a b c d = true) (ht : 0 ≤ t ∧ t ≤ 1000000000) :
    Calls Tryz.prog 60 #[.agg #[.int .i64 a, .int .i64 b, .int .i64 c, .int .i64 d], .agg #[.slice A n cc], .int .i64 t, .int .i64 fl] w fun e w' => e = .returned (stVal (stA a b c d xs n t fl)) ∧ Q w w' := by
  obtain ⟨hp, hq⟩ := lnB_pts hl
  have hn24 : 2 ≤ n ∧ n ≤ 40 := by unfold isTrk at hT; rw [Bool.and_eq_true, decide_eq_true_eq] at hT; exact hT.1
  obtain ⟨m, rfl⟩ : ∃ m, n = m + 1 := ⟨n - 1, by omega⟩
  have kh := fun wv (h : Rd wv A xs) => spec_Hasty a b c d A (m + 1) cc xs t wv h hn hT hl ht
  have ke := fun wv (h : Rd wv A xs) => spec_l14Side a b c d A (m + 1) cc xs t wv hp hq h hn hT
  have k1 := fun wv (h : Rd wv A xs) => spec_First A (m + 1) cc xs a b c d (-1) t wv h hn hT hl
  have k2 := fun wv (h : Rd wv A xs) => spec_First A (m + 1) cc xs a b c d 1 (stFr a b c d xs (m + 1) t) wv h hn hT hl
  rw [← hs_eq hT hl] at kh
  obtain ⟨bl, o, rfl, g0, _, _⟩ := ha.at3 hn (show 0 < m + 1 by omega)
  obtain ⟨_, _, hA, gm, _, _⟩ := ha.at3 hn (show m < m + 1 by omega)
  cases hA
  simp only [Nat.zero_mul, Nat.add_zero] at g0
  have hS : Hid (stA a b c d xs (m + 1) t fl = stD (hsI a b c d xs (m + 1) t) (stE a b c d xs (m + 1) t) fl (fcV a b c d xs (m + 1) (-1) t) (stFr a b c d xs (m + 1) t) (fcV a b c d xs (m + 1) 1 (stFr a b c d xs (m + 1) t)) (el (crL a b c d xs (m + 1 - 1)) ((fcV a b c d xs (m + 1) 1 (stFr a b c d xs (m + 1) t)).toNat * 5)) (el xs ((m + 1 - 1) * 3)) t) := Lib.hid rfl
  have hFr : Hid (stFr a b c d xs (m + 1) t = if stE a b c d xs (m + 1) t then el (crL a b c d xs (m + 1 - 1)) ((fcV a b c d xs (m + 1) (-1) t).toNat * 5) else max t (el xs 0)) := Lib.hid rfl
  have hEE : stE a b c d xs (m + 1) t = (sideV a b c d xs (m + 1) t == 1) := rfl
  generalize sideV a b c d xs (m + 1) t = SD at *
  rw [Nat.add_sub_cancel] at k1 k2 hS hFr
  generalize stA a b c d xs (m + 1) t fl = P at *
  generalize hsI a b c d xs (m + 1) t = HS at *
  generalize stE a b c d xs (m + 1) t = EA at *
  generalize fcV a b c d xs (m + 1) (-1) t = V1 at *
  generalize stFr a b c d xs (m + 1) t = FR at *
  generalize fcV a b c d xs (m + 1) 1 FR = V2 at *
  generalize crL a b c d xs m = L at *
  generalize el xs 0 = X0 at *
  generalize el xs (m * 3) = XM at *
  have hm0 : (0 : Int) < ((m + 1 : Nat) : Int) := by omega
  have hm1 : (m : Int) < ((m + 1 : Nat) : Int) := by omega
  have hm2 : ((m + 1 : Nat) : Int) - 1 = (m : Int) := by omega
  have hm3 : (m : Int) ≤ 40 := by omega
  have C1 : Blk (((w.alloc (.cells #[.int .i64 a, .int .i64 b, .int .i64 c, .int .i64 d] 27)).alloc (.cells #[.slice (some ⟨bl, o, none⟩) (m + 1) cc] 43)).alloc (.cells #[.int .i64 0, .int .i64 0, .int .i64 0, .bool false] 49)) w.heap.size 27 #[.int .i64 a, .int .i64 b, .int .i64 c, .int .i64 d] := ((Blk.new _ _ _).alloc _).alloc _
  have C2 : Blk (((w.alloc (.cells #[.int .i64 a, .int .i64 b, .int .i64 c, .int .i64 d] 27)).alloc (.cells #[.slice (some ⟨bl, o, none⟩) (m + 1) cc] 43)).alloc (.cells #[.int .i64 0, .int .i64 0, .int .i64 0, .bool false] 49)) (w.heap.size + 1) 43 #[.slice (some ⟨bl, o, none⟩) (m + 1) cc] := Blk.alloc (by simpa using Blk.new (w.alloc (.cells #[.int .i64 a, .int .i64 b, .int .i64 c, .int .i64 d] 27)) 43 #[.slice (some ⟨bl, o, none⟩) (m + 1) cc]) _
  have C8 : Blk (((w.alloc (.cells #[.int .i64 a, .int .i64 b, .int .i64 c, .int .i64 d] 27)).alloc (.cells #[.slice (some ⟨bl, o, none⟩) (m + 1) cc] 43)).alloc (.cells #[.int .i64 0, .int .i64 0, .int .i64 0, .bool false] 49)) (w.heap.size + 1 + 1) 49 #[.int .i64 0, .int .i64 0, .int .i64 0, .bool false] := (by simpa using Blk.new ((w.alloc (.cells #[.int .i64 a, .int .i64 b, .int .i64 c, .int .i64 d] 27)).alloc (.cells #[.slice (some ⟨bl, o, none⟩) (m + 1) cc] 43)) 49 #[.int .i64 0, .int .i64 0, .int .i64 0, .bool false])
  have QW : Q w (((w.alloc (.cells #[.int .i64 a, .int .i64 b, .int .i64 c, .int .i64 d] 27)).alloc (.cells #[.slice (some ⟨bl, o, none⟩) (m + 1) cc] 43)).alloc (.cells #[.int .i64 0, .int .i64 0, .int .i64 0, .bool false] 49)) := ((Q.alloc (Q.refl w) _).alloc _).alloc _
  have lb := World.block_lt_of_cell? w _ g0
  clear hn hT hl hp hq hn24
  subst hHS
  cases EA
  · have hFR : FR = max t X0 := by rw [hFr.out]; rfl
    subst hFR
    have hSD : (SD == 1) = false := hEE.symm
    clear hEE
    by_cases hV2 : V2 < 0
    · have HP : Hid (P = (2, 0, 0, false)) := Lib.hid (hS.out.trans (stD_m (fun h => by cases h) (fun e => by cases e.1) (.inl hV2)))
      rw [fcA_neg hV2, decide_eq_false (Int.not_le.2 hV2)] at k2
      have KH := Lib.hid kh
      have KE := Lib.hid ke
      have K2 := Lib.hid k2
      have K1 := Lib.hid k1
      clear kh ke k1 k2 hS hFr
      go_enter Tryz.func60, Tryz.ntmps60
      go_wp2_with fail
      refine (KH.out _ (ha.q (QW.trans (by (repeat (first | assumption | exact Q.refl _ | refine Q.alloc ?_ _ | refine Q.drewN ?_ _ | refine Q.drew ?_)))))).mono ?_
      rintro e w1 ⟨rfl, q1⟩
      have QX := QW.trans q1
      have D1 := C1.q q1
      have d1 := D1.cell
      have t1 := D1.lt
      have D2 := C2.q q1
      have d2 := D2.cell
      have t2 := D2.lt
      have D8 := C8.q q1
      have d8 := D8.cell
      have f8 := D8.frozen
      have t8 := D8.lt
      have g1 := QX.cell g0
      have gm1 := QX.cell gm
      have lbx1 := World.block_lt_of_cell? w1 _ gm1
      go_wp2_with fail
      refine (KE.out _ (ha.q (QX.trans (by (repeat (first | assumption | exact Q.refl _ | refine Q.alloc ?_ _ | refine Q.drewN ?_ _ | refine Q.drew ?_)))))).mono ?_
      rintro e w2 ⟨rfl, q2⟩
      have M2 := q2.boxB
      have m2 := M2.cell
      have mf2 := M2.frozen
      have ml2 := M2.lt
      have E1 := (D1.alloc _).q q2
      have e1c := E1.cell
      have e1l := E1.lt
      have E2 := (D2.alloc _).q q2
      have e2c := E2.cell
      have e2l := E2.lt
      have E8 := (D8.alloc _).q q2
      have e8c := E8.cell
      have e8f := E8.frozen
      have e8l := E8.lt
      have u2 : Q w1 w2 := Q.trans (by (repeat (first | assumption | exact Q.refl _ | refine Q.alloc ?_ _ | refine Q.drewN ?_ _ | refine Q.drew ?_))) q2
      have gm2 := u2.cell gm1
      have lbx2 := World.block_lt_of_cell? w2 _ gm2
      go_wp2_with fail
      refine (K2.out _ (ha.q (QX.trans u2))).mono ?_
      rintro e w3 ⟨rfl, q3⟩
      have M3 := M2.q q3
      have m3 := M3.cell
      have ml3 := M3.lt
      have G2 := E2.q q3
      have g2c := G2.cell
      have g2l := G2.lt
      have G8 := E8.q q3
      have g8c := G8.cell
      have g8f := G8.frozen
      have g8l := G8.lt
      have u3 := u2.trans q3
      have gm3 := q3.cell gm2
      have lbx3 := World.block_lt_of_cell? w3 _ gm3
      go_wp2_with fail
      have F := ((G8.set4 (.int .i64 2) (.int .i64 0) (.int .i64 0) (.bool false)).alloc (.cells #[.int .i64 0, .int .i64 0, .int .i64 0, .int .i64 0, .int .i64 0] 79)).cell
      rw [HP.out]
      refine bodyPost_ret (v := .agg #[(.int .i64 2), (.int .i64 0), (.int .i64 0), (.bool false)]) (by simp [results, Tryz.results60, go_sem, F]) rfl ⟨rfl, ?_⟩
      exact ((QX.trans u3).set4 (show w.heap.size ≤ w.heap.size + 1 + 1 from Nat.le_add_right _ 2) (.int .i64 2) (.int .i64 0) (.int .i64 0) (.bool false)).alloc _
    rw [fcA_pos hV2, decide_eq_true (Int.not_lt.1 hV2)] at k2
    by_cases hlt : XM < t
    · have HP : Hid (P = (2, 0, 0, false)) := Lib.hid (hS.out.trans (stD_m (fun h => by cases h) (fun e => by cases e.1) (.inr hlt)))
      have KH := Lib.hid kh
      have KE := Lib.hid ke
      have K2 := Lib.hid k2
      have K1 := Lib.hid k1
      clear kh ke k1 k2 hS hFr
      generalize el L (V2.toNat * 5) = X at *
      generalize el L (V2.toNat * 5 + 1) = y1 at *
      generalize el L (V2.toNat * 5 + 2) = y2 at *
      generalize el L (V2.toNat * 5 + 3) = y3 at *
      generalize el L (V2.toNat * 5 + 4) = y4 at *
      go_enter Tryz.func60, Tryz.ntmps60
      go_wp2_with fail
      refine (KH.out _ (ha.q (QW.trans (by (repeat (first | assumption | exact Q.refl _ | refine Q.alloc ?_ _ | refine Q.drewN ?_ _ | refine Q.drew ?_)))))).mono ?_
      rintro e w1 ⟨rfl, q1⟩
      have QX := QW.trans q1
      have D1 := C1.q q1
      have d1 := D1.cell
      have t1 := D1.lt
      have D2 := C2.q q1
      have d2 := D2.cell
      have t2 := D2.lt
      have D8 := C8.q q1
      have d8 := D8.cell
      have f8 := D8.frozen
      have t8 := D8.lt
      have g1 := QX.cell g0
      have gm1 := QX.cell gm
      have lbx1 := World.block_lt_of_cell? w1 _ gm1
      go_wp2_with fail
      refine (KE.out _ (ha.q (QX.trans (by (repeat (first | assumption | exact Q.refl _ | refine Q.alloc ?_ _ | refine Q.drewN ?_ _ | refine Q.drew ?_)))))).mono ?_
      rintro e w2 ⟨rfl, q2⟩
      have M2 := q2.boxB
      have m2 := M2.cell
      have mf2 := M2.frozen
      have ml2 := M2.lt
      have E1 := (D1.alloc _).q q2
      have e1c := E1.cell
      have e1l := E1.lt
      have E2 := (D2.alloc _).q q2
      have e2c := E2.cell
      have e2l := E2.lt
      have E8 := (D8.alloc _).q q2
      have e8c := E8.cell
      have e8f := E8.frozen
      have e8l := E8.lt
      have u2 : Q w1 w2 := Q.trans (by (repeat (first | assumption | exact Q.refl _ | refine Q.alloc ?_ _ | refine Q.drewN ?_ _ | refine Q.drew ?_))) q2
      have gm2 := u2.cell gm1
      have lbx2 := World.block_lt_of_cell? w2 _ gm2
      go_wp2_with fail
      refine (K2.out _ (ha.q (QX.trans u2))).mono ?_
      rintro e w3 ⟨rfl, q3⟩
      have M3 := M2.q q3
      have m3 := M3.cell
      have ml3 := M3.lt
      have G2 := E2.q q3
      have g2c := G2.cell
      have g2l := G2.lt
      have G8 := E8.q q3
      have g8c := G8.cell
      have g8f := G8.frozen
      have g8l := G8.lt
      have u3 := u2.trans q3
      have gm3 := q3.cell gm2
      have lbx3 := World.block_lt_of_cell? w3 _ gm3
      go_wp2_with fail
      have F := ((G8.set4 (.int .i64 2) (.int .i64 0) (.int .i64 0) (.bool false)).alloc (.cells #[.int .i64 X, .int .i64 y1, .int .i64 y2, .int .i64 y3, .int .i64 y4] 79)).cell
      rw [HP.out]
      refine bodyPost_ret (v := .agg #[(.int .i64 2), (.int .i64 0), (.int .i64 0), (.bool false)]) (by simp [results, Tryz.results60, go_sem, F]) rfl ⟨rfl, ?_⟩
      exact ((QX.trans u3).set4 (show w.heap.size ≤ w.heap.size + 1 + 1 from Nat.le_add_right _ 2) (.int .i64 2) (.int .i64 0) (.int .i64 0) (.bool false)).alloc _
    have HP : Hid (P = (0, max t X0, el L (V2.toNat * 5), false)) := Lib.hid (hS.out.trans (stD_y (fun h => by cases h) (fun e => by cases e.1) (fun e => e.elim hV2 hlt)))
    have KH := Lib.hid kh
    have KE := Lib.hid ke
    have K2 := Lib.hid k2
    have K1 := Lib.hid k1
    clear kh ke k1 k2 hS hFr
    generalize el L (V2.toNat * 5) = X at *
    generalize el L (V2.toNat * 5 + 1) = y1 at *
    generalize el L (V2.toNat * 5 + 2) = y2 at *
    generalize el L (V2.toNat * 5 + 3) = y3 at *
    generalize el L (V2.toNat * 5 + 4) = y4 at *
    go_enter Tryz.func60, Tryz.ntmps60
    go_wp2_with fail
    refine (KH.out _ (ha.q (QW.trans (by (repeat (first | assumption | exact Q.refl _ | refine Q.alloc ?_ _ | refine Q.drewN ?_ _ | refine Q.drew ?_)))))).mono ?_
    rintro e w1 ⟨rfl, q1⟩
    have QX := QW.trans q1
    have D1 := C1.q q1
    have d1 := D1.cell
    have t1 := D1.lt
    have D2 := C2.q q1
    have d2 := D2.cell
    have t2 := D2.lt
    have D8 := C8.q q1
    have d8 := D8.cell
    have f8 := D8.frozen
    have t8 := D8.lt
    have g1 := QX.cell g0
    have gm1 := QX.cell gm
    have lbx1 := World.block_lt_of_cell? w1 _ gm1
    go_wp2_with fail
    refine (KE.out _ (ha.q (QX.trans (by (repeat (first | assumption | exact Q.refl _ | refine Q.alloc ?_ _ | refine Q.drewN ?_ _ | refine Q.drew ?_)))))).mono ?_
    rintro e w2 ⟨rfl, q2⟩
    have M2 := q2.boxB
    have m2 := M2.cell
    have mf2 := M2.frozen
    have ml2 := M2.lt
    have E1 := (D1.alloc _).q q2
    have e1c := E1.cell
    have e1l := E1.lt
    have E2 := (D2.alloc _).q q2
    have e2c := E2.cell
    have e2l := E2.lt
    have E8 := (D8.alloc _).q q2
    have e8c := E8.cell
    have e8f := E8.frozen
    have e8l := E8.lt
    have u2 : Q w1 w2 := Q.trans (by (repeat (first | assumption | exact Q.refl _ | refine Q.alloc ?_ _ | refine Q.drewN ?_ _ | refine Q.drew ?_))) q2
    have gm2 := u2.cell gm1
    have lbx2 := World.block_lt_of_cell? w2 _ gm2
    go_wp2_with fail
    refine (K2.out _ (ha.q (QX.trans u2))).mono ?_
    rintro e w3 ⟨rfl, q3⟩
    have M3 := M2.q q3
    have m3 := M3.cell
    have ml3 := M3.lt
    have G2 := E2.q q3
    have g2c := G2.cell
    have g2l := G2.lt
    have G8 := E8.q q3
    have g8c := G8.cell
    have g8f := G8.frozen
    have g8l := G8.lt
    have u3 := u2.trans q3
    have gm3 := q3.cell gm2
    have lbx3 := World.block_lt_of_cell? w3 _ gm3
    go_wp2_with fail
    have F := ((G8.set4 (.int .i64 0) (.int .i64 (max t X0)) (.int .i64 X) (.bool false)).alloc (.cells #[.int .i64 X, .int .i64 y1, .int .i64 y2, .int .i64 y3, .int .i64 y4] 79)).cell
    rw [HP.out]
    refine bodyPost_ret (v := .agg #[(.int .i64 0), (.int .i64 (max t X0)), (.int .i64 X), (.bool false)]) (by simp [results, Tryz.results60, go_sem, F]) rfl ⟨rfl, ?_⟩
    exact ((QX.trans u3).set4 (show w.heap.size ≤ w.heap.size + 1 + 1 from Nat.le_add_right _ 2) (.int .i64 0) (.int .i64 (max t X0)) (.int .i64 X) (.bool false)).alloc _
  have hSD : SD = 1 := by simpa using hEE.symm
  subst hSD
  clear hEE
  by_cases hV1 : V1 < 0
  · have HP : Hid (P = (3, 0, 0, false)) := Lib.hid (hS.out.trans (stD_e (fun h => by cases h) hV1))
    rw [fcA_neg hV1, decide_eq_false (Int.not_le.2 hV1)] at k1
    have KH := Lib.hid kh
    have KE := Lib.hid ke
    have K2 := Lib.hid k2
    have K1 := Lib.hid k1
    clear kh ke k1 k2 hS hFr
    go_enter Tryz.func60, Tryz.ntmps60
    go_wp2_with fail
    refine (KH.out _ (ha.q (QW.trans (by (repeat (first | assumption | exact Q.refl _ | refine Q.alloc ?_ _ | refine Q.drewN ?_ _ | refine Q.drew ?_)))))).mono ?_
    rintro e w1 ⟨rfl, q1⟩
    have QX := QW.trans q1
    have D1 := C1.q q1
    have d1 := D1.cell
    have t1 := D1.lt
    have D2 := C2.q q1
    have d2 := D2.cell
    have t2 := D2.lt
    have D8 := C8.q q1
    have d8 := D8.cell
    have f8 := D8.frozen
    have t8 := D8.lt
    have g1 := QX.cell g0
    have gm1 := QX.cell gm
    have lbx1 := World.block_lt_of_cell? w1 _ gm1
    go_wp2_with fail
    refine (KE.out _ (ha.q (QX.trans (by (repeat (first | assumption | exact Q.refl _ | refine Q.alloc ?_ _ | refine Q.drewN ?_ _ | refine Q.drew ?_)))))).mono ?_
    rintro e w2 ⟨rfl, q2⟩
    have M2 := q2.boxB
    have m2 := M2.cell
    have mf2 := M2.frozen
    have ml2 := M2.lt
    have E1 := (D1.alloc _).q q2
    have e1c := E1.cell
    have e1l := E1.lt
    have E2 := (D2.alloc _).q q2
    have e2c := E2.cell
    have e2l := E2.lt
    have E8 := (D8.alloc _).q q2
    have e8c := E8.cell
    have e8f := E8.frozen
    have e8l := E8.lt
    have u2 : Q w1 w2 := Q.trans (by (repeat (first | assumption | exact Q.refl _ | refine Q.alloc ?_ _ | refine Q.drewN ?_ _ | refine Q.drew ?_))) q2
    have gm2 := u2.cell gm1
    have lbx2 := World.block_lt_of_cell? w2 _ gm2
    go_wp2_with fail
    refine (K1.out _ (ha.q (QX.trans (u2.set4 (Nat.le_refl _) (.int .i64 3) (.int .i64 0) (.int .i64 0) (.bool false))))).mono ?_
    rintro e w3 ⟨rfl, q3⟩
    have M3 := (M2.set4 (.int .i64 3) (.int .i64 0) (.int .i64 0) (.bool false)).q q3
    have m3 := M3.cell
    have ml3 := M3.lt
    have G1 := (E1.far4 (Nat.ne_of_lt t1) (.int .i64 3) (.int .i64 0) (.int .i64 0) (.bool false)).q q3
    have g1c := G1.cell
    have g1l := G1.lt
    have G2 := (E2.far4 (Nat.ne_of_lt t2) (.int .i64 3) (.int .i64 0) (.int .i64 0) (.bool false)).q q3
    have g2c := G2.cell
    have g2l := G2.lt
    have G8 := (E8.far4 (Nat.ne_of_lt t8) (.int .i64 3) (.int .i64 0) (.int .i64 0) (.bool false)).q q3
    have g8c := G8.cell
    have g8f := G8.frozen
    have g8l := G8.lt
    have u3 := (u2.set4 (Nat.le_refl _) (.int .i64 3) (.int .i64 0) (.int .i64 0) (.bool false)).trans q3
    have gm3 := u3.cell gm1
    have lbx3 := World.block_lt_of_cell? w3 _ gm3
    go_wp2_with fail
    have F := ((G8.set4 (.int .i64 3) (.int .i64 0) (.int .i64 0) (.bool false)).alloc (.cells #[.int .i64 0, .int .i64 0, .int .i64 0, .int .i64 0, .int .i64 0] 79)).cell
    rw [HP.out]
    refine bodyPost_ret (v := .agg #[(.int .i64 3), (.int .i64 0), (.int .i64 0), (.bool false)]) (by simp [results, Tryz.results60, go_sem, F]) rfl ⟨rfl, ?_⟩
    exact ((QX.trans u3).set4 (show w.heap.size ≤ w.heap.size + 1 + 1 from Nat.le_add_right _ 2) (.int .i64 3) (.int .i64 0) (.int .i64 0) (.bool false)).alloc _
  have hFR : FR = el L (V1.toNat * 5) := by rw [hFr.out]; rfl
  rw [fcA_pos hV1, decide_eq_true (Int.not_lt.1 hV1)] at k1
  rw [← hFR] at k1
  clear hFR
  generalize el L (V1.toNat * 5 + 1) = e1 at k1
  generalize el L (V1.toNat * 5 + 2) = e2 at k1
  generalize el L (V1.toNat * 5 + 3) = e3 at k1
  generalize el L (V1.toNat * 5 + 4) = e4 at k1
  by_cases hV2 : V2 < 0
  · have HP : Hid (P = (3, 0, 0, false)) := Lib.hid (hS.out.trans (stD_m (fun h => by cases h) (fun e => hV1 e.2) (.inl hV2)))
    rw [fcA_neg hV2, decide_eq_false (Int.not_le.2 hV2)] at k2
    have KH := Lib.hid kh
    have KE := Lib.hid ke
    have K2 := Lib.hid k2
    have K1 := Lib.hid k1
    clear kh ke k1 k2 hS hFr
    go_enter Tryz.func60, Tryz.ntmps60
    go_wp2_with fail
    refine (KH.out _ (ha.q (QW.trans (by (repeat (first | assumption | exact Q.refl _ | refine Q.alloc ?_ _ | refine Q.drewN ?_ _ | refine Q.drew ?_)))))).mono ?_
    rintro e w1 ⟨rfl, q1⟩
    have QX := QW.trans q1
    have D1 := C1.q q1
    have d1 := D1.cell
    have t1 := D1.lt
    have D2 := C2.q q1
    have d2 := D2.cell
    have t2 := D2.lt
    have D8 := C8.q q1
    have d8 := D8.cell
    have f8 := D8.frozen
    have t8 := D8.lt
    have g1 := QX.cell g0
    have gm1 := QX.cell gm
    have lbx1 := World.block_lt_of_cell? w1 _ gm1
    go_wp2_with fail
    refine (KE.out _ (ha.q (QX.trans (by (repeat (first | assumption | exact Q.refl _ | refine Q.alloc ?_ _ | refine Q.drewN ?_ _ | refine Q.drew ?_)))))).mono ?_
    rintro e w2 ⟨rfl, q2⟩
    have M2 := q2.boxB
    have m2 := M2.cell
    have mf2 := M2.frozen
    have ml2 := M2.lt
    have E1 := (D1.alloc _).q q2
    have e1c := E1.cell
    have e1l := E1.lt
    have E2 := (D2.alloc _).q q2
    have e2c := E2.cell
    have e2l := E2.lt
    have E8 := (D8.alloc _).q q2
    have e8c := E8.cell
    have e8f := E8.frozen
    have e8l := E8.lt
    have u2 : Q w1 w2 := Q.trans (by (repeat (first | assumption | exact Q.refl _ | refine Q.alloc ?_ _ | refine Q.drewN ?_ _ | refine Q.drew ?_))) q2
    have gm2 := u2.cell gm1
    have lbx2 := World.block_lt_of_cell? w2 _ gm2
    go_wp2_with fail
    refine (K1.out _ (ha.q (QX.trans (u2.set4 (Nat.le_refl _) (.int .i64 3) (.int .i64 0) (.int .i64 0) (.bool false))))).mono ?_
    rintro e w3 ⟨rfl, q3⟩
    have M3 := (M2.set4 (.int .i64 3) (.int .i64 0) (.int .i64 0) (.bool false)).q q3
    have m3 := M3.cell
    have ml3 := M3.lt
    have G1 := (E1.far4 (Nat.ne_of_lt t1) (.int .i64 3) (.int .i64 0) (.int .i64 0) (.bool false)).q q3
    have g1c := G1.cell
    have g1l := G1.lt
    have G2 := (E2.far4 (Nat.ne_of_lt t2) (.int .i64 3) (.int .i64 0) (.int .i64 0) (.bool false)).q q3
    have g2c := G2.cell
    have g2l := G2.lt
    have G8 := (E8.far4 (Nat.ne_of_lt t8) (.int .i64 3) (.int .i64 0) (.int .i64 0) (.bool false)).q q3
    have g8c := G8.cell
    have g8f := G8.frozen
    have g8l := G8.lt
    have u3 := (u2.set4 (Nat.le_refl _) (.int .i64 3) (.int .i64 0) (.int .i64 0) (.bool false)).trans q3
    have gm3 := u3.cell gm1
    have lbx3 := World.block_lt_of_cell? w3 _ gm3
    go_wp2_with fail
    refine (K2.out _ (ha.q ((QX.trans u3).trans (by (repeat (first | assumption | exact Q.refl _ | refine Q.alloc ?_ _ | refine Q.drewN ?_ _ | refine Q.drew ?_)))))).mono ?_
    rintro e w4 ⟨rfl, q4⟩
    have M4 := (M3.alloc _).q q4
    have m4 := M4.cell
    have ml4 := M4.lt
    have H2 := (G2.alloc _).q q4
    have h2c := H2.cell
    have h2l := H2.lt
    have H8 := (G8.alloc _).q q4
    have h8c := H8.cell
    have h8f := H8.frozen
    have h8l := H8.lt
    have u4 := u3.trans (Q.trans (by (repeat (first | assumption | exact Q.refl _ | refine Q.alloc ?_ _ | refine Q.drewN ?_ _ | refine Q.drew ?_))) q4 : Q w3 w4)
    have gm4 := u4.cell gm1
    have lbx4 := World.block_lt_of_cell? w4 _ gm4
    go_wp2_with fail
    have F := ((H8.set4 (.int .i64 3) (.int .i64 0) (.int .i64 0) (.bool false)).alloc (.cells #[.int .i64 0, .int .i64 0, .int .i64 0, .int .i64 0, .int .i64 0] 79)).cell
    rw [HP.out]
    refine bodyPost_ret (v := .agg #[(.int .i64 3), (.int .i64 0), (.int .i64 0), (.bool false)]) (by simp [results, Tryz.results60, go_sem, F]) rfl ⟨rfl, ?_⟩
    exact ((QX.trans u4).set4 (show w.heap.size ≤ w.heap.size + 1 + 1 from Nat.le_add_right _ 2) (.int .i64 3) (.int .i64 0) (.int .i64 0) (.bool false)).alloc _
  rw [fcA_pos hV2, decide_eq_true (Int.not_lt.1 hV2)] at k2
  by_cases hlt : XM < t
  · have HP : Hid (P = (3, 0, 0, false)) := Lib.hid (hS.out.trans (stD_m (fun h => by cases h) (fun e => hV1 e.2) (.inr hlt)))
    have KH := Lib.hid kh
    have KE := Lib.hid ke
    have K2 := Lib.hid k2
    have K1 := Lib.hid k1
    clear kh ke k1 k2 hS hFr
    generalize el L (V2.toNat * 5) = X at *
    generalize el L (V2.toNat * 5 + 1) = y1 at *
    generalize el L (V2.toNat * 5 + 2) = y2 at *
    generalize el L (V2.toNat * 5 + 3) = y3 at *
    generalize el L (V2.toNat * 5 + 4) = y4 at *
    go_enter Tryz.func60, Tryz.ntmps60
    go_wp2_with fail
    refine (KH.out _ (ha.q (QW.trans (by (repeat (first | assumption | exact Q.refl _ | refine Q.alloc ?_ _ | refine Q.drewN ?_ _ | refine Q.drew ?_)))))).mono ?_
    rintro e w1 ⟨rfl, q1⟩
    have QX := QW.trans q1
    have D1 := C1.q q1
    have d1 := D1.cell
    have t1 := D1.lt
    have D2 := C2.q q1
    have d2 := D2.cell
    have t2 := D2.lt
    have D8 := C8.q q1
    have d8 := D8.cell
    have f8 := D8.frozen
    have t8 := D8.lt
    have g1 := QX.cell g0
    have gm1 := QX.cell gm
    have lbx1 := World.block_lt_of_cell? w1 _ gm1
    go_wp2_with fail
    refine (KE.out _ (ha.q (QX.trans (by (repeat (first | assumption | exact Q.refl _ | refine Q.alloc ?_ _ | refine Q.drewN ?_ _ | refine Q.drew ?_)))))).mono ?_
    rintro e w2 ⟨rfl, q2⟩
    have M2 := q2.boxB
    have m2 := M2.cell
    have mf2 := M2.frozen
    have ml2 := M2.lt
    have E1 := (D1.alloc _).q q2
    have e1c := E1.cell
    have e1l := E1.lt
    have E2 := (D2.alloc _).q q2
    have e2c := E2.cell
    have e2l := E2.lt
    have E8 := (D8.alloc _).q q2
    have e8c := E8.cell
    have e8f := E8.frozen
    have e8l := E8.lt
    have u2 : Q w1 w2 := Q.trans (by (repeat (first | assumption | exact Q.refl _ | refine Q.alloc ?_ _ | refine Q.drewN ?_ _ | refine Q.drew ?_))) q2
    have gm2 := u2.cell gm1
    have lbx2 := World.block_lt_of_cell? w2 _ gm2
    go_wp2_with fail
    refine (K1.out _ (ha.q (QX.trans (u2.set4 (Nat.le_refl _) (.int .i64 3) (.int .i64 0) (.int .i64 0) (.bool false))))).mono ?_
    rintro e w3 ⟨rfl, q3⟩
    have M3 := (M2.set4 (.int .i64 3) (.int .i64 0) (.int .i64 0) (.bool false)).q q3
    have m3 := M3.cell
    have ml3 := M3.lt
    have G1 := (E1.far4 (Nat.ne_of_lt t1) (.int .i64 3) (.int .i64 0) (.int .i64 0) (.bool false)).q q3
    have g1c := G1.cell
    have g1l := G1.lt
    have G2 := (E2.far4 (Nat.ne_of_lt t2) (.int .i64 3) (.int .i64 0) (.int .i64 0) (.bool false)).q q3
    have g2c := G2.cell
    have g2l := G2.lt
    have G8 := (E8.far4 (Nat.ne_of_lt t8) (.int .i64 3) (.int .i64 0) (.int .i64 0) (.bool false)).q q3
    have g8c := G8.cell
    have g8f := G8.frozen
    have g8l := G8.lt
    have u3 := (u2.set4 (Nat.le_refl _) (.int .i64 3) (.int .i64 0) (.int .i64 0) (.bool false)).trans q3
    have gm3 := u3.cell gm1
    have lbx3 := World.block_lt_of_cell? w3 _ gm3
    go_wp2_with fail
    refine (K2.out _ (ha.q ((QX.trans u3).trans (by (repeat (first | assumption | exact Q.refl _ | refine Q.alloc ?_ _ | refine Q.drewN ?_ _ | refine Q.drew ?_)))))).mono ?_
    rintro e w4 ⟨rfl, q4⟩
    have M4 := (M3.alloc _).q q4
    have m4 := M4.cell
    have ml4 := M4.lt
    have H2 := (G2.alloc _).q q4
    have h2c := H2.cell
    have h2l := H2.lt
    have H8 := (G8.alloc _).q q4
    have h8c := H8.cell
    have h8f := H8.frozen
    have h8l := H8.lt
    have u4 := u3.trans (Q.trans (by (repeat (first | assumption | exact Q.refl _ | refine Q.alloc ?_ _ | refine Q.drewN ?_ _ | refine Q.drew ?_))) q4 : Q w3 w4)
    have gm4 := u4.cell gm1
    have lbx4 := World.block_lt_of_cell? w4 _ gm4
    go_wp2_with fail
    have F := ((H8.set4 (.int .i64 3) (.int .i64 0) (.int .i64 0) (.bool false)).alloc (.cells #[.int .i64 X, .int .i64 y1, .int .i64 y2, .int .i64 y3, .int .i64 y4] 79)).cell
    rw [HP.out]
    refine bodyPost_ret (v := .agg #[(.int .i64 3), (.int .i64 0), (.int .i64 0), (.bool false)]) (by simp [results, Tryz.results60, go_sem, F]) rfl ⟨rfl, ?_⟩
    exact ((QX.trans u4).set4 (show w.heap.size ≤ w.heap.size + 1 + 1 from Nat.le_add_right _ 2) (.int .i64 3) (.int .i64 0) (.int .i64 0) (.bool false)).alloc _
  have HP : Hid (P = (0, FR, el L (V2.toNat * 5), false)) := Lib.hid (hS.out.trans (stD_y (fun h => by cases h) (fun e => hV1 e.2) (fun e => e.elim hV2 hlt)))
  have KH := Lib.hid kh
  have KE := Lib.hid ke
  have K2 := Lib.hid k2
  have K1 := Lib.hid k1
  clear kh ke k1 k2 hS hFr
  generalize el L (V2.toNat * 5) = X at *
  generalize el L (V2.toNat * 5 + 1) = y1 at *
  generalize el L (V2.toNat * 5 + 2) = y2 at *
  generalize el L (V2.toNat * 5 + 3) = y3 at *
  generalize el L (V2.toNat * 5 + 4) = y4 at *
  go_enter Tryz.func60, Tryz.ntmps60
  go_wp2_with fail
  refine (KH.out _ (ha.q (QW.trans (by (repeat (first | assumption | exact Q.refl _ | refine Q.alloc ?_ _ | refine Q.drewN ?_ _ | refine Q.drew ?_)))))).mono ?_
  rintro e w1 ⟨rfl, q1⟩
  have QX := QW.trans q1
  have D1 := C1.q q1
  have d1 := D1.cell
  have t1 := D1.lt
  have D2 := C2.q q1
  have d2 := D2.cell
  have t2 := D2.lt
  have D8 := C8.q q1
  have d8 := D8.cell
  have f8 := D8.frozen
  have t8 := D8.lt
  have g1 := QX.cell g0
  have gm1 := QX.cell gm
  have lbx1 := World.block_lt_of_cell? w1 _ gm1
  go_wp2_with fail
  refine (KE.out _ (ha.q (QX.trans (by (repeat (first | assumption | exact Q.refl _ | refine Q.alloc ?_ _ | refine Q.drewN ?_ _ | refine Q.drew ?_)))))).mono ?_
  rintro e w2 ⟨rfl, q2⟩
  have M2 := q2.boxB
  have m2 := M2.cell
  have mf2 := M2.frozen
  have ml2 := M2.lt
  have E1 := (D1.alloc _).q q2
  have e1c := E1.cell
  have e1l := E1.lt
  have E2 := (D2.alloc _).q q2
  have e2c := E2.cell
  have e2l := E2.lt
  have E8 := (D8.alloc _).q q2
  have e8c := E8.cell
  have e8f := E8.frozen
  have e8l := E8.lt
  have u2 : Q w1 w2 := Q.trans (by (repeat (first | assumption | exact Q.refl _ | refine Q.alloc ?_ _ | refine Q.drewN ?_ _ | refine Q.drew ?_))) q2
  have gm2 := u2.cell gm1
  have lbx2 := World.block_lt_of_cell? w2 _ gm2
  go_wp2_with fail
  refine (K1.out _ (ha.q (QX.trans (u2.set4 (Nat.le_refl _) (.int .i64 3) (.int .i64 0) (.int .i64 0) (.bool false))))).mono ?_
  rintro e w3 ⟨rfl, q3⟩
  have M3 := (M2.set4 (.int .i64 3) (.int .i64 0) (.int .i64 0) (.bool false)).q q3
  have m3 := M3.cell
  have ml3 := M3.lt
  have G1 := (E1.far4 (Nat.ne_of_lt t1) (.int .i64 3) (.int .i64 0) (.int .i64 0) (.bool false)).q q3
  have g1c := G1.cell
  have g1l := G1.lt
  have G2 := (E2.far4 (Nat.ne_of_lt t2) (.int .i64 3) (.int .i64 0) (.int .i64 0) (.bool false)).q q3
  have g2c := G2.cell
  have g2l := G2.lt
  have G8 := (E8.far4 (Nat.ne_of_lt t8) (.int .i64 3) (.int .i64 0) (.int .i64 0) (.bool false)).q q3
  have g8c := G8.cell
  have g8f := G8.frozen
  have g8l := G8.lt
  have u3 := (u2.set4 (Nat.le_refl _) (.int .i64 3) (.int .i64 0) (.int .i64 0) (.bool false)).trans q3
  have gm3 := u3.cell gm1
  have lbx3 := World.block_lt_of_cell? w3 _ gm3
  go_wp2_with fail
  refine (K2.out _ (ha.q ((QX.trans u3).trans (by (repeat (first | assumption | exact Q.refl _ | refine Q.alloc ?_ _ | refine Q.drewN ?_ _ | refine Q.drew ?_)))))).mono ?_
  rintro e w4 ⟨rfl, q4⟩
  have M4 := (M3.alloc _).q q4
  have m4 := M4.cell
  have ml4 := M4.lt
  have H2 := (G2.alloc _).q q4
  have h2c := H2.cell
  have h2l := H2.lt
  have H8 := (G8.alloc _).q q4
  have h8c := H8.cell
  have h8f := H8.frozen
  have h8l := H8.lt
  have u4 := u3.trans (Q.trans (by (repeat (first | assumption | exact Q.refl _ | refine Q.alloc ?_ _ | refine Q.drewN ?_ _ | refine Q.drew ?_))) q4 : Q w3 w4)
  have gm4 := u4.cell gm1
  have lbx4 := World.block_lt_of_cell? w4 _ gm4
  go_wp2_with fail
  have F := ((H8.set4 (.int .i64 0) (.int .i64 FR) (.int .i64 X) (.bool false)).alloc (.cells #[.int .i64 X, .int .i64 y1, .int .i64 y2, .int .i64 y3, .int .i64 y4] 79)).cell
  rw [HP.out]
  refine bodyPost_ret (v := .agg #[(.int .i64 0), (.int .i64 FR), (.int .i64 X), (.bool false)]) (by simp [results, Tryz.results60, go_sem, F]) rfl ⟨rfl, ?_⟩
  exact ((QX.trans u4).set4 (show w.heap.size ≤ w.heap.size + 1 + 1 from Nat.le_add_right _ 2) (.int .i64 0) (.int .i64 FR) (.int .i64 X) (.bool false)).alloc _
end Go.Proofs.YteofhfefbphjdaaGreatDoor
namespace Go.Proofs.YteofhfefbphjdaaGreatDoor
open Go.RowKit Go.WideShapes Go.ChangeShapes
set_option maxRecDepth 100000 in
set_option maxHeartbeats 16000000 in
theorem spec_StartT (a b c d : Int) (A : Option Addr) (n cc : Nat) (xs : List Int) (t fl : Int) (w : World) (hHS : hsI a b c d xs n t = true) (ha : Rd w A xs) (hn : xs.length = n * 3) (hT : isTrk xs n = true) (hl : lnB a b c d = true) (ht : 0 ≤ t ∧ t ≤ 1000000000) :
    Calls Tryz.prog 60 #[.agg #[.int .i64 a, .int .i64 b, .int .i64 c, .int .i64 d], .agg #[.slice A n cc], .int .i64 t, .int .i64 fl] w fun e w' => e = .returned (stVal (stA a b c d xs n t fl)) ∧ Q w w' := by
  obtain ⟨hp, hq⟩ := lnB_pts hl
  have hn24 : 2 ≤ n ∧ n ≤ 40 := by unfold isTrk at hT; rw [Bool.and_eq_true, decide_eq_true_eq] at hT; exact hT.1
  obtain ⟨m, rfl⟩ : ∃ m, n = m + 1 := ⟨n - 1, by omega⟩
  have kh := fun wv (h : Rd wv A xs) => spec_Hasty a b c d A (m + 1) cc xs t wv h hn hT hl ht
  have ke := fun wv (h : Rd wv A xs) => spec_l14Side a b c d A (m + 1) cc xs t wv hp hq h hn hT
  have k1 := fun wv (h : Rd wv A xs) => spec_First A (m + 1) cc xs a b c d (-1) t wv h hn hT hl
  have k2 := fun wv (h : Rd wv A xs) => spec_First A (m + 1) cc xs a b c d 1 (stFr a b c d xs (m + 1) t) wv h hn hT hl
  rw [← hs_eq hT hl] at kh
  obtain ⟨bl, o, rfl, g0, _, _⟩ := ha.at3 hn (show 0 < m + 1 by omega)
  obtain ⟨_, _, hA, gm, _, _⟩ := ha.at3 hn (show m < m + 1 by omega)
  cases hA
  simp only [Nat.zero_mul, Nat.add_zero] at g0
  have hS : Hid (stA a b c d xs (m + 1) t fl = stD (hsI a b c d xs (m + 1) t) (stE a b c d xs (m + 1) t) fl (fcV a b c d xs (m + 1) (-1) t) (stFr a b c d xs (m + 1) t) (fcV a b c d xs (m + 1) 1 (stFr a b c d xs (m + 1) t)) (el (crL a b c d xs (m + 1 - 1)) ((fcV a b c d xs (m + 1) 1 (stFr a b c d xs (m + 1) t)).toNat * 5)) (el xs ((m + 1 - 1) * 3)) t) := Lib.hid rfl
  have hFr : Hid (stFr a b c d xs (m + 1) t = if stE a b c d xs (m + 1) t then el (crL a b c d xs (m + 1 - 1)) ((fcV a b c d xs (m + 1) (-1) t).toNat * 5) else max t (el xs 0)) := Lib.hid rfl
  have hEE : stE a b c d xs (m + 1) t = (sideV a b c d xs (m + 1) t == 1) := rfl
  generalize sideV a b c d xs (m + 1) t = SD at *
  rw [Nat.add_sub_cancel] at k1 k2 hS hFr
  generalize stA a b c d xs (m + 1) t fl = P at *
  generalize hsI a b c d xs (m + 1) t = HS at *
  generalize stE a b c d xs (m + 1) t = EA at *
  generalize fcV a b c d xs (m + 1) (-1) t = V1 at *
  generalize stFr a b c d xs (m + 1) t = FR at *
  generalize fcV a b c d xs (m + 1) 1 FR = V2 at *
  generalize crL a b c d xs m = L at *
  generalize el xs 0 = X0 at *
  generalize el xs (m * 3) = XM at *
  have hm0 : (0 : Int) < ((m + 1 : Nat) : Int) := by omega
  have hm1 : (m : Int) < ((m + 1 : Nat) : Int) := by omega
  have hm2 : ((m + 1 : Nat) : Int) - 1 = (m : Int) := by omega
  have hm3 : (m : Int) ≤ 40 := by omega
  have C1 : Blk (((w.alloc (.cells #[.int .i64 a, .int .i64 b, .int .i64 c, .int .i64 d] 27)).alloc (.cells #[.slice (some ⟨bl, o, none⟩) (m + 1) cc] 43)).alloc (.cells #[.int .i64 0, .int .i64 0, .int .i64 0, .bool false] 49)) w.heap.size 27 #[.int .i64 a, .int .i64 b, .int .i64 c, .int .i64 d] := ((Blk.new _ _ _).alloc _).alloc _
  have C2 : Blk (((w.alloc (.cells #[.int .i64 a, .int .i64 b, .int .i64 c, .int .i64 d] 27)).alloc (.cells #[.slice (some ⟨bl, o, none⟩) (m + 1) cc] 43)).alloc (.cells #[.int .i64 0, .int .i64 0, .int .i64 0, .bool false] 49)) (w.heap.size + 1) 43 #[.slice (some ⟨bl, o, none⟩) (m + 1) cc] := Blk.alloc (by simpa using Blk.new (w.alloc (.cells #[.int .i64 a, .int .i64 b, .int .i64 c, .int .i64 d] 27)) 43 #[.slice (some ⟨bl, o, none⟩) (m + 1) cc]) _
  have C8 : Blk (((w.alloc (.cells #[.int .i64 a, .int .i64 b, .int .i64 c, .int .i64 d] 27)).alloc (.cells #[.slice (some ⟨bl, o, none⟩) (m + 1) cc] 43)).alloc (.cells #[.int .i64 0, .int .i64 0, .int .i64 0, .bool false] 49)) (w.heap.size + 1 + 1) 49 #[.int .i64 0, .int .i64 0, .int .i64 0, .bool false] := (by simpa using Blk.new ((w.alloc (.cells #[.int .i64 a, .int .i64 b, .int .i64 c, .int .i64 d] 27)).alloc (.cells #[.slice (some ⟨bl, o, none⟩) (m + 1) cc] 43)) 49 #[.int .i64 0, .int .i64 0, .int .i64 0, .bool false])
  have QW : Q w (((w.alloc (.cells #[.int .i64 a, .int .i64 b, .int .i64 c, .int .i64 d] 27)).alloc (.cells #[.slice (some ⟨bl, o, none⟩) (m + 1) cc] 43)).alloc (.cells #[.int .i64 0, .int .i64 0, .int .i64 0, .bool false] 49)) := ((Q.alloc (Q.refl w) _).alloc _).alloc _
  have lb := World.block_lt_of_cell? w _ g0
  clear hn hT hl hp hq hn24
  subst hHS
  by_cases h3 : fl = 3
  · subst h3
    have HP : Hid (P = (8, 0, 0, false)) := Lib.hid (hS.out.trans stD_3)
    have KH := Lib.hid kh
    have KE := Lib.hid ke
    have K2 := Lib.hid k2
    have K1 := Lib.hid k1
    clear kh ke k1 k2 hS hFr
    go_enter Tryz.func60, Tryz.ntmps60
    go_wp2_with fail
    refine (KH.out _ (ha.q (QW.trans (by (repeat (first | assumption | exact Q.refl _ | refine Q.alloc ?_ _ | refine Q.drewN ?_ _ | refine Q.drew ?_)))))).mono ?_
    rintro e w1 ⟨rfl, q1⟩
    have QX := QW.trans q1
    have D1 := C1.q q1
    have d1 := D1.cell
    have t1 := D1.lt
    have D2 := C2.q q1
    have d2 := D2.cell
    have t2 := D2.lt
    have D8 := C8.q q1
    have d8 := D8.cell
    have f8 := D8.frozen
    have t8 := D8.lt
    have g1 := QX.cell g0
    have gm1 := QX.cell gm
    have lbx1 := World.block_lt_of_cell? w1 _ gm1
    go_wp2_with fail
    have F := ((D8.set4 (.int .i64 8) (.int .i64 0) (.int .i64 0) (.bool false))).cell
    rw [HP.out]
    refine bodyPost_ret (v := .agg #[(.int .i64 8), (.int .i64 0), (.int .i64 0), (.bool false)]) (by simp [results, Tryz.results60, go_sem, F]) rfl ⟨rfl, ?_⟩
    exact (QX.set4 (show w.heap.size ≤ w.heap.size + 1 + 1 from Nat.le_add_right _ 2) (.int .i64 8) (.int .i64 0) (.int .i64 0) (.bool false))
  by_cases h2 : fl = 2
  · subst h2
    have HP : Hid (P = (6, 0, 0, false)) := Lib.hid (hS.out.trans stD_2)
    have KH := Lib.hid kh
    have KE := Lib.hid ke
    have K2 := Lib.hid k2
    have K1 := Lib.hid k1
    clear kh ke k1 k2 hS hFr
    go_enter Tryz.func60, Tryz.ntmps60
    go_wp2_with fail
    refine (KH.out _ (ha.q (QW.trans (by (repeat (first | assumption | exact Q.refl _ | refine Q.alloc ?_ _ | refine Q.drewN ?_ _ | refine Q.drew ?_)))))).mono ?_
    rintro e w1 ⟨rfl, q1⟩
    have QX := QW.trans q1
    have D1 := C1.q q1
    have d1 := D1.cell
    have t1 := D1.lt
    have D2 := C2.q q1
    have d2 := D2.cell
    have t2 := D2.lt
    have D8 := C8.q q1
    have d8 := D8.cell
    have f8 := D8.frozen
    have t8 := D8.lt
    have g1 := QX.cell g0
    have gm1 := QX.cell gm
    have lbx1 := World.block_lt_of_cell? w1 _ gm1
    go_wp2_with fail
    have F := ((D8.set4 (.int .i64 6) (.int .i64 0) (.int .i64 0) (.bool false))).cell
    rw [HP.out]
    refine bodyPost_ret (v := .agg #[(.int .i64 6), (.int .i64 0), (.int .i64 0), (.bool false)]) (by simp [results, Tryz.results60, go_sem, F]) rfl ⟨rfl, ?_⟩
    exact (QX.set4 (show w.heap.size ≤ w.heap.size + 1 + 1 from Nat.le_add_right _ 2) (.int .i64 6) (.int .i64 0) (.int .i64 0) (.bool false))
  skip
  have f3 : (fl == 3) = false := by simpa using h3
  have f2 : (fl == 2) = false := by simpa using h2
  cases EA
  · have hFR : FR = max t X0 := by rw [hFr.out]; rfl
    subst hFR
    have hSD : (SD == 1) = false := hEE.symm
    clear hEE
    by_cases hV2 : V2 < 0
    · have HP : Hid (P = (2, 0, 0, false)) := Lib.hid (hS.out.trans (stD_m (fun _ => ⟨h3, h2⟩) (fun e => by cases e.1) (.inl hV2)))
      rw [fcA_neg hV2, decide_eq_false (Int.not_le.2 hV2)] at k2
      have KH := Lib.hid kh
      have KE := Lib.hid ke
      have K2 := Lib.hid k2
      have K1 := Lib.hid k1
      clear kh ke k1 k2 hS hFr
      go_enter Tryz.func60, Tryz.ntmps60
      go_wp2_with fail
      refine (KH.out _ (ha.q (QW.trans (by (repeat (first | assumption | exact Q.refl _ | refine Q.alloc ?_ _ | refine Q.drewN ?_ _ | refine Q.drew ?_)))))).mono ?_
      rintro e w1 ⟨rfl, q1⟩
      have QX := QW.trans q1
      have D1 := C1.q q1
      have d1 := D1.cell
      have t1 := D1.lt
      have D2 := C2.q q1
      have d2 := D2.cell
      have t2 := D2.lt
      have D8 := C8.q q1
      have d8 := D8.cell
      have f8 := D8.frozen
      have t8 := D8.lt
      have g1 := QX.cell g0
      have gm1 := QX.cell gm
      have lbx1 := World.block_lt_of_cell? w1 _ gm1
      go_wp2_with fail
      refine (KE.out _ (ha.q (QX.trans (by (repeat (first | assumption | exact Q.refl _ | refine Q.alloc ?_ _ | refine Q.drewN ?_ _ | refine Q.drew ?_)))))).mono ?_
      rintro e w2 ⟨rfl, q2⟩
      have M2 := q2.boxB
      have m2 := M2.cell
      have mf2 := M2.frozen
      have ml2 := M2.lt
      have E1 := (D1.alloc _).q q2
      have e1c := E1.cell
      have e1l := E1.lt
      have E2 := (D2.alloc _).q q2
      have e2c := E2.cell
      have e2l := E2.lt
      have E8 := (D8.alloc _).q q2
      have e8c := E8.cell
      have e8f := E8.frozen
      have e8l := E8.lt
      have u2 : Q w1 w2 := Q.trans (by (repeat (first | assumption | exact Q.refl _ | refine Q.alloc ?_ _ | refine Q.drewN ?_ _ | refine Q.drew ?_))) q2
      have gm2 := u2.cell gm1
      have lbx2 := World.block_lt_of_cell? w2 _ gm2
      go_wp2_with fail
      refine (K2.out _ (ha.q (QX.trans u2))).mono ?_
      rintro e w3 ⟨rfl, q3⟩
      have M3 := M2.q q3
      have m3 := M3.cell
      have ml3 := M3.lt
      have G2 := E2.q q3
      have g2c := G2.cell
      have g2l := G2.lt
      have G8 := E8.q q3
      have g8c := G8.cell
      have g8f := G8.frozen
      have g8l := G8.lt
      have u3 := u2.trans q3
      have gm3 := q3.cell gm2
      have lbx3 := World.block_lt_of_cell? w3 _ gm3
      go_wp2_with fail
      have F := ((G8.set4 (.int .i64 2) (.int .i64 0) (.int .i64 0) (.bool false)).alloc (.cells #[.int .i64 0, .int .i64 0, .int .i64 0, .int .i64 0, .int .i64 0] 79)).cell
      rw [HP.out]
      refine bodyPost_ret (v := .agg #[(.int .i64 2), (.int .i64 0), (.int .i64 0), (.bool false)]) (by simp [results, Tryz.results60, go_sem, F]) rfl ⟨rfl, ?_⟩
      exact ((QX.trans u3).set4 (show w.heap.size ≤ w.heap.size + 1 + 1 from Nat.le_add_right _ 2) (.int .i64 2) (.int .i64 0) (.int .i64 0) (.bool false)).alloc _
    rw [fcA_pos hV2, decide_eq_true (Int.not_lt.1 hV2)] at k2
    by_cases hlt : XM < t
    · have HP : Hid (P = (2, 0, 0, false)) := Lib.hid (hS.out.trans (stD_m (fun _ => ⟨h3, h2⟩) (fun e => by cases e.1) (.inr hlt)))
      have KH := Lib.hid kh
      have KE := Lib.hid ke
      have K2 := Lib.hid k2
      have K1 := Lib.hid k1
      clear kh ke k1 k2 hS hFr
      generalize el L (V2.toNat * 5) = X at *
      generalize el L (V2.toNat * 5 + 1) = y1 at *
      generalize el L (V2.toNat * 5 + 2) = y2 at *
      generalize el L (V2.toNat * 5 + 3) = y3 at *
      generalize el L (V2.toNat * 5 + 4) = y4 at *
      go_enter Tryz.func60, Tryz.ntmps60
      go_wp2_with fail
      refine (KH.out _ (ha.q (QW.trans (by (repeat (first | assumption | exact Q.refl _ | refine Q.alloc ?_ _ | refine Q.drewN ?_ _ | refine Q.drew ?_)))))).mono ?_
      rintro e w1 ⟨rfl, q1⟩
      have QX := QW.trans q1
      have D1 := C1.q q1
      have d1 := D1.cell
      have t1 := D1.lt
      have D2 := C2.q q1
      have d2 := D2.cell
      have t2 := D2.lt
      have D8 := C8.q q1
      have d8 := D8.cell
      have f8 := D8.frozen
      have t8 := D8.lt
      have g1 := QX.cell g0
      have gm1 := QX.cell gm
      have lbx1 := World.block_lt_of_cell? w1 _ gm1
      go_wp2_with fail
      refine (KE.out _ (ha.q (QX.trans (by (repeat (first | assumption | exact Q.refl _ | refine Q.alloc ?_ _ | refine Q.drewN ?_ _ | refine Q.drew ?_)))))).mono ?_
      rintro e w2 ⟨rfl, q2⟩
      have M2 := q2.boxB
      have m2 := M2.cell
      have mf2 := M2.frozen
      have ml2 := M2.lt
      have E1 := (D1.alloc _).q q2
      have e1c := E1.cell
      have e1l := E1.lt
      have E2 := (D2.alloc _).q q2
      have e2c := E2.cell
      have e2l := E2.lt
      have E8 := (D8.alloc _).q q2
      have e8c := E8.cell
      have e8f := E8.frozen
      have e8l := E8.lt
      have u2 : Q w1 w2 := Q.trans (by (repeat (first | assumption | exact Q.refl _ | refine Q.alloc ?_ _ | refine Q.drewN ?_ _ | refine Q.drew ?_))) q2
      have gm2 := u2.cell gm1
      have lbx2 := World.block_lt_of_cell? w2 _ gm2
      go_wp2_with fail
      refine (K2.out _ (ha.q (QX.trans u2))).mono ?_
      rintro e w3 ⟨rfl, q3⟩
      have M3 := M2.q q3
      have m3 := M3.cell
      have ml3 := M3.lt
      have G2 := E2.q q3
      have g2c := G2.cell
      have g2l := G2.lt
      have G8 := E8.q q3
      have g8c := G8.cell
      have g8f := G8.frozen
      have g8l := G8.lt
      have u3 := u2.trans q3
      have gm3 := q3.cell gm2
      have lbx3 := World.block_lt_of_cell? w3 _ gm3
      go_wp2_with fail
      have F := ((G8.set4 (.int .i64 2) (.int .i64 0) (.int .i64 0) (.bool false)).alloc (.cells #[.int .i64 X, .int .i64 y1, .int .i64 y2, .int .i64 y3, .int .i64 y4] 79)).cell
      rw [HP.out]
      refine bodyPost_ret (v := .agg #[(.int .i64 2), (.int .i64 0), (.int .i64 0), (.bool false)]) (by simp [results, Tryz.results60, go_sem, F]) rfl ⟨rfl, ?_⟩
      exact ((QX.trans u3).set4 (show w.heap.size ≤ w.heap.size + 1 + 1 from Nat.le_add_right _ 2) (.int .i64 2) (.int .i64 0) (.int .i64 0) (.bool false)).alloc _
    have HP : Hid (P = (0, max t X0, el L (V2.toNat * 5), (fl == 1))) := Lib.hid (hS.out.trans (stD_y (fun _ => ⟨h3, h2⟩) (fun e => by cases e.1) (fun e => e.elim hV2 hlt)))
    have KH := Lib.hid kh
    have KE := Lib.hid ke
    have K2 := Lib.hid k2
    have K1 := Lib.hid k1
    clear kh ke k1 k2 hS hFr
    generalize el L (V2.toNat * 5) = X at *
    generalize el L (V2.toNat * 5 + 1) = y1 at *
    generalize el L (V2.toNat * 5 + 2) = y2 at *
    generalize el L (V2.toNat * 5 + 3) = y3 at *
    generalize el L (V2.toNat * 5 + 4) = y4 at *
    go_enter Tryz.func60, Tryz.ntmps60
    go_wp2_with fail
    refine (KH.out _ (ha.q (QW.trans (by (repeat (first | assumption | exact Q.refl _ | refine Q.alloc ?_ _ | refine Q.drewN ?_ _ | refine Q.drew ?_)))))).mono ?_
    rintro e w1 ⟨rfl, q1⟩
    have QX := QW.trans q1
    have D1 := C1.q q1
    have d1 := D1.cell
    have t1 := D1.lt
    have D2 := C2.q q1
    have d2 := D2.cell
    have t2 := D2.lt
    have D8 := C8.q q1
    have d8 := D8.cell
    have f8 := D8.frozen
    have t8 := D8.lt
    have g1 := QX.cell g0
    have gm1 := QX.cell gm
    have lbx1 := World.block_lt_of_cell? w1 _ gm1
    go_wp2_with fail
    refine (KE.out _ (ha.q (QX.trans (by (repeat (first | assumption | exact Q.refl _ | refine Q.alloc ?_ _ | refine Q.drewN ?_ _ | refine Q.drew ?_)))))).mono ?_
    rintro e w2 ⟨rfl, q2⟩
    have M2 := q2.boxB
    have m2 := M2.cell
    have mf2 := M2.frozen
    have ml2 := M2.lt
    have E1 := (D1.alloc _).q q2
    have e1c := E1.cell
    have e1l := E1.lt
    have E2 := (D2.alloc _).q q2
    have e2c := E2.cell
    have e2l := E2.lt
    have E8 := (D8.alloc _).q q2
    have e8c := E8.cell
    have e8f := E8.frozen
    have e8l := E8.lt
    have u2 : Q w1 w2 := Q.trans (by (repeat (first | assumption | exact Q.refl _ | refine Q.alloc ?_ _ | refine Q.drewN ?_ _ | refine Q.drew ?_))) q2
    have gm2 := u2.cell gm1
    have lbx2 := World.block_lt_of_cell? w2 _ gm2
    go_wp2_with fail
    refine (K2.out _ (ha.q (QX.trans u2))).mono ?_
    rintro e w3 ⟨rfl, q3⟩
    have M3 := M2.q q3
    have m3 := M3.cell
    have ml3 := M3.lt
    have G2 := E2.q q3
    have g2c := G2.cell
    have g2l := G2.lt
    have G8 := E8.q q3
    have g8c := G8.cell
    have g8f := G8.frozen
    have g8l := G8.lt
    have u3 := u2.trans q3
    have gm3 := q3.cell gm2
    have lbx3 := World.block_lt_of_cell? w3 _ gm3
    go_wp2_with fail
    have F := ((G8.set4 (.int .i64 0) (.int .i64 (max t X0)) (.int .i64 X) (.bool (fl == 1))).alloc (.cells #[.int .i64 X, .int .i64 y1, .int .i64 y2, .int .i64 y3, .int .i64 y4] 79)).cell
    rw [HP.out]
    refine bodyPost_ret (v := .agg #[(.int .i64 0), (.int .i64 (max t X0)), (.int .i64 X), (.bool (fl == 1))]) (by simp [results, Tryz.results60, go_sem, F]) rfl ⟨rfl, ?_⟩
    exact ((QX.trans u3).set4 (show w.heap.size ≤ w.heap.size + 1 + 1 from Nat.le_add_right _ 2) (.int .i64 0) (.int .i64 (max t X0)) (.int .i64 X) (.bool (fl == 1))).alloc _
  have hSD : SD = 1 := by simpa using hEE.symm
  subst hSD
  clear hEE
  by_cases hV1 : V1 < 0
  · have HP : Hid (P = (3, 0, 0, false)) := Lib.hid (hS.out.trans (stD_e (fun _ => ⟨h3, h2⟩) hV1))
    rw [fcA_neg hV1, decide_eq_false (Int.not_le.2 hV1)] at k1
    have KH := Lib.hid kh
    have KE := Lib.hid ke
    have K2 := Lib.hid k2
    have K1 := Lib.hid k1
    clear kh ke k1 k2 hS hFr
    go_enter Tryz.func60, Tryz.ntmps60
    go_wp2_with fail
    refine (KH.out _ (ha.q (QW.trans (by (repeat (first | assumption | exact Q.refl _ | refine Q.alloc ?_ _ | refine Q.drewN ?_ _ | refine Q.drew ?_)))))).mono ?_
    rintro e w1 ⟨rfl, q1⟩
    have QX := QW.trans q1
    have D1 := C1.q q1
    have d1 := D1.cell
    have t1 := D1.lt
    have D2 := C2.q q1
    have d2 := D2.cell
    have t2 := D2.lt
    have D8 := C8.q q1
    have d8 := D8.cell
    have f8 := D8.frozen
    have t8 := D8.lt
    have g1 := QX.cell g0
    have gm1 := QX.cell gm
    have lbx1 := World.block_lt_of_cell? w1 _ gm1
    go_wp2_with fail
    refine (KE.out _ (ha.q (QX.trans (by (repeat (first | assumption | exact Q.refl _ | refine Q.alloc ?_ _ | refine Q.drewN ?_ _ | refine Q.drew ?_)))))).mono ?_
    rintro e w2 ⟨rfl, q2⟩
    have M2 := q2.boxB
    have m2 := M2.cell
    have mf2 := M2.frozen
    have ml2 := M2.lt
    have E1 := (D1.alloc _).q q2
    have e1c := E1.cell
    have e1l := E1.lt
    have E2 := (D2.alloc _).q q2
    have e2c := E2.cell
    have e2l := E2.lt
    have E8 := (D8.alloc _).q q2
    have e8c := E8.cell
    have e8f := E8.frozen
    have e8l := E8.lt
    have u2 : Q w1 w2 := Q.trans (by (repeat (first | assumption | exact Q.refl _ | refine Q.alloc ?_ _ | refine Q.drewN ?_ _ | refine Q.drew ?_))) q2
    have gm2 := u2.cell gm1
    have lbx2 := World.block_lt_of_cell? w2 _ gm2
    go_wp2_with fail
    refine (K1.out _ (ha.q (QX.trans (u2.set4 (Nat.le_refl _) (.int .i64 3) (.int .i64 0) (.int .i64 0) (.bool false))))).mono ?_
    rintro e w3 ⟨rfl, q3⟩
    have M3 := (M2.set4 (.int .i64 3) (.int .i64 0) (.int .i64 0) (.bool false)).q q3
    have m3 := M3.cell
    have ml3 := M3.lt
    have G1 := (E1.far4 (Nat.ne_of_lt t1) (.int .i64 3) (.int .i64 0) (.int .i64 0) (.bool false)).q q3
    have g1c := G1.cell
    have g1l := G1.lt
    have G2 := (E2.far4 (Nat.ne_of_lt t2) (.int .i64 3) (.int .i64 0) (.int .i64 0) (.bool false)).q q3
    have g2c := G2.cell
    have g2l := G2.lt
    have G8 := (E8.far4 (Nat.ne_of_lt t8) (.int .i64 3) (.int .i64 0) (.int .i64 0) (.bool false)).q q3
    have g8c := G8.cell
    have g8f := G8.frozen
    have g8l := G8.lt
    have u3 := (u2.set4 (Nat.le_refl _) (.int .i64 3) (.int .i64 0) (.int .i64 0) (.bool false)).trans q3
    have gm3 := u3.cell gm1
    have lbx3 := World.block_lt_of_cell? w3 _ gm3
    go_wp2_with fail
    have F := ((G8.set4 (.int .i64 3) (.int .i64 0) (.int .i64 0) (.bool false)).alloc (.cells #[.int .i64 0, .int .i64 0, .int .i64 0, .int .i64 0, .int .i64 0] 79)).cell
    rw [HP.out]
    refine bodyPost_ret (v := .agg #[(.int .i64 3), (.int .i64 0), (.int .i64 0), (.bool false)]) (by simp [results, Tryz.results60, go_sem, F]) rfl ⟨rfl, ?_⟩
    exact ((QX.trans u3).set4 (show w.heap.size ≤ w.heap.size + 1 + 1 from Nat.le_add_right _ 2) (.int .i64 3) (.int .i64 0) (.int .i64 0) (.bool false)).alloc _
  have hFR : FR = el L (V1.toNat * 5) := by rw [hFr.out]; rfl
  rw [fcA_pos hV1, decide_eq_true (Int.not_lt.1 hV1)] at k1
  rw [← hFR] at k1
  clear hFR
  generalize el L (V1.toNat * 5 + 1) = e1 at k1
  generalize el L (V1.toNat * 5 + 2) = e2 at k1
  generalize el L (V1.toNat * 5 + 3) = e3 at k1
  generalize el L (V1.toNat * 5 + 4) = e4 at k1
  by_cases hV2 : V2 < 0
  · have HP : Hid (P = (3, 0, 0, false)) := Lib.hid (hS.out.trans (stD_m (fun _ => ⟨h3, h2⟩) (fun e => hV1 e.2) (.inl hV2)))
    rw [fcA_neg hV2, decide_eq_false (Int.not_le.2 hV2)] at k2
    have KH := Lib.hid kh
    have KE := Lib.hid ke
    have K2 := Lib.hid k2
    have K1 := Lib.hid k1
    clear kh ke k1 k2 hS hFr
    go_enter Tryz.func60, Tryz.ntmps60
    go_wp2_with fail
    refine (KH.out _ (ha.q (QW.trans (by (repeat (first | assumption | exact Q.refl _ | refine Q.alloc ?_ _ | refine Q.drewN ?_ _ | refine Q.drew ?_)))))).mono ?_
    rintro e w1 ⟨rfl, q1⟩
    have QX := QW.trans q1
    have D1 := C1.q q1
    have d1 := D1.cell
    have t1 := D1.lt
    have D2 := C2.q q1
    have d2 := D2.cell
    have t2 := D2.lt
    have D8 := C8.q q1
    have d8 := D8.cell
    have f8 := D8.frozen
    have t8 := D8.lt
    have g1 := QX.cell g0
    have gm1 := QX.cell gm
    have lbx1 := World.block_lt_of_cell? w1 _ gm1
    go_wp2_with fail
    refine (KE.out _ (ha.q (QX.trans (by (repeat (first | assumption | exact Q.refl _ | refine Q.alloc ?_ _ | refine Q.drewN ?_ _ | refine Q.drew ?_)))))).mono ?_
    rintro e w2 ⟨rfl, q2⟩
    have M2 := q2.boxB
    have m2 := M2.cell
    have mf2 := M2.frozen
    have ml2 := M2.lt
    have E1 := (D1.alloc _).q q2
    have e1c := E1.cell
    have e1l := E1.lt
    have E2 := (D2.alloc _).q q2
    have e2c := E2.cell
    have e2l := E2.lt
    have E8 := (D8.alloc _).q q2
    have e8c := E8.cell
    have e8f := E8.frozen
    have e8l := E8.lt
    have u2 : Q w1 w2 := Q.trans (by (repeat (first | assumption | exact Q.refl _ | refine Q.alloc ?_ _ | refine Q.drewN ?_ _ | refine Q.drew ?_))) q2
    have gm2 := u2.cell gm1
    have lbx2 := World.block_lt_of_cell? w2 _ gm2
    go_wp2_with fail
    refine (K1.out _ (ha.q (QX.trans (u2.set4 (Nat.le_refl _) (.int .i64 3) (.int .i64 0) (.int .i64 0) (.bool false))))).mono ?_
    rintro e w3 ⟨rfl, q3⟩
    have M3 := (M2.set4 (.int .i64 3) (.int .i64 0) (.int .i64 0) (.bool false)).q q3
    have m3 := M3.cell
    have ml3 := M3.lt
    have G1 := (E1.far4 (Nat.ne_of_lt t1) (.int .i64 3) (.int .i64 0) (.int .i64 0) (.bool false)).q q3
    have g1c := G1.cell
    have g1l := G1.lt
    have G2 := (E2.far4 (Nat.ne_of_lt t2) (.int .i64 3) (.int .i64 0) (.int .i64 0) (.bool false)).q q3
    have g2c := G2.cell
    have g2l := G2.lt
    have G8 := (E8.far4 (Nat.ne_of_lt t8) (.int .i64 3) (.int .i64 0) (.int .i64 0) (.bool false)).q q3
    have g8c := G8.cell
    have g8f := G8.frozen
    have g8l := G8.lt
    have u3 := (u2.set4 (Nat.le_refl _) (.int .i64 3) (.int .i64 0) (.int .i64 0) (.bool false)).trans q3
    have gm3 := u3.cell gm1
    have lbx3 := World.block_lt_of_cell? w3 _ gm3
    go_wp2_with fail
    refine (K2.out _ (ha.q ((QX.trans u3).trans (by (repeat (first | assumption | exact Q.refl _ | refine Q.alloc ?_ _ | refine Q.drewN ?_ _ | refine Q.drew ?_)))))).mono ?_
    rintro e w4 ⟨rfl, q4⟩
    have M4 := (M3.alloc _).q q4
    have m4 := M4.cell
    have ml4 := M4.lt
    have H2 := (G2.alloc _).q q4
    have h2c := H2.cell
    have h2l := H2.lt
    have H8 := (G8.alloc _).q q4
    have h8c := H8.cell
    have h8f := H8.frozen
    have h8l := H8.lt
    have u4 := u3.trans (Q.trans (by (repeat (first | assumption | exact Q.refl _ | refine Q.alloc ?_ _ | refine Q.drewN ?_ _ | refine Q.drew ?_))) q4 : Q w3 w4)
    have gm4 := u4.cell gm1
    have lbx4 := World.block_lt_of_cell? w4 _ gm4
    go_wp2_with fail
    have F := ((H8.set4 (.int .i64 3) (.int .i64 0) (.int .i64 0) (.bool false)).alloc (.cells #[.int .i64 0, .int .i64 0, .int .i64 0, .int .i64 0, .int .i64 0] 79)).cell
    rw [HP.out]
    refine bodyPost_ret (v := .agg #[(.int .i64 3), (.int .i64 0), (.int .i64 0), (.bool false)]) (by simp [results, Tryz.results60, go_sem, F]) rfl ⟨rfl, ?_⟩
    exact ((QX.trans u4).set4 (show w.heap.size ≤ w.heap.size + 1 + 1 from Nat.le_add_right _ 2) (.int .i64 3) (.int .i64 0) (.int .i64 0) (.bool false)).alloc _
  rw [fcA_pos hV2, decide_eq_true (Int.not_lt.1 hV2)] at k2
  by_cases hlt : XM < t
  · have HP : Hid (P = (3, 0, 0, false)) := Lib.hid (hS.out.trans (stD_m (fun _ => ⟨h3, h2⟩) (fun e => hV1 e.2) (.inr hlt)))
    have KH := Lib.hid kh
    have KE := Lib.hid ke
    have K2 := Lib.hid k2
    have K1 := Lib.hid k1
    clear kh ke k1 k2 hS hFr
    generalize el L (V2.toNat * 5) = X at *
    generalize el L (V2.toNat * 5 + 1) = y1 at *
    generalize el L (V2.toNat * 5 + 2) = y2 at *
    generalize el L (V2.toNat * 5 + 3) = y3 at *
    generalize el L (V2.toNat * 5 + 4) = y4 at *
    go_enter Tryz.func60, Tryz.ntmps60
    go_wp2_with fail
    refine (KH.out _ (ha.q (QW.trans (by (repeat (first | assumption | exact Q.refl _ | refine Q.alloc ?_ _ | refine Q.drewN ?_ _ | refine Q.drew ?_)))))).mono ?_
    rintro e w1 ⟨rfl, q1⟩
    have QX := QW.trans q1
    have D1 := C1.q q1
    have d1 := D1.cell
    have t1 := D1.lt
    have D2 := C2.q q1
    have d2 := D2.cell
    have t2 := D2.lt
    have D8 := C8.q q1
    have d8 := D8.cell
    have f8 := D8.frozen
    have t8 := D8.lt
    have g1 := QX.cell g0
    have gm1 := QX.cell gm
    have lbx1 := World.block_lt_of_cell? w1 _ gm1
    go_wp2_with fail
    refine (KE.out _ (ha.q (QX.trans (by (repeat (first | assumption | exact Q.refl _ | refine Q.alloc ?_ _ | refine Q.drewN ?_ _ | refine Q.drew ?_)))))).mono ?_
    rintro e w2 ⟨rfl, q2⟩
    have M2 := q2.boxB
    have m2 := M2.cell
    have mf2 := M2.frozen
    have ml2 := M2.lt
    have E1 := (D1.alloc _).q q2
    have e1c := E1.cell
    have e1l := E1.lt
    have E2 := (D2.alloc _).q q2
    have e2c := E2.cell
    have e2l := E2.lt
    have E8 := (D8.alloc _).q q2
    have e8c := E8.cell
    have e8f := E8.frozen
    have e8l := E8.lt
    have u2 : Q w1 w2 := Q.trans (by (repeat (first | assumption | exact Q.refl _ | refine Q.alloc ?_ _ | refine Q.drewN ?_ _ | refine Q.drew ?_))) q2
    have gm2 := u2.cell gm1
    have lbx2 := World.block_lt_of_cell? w2 _ gm2
    go_wp2_with fail
    refine (K1.out _ (ha.q (QX.trans (u2.set4 (Nat.le_refl _) (.int .i64 3) (.int .i64 0) (.int .i64 0) (.bool false))))).mono ?_
    rintro e w3 ⟨rfl, q3⟩
    have M3 := (M2.set4 (.int .i64 3) (.int .i64 0) (.int .i64 0) (.bool false)).q q3
    have m3 := M3.cell
    have ml3 := M3.lt
    have G1 := (E1.far4 (Nat.ne_of_lt t1) (.int .i64 3) (.int .i64 0) (.int .i64 0) (.bool false)).q q3
    have g1c := G1.cell
    have g1l := G1.lt
    have G2 := (E2.far4 (Nat.ne_of_lt t2) (.int .i64 3) (.int .i64 0) (.int .i64 0) (.bool false)).q q3
    have g2c := G2.cell
    have g2l := G2.lt
    have G8 := (E8.far4 (Nat.ne_of_lt t8) (.int .i64 3) (.int .i64 0) (.int .i64 0) (.bool false)).q q3
    have g8c := G8.cell
    have g8f := G8.frozen
    have g8l := G8.lt
    have u3 := (u2.set4 (Nat.le_refl _) (.int .i64 3) (.int .i64 0) (.int .i64 0) (.bool false)).trans q3
    have gm3 := u3.cell gm1
    have lbx3 := World.block_lt_of_cell? w3 _ gm3
    go_wp2_with fail
    refine (K2.out _ (ha.q ((QX.trans u3).trans (by (repeat (first | assumption | exact Q.refl _ | refine Q.alloc ?_ _ | refine Q.drewN ?_ _ | refine Q.drew ?_)))))).mono ?_
    rintro e w4 ⟨rfl, q4⟩
    have M4 := (M3.alloc _).q q4
    have m4 := M4.cell
    have ml4 := M4.lt
    have H2 := (G2.alloc _).q q4
    have h2c := H2.cell
    have h2l := H2.lt
    have H8 := (G8.alloc _).q q4
    have h8c := H8.cell
    have h8f := H8.frozen
    have h8l := H8.lt
    have u4 := u3.trans (Q.trans (by (repeat (first | assumption | exact Q.refl _ | refine Q.alloc ?_ _ | refine Q.drewN ?_ _ | refine Q.drew ?_))) q4 : Q w3 w4)
    have gm4 := u4.cell gm1
    have lbx4 := World.block_lt_of_cell? w4 _ gm4
    go_wp2_with fail
    have F := ((H8.set4 (.int .i64 3) (.int .i64 0) (.int .i64 0) (.bool false)).alloc (.cells #[.int .i64 X, .int .i64 y1, .int .i64 y2, .int .i64 y3, .int .i64 y4] 79)).cell
    rw [HP.out]
    refine bodyPost_ret (v := .agg #[(.int .i64 3), (.int .i64 0), (.int .i64 0), (.bool false)]) (by simp [results, Tryz.results60, go_sem, F]) rfl ⟨rfl, ?_⟩
    exact ((QX.trans u4).set4 (show w.heap.size ≤ w.heap.size + 1 + 1 from Nat.le_add_right _ 2) (.int .i64 3) (.int .i64 0) (.int .i64 0) (.bool false)).alloc _
  have HP : Hid (P = (0, FR, el L (V2.toNat * 5), (fl == 1))) := Lib.hid (hS.out.trans (stD_y (fun _ => ⟨h3, h2⟩) (fun e => hV1 e.2) (fun e => e.elim hV2 hlt)))
  have KH := Lib.hid kh
  have KE := Lib.hid ke
  have K2 := Lib.hid k2
  have K1 := Lib.hid k1
  clear kh ke k1 k2 hS hFr
  generalize el L (V2.toNat * 5) = X at *
  generalize el L (V2.toNat * 5 + 1) = y1 at *
  generalize el L (V2.toNat * 5 + 2) = y2 at *
  generalize el L (V2.toNat * 5 + 3) = y3 at *
  generalize el L (V2.toNat * 5 + 4) = y4 at *
  go_enter Tryz.func60, Tryz.ntmps60
  go_wp2_with fail
  refine (KH.out _ (ha.q (QW.trans (by (repeat (first | assumption | exact Q.refl _ | refine Q.alloc ?_ _ | refine Q.drewN ?_ _ | refine Q.drew ?_)))))).mono ?_
  rintro e w1 ⟨rfl, q1⟩
  have QX := QW.trans q1
  have D1 := C1.q q1
  have d1 := D1.cell
  have t1 := D1.lt
  have D2 := C2.q q1
  have d2 := D2.cell
  have t2 := D2.lt
  have D8 := C8.q q1
  have d8 := D8.cell
  have f8 := D8.frozen
  have t8 := D8.lt
  have g1 := QX.cell g0
  have gm1 := QX.cell gm
  have lbx1 := World.block_lt_of_cell? w1 _ gm1
  go_wp2_with fail
  refine (KE.out _ (ha.q (QX.trans (by (repeat (first | assumption | exact Q.refl _ | refine Q.alloc ?_ _ | refine Q.drewN ?_ _ | refine Q.drew ?_)))))).mono ?_
  rintro e w2 ⟨rfl, q2⟩
  have M2 := q2.boxB
  have m2 := M2.cell
  have mf2 := M2.frozen
  have ml2 := M2.lt
  have E1 := (D1.alloc _).q q2
  have e1c := E1.cell
  have e1l := E1.lt
  have E2 := (D2.alloc _).q q2
  have e2c := E2.cell
  have e2l := E2.lt
  have E8 := (D8.alloc _).q q2
  have e8c := E8.cell
  have e8f := E8.frozen
  have e8l := E8.lt
  have u2 : Q w1 w2 := Q.trans (by (repeat (first | assumption | exact Q.refl _ | refine Q.alloc ?_ _ | refine Q.drewN ?_ _ | refine Q.drew ?_))) q2
  have gm2 := u2.cell gm1
  have lbx2 := World.block_lt_of_cell? w2 _ gm2
  go_wp2_with fail
  refine (K1.out _ (ha.q (QX.trans (u2.set4 (Nat.le_refl _) (.int .i64 3) (.int .i64 0) (.int .i64 0) (.bool false))))).mono ?_
  rintro e w3 ⟨rfl, q3⟩
  have M3 := (M2.set4 (.int .i64 3) (.int .i64 0) (.int .i64 0) (.bool false)).q q3
  have m3 := M3.cell
  have ml3 := M3.lt
  have G1 := (E1.far4 (Nat.ne_of_lt t1) (.int .i64 3) (.int .i64 0) (.int .i64 0) (.bool false)).q q3
  have g1c := G1.cell
  have g1l := G1.lt
  have G2 := (E2.far4 (Nat.ne_of_lt t2) (.int .i64 3) (.int .i64 0) (.int .i64 0) (.bool false)).q q3
  have g2c := G2.cell
  have g2l := G2.lt
  have G8 := (E8.far4 (Nat.ne_of_lt t8) (.int .i64 3) (.int .i64 0) (.int .i64 0) (.bool false)).q q3
  have g8c := G8.cell
  have g8f := G8.frozen
  have g8l := G8.lt
  have u3 := (u2.set4 (Nat.le_refl _) (.int .i64 3) (.int .i64 0) (.int .i64 0) (.bool false)).trans q3
  have gm3 := u3.cell gm1
  have lbx3 := World.block_lt_of_cell? w3 _ gm3
  go_wp2_with fail
  refine (K2.out _ (ha.q ((QX.trans u3).trans (by (repeat (first | assumption | exact Q.refl _ | refine Q.alloc ?_ _ | refine Q.drewN ?_ _ | refine Q.drew ?_)))))).mono ?_
  rintro e w4 ⟨rfl, q4⟩
  have M4 := (M3.alloc _).q q4
  have m4 := M4.cell
  have ml4 := M4.lt
  have H2 := (G2.alloc _).q q4
  have h2c := H2.cell
  have h2l := H2.lt
  have H8 := (G8.alloc _).q q4
  have h8c := H8.cell
  have h8f := H8.frozen
  have h8l := H8.lt
  have u4 := u3.trans (Q.trans (by (repeat (first | assumption | exact Q.refl _ | refine Q.alloc ?_ _ | refine Q.drewN ?_ _ | refine Q.drew ?_))) q4 : Q w3 w4)
  have gm4 := u4.cell gm1
  have lbx4 := World.block_lt_of_cell? w4 _ gm4
  go_wp2_with fail
  have F := ((H8.set4 (.int .i64 0) (.int .i64 FR) (.int .i64 X) (.bool (fl == 1))).alloc (.cells #[.int .i64 X, .int .i64 y1, .int .i64 y2, .int .i64 y3, .int .i64 y4] 79)).cell
  rw [HP.out]
  refine bodyPost_ret (v := .agg #[(.int .i64 0), (.int .i64 FR), (.int .i64 X), (.bool (fl == 1))]) (by simp [results, Tryz.results60, go_sem, F]) rfl ⟨rfl, ?_⟩
  exact ((QX.trans u4).set4 (show w.heap.size ≤ w.heap.size + 1 + 1 from Nat.le_add_right _ 2) (.int .i64 0) (.int .i64 FR) (.int .i64 X) (.bool (fl == 1))).alloc _
theorem spec_Start (a b c d : Int) (A : Option Addr) (n cc : Nat) (xs : List Int) (t fl : Int) (w : World) (ha : Rd w A xs) (hn : xs.length = n * 3) (hT : isTrk xs n = true) (hl : lnB a b c d = true) (ht : 0 ≤ t ∧ t ≤ 1000000000) :
    Calls Tryz.prog 60 #[.agg #[.int .i64 a, .int .i64 b, .int .i64 c, .int .i64 d], .agg #[.slice A n cc], .int .i64 t, .int .i64 fl] w fun e w' => e = .returned (stVal (stA a b c d xs n t fl)) ∧ Q w w' := by
  cases h : hsI a b c d xs n t
  · exact spec_StartF a b c d A n cc xs t fl w h ha hn hT hl ht
  exact spec_StartT a b c d A n cc xs t fl w h ha hn hT hl ht
end Go.Proofs.YteofhfefbphjdaaGreatDoor
