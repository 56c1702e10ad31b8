/- Walks: the start of a track, as the program finds it. -/
import Derived.Test.YteofhfefbphjdaaGreatDoorStV
import Derived.Test.YteofhfefbphjdaaGreatDoorFcI
import Derived.Test.YteofhfefbphjdaaGreatDoorEarly
namespace Go.Proofs.YteofhfefbphjdaaGreatDoor
open Go.RowKit Go.WideShapes Go.ChangeShapes
theorem Blk.set4 {w : World} {b : Nat} {T : TypeId} {x0 x1 x2 x3 : Value} (h : Blk w b T #[x0, x1, x2, x3]) (y0 y1 y2 y3 : Value) : Blk ((((w.setCell ⟨b, 0, none⟩ y0).setCell ⟨b, 1, none⟩ y1).setCell ⟨b, 2, none⟩ y2).setCell ⟨b, 3, none⟩ y3) b T #[y0, y1, y2, y3] := by
  have := (((h.set_ 0 y0).set_ 1 y1).set_ 2 y2).set_ 3 y3
  simpa using this
theorem Q.set4 {w w' : World} {b : Nat} (h : Q w w') (hb : w.heap.size ≤ b) (y0 y1 y2 y3 : Value) : Q w ((((w'.setCell ⟨b, 0, none⟩ y0).setCell ⟨b, 1, none⟩ y1).setCell ⟨b, 2, none⟩ y2).setCell ⟨b, 3, none⟩ y3) :=
  (((h.setCell (p := ⟨b, 0, none⟩) hb _).setCell (p := ⟨b, 1, none⟩) hb _).setCell (p := ⟨b, 2, none⟩) hb _).setCell (p := ⟨b, 3, none⟩) hb _
/-- What a first crossing hands back. -/
theorem fcA_neg {L : List Int} {V : Int} (h : V < 0) : fcA L V = .agg #[.int .i64 0, .int .i64 0, .int .i64 0, .int .i64 0, .int .i64 0] := by unfold fcA; rw [if_pos h]
theorem fcA_pos {L : List Int} {V : Int} (h : ¬ V < 0) : fcA L V = .agg #[.int .i64 (el L (V.toNat * 5)), .int .i64 (el L (V.toNat * 5 + 1)), .int .i64 (el L (V.toNat * 5 + 2)), .int .i64 (el L (V.toNat * 5 + 3)), .int .i64 (el L (V.toNat * 5 + 4))] := by unfold fcA; rw [if_neg h]
set_option maxRecDepth 100000 in
set_option maxHeartbeats 16000000 in
theorem impl_startOf (a b c d : Int) (A : Option Addr) (n cc : Nat) (xs : List Int) (t fl : Int) (w : World) (ha : Rd w A xs) (hn : xs.length = n * 3) (hT : isTrk xs n = true) (hl : lnB a b c d = true) (ht : 0 ≤ t ∧ t ≤ 1000000000) :
    Calls Tryz.prog 27 #[.agg #[.int .i64 a, .int .i64 b, .int .i64 c, .int .i64 d], .agg #[.slice A n cc], .int .i64 t, .int .i64 fl] w fun e w' => e = .returned (stVal (stA a b c d xs n t fl)) ∧ Q w w' := by
  obtain ⟨hp, hq⟩ := lnB_pts hl
  have hn24 : 2 ≤ n ∧ n ≤ 40 := by unfold isTrk at hT; rw [Bool.and_eq_true, decide_eq_true_eq] at hT; exact hT.1
  obtain ⟨m, rfl⟩ : ∃ m, n = m + 1 := ⟨n - 1, by omega⟩
  have kh := fun wv (h : Rd wv A xs) => impl_isHasty a b c d A (m + 1) cc xs t wv h hn hT hl ht
  have ke := fun wv (h : Rd wv A xs) => impl_isEarly a b c d A (m + 1) cc xs t wv hp hq h hn hT
  have k1 := fun wv (h : Rd wv A xs) => impl_firstCrossing A (m + 1) cc xs a b c d (-1) t wv h hn hT hl
  have k2 := fun wv (h : Rd wv A xs) => impl_firstCrossing A (m + 1) cc xs a b c d 1 (stFr a b c d xs (m + 1) t) wv h hn hT hl
  obtain ⟨bl, o, rfl, g0, _, _⟩ := ha.at3 hn (show 0 < m + 1 by omega)
  obtain ⟨_, _, hA, gm, _, _⟩ := ha.at3 hn (show m < m + 1 by omega)
  cases hA
  simp only [Nat.zero_mul, Nat.add_zero] at g0
  have hS : Hid (stA a b c d xs (m + 1) t fl = stD (hsI a b c d xs (m + 1) t) (stE a b c d xs (m + 1) t) fl (fcV a b c d xs (m + 1) (-1) t) (stFr a b c d xs (m + 1) t) (fcV a b c d xs (m + 1) 1 (stFr a b c d xs (m + 1) t)) (el (crL a b c d xs (m + 1 - 1)) ((fcV a b c d xs (m + 1) 1 (stFr a b c d xs (m + 1) t)).toNat * 5)) (el xs ((m + 1 - 1) * 3)) t) := Lib.hid rfl
  have hFr : Hid (stFr a b c d xs (m + 1) t = if stE a b c d xs (m + 1) t then el (crL a b c d xs (m + 1 - 1)) ((fcV a b c d xs (m + 1) (-1) t).toNat * 5) else max t (el xs 0)) := Lib.hid rfl
  have hEE : stE a b c d xs (m + 1) t = (sideV a b c d xs (m + 1) t == 1) := rfl
  rw [← hEE] at ke
  clear hEE
  rw [Nat.add_sub_cancel] at k1 k2 hS hFr
  generalize stA a b c d xs (m + 1) t fl = P at *
  generalize hsI a b c d xs (m + 1) t = HS at *
  generalize stE a b c d xs (m + 1) t = EA at *
  generalize fcV a b c d xs (m + 1) (-1) t = V1 at *
  generalize stFr a b c d xs (m + 1) t = FR at *
  generalize fcV a b c d xs (m + 1) 1 FR = V2 at *
  generalize crL a b c d xs m = L at *
  generalize el xs 0 = X0 at *
  generalize el xs (m * 3) = XM at *
  have hm0 : (0 : Int) < ((m + 1 : Nat) : Int) := by omega
  have hm1 : (m : Int) < ((m + 1 : Nat) : Int) := by omega
  have hm2 : ((m + 1 : Nat) : Int) - 1 = (m : Int) := by omega
  have hm3 : (m : Int) ≤ 40 := by omega
  have C1 : Blk (((w.alloc (.cells #[.int .i64 a, .int .i64 b, .int .i64 c, .int .i64 d] 27)).alloc (.cells #[.slice (some ⟨bl, o, none⟩) (m + 1) cc] 43)).alloc (.cells #[.int .i64 0, .int .i64 0, .int .i64 0, .bool false] 49)) w.heap.size 27 #[.int .i64 a, .int .i64 b, .int .i64 c, .int .i64 d] := ((Blk.new _ _ _).alloc _).alloc _
  have C2 : Blk (((w.alloc (.cells #[.int .i64 a, .int .i64 b, .int .i64 c, .int .i64 d] 27)).alloc (.cells #[.slice (some ⟨bl, o, none⟩) (m + 1) cc] 43)).alloc (.cells #[.int .i64 0, .int .i64 0, .int .i64 0, .bool false] 49)) (w.heap.size + 1) 43 #[.slice (some ⟨bl, o, none⟩) (m + 1) cc] := Blk.alloc (by simpa using Blk.new (w.alloc (.cells #[.int .i64 a, .int .i64 b, .int .i64 c, .int .i64 d] 27)) 43 #[.slice (some ⟨bl, o, none⟩) (m + 1) cc]) _
  have C8 : Blk (((w.alloc (.cells #[.int .i64 a, .int .i64 b, .int .i64 c, .int .i64 d] 27)).alloc (.cells #[.slice (some ⟨bl, o, none⟩) (m + 1) cc] 43)).alloc (.cells #[.int .i64 0, .int .i64 0, .int .i64 0, .bool false] 49)) (w.heap.size + 1 + 1) 49 #[.int .i64 0, .int .i64 0, .int .i64 0, .bool false] := (by simpa using Blk.new ((w.alloc (.cells #[.int .i64 a, .int .i64 b, .int .i64 c, .int .i64 d] 27)).alloc (.cells #[.slice (some ⟨bl, o, none⟩) (m + 1) cc] 43)) 49 #[.int .i64 0, .int .i64 0, .int .i64 0, .bool false])
  have QW : Q w (((w.alloc (.cells #[.int .i64 a, .int .i64 b, .int .i64 c, .int .i64 d] 27)).alloc (.cells #[.slice (some ⟨bl, o, none⟩) (m + 1) cc] 43)).alloc (.cells #[.int .i64 0, .int .i64 0, .int .i64 0, .bool false] 49)) := ((Q.alloc (Q.refl w) _).alloc _).alloc _
  have lb := World.block_lt_of_cell? w _ g0
  clear hn hT hl hp hq hn24
  cases HS
  · skip
    cases EA
    · have hFR : FR = max t X0 := by rw [hFr.out]; rfl
      subst hFR
      by_cases hV2 : V2 < 0
      · have HP : Hid (P = (2, 0, 0, false)) := Lib.hid (hS.out.trans (stD_m (fun h => by cases h) (fun e => by cases e.1) (.inl hV2)))
        rw [fcA_neg hV2, decide_eq_false (Int.not_le.2 hV2)] at k2
        have KH := Lib.hid kh
        have KE := Lib.hid ke
        have K2 := Lib.hid k2
        have K1 := Lib.hid k1
        clear kh ke k1 k2 hS hFr
        go_enter Tryz.func27, Tryz.ntmps27
        go_wp2_with fail
        have l1 := later_cells C1.cell C1.lt
        have l2 := later_cells C2.cell C2.lt
        refine wp_region_later_lit (by kernel_rfl) (by kernel_rfl) ?_
        repeat (any_goals (first | go_big_quiet_step ((first | (go_at_call 63; with_reducible exact later_call (KH.out _ (ha.q (QW.trans (Later.q _))))) | (go_at_call 64; with_reducible exact later_call (KE.out _ (ha.q (QW.trans (Later.q _))))))) | quiet_step ((first | (go_at_call 63; with_reducible exact later_call (KH.out _ (ha.q (QW.trans (Later.q _))))) | (go_at_call 64; with_reducible exact later_call (KE.out _ (ha.q (QW.trans (Later.q _))))))) | (refine wpQuiet_step (fun K hK => ?_); go_simp; split <;> (refine hK _ ?_; clear hK K))))
        all_goals (refine wpQuiet_nil ?_; rintro _ ⟨⟨w1, q1⟩, rfl⟩; try dsimp only)
        rename_i w1
        clear l1 l2
        replace C1 := C1.q q1
        replace C2 := C2.q q1
        replace C8 := C8.q q1
        have QX := QW.trans q1
        replace g0 := QX.cell g0
        replace gm := QX.cell gm
        have c1 := C1.cell
        have c2 := C2.cell
        have lt1 := C1.lt
        have lt2 := C2.lt
        have c8 := C8.cell
        have f8 := C8.frozen
        have l8 := C8.lt
        go_wp2_with (go_at_call 65; refine (K2.out _ (ha.q (QX.trans (by (repeat (first | assumption | exact Q.refl _ | refine Q.alloc ?_ _ | refine Q.drewN ?_ _ | refine Q.drew ?_)))))).mono ?_; rintro e w2 ⟨rfl, q2⟩; have M2 := q2.boxB; have m2 := M2.cell; have ml2 := M2.lt; have G2 := (C2.alloc _).q q2; have c2 := G2.cell; have gl2 := G2.lt; have G8 := (C8.alloc _).q q2; have f8 := G8.frozen; have c8 := G8.cell; have l8 := G8.lt; have u2 : Q w1 w2 := Q.trans (by (repeat (first | assumption | exact Q.refl _ | refine Q.alloc ?_ _ | refine Q.drewN ?_ _ | refine Q.drew ?_))) q2; have gm2 := u2.cell gm; have lbx2 := World.block_lt_of_cell? w2 _ gm2)
        have F := ((G8.set4 (.int .i64 2) (.int .i64 0) (.int .i64 0) (.bool false)).alloc (.cells #[.int .i64 0, .int .i64 0, .int .i64 0, .int .i64 0, .int .i64 0] 79)).cell
        rw [HP.out]
        refine bodyPost_ret (v := .agg #[(.int .i64 2), (.int .i64 0), (.int .i64 0), (.bool false)]) (by simp [results, Tryz.results27, go_sem, F]) rfl ⟨rfl, ?_⟩
        exact ((QX.trans u2).set4 (show w.heap.size ≤ w.heap.size + 1 + 1 from Nat.le_add_right _ 2) (.int .i64 2) (.int .i64 0) (.int .i64 0) (.bool false)).alloc _
      rw [fcA_pos hV2, decide_eq_true (Int.not_lt.1 hV2)] at k2
      by_cases hlt : XM < t
      · have HP : Hid (P = (2, 0, 0, false)) := Lib.hid (hS.out.trans (stD_m (fun h => by cases h) (fun e => by cases e.1) (.inr hlt)))
        have KH := Lib.hid kh
        have KE := Lib.hid ke
        have K2 := Lib.hid k2
        have K1 := Lib.hid k1
        clear kh ke k1 k2 hS hFr
        go_enter Tryz.func27, Tryz.ntmps27
        go_wp2_with fail
        have l1 := later_cells C1.cell C1.lt
        have l2 := later_cells C2.cell C2.lt
        refine wp_region_later_lit (by kernel_rfl) (by kernel_rfl) ?_
        repeat (any_goals (first | go_big_quiet_step ((first | (go_at_call 63; with_reducible exact later_call (KH.out _ (ha.q (QW.trans (Later.q _))))) | (go_at_call 64; with_reducible exact later_call (KE.out _ (ha.q (QW.trans (Later.q _))))))) | quiet_step ((first | (go_at_call 63; with_reducible exact later_call (KH.out _ (ha.q (QW.trans (Later.q _))))) | (go_at_call 64; with_reducible exact later_call (KE.out _ (ha.q (QW.trans (Later.q _))))))) | (refine wpQuiet_step (fun K hK => ?_); go_simp; split <;> (refine hK _ ?_; clear hK K))))
        all_goals (refine wpQuiet_nil ?_; rintro _ ⟨⟨w1, q1⟩, rfl⟩; try dsimp only)
        rename_i w1
        clear l1 l2
        replace C1 := C1.q q1
        replace C2 := C2.q q1
        replace C8 := C8.q q1
        have QX := QW.trans q1
        replace g0 := QX.cell g0
        replace gm := QX.cell gm
        have c1 := C1.cell
        have c2 := C2.cell
        have lt1 := C1.lt
        have lt2 := C2.lt
        have c8 := C8.cell
        have f8 := C8.frozen
        have l8 := C8.lt
        generalize el L (V2.toNat * 5) = X at *
        generalize el L (V2.toNat * 5 + 1) = y1 at *
        generalize el L (V2.toNat * 5 + 2) = y2 at *
        generalize el L (V2.toNat * 5 + 3) = y3 at *
        generalize el L (V2.toNat * 5 + 4) = y4 at *
        go_wp2_with (go_at_call 65; refine (K2.out _ (ha.q (QX.trans (by (repeat (first | assumption | exact Q.refl _ | refine Q.alloc ?_ _ | refine Q.drewN ?_ _ | refine Q.drew ?_)))))).mono ?_; rintro e w2 ⟨rfl, q2⟩; have M2 := q2.boxB; have m2 := M2.cell; have ml2 := M2.lt; have G2 := (C2.alloc _).q q2; have c2 := G2.cell; have gl2 := G2.lt; have G8 := (C8.alloc _).q q2; have f8 := G8.frozen; have c8 := G8.cell; have l8 := G8.lt; have u2 : Q w1 w2 := Q.trans (by (repeat (first | assumption | exact Q.refl _ | refine Q.alloc ?_ _ | refine Q.drewN ?_ _ | refine Q.drew ?_))) q2; have gm2 := u2.cell gm; have lbx2 := World.block_lt_of_cell? w2 _ gm2)
        have F := ((G8.set4 (.int .i64 2) (.int .i64 0) (.int .i64 0) (.bool false)).alloc (.cells #[.int .i64 X, .int .i64 y1, .int .i64 y2, .int .i64 y3, .int .i64 y4] 79)).cell
        rw [HP.out]
        refine bodyPost_ret (v := .agg #[(.int .i64 2), (.int .i64 0), (.int .i64 0), (.bool false)]) (by simp [results, Tryz.results27, go_sem, F]) rfl ⟨rfl, ?_⟩
        exact ((QX.trans u2).set4 (show w.heap.size ≤ w.heap.size + 1 + 1 from Nat.le_add_right _ 2) (.int .i64 2) (.int .i64 0) (.int .i64 0) (.bool false)).alloc _
      have HP : Hid (P = (0, max t X0, el L (V2.toNat * 5), false)) := Lib.hid (hS.out.trans (stD_y (fun h => by cases h) (fun e => by cases e.1) (fun e => e.elim hV2 hlt)))
      have KH := Lib.hid kh
      have KE := Lib.hid ke
      have K2 := Lib.hid k2
      have K1 := Lib.hid k1
      clear kh ke k1 k2 hS hFr
      go_enter Tryz.func27, Tryz.ntmps27
      go_wp2_with fail
      have l1 := later_cells C1.cell C1.lt
      have l2 := later_cells C2.cell C2.lt
      refine wp_region_later_lit (by kernel_rfl) (by kernel_rfl) ?_
      repeat (any_goals (first | go_big_quiet_step ((first | (go_at_call 63; with_reducible exact later_call (KH.out _ (ha.q (QW.trans (Later.q _))))) | (go_at_call 64; with_reducible exact later_call (KE.out _ (ha.q (QW.trans (Later.q _))))))) | quiet_step ((first | (go_at_call 63; with_reducible exact later_call (KH.out _ (ha.q (QW.trans (Later.q _))))) | (go_at_call 64; with_reducible exact later_call (KE.out _ (ha.q (QW.trans (Later.q _))))))) | (refine wpQuiet_step (fun K hK => ?_); go_simp; split <;> (refine hK _ ?_; clear hK K))))
      all_goals (refine wpQuiet_nil ?_; rintro _ ⟨⟨w1, q1⟩, rfl⟩; try dsimp only)
      rename_i w1
      clear l1 l2
      replace C1 := C1.q q1
      replace C2 := C2.q q1
      replace C8 := C8.q q1
      have QX := QW.trans q1
      replace g0 := QX.cell g0
      replace gm := QX.cell gm
      have c1 := C1.cell
      have c2 := C2.cell
      have lt1 := C1.lt
      have lt2 := C2.lt
      have c8 := C8.cell
      have f8 := C8.frozen
      have l8 := C8.lt
      generalize el L (V2.toNat * 5) = X at *
      generalize el L (V2.toNat * 5 + 1) = y1 at *
      generalize el L (V2.toNat * 5 + 2) = y2 at *
      generalize el L (V2.toNat * 5 + 3) = y3 at *
      generalize el L (V2.toNat * 5 + 4) = y4 at *
      go_wp2_with (go_at_call 65; refine (K2.out _ (ha.q (QX.trans (by (repeat (first | assumption | exact Q.refl _ | refine Q.alloc ?_ _ | refine Q.drewN ?_ _ | refine Q.drew ?_)))))).mono ?_; rintro e w2 ⟨rfl, q2⟩; have M2 := q2.boxB; have m2 := M2.cell; have ml2 := M2.lt; have G2 := (C2.alloc _).q q2; have c2 := G2.cell; have gl2 := G2.lt; have G8 := (C8.alloc _).q q2; have f8 := G8.frozen; have c8 := G8.cell; have l8 := G8.lt; have u2 : Q w1 w2 := Q.trans (by (repeat (first | assumption | exact Q.refl _ | refine Q.alloc ?_ _ | refine Q.drewN ?_ _ | refine Q.drew ?_))) q2; have gm2 := u2.cell gm; have lbx2 := World.block_lt_of_cell? w2 _ gm2)
      have F := ((G8.set4 (.int .i64 0) (.int .i64 (max t X0)) (.int .i64 X) (.bool false)).alloc (.cells #[.int .i64 X, .int .i64 y1, .int .i64 y2, .int .i64 y3, .int .i64 y4] 79)).cell
      rw [HP.out]
      refine bodyPost_ret (v := .agg #[(.int .i64 0), (.int .i64 (max t X0)), (.int .i64 X), (.bool false)]) (by simp [results, Tryz.results27, go_sem, F]) rfl ⟨rfl, ?_⟩
      exact ((QX.trans u2).set4 (show w.heap.size ≤ w.heap.size + 1 + 1 from Nat.le_add_right _ 2) (.int .i64 0) (.int .i64 (max t X0)) (.int .i64 X) (.bool false)).alloc _
    by_cases hV1 : V1 < 0
    · have HP : Hid (P = (3, 0, 0, false)) := Lib.hid (hS.out.trans (stD_e (fun h => by cases h) hV1))
      rw [fcA_neg hV1, decide_eq_false (Int.not_le.2 hV1)] at k1
      have KH := Lib.hid kh
      have KE := Lib.hid ke
      have K2 := Lib.hid k2
      have K1 := Lib.hid k1
      clear kh ke k1 k2 hS hFr
      go_enter Tryz.func27, Tryz.ntmps27
      go_wp2_with fail
      have l1 := later_cells C1.cell C1.lt
      have l2 := later_cells C2.cell C2.lt
      refine wp_region_later_lit (by kernel_rfl) (by kernel_rfl) ?_
      repeat (any_goals (first | go_big_quiet_step ((first | (go_at_call 63; with_reducible exact later_call (KH.out _ (ha.q (QW.trans (Later.q _))))) | (go_at_call 64; with_reducible exact later_call (KE.out _ (ha.q (QW.trans (Later.q _))))))) | quiet_step ((first | (go_at_call 63; with_reducible exact later_call (KH.out _ (ha.q (QW.trans (Later.q _))))) | (go_at_call 64; with_reducible exact later_call (KE.out _ (ha.q (QW.trans (Later.q _))))))) | (refine wpQuiet_step (fun K hK => ?_); go_simp; split <;> (refine hK _ ?_; clear hK K))))
      all_goals (refine wpQuiet_nil ?_; rintro _ ⟨⟨w1, q1⟩, rfl⟩; try dsimp only)
      rename_i w1
      clear l1 l2
      replace C1 := C1.q q1
      replace C2 := C2.q q1
      replace C8 := C8.q q1
      have QX := QW.trans q1
      replace g0 := QX.cell g0
      replace gm := QX.cell gm
      have c1 := C1.cell
      have c2 := C2.cell
      have lt1 := C1.lt
      have lt2 := C2.lt
      have c8 := C8.cell
      have f8 := C8.frozen
      have l8 := C8.lt
      go_wp2_with (go_at_call 65; refine (K1.out _ (ha.q (QX.trans (by (repeat (first | assumption | exact Q.refl _ | refine Q.alloc ?_ _ | refine Q.drewN ?_ _ | refine Q.drew ?_)))))).mono ?_; rintro e w2 ⟨rfl, q2⟩; have M2 := q2.boxB; have m2 := M2.cell; have ml2 := M2.lt; have G2 := (C2.alloc _).q q2; have c2 := G2.cell; have gl2 := G2.lt; have G8 := (C8.alloc _).q q2; have f8 := G8.frozen; have c8 := G8.cell; have l8 := G8.lt; have u2 : Q w1 w2 := Q.trans (by (repeat (first | assumption | exact Q.refl _ | refine Q.alloc ?_ _ | refine Q.drewN ?_ _ | refine Q.drew ?_))) q2; have gm2 := u2.cell gm; have lbx2 := World.block_lt_of_cell? w2 _ gm2)
      have F := ((G8.set4 (.int .i64 3) (.int .i64 0) (.int .i64 0) (.bool false)).alloc (.cells #[.int .i64 0, .int .i64 0, .int .i64 0, .int .i64 0, .int .i64 0] 79)).cell
      rw [HP.out]
      refine bodyPost_ret (v := .agg #[(.int .i64 3), (.int .i64 0), (.int .i64 0), (.bool false)]) (by simp [results, Tryz.results27, go_sem, F]) rfl ⟨rfl, ?_⟩
      exact ((QX.trans u2).set4 (show w.heap.size ≤ w.heap.size + 1 + 1 from Nat.le_add_right _ 2) (.int .i64 3) (.int .i64 0) (.int .i64 0) (.bool false)).alloc _
    have hFR : FR = el L (V1.toNat * 5) := by rw [hFr.out]; rfl
    rw [fcA_pos hV1, decide_eq_true (Int.not_lt.1 hV1)] at k1
    rw [← hFR] at k1
    clear hFR
    generalize el L (V1.toNat * 5 + 1) = e1 at k1
    generalize el L (V1.toNat * 5 + 2) = e2 at k1
    generalize el L (V1.toNat * 5 + 3) = e3 at k1
    generalize el L (V1.toNat * 5 + 4) = e4 at k1
    by_cases hV2 : V2 < 0
    · have HP : Hid (P = (3, 0, 0, false)) := Lib.hid (hS.out.trans (stD_m (fun h => by cases h) (fun e => hV1 e.2) (.inl hV2)))
      rw [fcA_neg hV2, decide_eq_false (Int.not_le.2 hV2)] at k2
      have KH := Lib.hid kh
      have KE := Lib.hid ke
      have K2 := Lib.hid k2
      have K1 := Lib.hid k1
      clear kh ke k1 k2 hS hFr
      go_enter Tryz.func27, Tryz.ntmps27
      go_wp2_with fail
      have l1 := later_cells C1.cell C1.lt
      have l2 := later_cells C2.cell C2.lt
      refine wp_region_later_lit (by kernel_rfl) (by kernel_rfl) ?_
      repeat (any_goals (first | go_big_quiet_step ((first | (go_at_call 63; with_reducible exact later_call (KH.out _ (ha.q (QW.trans (Later.q _))))) | (go_at_call 64; with_reducible exact later_call (KE.out _ (ha.q (QW.trans (Later.q _))))))) | quiet_step ((first | (go_at_call 63; with_reducible exact later_call (KH.out _ (ha.q (QW.trans (Later.q _))))) | (go_at_call 64; with_reducible exact later_call (KE.out _ (ha.q (QW.trans (Later.q _))))))) | (refine wpQuiet_step (fun K hK => ?_); go_simp; split <;> (refine hK _ ?_; clear hK K))))
      all_goals (refine wpQuiet_nil ?_; rintro _ ⟨⟨w1, q1⟩, rfl⟩; try dsimp only)
      rename_i w1
      clear l1 l2
      replace C1 := C1.q q1
      replace C2 := C2.q q1
      replace C8 := C8.q q1
      have QX := QW.trans q1
      replace g0 := QX.cell g0
      replace gm := QX.cell gm
      have c1 := C1.cell
      have c2 := C2.cell
      have lt1 := C1.lt
      have lt2 := C2.lt
      have c8 := C8.cell
      have f8 := C8.frozen
      have l8 := C8.lt
      go_wp2_with (first | (have q20 := q2; go_at_call 65; refine (K2.out _ (ha.q ((QX.trans u2).trans (by (repeat (first | assumption | exact Q.refl _ | refine Q.alloc ?_ _ | refine Q.drewN ?_ _ | refine Q.drew ?_)))))).mono ?_; rintro e w3 ⟨rfl, q3⟩; have M3 := (M2.alloc _).q q3; have m3 := M3.cell; have m3l := M3.lt; have H2 := (G2.alloc _).q q3; have c3 := H2.cell; have h2l := H2.lt; have H8 := (G8.alloc _).q q3; have h8f := H8.frozen; have h8c := H8.cell; have h8l := H8.lt; have u3 : Q w2 w3 := Q.trans (by (repeat (first | assumption | exact Q.refl _ | refine Q.alloc ?_ _ | refine Q.drewN ?_ _ | refine Q.drew ?_))) q3; have gm3 := u3.cell gm2; have lbx3 := World.block_lt_of_cell? w3 _ gm3) | (go_at_call 65; refine (K1.out _ (ha.q (QX.trans (by (repeat (first | assumption | exact Q.refl _ | refine Q.alloc ?_ _ | refine Q.drewN ?_ _ | refine Q.drew ?_)))))).mono ?_; rintro e w2 ⟨rfl, q2⟩; have M2 := q2.boxB; have m2 := M2.cell; have ml2 := M2.lt; have G2 := (C2.alloc _).q q2; have c2 := G2.cell; have gl2 := G2.lt; have G1 := (C1.alloc _).q q2; have x2 := G1.cell; have gl1 := G1.lt; have G8 := (C8.alloc _).q q2; have f8 := G8.frozen; have c8 := G8.cell; have l8 := G8.lt; have u2 : Q w1 w2 := Q.trans (by (repeat (first | assumption | exact Q.refl _ | refine Q.alloc ?_ _ | refine Q.drewN ?_ _ | refine Q.drew ?_))) q2; have gm2 := u2.cell gm; have lbx2 := World.block_lt_of_cell? w2 _ gm2))
      have F := ((H8.set4 (.int .i64 3) (.int .i64 0) (.int .i64 0) (.bool false)).alloc (.cells #[.int .i64 0, .int .i64 0, .int .i64 0, .int .i64 0, .int .i64 0] 79)).cell
      rw [HP.out]
      refine bodyPost_ret (v := .agg #[(.int .i64 3), (.int .i64 0), (.int .i64 0), (.bool false)]) (by simp [results, Tryz.results27, go_sem, F]) rfl ⟨rfl, ?_⟩
      exact (((QX.trans u2).trans u3).set4 (show w.heap.size ≤ w.heap.size + 1 + 1 from Nat.le_add_right _ 2) (.int .i64 3) (.int .i64 0) (.int .i64 0) (.bool false)).alloc _
    rw [fcA_pos hV2, decide_eq_true (Int.not_lt.1 hV2)] at k2
    by_cases hlt : XM < t
    · have HP : Hid (P = (3, 0, 0, false)) := Lib.hid (hS.out.trans (stD_m (fun h => by cases h) (fun e => hV1 e.2) (.inr hlt)))
      have KH := Lib.hid kh
      have KE := Lib.hid ke
      have K2 := Lib.hid k2
      have K1 := Lib.hid k1
      clear kh ke k1 k2 hS hFr
      go_enter Tryz.func27, Tryz.ntmps27
      go_wp2_with fail
      have l1 := later_cells C1.cell C1.lt
      have l2 := later_cells C2.cell C2.lt
      refine wp_region_later_lit (by kernel_rfl) (by kernel_rfl) ?_
      repeat (any_goals (first | go_big_quiet_step ((first | (go_at_call 63; with_reducible exact later_call (KH.out _ (ha.q (QW.trans (Later.q _))))) | (go_at_call 64; with_reducible exact later_call (KE.out _ (ha.q (QW.trans (Later.q _))))))) | quiet_step ((first | (go_at_call 63; with_reducible exact later_call (KH.out _ (ha.q (QW.trans (Later.q _))))) | (go_at_call 64; with_reducible exact later_call (KE.out _ (ha.q (QW.trans (Later.q _))))))) | (refine wpQuiet_step (fun K hK => ?_); go_simp; split <;> (refine hK _ ?_; clear hK K))))
      all_goals (refine wpQuiet_nil ?_; rintro _ ⟨⟨w1, q1⟩, rfl⟩; try dsimp only)
      rename_i w1
      clear l1 l2
      replace C1 := C1.q q1
      replace C2 := C2.q q1
      replace C8 := C8.q q1
      have QX := QW.trans q1
      replace g0 := QX.cell g0
      replace gm := QX.cell gm
      have c1 := C1.cell
      have c2 := C2.cell
      have lt1 := C1.lt
      have lt2 := C2.lt
      have c8 := C8.cell
      have f8 := C8.frozen
      have l8 := C8.lt
      generalize el L (V2.toNat * 5) = X at *
      generalize el L (V2.toNat * 5 + 1) = y1 at *
      generalize el L (V2.toNat * 5 + 2) = y2 at *
      generalize el L (V2.toNat * 5 + 3) = y3 at *
      generalize el L (V2.toNat * 5 + 4) = y4 at *
      go_wp2_with (first | (have q20 := q2; go_at_call 65; refine (K2.out _ (ha.q ((QX.trans u2).trans (by (repeat (first | assumption | exact Q.refl _ | refine Q.alloc ?_ _ | refine Q.drewN ?_ _ | refine Q.drew ?_)))))).mono ?_; rintro e w3 ⟨rfl, q3⟩; have M3 := (M2.alloc _).q q3; have m3 := M3.cell; have m3l := M3.lt; have H2 := (G2.alloc _).q q3; have c3 := H2.cell; have h2l := H2.lt; have H8 := (G8.alloc _).q q3; have h8f := H8.frozen; have h8c := H8.cell; have h8l := H8.lt; have u3 : Q w2 w3 := Q.trans (by (repeat (first | assumption | exact Q.refl _ | refine Q.alloc ?_ _ | refine Q.drewN ?_ _ | refine Q.drew ?_))) q3; have gm3 := u3.cell gm2; have lbx3 := World.block_lt_of_cell? w3 _ gm3) | (go_at_call 65; refine (K1.out _ (ha.q (QX.trans (by (repeat (first | assumption | exact Q.refl _ | refine Q.alloc ?_ _ | refine Q.drewN ?_ _ | refine Q.drew ?_)))))).mono ?_; rintro e w2 ⟨rfl, q2⟩; have M2 := q2.boxB; have m2 := M2.cell; have ml2 := M2.lt; have G2 := (C2.alloc _).q q2; have c2 := G2.cell; have gl2 := G2.lt; have G1 := (C1.alloc _).q q2; have x2 := G1.cell; have gl1 := G1.lt; have G8 := (C8.alloc _).q q2; have f8 := G8.frozen; have c8 := G8.cell; have l8 := G8.lt; have u2 : Q w1 w2 := Q.trans (by (repeat (first | assumption | exact Q.refl _ | refine Q.alloc ?_ _ | refine Q.drewN ?_ _ | refine Q.drew ?_))) q2; have gm2 := u2.cell gm; have lbx2 := World.block_lt_of_cell? w2 _ gm2))
      have F := ((H8.set4 (.int .i64 3) (.int .i64 0) (.int .i64 0) (.bool false)).alloc (.cells #[.int .i64 X, .int .i64 y1, .int .i64 y2, .int .i64 y3, .int .i64 y4] 79)).cell
      rw [HP.out]
      refine bodyPost_ret (v := .agg #[(.int .i64 3), (.int .i64 0), (.int .i64 0), (.bool false)]) (by simp [results, Tryz.results27, go_sem, F]) rfl ⟨rfl, ?_⟩
      exact (((QX.trans u2).trans u3).set4 (show w.heap.size ≤ w.heap.size + 1 + 1 from Nat.le_add_right _ 2) (.int .i64 3) (.int .i64 0) (.int .i64 0) (.bool false)).alloc _
    have HP : Hid (P = (0, FR, el L (V2.toNat * 5), false)) := Lib.hid (hS.out.trans (stD_y (fun h => by cases h) (fun e => hV1 e.2) (fun e => e.elim hV2 hlt)))
    have KH := Lib.hid kh
    have KE := Lib.hid ke
    have K2 := Lib.hid k2
    have K1 := Lib.hid k1
    clear kh ke k1 k2 hS hFr
    go_enter Tryz.func27, Tryz.ntmps27
    go_wp2_with fail
    have l1 := later_cells C1.cell C1.lt
    have l2 := later_cells C2.cell C2.lt
    refine wp_region_later_lit (by kernel_rfl) (by kernel_rfl) ?_
    repeat (any_goals (first | go_big_quiet_step ((first | (go_at_call 63; with_reducible exact later_call (KH.out _ (ha.q (QW.trans (Later.q _))))) | (go_at_call 64; with_reducible exact later_call (KE.out _ (ha.q (QW.trans (Later.q _))))))) | quiet_step ((first | (go_at_call 63; with_reducible exact later_call (KH.out _ (ha.q (QW.trans (Later.q _))))) | (go_at_call 64; with_reducible exact later_call (KE.out _ (ha.q (QW.trans (Later.q _))))))) | (refine wpQuiet_step (fun K hK => ?_); go_simp; split <;> (refine hK _ ?_; clear hK K))))
    all_goals (refine wpQuiet_nil ?_; rintro _ ⟨⟨w1, q1⟩, rfl⟩; try dsimp only)
    rename_i w1
    clear l1 l2
    replace C1 := C1.q q1
    replace C2 := C2.q q1
    replace C8 := C8.q q1
    have QX := QW.trans q1
    replace g0 := QX.cell g0
    replace gm := QX.cell gm
    have c1 := C1.cell
    have c2 := C2.cell
    have lt1 := C1.lt
    have lt2 := C2.lt
    have c8 := C8.cell
    have f8 := C8.frozen
    have l8 := C8.lt
    generalize el L (V2.toNat * 5) = X at *
    generalize el L (V2.toNat * 5 + 1) = y1 at *
    generalize el L (V2.toNat * 5 + 2) = y2 at *
    generalize el L (V2.toNat * 5 + 3) = y3 at *
    generalize el L (V2.toNat * 5 + 4) = y4 at *
    go_wp2_with (first | (have q20 := q2; go_at_call 65; refine (K2.out _ (ha.q ((QX.trans u2).trans (by (repeat (first | assumption | exact Q.refl _ | refine Q.alloc ?_ _ | refine Q.drewN ?_ _ | refine Q.drew ?_)))))).mono ?_; rintro e w3 ⟨rfl, q3⟩; have M3 := (M2.alloc _).q q3; have m3 := M3.cell; have m3l := M3.lt; have H2 := (G2.alloc _).q q3; have c3 := H2.cell; have h2l := H2.lt; have H8 := (G8.alloc _).q q3; have h8f := H8.frozen; have h8c := H8.cell; have h8l := H8.lt; have u3 : Q w2 w3 := Q.trans (by (repeat (first | assumption | exact Q.refl _ | refine Q.alloc ?_ _ | refine Q.drewN ?_ _ | refine Q.drew ?_))) q3; have gm3 := u3.cell gm2; have lbx3 := World.block_lt_of_cell? w3 _ gm3) | (go_at_call 65; refine (K1.out _ (ha.q (QX.trans (by (repeat (first | assumption | exact Q.refl _ | refine Q.alloc ?_ _ | refine Q.drewN ?_ _ | refine Q.drew ?_)))))).mono ?_; rintro e w2 ⟨rfl, q2⟩; have M2 := q2.boxB; have m2 := M2.cell; have ml2 := M2.lt; have G2 := (C2.alloc _).q q2; have c2 := G2.cell; have gl2 := G2.lt; have G1 := (C1.alloc _).q q2; have x2 := G1.cell; have gl1 := G1.lt; have G8 := (C8.alloc _).q q2; have f8 := G8.frozen; have c8 := G8.cell; have l8 := G8.lt; have u2 : Q w1 w2 := Q.trans (by (repeat (first | assumption | exact Q.refl _ | refine Q.alloc ?_ _ | refine Q.drewN ?_ _ | refine Q.drew ?_))) q2; have gm2 := u2.cell gm; have lbx2 := World.block_lt_of_cell? w2 _ gm2))
    have F := ((H8.set4 (.int .i64 0) (.int .i64 FR) (.int .i64 X) (.bool false)).alloc (.cells #[.int .i64 X, .int .i64 y1, .int .i64 y2, .int .i64 y3, .int .i64 y4] 79)).cell
    rw [HP.out]
    refine bodyPost_ret (v := .agg #[(.int .i64 0), (.int .i64 FR), (.int .i64 X), (.bool false)]) (by simp [results, Tryz.results27, go_sem, F]) rfl ⟨rfl, ?_⟩
    exact (((QX.trans u2).trans u3).set4 (show w.heap.size ≤ w.heap.size + 1 + 1 from Nat.le_add_right _ 2) (.int .i64 0) (.int .i64 FR) (.int .i64 X) (.bool false)).alloc _
  by_cases h3 : fl = 3
  · subst h3
    have HP : Hid (P = (8, 0, 0, false)) := Lib.hid (hS.out.trans stD_3)
    have KH := Lib.hid kh
    have KE := Lib.hid ke
    have K2 := Lib.hid k2
    have K1 := Lib.hid k1
    clear kh ke k1 k2 hS hFr
    go_enter Tryz.func27, Tryz.ntmps27
    go_wp2_with fail
    have l1 := later_cells C1.cell C1.lt
    have l2 := later_cells C2.cell C2.lt
    refine wp_region_later_lit (by kernel_rfl) (by kernel_rfl) ?_
    repeat (any_goals (first | go_big_quiet_step ((first | (go_at_call 63; with_reducible exact later_call (KH.out _ (ha.q (QW.trans (Later.q _))))) | (go_at_call 64; with_reducible exact later_call (KE.out _ (ha.q (QW.trans (Later.q _))))))) | quiet_step ((first | (go_at_call 63; with_reducible exact later_call (KH.out _ (ha.q (QW.trans (Later.q _))))) | (go_at_call 64; with_reducible exact later_call (KE.out _ (ha.q (QW.trans (Later.q _))))))) | (refine wpQuiet_step (fun K hK => ?_); go_simp; split <;> (refine hK _ ?_; clear hK K))))
    all_goals (refine wpQuiet_nil ?_; rintro _ ⟨⟨w1, q1⟩, rfl⟩; try dsimp only)
    rename_i w1
    clear l1 l2
    replace C1 := C1.q q1
    replace C2 := C2.q q1
    replace C8 := C8.q q1
    have QX := QW.trans q1
    replace g0 := QX.cell g0
    replace gm := QX.cell gm
    have c1 := C1.cell
    have c2 := C2.cell
    have lt1 := C1.lt
    have lt2 := C2.lt
    have c8 := C8.cell
    have f8 := C8.frozen
    have l8 := C8.lt
    clear c1 c2
    go_wp2_with fail
    have F := ((C8.set4 (.int .i64 8) (.int .i64 0) (.int .i64 0) (.bool false))).cell
    rw [HP.out]
    refine bodyPost_ret (v := .agg #[(.int .i64 8), (.int .i64 0), (.int .i64 0), (.bool false)]) (by simp [results, Tryz.results27, go_sem, F]) rfl ⟨rfl, ?_⟩
    exact (QX.set4 (show w.heap.size ≤ w.heap.size + 1 + 1 from Nat.le_add_right _ 2) (.int .i64 8) (.int .i64 0) (.int .i64 0) (.bool false))
  by_cases h2 : fl = 2
  · subst h2
    have HP : Hid (P = (6, 0, 0, false)) := Lib.hid (hS.out.trans stD_2)
    have KH := Lib.hid kh
    have KE := Lib.hid ke
    have K2 := Lib.hid k2
    have K1 := Lib.hid k1
    clear kh ke k1 k2 hS hFr
    go_enter Tryz.func27, Tryz.ntmps27
    go_wp2_with fail
    have l1 := later_cells C1.cell C1.lt
    have l2 := later_cells C2.cell C2.lt
    refine wp_region_later_lit (by kernel_rfl) (by kernel_rfl) ?_
    repeat (any_goals (first | go_big_quiet_step ((first | (go_at_call 63; with_reducible exact later_call (KH.out _ (ha.q (QW.trans (Later.q _))))) | (go_at_call 64; with_reducible exact later_call (KE.out _ (ha.q (QW.trans (Later.q _))))))) | quiet_step ((first | (go_at_call 63; with_reducible exact later_call (KH.out _ (ha.q (QW.trans (Later.q _))))) | (go_at_call 64; with_reducible exact later_call (KE.out _ (ha.q (QW.trans (Later.q _))))))) | (refine wpQuiet_step (fun K hK => ?_); go_simp; split <;> (refine hK _ ?_; clear hK K))))
    all_goals (refine wpQuiet_nil ?_; rintro _ ⟨⟨w1, q1⟩, rfl⟩; try dsimp only)
    rename_i w1
    clear l1 l2
    replace C1 := C1.q q1
    replace C2 := C2.q q1
    replace C8 := C8.q q1
    have QX := QW.trans q1
    replace g0 := QX.cell g0
    replace gm := QX.cell gm
    have c1 := C1.cell
    have c2 := C2.cell
    have lt1 := C1.lt
    have lt2 := C2.lt
    have c8 := C8.cell
    have f8 := C8.frozen
    have l8 := C8.lt
    clear c1 c2
    go_wp2_with fail
    have F := ((C8.set4 (.int .i64 6) (.int .i64 0) (.int .i64 0) (.bool false))).cell
    rw [HP.out]
    refine bodyPost_ret (v := .agg #[(.int .i64 6), (.int .i64 0), (.int .i64 0), (.bool false)]) (by simp [results, Tryz.results27, go_sem, F]) rfl ⟨rfl, ?_⟩
    exact (QX.set4 (show w.heap.size ≤ w.heap.size + 1 + 1 from Nat.le_add_right _ 2) (.int .i64 6) (.int .i64 0) (.int .i64 0) (.bool false))
  skip
  have f3 : (fl == 3) = false := by simpa using h3
  have f2 : (fl == 2) = false := by simpa using h2
  cases EA
  · have hFR : FR = max t X0 := by rw [hFr.out]; rfl
    subst hFR
    by_cases hV2 : V2 < 0
    · have HP : Hid (P = (2, 0, 0, false)) := Lib.hid (hS.out.trans (stD_m (fun _ => ⟨h3, h2⟩) (fun e => by cases e.1) (.inl hV2)))
      rw [fcA_neg hV2, decide_eq_false (Int.not_le.2 hV2)] at k2
      have KH := Lib.hid kh
      have KE := Lib.hid ke
      have K2 := Lib.hid k2
      have K1 := Lib.hid k1
      clear kh ke k1 k2 hS hFr
      go_enter Tryz.func27, Tryz.ntmps27
      go_wp2_with fail
      have l1 := later_cells C1.cell C1.lt
      have l2 := later_cells C2.cell C2.lt
      refine wp_region_later_lit (by kernel_rfl) (by kernel_rfl) ?_
      repeat (any_goals (first | go_big_quiet_step ((first | (go_at_call 63; with_reducible exact later_call (KH.out _ (ha.q (QW.trans (Later.q _))))) | (go_at_call 64; with_reducible exact later_call (KE.out _ (ha.q (QW.trans (Later.q _))))))) | quiet_step ((first | (go_at_call 63; with_reducible exact later_call (KH.out _ (ha.q (QW.trans (Later.q _))))) | (go_at_call 64; with_reducible exact later_call (KE.out _ (ha.q (QW.trans (Later.q _))))))) | (refine wpQuiet_step (fun K hK => ?_); go_simp; split <;> (refine hK _ ?_; clear hK K))))
      all_goals (refine wpQuiet_nil ?_; rintro _ ⟨⟨w1, q1⟩, rfl⟩; try dsimp only)
      rename_i w1
      clear l1 l2
      replace C1 := C1.q q1
      replace C2 := C2.q q1
      replace C8 := C8.q q1
      have QX := QW.trans q1
      replace g0 := QX.cell g0
      replace gm := QX.cell gm
      have c1 := C1.cell
      have c2 := C2.cell
      have lt1 := C1.lt
      have lt2 := C2.lt
      have c8 := C8.cell
      have f8 := C8.frozen
      have l8 := C8.lt
      go_wp2_with (go_at_call 65; refine (K2.out _ (ha.q (QX.trans (by (repeat (first | assumption | exact Q.refl _ | refine Q.alloc ?_ _ | refine Q.drewN ?_ _ | refine Q.drew ?_)))))).mono ?_; rintro e w2 ⟨rfl, q2⟩; have M2 := q2.boxB; have m2 := M2.cell; have ml2 := M2.lt; have G2 := (C2.alloc _).q q2; have c2 := G2.cell; have gl2 := G2.lt; have G8 := (C8.alloc _).q q2; have f8 := G8.frozen; have c8 := G8.cell; have l8 := G8.lt; have u2 : Q w1 w2 := Q.trans (by (repeat (first | assumption | exact Q.refl _ | refine Q.alloc ?_ _ | refine Q.drewN ?_ _ | refine Q.drew ?_))) q2; have gm2 := u2.cell gm; have lbx2 := World.block_lt_of_cell? w2 _ gm2)
      have F := ((G8.set4 (.int .i64 2) (.int .i64 0) (.int .i64 0) (.bool false)).alloc (.cells #[.int .i64 0, .int .i64 0, .int .i64 0, .int .i64 0, .int .i64 0] 79)).cell
      rw [HP.out]
      refine bodyPost_ret (v := .agg #[(.int .i64 2), (.int .i64 0), (.int .i64 0), (.bool false)]) (by simp [results, Tryz.results27, go_sem, F]) rfl ⟨rfl, ?_⟩
      exact ((QX.trans u2).set4 (show w.heap.size ≤ w.heap.size + 1 + 1 from Nat.le_add_right _ 2) (.int .i64 2) (.int .i64 0) (.int .i64 0) (.bool false)).alloc _
    rw [fcA_pos hV2, decide_eq_true (Int.not_lt.1 hV2)] at k2
    by_cases hlt : XM < t
    · have HP : Hid (P = (2, 0, 0, false)) := Lib.hid (hS.out.trans (stD_m (fun _ => ⟨h3, h2⟩) (fun e => by cases e.1) (.inr hlt)))
      have KH := Lib.hid kh
      have KE := Lib.hid ke
      have K2 := Lib.hid k2
      have K1 := Lib.hid k1
      clear kh ke k1 k2 hS hFr
      go_enter Tryz.func27, Tryz.ntmps27
      go_wp2_with fail
      have l1 := later_cells C1.cell C1.lt
      have l2 := later_cells C2.cell C2.lt
      refine wp_region_later_lit (by kernel_rfl) (by kernel_rfl) ?_
      repeat (any_goals (first | go_big_quiet_step ((first | (go_at_call 63; with_reducible exact later_call (KH.out _ (ha.q (QW.trans (Later.q _))))) | (go_at_call 64; with_reducible exact later_call (KE.out _ (ha.q (QW.trans (Later.q _))))))) | quiet_step ((first | (go_at_call 63; with_reducible exact later_call (KH.out _ (ha.q (QW.trans (Later.q _))))) | (go_at_call 64; with_reducible exact later_call (KE.out _ (ha.q (QW.trans (Later.q _))))))) | (refine wpQuiet_step (fun K hK => ?_); go_simp; split <;> (refine hK _ ?_; clear hK K))))
      all_goals (refine wpQuiet_nil ?_; rintro _ ⟨⟨w1, q1⟩, rfl⟩; try dsimp only)
      rename_i w1
      clear l1 l2
      replace C1 := C1.q q1
      replace C2 := C2.q q1
      replace C8 := C8.q q1
      have QX := QW.trans q1
      replace g0 := QX.cell g0
      replace gm := QX.cell gm
      have c1 := C1.cell
      have c2 := C2.cell
      have lt1 := C1.lt
      have lt2 := C2.lt
      have c8 := C8.cell
      have f8 := C8.frozen
      have l8 := C8.lt
      generalize el L (V2.toNat * 5) = X at *
      generalize el L (V2.toNat * 5 + 1) = y1 at *
      generalize el L (V2.toNat * 5 + 2) = y2 at *
      generalize el L (V2.toNat * 5 + 3) = y3 at *
      generalize el L (V2.toNat * 5 + 4) = y4 at *
      go_wp2_with (go_at_call 65; refine (K2.out _ (ha.q (QX.trans (by (repeat (first | assumption | exact Q.refl _ | refine Q.alloc ?_ _ | refine Q.drewN ?_ _ | refine Q.drew ?_)))))).mono ?_; rintro e w2 ⟨rfl, q2⟩; have M2 := q2.boxB; have m2 := M2.cell; have ml2 := M2.lt; have G2 := (C2.alloc _).q q2; have c2 := G2.cell; have gl2 := G2.lt; have G8 := (C8.alloc _).q q2; have f8 := G8.frozen; have c8 := G8.cell; have l8 := G8.lt; have u2 : Q w1 w2 := Q.trans (by (repeat (first | assumption | exact Q.refl _ | refine Q.alloc ?_ _ | refine Q.drewN ?_ _ | refine Q.drew ?_))) q2; have gm2 := u2.cell gm; have lbx2 := World.block_lt_of_cell? w2 _ gm2)
      have F := ((G8.set4 (.int .i64 2) (.int .i64 0) (.int .i64 0) (.bool false)).alloc (.cells #[.int .i64 X, .int .i64 y1, .int .i64 y2, .int .i64 y3, .int .i64 y4] 79)).cell
      rw [HP.out]
      refine bodyPost_ret (v := .agg #[(.int .i64 2), (.int .i64 0), (.int .i64 0), (.bool false)]) (by simp [results, Tryz.results27, go_sem, F]) rfl ⟨rfl, ?_⟩
      exact ((QX.trans u2).set4 (show w.heap.size ≤ w.heap.size + 1 + 1 from Nat.le_add_right _ 2) (.int .i64 2) (.int .i64 0) (.int .i64 0) (.bool false)).alloc _
    have HP : Hid (P = (0, max t X0, el L (V2.toNat * 5), (fl == 1))) := Lib.hid (hS.out.trans (stD_y (fun _ => ⟨h3, h2⟩) (fun e => by cases e.1) (fun e => e.elim hV2 hlt)))
    have KH := Lib.hid kh
    have KE := Lib.hid ke
    have K2 := Lib.hid k2
    have K1 := Lib.hid k1
    clear kh ke k1 k2 hS hFr
    go_enter Tryz.func27, Tryz.ntmps27
    go_wp2_with fail
    have l1 := later_cells C1.cell C1.lt
    have l2 := later_cells C2.cell C2.lt
    refine wp_region_later_lit (by kernel_rfl) (by kernel_rfl) ?_
    repeat (any_goals (first | go_big_quiet_step ((first | (go_at_call 63; with_reducible exact later_call (KH.out _ (ha.q (QW.trans (Later.q _))))) | (go_at_call 64; with_reducible exact later_call (KE.out _ (ha.q (QW.trans (Later.q _))))))) | quiet_step ((first | (go_at_call 63; with_reducible exact later_call (KH.out _ (ha.q (QW.trans (Later.q _))))) | (go_at_call 64; with_reducible exact later_call (KE.out _ (ha.q (QW.trans (Later.q _))))))) | (refine wpQuiet_step (fun K hK => ?_); go_simp; split <;> (refine hK _ ?_; clear hK K))))
    all_goals (refine wpQuiet_nil ?_; rintro _ ⟨⟨w1, q1⟩, rfl⟩; try dsimp only)
    rename_i w1
    clear l1 l2
    replace C1 := C1.q q1
    replace C2 := C2.q q1
    replace C8 := C8.q q1
    have QX := QW.trans q1
    replace g0 := QX.cell g0
    replace gm := QX.cell gm
    have c1 := C1.cell
    have c2 := C2.cell
    have lt1 := C1.lt
    have lt2 := C2.lt
    have c8 := C8.cell
    have f8 := C8.frozen
    have l8 := C8.lt
    generalize el L (V2.toNat * 5) = X at *
    generalize el L (V2.toNat * 5 + 1) = y1 at *
    generalize el L (V2.toNat * 5 + 2) = y2 at *
    generalize el L (V2.toNat * 5 + 3) = y3 at *
    generalize el L (V2.toNat * 5 + 4) = y4 at *
    go_wp2_with (go_at_call 65; refine (K2.out _ (ha.q (QX.trans (by (repeat (first | assumption | exact Q.refl _ | refine Q.alloc ?_ _ | refine Q.drewN ?_ _ | refine Q.drew ?_)))))).mono ?_; rintro e w2 ⟨rfl, q2⟩; have M2 := q2.boxB; have m2 := M2.cell; have ml2 := M2.lt; have G2 := (C2.alloc _).q q2; have c2 := G2.cell; have gl2 := G2.lt; have G8 := (C8.alloc _).q q2; have f8 := G8.frozen; have c8 := G8.cell; have l8 := G8.lt; have u2 : Q w1 w2 := Q.trans (by (repeat (first | assumption | exact Q.refl _ | refine Q.alloc ?_ _ | refine Q.drewN ?_ _ | refine Q.drew ?_))) q2; have gm2 := u2.cell gm; have lbx2 := World.block_lt_of_cell? w2 _ gm2)
    have F := ((G8.set4 (.int .i64 0) (.int .i64 (max t X0)) (.int .i64 X) (.bool (fl == 1))).alloc (.cells #[.int .i64 X, .int .i64 y1, .int .i64 y2, .int .i64 y3, .int .i64 y4] 79)).cell
    rw [HP.out]
    refine bodyPost_ret (v := .agg #[(.int .i64 0), (.int .i64 (max t X0)), (.int .i64 X), (.bool (fl == 1))]) (by simp [results, Tryz.results27, go_sem, F]) rfl ⟨rfl, ?_⟩
    exact ((QX.trans u2).set4 (show w.heap.size ≤ w.heap.size + 1 + 1 from Nat.le_add_right _ 2) (.int .i64 0) (.int .i64 (max t X0)) (.int .i64 X) (.bool (fl == 1))).alloc _
  by_cases hV1 : V1 < 0
  · have HP : Hid (P = (3, 0, 0, false)) := Lib.hid (hS.out.trans (stD_e (fun _ => ⟨h3, h2⟩) hV1))
    rw [fcA_neg hV1, decide_eq_false (Int.not_le.2 hV1)] at k1
    have KH := Lib.hid kh
    have KE := Lib.hid ke
    have K2 := Lib.hid k2
    have K1 := Lib.hid k1
    clear kh ke k1 k2 hS hFr
    go_enter Tryz.func27, Tryz.ntmps27
    go_wp2_with fail
    have l1 := later_cells C1.cell C1.lt
    have l2 := later_cells C2.cell C2.lt
    refine wp_region_later_lit (by kernel_rfl) (by kernel_rfl) ?_
    repeat (any_goals (first | go_big_quiet_step ((first | (go_at_call 63; with_reducible exact later_call (KH.out _ (ha.q (QW.trans (Later.q _))))) | (go_at_call 64; with_reducible exact later_call (KE.out _ (ha.q (QW.trans (Later.q _))))))) | quiet_step ((first | (go_at_call 63; with_reducible exact later_call (KH.out _ (ha.q (QW.trans (Later.q _))))) | (go_at_call 64; with_reducible exact later_call (KE.out _ (ha.q (QW.trans (Later.q _))))))) | (refine wpQuiet_step (fun K hK => ?_); go_simp; split <;> (refine hK _ ?_; clear hK K))))
    all_goals (refine wpQuiet_nil ?_; rintro _ ⟨⟨w1, q1⟩, rfl⟩; try dsimp only)
    rename_i w1
    clear l1 l2
    replace C1 := C1.q q1
    replace C2 := C2.q q1
    replace C8 := C8.q q1
    have QX := QW.trans q1
    replace g0 := QX.cell g0
    replace gm := QX.cell gm
    have c1 := C1.cell
    have c2 := C2.cell
    have lt1 := C1.lt
    have lt2 := C2.lt
    have c8 := C8.cell
    have f8 := C8.frozen
    have l8 := C8.lt
    go_wp2_with (go_at_call 65; refine (K1.out _ (ha.q (QX.trans (by (repeat (first | assumption | exact Q.refl _ | refine Q.alloc ?_ _ | refine Q.drewN ?_ _ | refine Q.drew ?_)))))).mono ?_; rintro e w2 ⟨rfl, q2⟩; have M2 := q2.boxB; have m2 := M2.cell; have ml2 := M2.lt; have G2 := (C2.alloc _).q q2; have c2 := G2.cell; have gl2 := G2.lt; have G8 := (C8.alloc _).q q2; have f8 := G8.frozen; have c8 := G8.cell; have l8 := G8.lt; have u2 : Q w1 w2 := Q.trans (by (repeat (first | assumption | exact Q.refl _ | refine Q.alloc ?_ _ | refine Q.drewN ?_ _ | refine Q.drew ?_))) q2; have gm2 := u2.cell gm; have lbx2 := World.block_lt_of_cell? w2 _ gm2)
    have F := ((G8.set4 (.int .i64 3) (.int .i64 0) (.int .i64 0) (.bool false)).alloc (.cells #[.int .i64 0, .int .i64 0, .int .i64 0, .int .i64 0, .int .i64 0] 79)).cell
    rw [HP.out]
    refine bodyPost_ret (v := .agg #[(.int .i64 3), (.int .i64 0), (.int .i64 0), (.bool false)]) (by simp [results, Tryz.results27, go_sem, F]) rfl ⟨rfl, ?_⟩
    exact ((QX.trans u2).set4 (show w.heap.size ≤ w.heap.size + 1 + 1 from Nat.le_add_right _ 2) (.int .i64 3) (.int .i64 0) (.int .i64 0) (.bool false)).alloc _
  have hFR : FR = el L (V1.toNat * 5) := by rw [hFr.out]; rfl
  rw [fcA_pos hV1, decide_eq_true (Int.not_lt.1 hV1)] at k1
  rw [← hFR] at k1
  clear hFR
  generalize el L (V1.toNat * 5 + 1) = e1 at k1
  generalize el L (V1.toNat * 5 + 2) = e2 at k1
  generalize el L (V1.toNat * 5 + 3) = e3 at k1
  generalize el L (V1.toNat * 5 + 4) = e4 at k1
  by_cases hV2 : V2 < 0
  · have HP : Hid (P = (3, 0, 0, false)) := Lib.hid (hS.out.trans (stD_m (fun _ => ⟨h3, h2⟩) (fun e => hV1 e.2) (.inl hV2)))
    rw [fcA_neg hV2, decide_eq_false (Int.not_le.2 hV2)] at k2
    have KH := Lib.hid kh
    have KE := Lib.hid ke
    have K2 := Lib.hid k2
    have K1 := Lib.hid k1
    clear kh ke k1 k2 hS hFr
    go_enter Tryz.func27, Tryz.ntmps27
    go_wp2_with fail
    have l1 := later_cells C1.cell C1.lt
    have l2 := later_cells C2.cell C2.lt
    refine wp_region_later_lit (by kernel_rfl) (by kernel_rfl) ?_
    repeat (any_goals (first | go_big_quiet_step ((first | (go_at_call 63; with_reducible exact later_call (KH.out _ (ha.q (QW.trans (Later.q _))))) | (go_at_call 64; with_reducible exact later_call (KE.out _ (ha.q (QW.trans (Later.q _))))))) | quiet_step ((first | (go_at_call 63; with_reducible exact later_call (KH.out _ (ha.q (QW.trans (Later.q _))))) | (go_at_call 64; with_reducible exact later_call (KE.out _ (ha.q (QW.trans (Later.q _))))))) | (refine wpQuiet_step (fun K hK => ?_); go_simp; split <;> (refine hK _ ?_; clear hK K))))
    all_goals (refine wpQuiet_nil ?_; rintro _ ⟨⟨w1, q1⟩, rfl⟩; try dsimp only)
    rename_i w1
    clear l1 l2
    replace C1 := C1.q q1
    replace C2 := C2.q q1
    replace C8 := C8.q q1
    have QX := QW.trans q1
    replace g0 := QX.cell g0
    replace gm := QX.cell gm
    have c1 := C1.cell
    have c2 := C2.cell
    have lt1 := C1.lt
    have lt2 := C2.lt
    have c8 := C8.cell
    have f8 := C8.frozen
    have l8 := C8.lt
    go_wp2_with (first | (have q20 := q2; go_at_call 65; refine (K2.out _ (ha.q ((QX.trans u2).trans (by (repeat (first | assumption | exact Q.refl _ | refine Q.alloc ?_ _ | refine Q.drewN ?_ _ | refine Q.drew ?_)))))).mono ?_; rintro e w3 ⟨rfl, q3⟩; have M3 := (M2.alloc _).q q3; have m3 := M3.cell; have m3l := M3.lt; have H2 := (G2.alloc _).q q3; have c3 := H2.cell; have h2l := H2.lt; have H8 := (G8.alloc _).q q3; have h8f := H8.frozen; have h8c := H8.cell; have h8l := H8.lt; have u3 : Q w2 w3 := Q.trans (by (repeat (first | assumption | exact Q.refl _ | refine Q.alloc ?_ _ | refine Q.drewN ?_ _ | refine Q.drew ?_))) q3; have gm3 := u3.cell gm2; have lbx3 := World.block_lt_of_cell? w3 _ gm3) | (go_at_call 65; refine (K1.out _ (ha.q (QX.trans (by (repeat (first | assumption | exact Q.refl _ | refine Q.alloc ?_ _ | refine Q.drewN ?_ _ | refine Q.drew ?_)))))).mono ?_; rintro e w2 ⟨rfl, q2⟩; have M2 := q2.boxB; have m2 := M2.cell; have ml2 := M2.lt; have G2 := (C2.alloc _).q q2; have c2 := G2.cell; have gl2 := G2.lt; have G1 := (C1.alloc _).q q2; have x2 := G1.cell; have gl1 := G1.lt; have G8 := (C8.alloc _).q q2; have f8 := G8.frozen; have c8 := G8.cell; have l8 := G8.lt; have u2 : Q w1 w2 := Q.trans (by (repeat (first | assumption | exact Q.refl _ | refine Q.alloc ?_ _ | refine Q.drewN ?_ _ | refine Q.drew ?_))) q2; have gm2 := u2.cell gm; have lbx2 := World.block_lt_of_cell? w2 _ gm2))
    have F := ((H8.set4 (.int .i64 3) (.int .i64 0) (.int .i64 0) (.bool false)).alloc (.cells #[.int .i64 0, .int .i64 0, .int .i64 0, .int .i64 0, .int .i64 0] 79)).cell
    rw [HP.out]
    refine bodyPost_ret (v := .agg #[(.int .i64 3), (.int .i64 0), (.int .i64 0), (.bool false)]) (by simp [results, Tryz.results27, go_sem, F]) rfl ⟨rfl, ?_⟩
    exact (((QX.trans u2).trans u3).set4 (show w.heap.size ≤ w.heap.size + 1 + 1 from Nat.le_add_right _ 2) (.int .i64 3) (.int .i64 0) (.int .i64 0) (.bool false)).alloc _
  rw [fcA_pos hV2, decide_eq_true (Int.not_lt.1 hV2)] at k2
  by_cases hlt : XM < t
  · have HP : Hid (P = (3, 0, 0, false)) := Lib.hid (hS.out.trans (stD_m (fun _ => ⟨h3, h2⟩) (fun e => hV1 e.2) (.inr hlt)))
    have KH := Lib.hid kh
    have KE := Lib.hid ke
    have K2 := Lib.hid k2
    have K1 := Lib.hid k1
    clear kh ke k1 k2 hS hFr
    go_enter Tryz.func27, Tryz.ntmps27
    go_wp2_with fail
    have l1 := later_cells C1.cell C1.lt
    have l2 := later_cells C2.cell C2.lt
    refine wp_region_later_lit (by kernel_rfl) (by kernel_rfl) ?_
    repeat (any_goals (first | go_big_quiet_step ((first | (go_at_call 63; with_reducible exact later_call (KH.out _ (ha.q (QW.trans (Later.q _))))) | (go_at_call 64; with_reducible exact later_call (KE.out _ (ha.q (QW.trans (Later.q _))))))) | quiet_step ((first | (go_at_call 63; with_reducible exact later_call (KH.out _ (ha.q (QW.trans (Later.q _))))) | (go_at_call 64; with_reducible exact later_call (KE.out _ (ha.q (QW.trans (Later.q _))))))) | (refine wpQuiet_step (fun K hK => ?_); go_simp; split <;> (refine hK _ ?_; clear hK K))))
    all_goals (refine wpQuiet_nil ?_; rintro _ ⟨⟨w1, q1⟩, rfl⟩; try dsimp only)
    rename_i w1
    clear l1 l2
    replace C1 := C1.q q1
    replace C2 := C2.q q1
    replace C8 := C8.q q1
    have QX := QW.trans q1
    replace g0 := QX.cell g0
    replace gm := QX.cell gm
    have c1 := C1.cell
    have c2 := C2.cell
    have lt1 := C1.lt
    have lt2 := C2.lt
    have c8 := C8.cell
    have f8 := C8.frozen
    have l8 := C8.lt
    generalize el L (V2.toNat * 5) = X at *
    generalize el L (V2.toNat * 5 + 1) = y1 at *
    generalize el L (V2.toNat * 5 + 2) = y2 at *
    generalize el L (V2.toNat * 5 + 3) = y3 at *
    generalize el L (V2.toNat * 5 + 4) = y4 at *
    go_wp2_with (first | (have q20 := q2; go_at_call 65; refine (K2.out _ (ha.q ((QX.trans u2).trans (by (repeat (first | assumption | exact Q.refl _ | refine Q.alloc ?_ _ | refine Q.drewN ?_ _ | refine Q.drew ?_)))))).mono ?_; rintro e w3 ⟨rfl, q3⟩; have M3 := (M2.alloc _).q q3; have m3 := M3.cell; have m3l := M3.lt; have H2 := (G2.alloc _).q q3; have c3 := H2.cell; have h2l := H2.lt; have H8 := (G8.alloc _).q q3; have h8f := H8.frozen; have h8c := H8.cell; have h8l := H8.lt; have u3 : Q w2 w3 := Q.trans (by (repeat (first | assumption | exact Q.refl _ | refine Q.alloc ?_ _ | refine Q.drewN ?_ _ | refine Q.drew ?_))) q3; have gm3 := u3.cell gm2; have lbx3 := World.block_lt_of_cell? w3 _ gm3) | (go_at_call 65; refine (K1.out _ (ha.q (QX.trans (by (repeat (first | assumption | exact Q.refl _ | refine Q.alloc ?_ _ | refine Q.drewN ?_ _ | refine Q.drew ?_)))))).mono ?_; rintro e w2 ⟨rfl, q2⟩; have M2 := q2.boxB; have m2 := M2.cell; have ml2 := M2.lt; have G2 := (C2.alloc _).q q2; have c2 := G2.cell; have gl2 := G2.lt; have G1 := (C1.alloc _).q q2; have x2 := G1.cell; have gl1 := G1.lt; have G8 := (C8.alloc _).q q2; have f8 := G8.frozen; have c8 := G8.cell; have l8 := G8.lt; have u2 : Q w1 w2 := Q.trans (by (repeat (first | assumption | exact Q.refl _ | refine Q.alloc ?_ _ | refine Q.drewN ?_ _ | refine Q.drew ?_))) q2; have gm2 := u2.cell gm; have lbx2 := World.block_lt_of_cell? w2 _ gm2))
    have F := ((H8.set4 (.int .i64 3) (.int .i64 0) (.int .i64 0) (.bool false)).alloc (.cells #[.int .i64 X, .int .i64 y1, .int .i64 y2, .int .i64 y3, .int .i64 y4] 79)).cell
    rw [HP.out]
    refine bodyPost_ret (v := .agg #[(.int .i64 3), (.int .i64 0), (.int .i64 0), (.bool false)]) (by simp [results, Tryz.results27, go_sem, F]) rfl ⟨rfl, ?_⟩
    exact (((QX.trans u2).trans u3).set4 (show w.heap.size ≤ w.heap.size + 1 + 1 from Nat.le_add_right _ 2) (.int .i64 3) (.int .i64 0) (.int .i64 0) (.bool false)).alloc _
  have HP : Hid (P = (0, FR, el L (V2.toNat * 5), (fl == 1))) := Lib.hid (hS.out.trans (stD_y (fun _ => ⟨h3, h2⟩) (fun e => hV1 e.2) (fun e => e.elim hV2 hlt)))
  have KH := Lib.hid kh
  have KE := Lib.hid ke
  have K2 := Lib.hid k2
  have K1 := Lib.hid k1
  clear kh ke k1 k2 hS hFr
  go_enter Tryz.func27, Tryz.ntmps27
  go_wp2_with fail
  have l1 := later_cells C1.cell C1.lt
  have l2 := later_cells C2.cell C2.lt
  refine wp_region_later_lit (by kernel_rfl) (by kernel_rfl) ?_
  repeat (any_goals (first | go_big_quiet_step ((first | (go_at_call 63; with_reducible exact later_call (KH.out _ (ha.q (QW.trans (Later.q _))))) | (go_at_call 64; with_reducible exact later_call (KE.out _ (ha.q (QW.trans (Later.q _))))))) | quiet_step ((first | (go_at_call 63; with_reducible exact later_call (KH.out _ (ha.q (QW.trans (Later.q _))))) | (go_at_call 64; with_reducible exact later_call (KE.out _ (ha.q (QW.trans (Later.q _))))))) | (refine wpQuiet_step (fun K hK => ?_); go_simp; split <;> (refine hK _ ?_; clear hK K))))
  all_goals (refine wpQuiet_nil ?_; rintro _ ⟨⟨w1, q1⟩, rfl⟩; try dsimp only)
  rename_i w1
  clear l1 l2
  replace C1 := C1.q q1
  replace C2 := C2.q q1
  replace C8 := C8.q q1
  have QX := QW.trans q1
  replace g0 := QX.cell g0
  replace gm := QX.cell gm
  have c1 := C1.cell
  have c2 := C2.cell
  have lt1 := C1.lt
  have lt2 := C2.lt
  have c8 := C8.cell
  have f8 := C8.frozen
  have l8 := C8.lt
  generalize el L (V2.toNat * 5) = X at *
  generalize el L (V2.toNat * 5 + 1) = y1 at *
  generalize el L (V2.toNat * 5 + 2) = y2 at *
  generalize el L (V2.toNat * 5 + 3) = y3 at *
  generalize el L (V2.toNat * 5 + 4) = y4 at *
  go_wp2_with (first | (have q20 := q2; go_at_call 65; refine (K2.out _ (ha.q ((QX.trans u2).trans (by (repeat (first | assumption | exact Q.refl _ | refine Q.alloc ?_ _ | refine Q.drewN ?_ _ | refine Q.drew ?_)))))).mono ?_; rintro e w3 ⟨rfl, q3⟩; have M3 := (M2.alloc _).q q3; have m3 := M3.cell; have m3l := M3.lt; have H2 := (G2.alloc _).q q3; have c3 := H2.cell; have h2l := H2.lt; have H8 := (G8.alloc _).q q3; have h8f := H8.frozen; have h8c := H8.cell; have h8l := H8.lt; have u3 : Q w2 w3 := Q.trans (by (repeat (first | assumption | exact Q.refl _ | refine Q.alloc ?_ _ | refine Q.drewN ?_ _ | refine Q.drew ?_))) q3; have gm3 := u3.cell gm2; have lbx3 := World.block_lt_of_cell? w3 _ gm3) | (go_at_call 65; refine (K1.out _ (ha.q (QX.trans (by (repeat (first | assumption | exact Q.refl _ | refine Q.alloc ?_ _ | refine Q.drewN ?_ _ | refine Q.drew ?_)))))).mono ?_; rintro e w2 ⟨rfl, q2⟩; have M2 := q2.boxB; have m2 := M2.cell; have ml2 := M2.lt; have G2 := (C2.alloc _).q q2; have c2 := G2.cell; have gl2 := G2.lt; have G1 := (C1.alloc _).q q2; have x2 := G1.cell; have gl1 := G1.lt; have G8 := (C8.alloc _).q q2; have f8 := G8.frozen; have c8 := G8.cell; have l8 := G8.lt; have u2 : Q w1 w2 := Q.trans (by (repeat (first | assumption | exact Q.refl _ | refine Q.alloc ?_ _ | refine Q.drewN ?_ _ | refine Q.drew ?_))) q2; have gm2 := u2.cell gm; have lbx2 := World.block_lt_of_cell? w2 _ gm2))
  have F := ((H8.set4 (.int .i64 0) (.int .i64 FR) (.int .i64 X) (.bool (fl == 1))).alloc (.cells #[.int .i64 X, .int .i64 y1, .int .i64 y2, .int .i64 y3, .int .i64 y4] 79)).cell
  rw [HP.out]
  refine bodyPost_ret (v := .agg #[(.int .i64 0), (.int .i64 FR), (.int .i64 X), (.bool (fl == 1))]) (by simp [results, Tryz.results27, go_sem, F]) rfl ⟨rfl, ?_⟩
  exact (((QX.trans u2).trans u3).set4 (show w.heap.size ≤ w.heap.size + 1 + 1 from Nat.le_add_right _ 2) (.int .i64 0) (.int .i64 FR) (.int .i64 X) (.bool (fl == 1))).alloc _
end Go.Proofs.YteofhfefbphjdaaGreatDoor
