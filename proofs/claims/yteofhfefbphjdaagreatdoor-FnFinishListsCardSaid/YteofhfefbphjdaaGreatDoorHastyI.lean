/- Walks: whether a track is hasty, as the program finds it. Walks: the program's IsHasty, for all arguments. -/
import Derived.Test.YteofhfefbphjdaaGreatDoorFcI
import Derived.Test.YteofhfefbphjdaaGreatDoorEarly
namespace Go.Proofs.YteofhfefbphjdaaGreatDoor
open Go.RowKit Go.WideShapes Go.ChangeShapes
def fixH (a b c d : Int) (xs : List Int) (fr t : Int) (i : Nat) : Bool := inR (el xs (i * 3)) fr t && (sgn (crossV a b c d (el xs (i * 3 + 1)) (el xs (i * 3 + 2))) == 1)
def fixHs (a b c d : Int) (xs : List Int) (fr t : Int) (k : Nat) : Bool := (List.range k).any (fixH a b c d xs fr t)
theorem fixHs_succ (a b c d : Int) (xs : List Int) (fr t : Int) (k : Nat) : fixHs a b c d xs fr t (k + 1) = (fixHs a b c d xs fr t k || fixH a b c d xs fr t k) := by simp [fixHs, List.range_succ]
theorem fixHs_yes {a b c d : Int} {xs : List Int} {fr t : Int} {k n : Nat} (hk : k < n) (h : fixH a b c d xs fr t k = true) : fixHs a b c d xs fr t n = true := by
  unfold fixHs
  rw [List.any_eq_true]
  exact ⟨k, by simpa using hk, h⟩
def fstH (xs : List Int) (t : Int) : Int := max (t - 60000) (el xs 0)
def crsH (a b c d : Int) (xs : List Int) (n : Nat) (t : Int) : Bool := decide (0 ≤ fcV a b c d xs n 1 (t - 60000)) && decide (el (crL a b c d xs (n - 1)) ((fcV a b c d xs n 1 (t - 60000)).toNat * 5) ≤ t)
def hsI (a b c d : Int) (xs : List Int) (n : Nat) (t : Int) : Bool := (sideV a b c d xs n t == 1) || (decide (fstH xs t ≤ t) && (sideV a b c d xs n (fstH xs t) == 1)) || fixHs a b c d xs (t - 60000) t n || crsH a b c d xs n t
theorem trk_pt {xs : List Int} {n k : Nat} (hT : isTrk xs n = true) (hk : k < n) : ptB (el xs (k * 3 + 1)) (el xs (k * 3 + 2)) = true := by
  unfold isTrk at hT
  rw [Bool.and_eq_true, decide_eq_true_eq] at hT
  exact (fixAt_yes (fixTo_at hT.2 hk)).2.1
set_option maxHeartbeats 8000000 in
theorem impl_isHasty (a b c d : Int) (A : Option Addr) (n cc : Nat) (xs : List Int) (t : Int) (w : World) (ha : Rd w A xs) (hn : xs.length = n * 3) (hT : isTrk xs n = true) (hl : lnB a b c d = true) (ht : 0 ≤ t ∧ t ≤ 1000000000) :
    Calls Tryz.prog 63 #[.agg #[.int .i64 a, .int .i64 b, .int .i64 c, .int .i64 d], .agg #[.slice A n cc], .int .i64 t] w fun e w' => e = .returned (.bool (hsI a b c d xs n t)) ∧ Q w w' := by
  obtain ⟨hp, hq⟩ := lnB_pts hl
  have hn24 : 2 ≤ n ∧ n ≤ 40 := by unfold isTrk at hT; rw [Bool.and_eq_true, decide_eq_true_eq] at hT; exact hT.1
  have K1 := Lib.hid (fun wv (h : Rd wv A xs) => impl_isEarly a b c d A n cc xs t wv hp hq h hn hT)
  have K2 := Lib.hid (fun wv (h : Rd wv A xs) => impl_isEarly a b c d A n cc xs (fstH xs t) wv hp hq h hn hT)
  have K3 := Lib.hid (fun wv (h : Rd wv A xs) => impl_firstCrossing A n cc xs a b c d 1 (t - 60000) wv h hn hT hl)
  have HH : Hid (hsI a b c d xs n t = ((sideV a b c d xs n t == 1) || (decide (fstH xs t ≤ t) && (sideV a b c d xs n (fstH xs t) == 1)) || fixHs a b c d xs (t - 60000) t n || crsH a b c d xs n t)) := Lib.hid rfl
  have HC : Hid (crsH a b c d xs n t = (decide (0 ≤ fcV a b c d xs n 1 (t - 60000)) && decide (el (crL a b c d xs (n - 1)) ((fcV a b c d xs n 1 (t - 60000)).toNat * 5) ≤ t))) := Lib.hid rfl
  have e1 : max (t - 60000) (el xs 0) = fstH xs t := rfl
  have HN := Lib.hid hn
  have HT := Lib.hid hT
  generalize (sideV a b c d xs n t == 1) = S1 at *
  generalize (sideV a b c d xs n (fstH xs t) == 1) = S2 at *
  generalize fstH xs t = F at *
  generalize fcV a b c d xs n 1 (t - 60000) = V at *
  generalize hsI a b c d xs n t = H at *
  generalize crsH a b c d xs n t = CB at *
  generalize crL a b c d xs (n - 1) = L at *
  obtain ⟨bl, o, rfl, g0, _, _⟩ := ha.at3 hn (show 0 < n by omega)
  simp only [Nat.zero_mul, Nat.add_zero] at g0
  have hn0 : (0 : Int) < (n : Int) := by omega
  obtain ⟨W, hW⟩ : ∃ W, W = (w.alloc (.cells #[.int .i64 a, .int .i64 b, .int .i64 c, .int .i64 d] 27)).alloc (.cells #[.slice (some ⟨bl, o, none⟩) n cc] 43) := ⟨_, rfl⟩
  have C1 : Blk W w.heap.size 27 #[.int .i64 a, .int .i64 b, .int .i64 c, .int .i64 d] := by rw [hW]; exact (Blk.new _ _ _).alloc _
  have C2 : Blk W (w.heap.size + 1) 43 #[.slice (some ⟨bl, o, none⟩) n cc] := by rw [hW]; exact (by simpa using Blk.new (w.alloc (.cells #[.int .i64 a, .int .i64 b, .int .i64 c, .int .i64 d] 27)) 43 #[.slice (some ⟨bl, o, none⟩) n cc])
  have QW : Q w W := by rw [hW]; exact ((Q.refl w).alloc _).alloc _
  clear hn hT hl
  have lb := World.block_lt_of_cell? w _ g0
  have gW := QW.cell g0
  subst hW
  cases S1
  · by_cases hF : F ≤ t
    · cases S2
      · have HG := Lib.hid (show H = (fixHs a b c d xs (t - 60000) t n || CB) by rw [HH.out]; simp)
        go_enter Tryz.func63, Tryz.ntmps63
        go_wp2_with (first | (have q10 := q1; go_at_call 64; refine (K2.out _ (ha.q (QW.trans q10))).mono ?_; rintro e w2 ⟨rfl, q2⟩; have c4 := (C2.q (q10.trans q2)).cell) | (go_at_call 64; refine (K1.out _ (ha.q QW)).mono ?_; rintro e w1 ⟨rfl, q1⟩; have c3 := (C1.q q1).cell; have c4 := (C2.q q1).cell))
        have QS := q1.trans q2
        clear c3 c4 gW
        replace C1 := C1.q QS
        replace C2 := C2.q QS
        replace QW := QW.trans QS
        clear QS
        have c2 := C2.cell
        go_loopw [40] (fun i wr => ∃ k : Nat, k ≤ n ∧ i = .int .i64 k ∧ Hid (fixHs a b c d xs (t - 60000) t k = false) ∧ Q w2 wr) (fun i _ => n - (intOf i).toNat)
        case atStart => exact ⟨0, Nat.zero_le _, rfl, Lib.hid rfl, by (repeat (first | assumption | exact Q.refl _ | refine Q.alloc ?_ _ | refine Q.drewN ?_ _ | refine Q.drew ?_))⟩
        case round =>
          clear c2
          obtain ⟨k, hk, rfl, HF, hqr⟩ := hrel
          have hqw := QW.trans hqr
          have D1 := C1.q hqr
          have D2 := C2.q hqr
          by_cases hlt : k < n
          · have hkI : (k : Int) < (n : Int) := by omega
            obtain ⟨_, _, hA, g0, g1, g2⟩ := (ha.q hqw).at3 HN.out hlt
            cases hA
            have hpk := pt_of (trk_pt HT.out hlt)
            have HX : Hid (fixH a b c d xs (t - 60000) t k = (inR (el xs (k * 3)) (t - 60000) t && (sgn (crossV a b c d (el xs (k * 3 + 1)) (el xs (k * 3 + 2))) == 1))) := Lib.hid rfl
            have k5 := fun wv => impl_inR (el xs (k * 3)) (t - 60000) t wv
            have k6 := fun wv => impl_pointOf (el xs (k * 3)) (el xs (k * 3 + 1)) (el xs (k * 3 + 2)) wv
            have k7 := fun wv => impl_sideOf a b c d (el xs (k * 3 + 1)) (el xs (k * 3 + 2)) wv hp hq hpk
            obtain ⟨IB, hIB⟩ : ∃ B, B = inR (el xs (k * 3)) (t - 60000) t := ⟨_, rfl⟩
            obtain ⟨SS, hSS⟩ : ∃ B, B = sgn (crossV a b c d (el xs (k * 3 + 1)) (el xs (k * 3 + 2))) := ⟨_, rfl⟩
            rw [← hIB] at k5 HX
            rw [← hSS] at k7 HX
            have K5 := Lib.hid k5
            have K6 := Lib.hid k6
            have K7 := Lib.hid k7
            have BF := Blk.new wr 98 #[.int .i64 (el xs (k * 3)), .int .i64 (el xs (k * 3 + 1)), .int .i64 (el xs (k * 3 + 2))]
            have l1 := later_cells BF.cell BF.lt
            have E1 := D1.alloc (.cells #[.int .i64 (el xs (k * 3)), .int .i64 (el xs (k * 3 + 1)), .int .i64 (el xs (k * 3 + 2))] 98)
            have l2 := later_cells E1.cell E1.lt
            clear hIB hSS k5 k6 k7 hpk
            cases IB
            · have HM := Lib.hid (show fixHs a b c d xs (t - 60000) t (k + 1) = false by rw [fixHs_succ, HF.out, HX.out]; rfl)
              clear HX
              go_wp2_with fail
              refine wp_region_later_lit (by kernel_rfl) (by kernel_rfl) ?_
              repeat (any_goals (first | go_big_quiet_step ((first | (go_at_call 29; exact later_same (K5.out _)) | (go_at_call 95; exact later_call (K6.out _)) | (go_at_call 94; exact later_call (K7.out _)))) | quiet_step ((first | (go_at_call 29; exact later_same (K5.out _)) | (go_at_call 95; exact later_call (K6.out _)) | (go_at_call 94; exact later_call (K7.out _)))) | (refine wpQuiet_step (fun K hK => ?_); go_simp; split <;> (refine hK _ ?_; clear hK K))))
              all_goals (refine wpQuiet_nil ?_; rintro _ ⟨⟨w8, q8⟩, rfl⟩; try dsimp only)
              all_goals go_wp2_with fail
              go_roundw
              case rel => exact ⟨k + 1, by omega, by go_num, HM, hqr.trans (Q.trans (by (repeat (first | assumption | exact Q.refl _ | refine Q.alloc ?_ _ | refine Q.drewN ?_ _ | refine Q.drew ?_))) q8)⟩
              case measure => simp [intOf]; omega
            · by_cases h1 : SS = 1
              · have h1b : (SS == 1) = true := by simpa using h1
                have HM := Lib.hid (show fixHs a b c d xs (t - 60000) t n = true from fixHs_yes hlt (by rw [HX.out, h1b]; rfl))
                clear HX h1
                go_wp2_with fail
                refine wp_region_later_lit (by kernel_rfl) (by kernel_rfl) ?_
                repeat (any_goals (first | go_big_quiet_step ((first | (go_at_call 29; exact later_same (K5.out _)) | (go_at_call 95; exact later_call (K6.out _)) | (go_at_call 94; exact later_call (K7.out _)))) | quiet_step ((first | (go_at_call 29; exact later_same (K5.out _)) | (go_at_call 95; exact later_call (K6.out _)) | (go_at_call 94; exact later_call (K7.out _)))) | (refine wpQuiet_step (fun K hK => ?_); go_simp; split <;> (refine hK _ ?_; clear hK K))))
                all_goals (refine wpQuiet_nil ?_; rintro _ ⟨⟨w8, q8⟩, rfl⟩; try dsimp only)
                all_goals go_wp2_with fail
                go_ret
                exact ⟨ret_bool (by rw [HG.out, HM.out]; simp), hqw.trans (Q.trans (by (repeat (first | assumption | exact Q.refl _ | refine Q.alloc ?_ _ | refine Q.drewN ?_ _ | refine Q.drew ?_))) q8)⟩
              · have h1b : (SS == 1) = false := by simpa using h1
                have HM := Lib.hid (show fixHs a b c d xs (t - 60000) t (k + 1) = false by rw [fixHs_succ, HF.out, HX.out, h1b]; rfl)
                clear HX h1
                go_wp2_with fail
                refine wp_region_later_lit (by kernel_rfl) (by kernel_rfl) ?_
                repeat (any_goals (first | go_big_quiet_step ((first | (go_at_call 29; exact later_same (K5.out _)) | (go_at_call 95; exact later_call (K6.out _)) | (go_at_call 94; exact later_call (K7.out _)))) | quiet_step ((first | (go_at_call 29; exact later_same (K5.out _)) | (go_at_call 95; exact later_call (K6.out _)) | (go_at_call 94; exact later_call (K7.out _)))) | (refine wpQuiet_step (fun K hK => ?_); go_simp; split <;> (refine hK _ ?_; clear hK K))))
                all_goals (refine wpQuiet_nil ?_; rintro _ ⟨⟨w8, q8⟩, rfl⟩; try dsimp only)
                all_goals go_wp2_with fail
                go_roundw
                case rel => exact ⟨k + 1, by omega, by go_num, HM, hqr.trans (Q.trans (by (repeat (first | assumption | exact Q.refl _ | refine Q.alloc ?_ _ | refine Q.drewN ?_ _ | refine Q.drew ?_))) q8)⟩
                case measure => simp [intOf]; omega
          · obtain rfl : k = n := by omega
            have d1 := D1.cell
            have d2 := D2.cell
            by_cases hV : 0 ≤ V
            · obtain ⟨j, hj⟩ := Int.eq_ofNat_of_zero_le hV
              have HA : Hid (fcA L V = .agg #[.int .i64 (el L (j * 5)), .int .i64 (el L (j * 5 + 1)), .int .i64 (el L (j * 5 + 2)), .int .i64 (el L (j * 5 + 3)), .int .i64 (el L (j * 5 + 4))] ∧ V.toNat = j) := Lib.hid (by rw [hj]; unfold fcA; rw [if_neg (by omega)]; simp)
              have K8 := K3.out
              rw [HA.out.1, decide_eq_true hV] at K8
              have K8 := Lib.hid K8
              have HD := Lib.hid (show CB = decide (el L (j * 5) ≤ t) by rw [HC.out, HA.out.2, decide_eq_true hV]; rfl)
              by_cases hle : el L (j * 5) ≤ t
              · have HD2 := Lib.hid (show CB = true by rw [HD.out, decide_eq_true hle])
                go_wp2_with (go_at_call 65; refine (K8.out _ (ha.q hqw)).mono ?_; rintro e w9 ⟨rfl, q9⟩)
                go_ret
                exact ⟨ret_bool (by rw [HG.out, HD2.out]; simp), hqw.trans (Q.trans q9 (by (repeat (first | assumption | exact Q.refl _ | refine Q.alloc ?_ _ | refine Q.drewN ?_ _ | refine Q.drew ?_))))⟩
              · have HD2 := Lib.hid (show CB = false by rw [HD.out, decide_eq_false hle])
                go_wp2_with (go_at_call 65; refine (K8.out _ (ha.q hqw)).mono ?_; rintro e w9 ⟨rfl, q9⟩)
                go_ret
                exact ⟨ret_bool (by rw [HG.out, HD2.out, HF.out]; first | (simp; done) | (simp; omega)), hqw.trans (Q.trans q9 (by (repeat (first | assumption | exact Q.refl _ | refine Q.alloc ?_ _ | refine Q.drewN ?_ _ | refine Q.drew ?_))))⟩
            · have HA : Hid (fcA L V = .agg #[.int .i64 0, .int .i64 0, .int .i64 0, .int .i64 0, .int .i64 0]) := Lib.hid (by unfold fcA; rw [if_pos (by omega)])
              have K8 := K3.out
              rw [HA.out, decide_eq_false hV] at K8
              have K8 := Lib.hid K8
              have HD := Lib.hid (show CB = false by rw [HC.out, decide_eq_false hV]; rfl)
              go_wp2_with (go_at_call 65; refine (K8.out _ (ha.q hqw)).mono ?_; rintro e w9 ⟨rfl, q9⟩)
              go_ret
              exact ⟨ret_bool (by rw [HG.out, HD.out, HF.out]; simp), hqw.trans (Q.trans q9 (by (repeat (first | assumption | exact Q.refl _ | refine Q.alloc ?_ _ | refine Q.drewN ?_ _ | refine Q.drew ?_))))⟩
      · go_enter Tryz.func63, Tryz.ntmps63
        go_wp2_with (first | (have q10 := q1; go_at_call 64; refine (K2.out _ (ha.q (QW.trans q10))).mono ?_; rintro e w2 ⟨rfl, q2⟩) | (go_at_call 64; refine (K1.out _ (ha.q QW)).mono ?_; rintro e w1 ⟨rfl, q1⟩; have c3 := (C1.q q1).cell; have c4 := (C2.q q1).cell))
        go_ret
        exact ⟨ret_bool (by rw [HH.out]; simp [hF]), (QW.trans q1).trans q2⟩
    · have HG := Lib.hid (show H = (fixHs a b c d xs (t - 60000) t n || CB) by rw [HH.out, decide_eq_false hF]; simp)
      go_enter Tryz.func63, Tryz.ntmps63
      go_wp2_with (go_at_call 64; refine (K1.out _ (ha.q QW)).mono ?_; rintro e w1 ⟨rfl, q1⟩; have c3 := (C1.q q1).cell; have c4 := (C2.q q1).cell)
      have QS := q1
      clear c3 c4 gW
      replace C1 := C1.q QS
      replace C2 := C2.q QS
      replace QW := QW.trans QS
      clear QS
      have c2 := C2.cell
      go_loopw [40] (fun i wr => ∃ k : Nat, k ≤ n ∧ i = .int .i64 k ∧ Hid (fixHs a b c d xs (t - 60000) t k = false) ∧ Q w1 wr) (fun i _ => n - (intOf i).toNat)
      case atStart => exact ⟨0, Nat.zero_le _, rfl, Lib.hid rfl, by (repeat (first | assumption | exact Q.refl _ | refine Q.alloc ?_ _ | refine Q.drewN ?_ _ | refine Q.drew ?_))⟩
      case round =>
        clear c2
        obtain ⟨k, hk, rfl, HF, hqr⟩ := hrel
        have hqw := QW.trans hqr
        have D1 := C1.q hqr
        have D2 := C2.q hqr
        by_cases hlt : k < n
        · have hkI : (k : Int) < (n : Int) := by omega
          obtain ⟨_, _, hA, g0, g1, g2⟩ := (ha.q hqw).at3 HN.out hlt
          cases hA
          have hpk := pt_of (trk_pt HT.out hlt)
          have HX : Hid (fixH a b c d xs (t - 60000) t k = (inR (el xs (k * 3)) (t - 60000) t && (sgn (crossV a b c d (el xs (k * 3 + 1)) (el xs (k * 3 + 2))) == 1))) := Lib.hid rfl
          have k5 := fun wv => impl_inR (el xs (k * 3)) (t - 60000) t wv
          have k6 := fun wv => impl_pointOf (el xs (k * 3)) (el xs (k * 3 + 1)) (el xs (k * 3 + 2)) wv
          have k7 := fun wv => impl_sideOf a b c d (el xs (k * 3 + 1)) (el xs (k * 3 + 2)) wv hp hq hpk
          obtain ⟨IB, hIB⟩ : ∃ B, B = inR (el xs (k * 3)) (t - 60000) t := ⟨_, rfl⟩
          obtain ⟨SS, hSS⟩ : ∃ B, B = sgn (crossV a b c d (el xs (k * 3 + 1)) (el xs (k * 3 + 2))) := ⟨_, rfl⟩
          rw [← hIB] at k5 HX
          rw [← hSS] at k7 HX
          have K5 := Lib.hid k5
          have K6 := Lib.hid k6
          have K7 := Lib.hid k7
          have BF := Blk.new wr 98 #[.int .i64 (el xs (k * 3)), .int .i64 (el xs (k * 3 + 1)), .int .i64 (el xs (k * 3 + 2))]
          have l1 := later_cells BF.cell BF.lt
          have E1 := D1.alloc (.cells #[.int .i64 (el xs (k * 3)), .int .i64 (el xs (k * 3 + 1)), .int .i64 (el xs (k * 3 + 2))] 98)
          have l2 := later_cells E1.cell E1.lt
          clear hIB hSS k5 k6 k7 hpk
          cases IB
          · have HM := Lib.hid (show fixHs a b c d xs (t - 60000) t (k + 1) = false by rw [fixHs_succ, HF.out, HX.out]; rfl)
            clear HX
            go_wp2_with fail
            refine wp_region_later_lit (by kernel_rfl) (by kernel_rfl) ?_
            repeat (any_goals (first | go_big_quiet_step ((first | (go_at_call 29; exact later_same (K5.out _)) | (go_at_call 95; exact later_call (K6.out _)) | (go_at_call 94; exact later_call (K7.out _)))) | quiet_step ((first | (go_at_call 29; exact later_same (K5.out _)) | (go_at_call 95; exact later_call (K6.out _)) | (go_at_call 94; exact later_call (K7.out _)))) | (refine wpQuiet_step (fun K hK => ?_); go_simp; split <;> (refine hK _ ?_; clear hK K))))
            all_goals (refine wpQuiet_nil ?_; rintro _ ⟨⟨w8, q8⟩, rfl⟩; try dsimp only)
            all_goals go_wp2_with fail
            go_roundw
            case rel => exact ⟨k + 1, by omega, by go_num, HM, hqr.trans (Q.trans (by (repeat (first | assumption | exact Q.refl _ | refine Q.alloc ?_ _ | refine Q.drewN ?_ _ | refine Q.drew ?_))) q8)⟩
            case measure => simp [intOf]; omega
          · by_cases h1 : SS = 1
            · have h1b : (SS == 1) = true := by simpa using h1
              have HM := Lib.hid (show fixHs a b c d xs (t - 60000) t n = true from fixHs_yes hlt (by rw [HX.out, h1b]; rfl))
              clear HX h1
              go_wp2_with fail
              refine wp_region_later_lit (by kernel_rfl) (by kernel_rfl) ?_
              repeat (any_goals (first | go_big_quiet_step ((first | (go_at_call 29; exact later_same (K5.out _)) | (go_at_call 95; exact later_call (K6.out _)) | (go_at_call 94; exact later_call (K7.out _)))) | quiet_step ((first | (go_at_call 29; exact later_same (K5.out _)) | (go_at_call 95; exact later_call (K6.out _)) | (go_at_call 94; exact later_call (K7.out _)))) | (refine wpQuiet_step (fun K hK => ?_); go_simp; split <;> (refine hK _ ?_; clear hK K))))
              all_goals (refine wpQuiet_nil ?_; rintro _ ⟨⟨w8, q8⟩, rfl⟩; try dsimp only)
              all_goals go_wp2_with fail
              go_ret
              exact ⟨ret_bool (by rw [HG.out, HM.out]; simp), hqw.trans (Q.trans (by (repeat (first | assumption | exact Q.refl _ | refine Q.alloc ?_ _ | refine Q.drewN ?_ _ | refine Q.drew ?_))) q8)⟩
            · have h1b : (SS == 1) = false := by simpa using h1
              have HM := Lib.hid (show fixHs a b c d xs (t - 60000) t (k + 1) = false by rw [fixHs_succ, HF.out, HX.out, h1b]; rfl)
              clear HX h1
              go_wp2_with fail
              refine wp_region_later_lit (by kernel_rfl) (by kernel_rfl) ?_
              repeat (any_goals (first | go_big_quiet_step ((first | (go_at_call 29; exact later_same (K5.out _)) | (go_at_call 95; exact later_call (K6.out _)) | (go_at_call 94; exact later_call (K7.out _)))) | quiet_step ((first | (go_at_call 29; exact later_same (K5.out _)) | (go_at_call 95; exact later_call (K6.out _)) | (go_at_call 94; exact later_call (K7.out _)))) | (refine wpQuiet_step (fun K hK => ?_); go_simp; split <;> (refine hK _ ?_; clear hK K))))
              all_goals (refine wpQuiet_nil ?_; rintro _ ⟨⟨w8, q8⟩, rfl⟩; try dsimp only)
              all_goals go_wp2_with fail
              go_roundw
              case rel => exact ⟨k + 1, by omega, by go_num, HM, hqr.trans (Q.trans (by (repeat (first | assumption | exact Q.refl _ | refine Q.alloc ?_ _ | refine Q.drewN ?_ _ | refine Q.drew ?_))) q8)⟩
              case measure => simp [intOf]; omega
        · obtain rfl : k = n := by omega
          have d1 := D1.cell
          have d2 := D2.cell
          by_cases hV : 0 ≤ V
          · obtain ⟨j, hj⟩ := Int.eq_ofNat_of_zero_le hV
            have HA : Hid (fcA L V = .agg #[.int .i64 (el L (j * 5)), .int .i64 (el L (j * 5 + 1)), .int .i64 (el L (j * 5 + 2)), .int .i64 (el L (j * 5 + 3)), .int .i64 (el L (j * 5 + 4))] ∧ V.toNat = j) := Lib.hid (by rw [hj]; unfold fcA; rw [if_neg (by omega)]; simp)
            have K8 := K3.out
            rw [HA.out.1, decide_eq_true hV] at K8
            have K8 := Lib.hid K8
            have HD := Lib.hid (show CB = decide (el L (j * 5) ≤ t) by rw [HC.out, HA.out.2, decide_eq_true hV]; rfl)
            by_cases hle : el L (j * 5) ≤ t
            · have HD2 := Lib.hid (show CB = true by rw [HD.out, decide_eq_true hle])
              go_wp2_with (go_at_call 65; refine (K8.out _ (ha.q hqw)).mono ?_; rintro e w9 ⟨rfl, q9⟩)
              go_ret
              exact ⟨ret_bool (by rw [HG.out, HD2.out]; simp), hqw.trans (Q.trans q9 (by (repeat (first | assumption | exact Q.refl _ | refine Q.alloc ?_ _ | refine Q.drewN ?_ _ | refine Q.drew ?_))))⟩
            · have HD2 := Lib.hid (show CB = false by rw [HD.out, decide_eq_false hle])
              go_wp2_with (go_at_call 65; refine (K8.out _ (ha.q hqw)).mono ?_; rintro e w9 ⟨rfl, q9⟩)
              go_ret
              exact ⟨ret_bool (by rw [HG.out, HD2.out, HF.out]; first | (simp; done) | (simp; omega)), hqw.trans (Q.trans q9 (by (repeat (first | assumption | exact Q.refl _ | refine Q.alloc ?_ _ | refine Q.drewN ?_ _ | refine Q.drew ?_))))⟩
          · have HA : Hid (fcA L V = .agg #[.int .i64 0, .int .i64 0, .int .i64 0, .int .i64 0, .int .i64 0]) := Lib.hid (by unfold fcA; rw [if_pos (by omega)])
            have K8 := K3.out
            rw [HA.out, decide_eq_false hV] at K8
            have K8 := Lib.hid K8
            have HD := Lib.hid (show CB = false by rw [HC.out, decide_eq_false hV]; rfl)
            go_wp2_with (go_at_call 65; refine (K8.out _ (ha.q hqw)).mono ?_; rintro e w9 ⟨rfl, q9⟩)
            go_ret
            exact ⟨ret_bool (by rw [HG.out, HD.out, HF.out]; simp), hqw.trans (Q.trans q9 (by (repeat (first | assumption | exact Q.refl _ | refine Q.alloc ?_ _ | refine Q.drewN ?_ _ | refine Q.drew ?_))))⟩
  · go_enter Tryz.func63, Tryz.ntmps63
    go_wp2_with (go_at_call 64; refine (K1.out _ (ha.q QW)).mono ?_; rintro e w1 ⟨rfl, q1⟩)
    go_ret
    exact ⟨ret_bool (by rw [HH.out]; simp), QW.trans q1⟩
end Go.Proofs.YteofhfefbphjdaaGreatDoor
namespace Go.Proofs.YteofhfefbphjdaaGreatDoor
open Go.RowKit Go.WideShapes Go.ChangeShapes
def hasB (a b c d : Int) (xs : List Int) (n : Nat) (t : Int) : Bool := decide (stC a b c d xs n t = 0) && hsI a b c d xs n t
theorem stC_00 {a b c d : Int} {xs : List Int} {n : Nat} {t : Int} (h : stC a b c d xs n t = 0) : lnB a b c d = true ∧ isTrk xs n = true ∧ 0 ≤ t ∧ t ≤ 1000000000 := by
  have h1 := stC_0 h
  refine ⟨h1.1, h1.2, ?_⟩
  unfold stC at h
  rw [if_pos h1] at h
  split at h
  · rename_i h2
    exact h2
  · cases h
end Go.Proofs.YteofhfefbphjdaaGreatDoor
