/- Walks: whether a track is hasty, as the reference finds it. -/
import Derived.Test.YteofhfefbphjdaaGreatDoorCrsS
import Derived.Test.YteofhfefbphjdaaGreatDoorStV
import Derived.Test.YteofhfefbphjdaaGreatDoorEarly
namespace Go.Proofs.YteofhfefbphjdaaGreatDoor
open Go.RowKit Go.WideShapes Go.ChangeShapes
def crsSi (L : List Int) (t : Int) (j : Nat) : Bool := (el L (j * 5 + 2) == 1) && inR (el L (j * 5)) (t - 60000) t
def crsSk (L : List Int) (t : Int) (k : Nat) : Bool := (List.range k).any (crsSi L t)
theorem crsSk_succ (L : List Int) (t : Int) (k : Nat) : crsSk L t (k + 1) = (crsSk L t k || crsSi L t k) := by simp [crsSk, List.range_succ]
theorem crsSk_yes {L : List Int} {t : Int} {k m : Nat} (hk : k < m) (h : crsSi L t k = true) : crsSk L t m = true := by
  unfold crsSk
  rw [List.any_eq_true]
  exact ⟨k, by simpa using hk, h⟩
def fixSi (a b c d : Int) (xs : List Int) (n : Nat) (t : Int) (i : Nat) : Bool := inR (el xs (i * 3)) (t - 60000) t && (sideV a b c d xs n (el xs (i * 3)) == 1)
theorem fixS_succ (a b c d : Int) (xs : List Int) (n : Nat) (t : Int) (k : Nat) : fixS a b c d xs n t (k + 1) = (fixS a b c d xs n t k || fixSi a b c d xs n t k) := by simp [fixS, fixSi, List.range_succ]
theorem fixS_yes {a b c d : Int} {xs : List Int} {n : Nat} {t : Int} {k m : Nat} (hk : k < m) (h : fixSi a b c d xs n t k = true) : fixS a b c d xs n t m = true := by
  unfold fixS
  rw [List.any_eq_true]
  exact ⟨k, by simpa using hk, h⟩
set_option maxRecDepth 100000 in
set_option maxHeartbeats 8000000 in
theorem spec_Hasty (a b c d : Int) (A : Option Addr) (n cc : Nat) (xs : List Int) (t : Int) (w : World) (ha : Rd w A xs) (hn : xs.length = n * 3) (hT : isTrk xs n = true) (hl : lnB a b c d = true) (ht : 0 ≤ t ∧ t ≤ 1000000000) :
    Calls Tryz.prog 87 #[.agg #[.int .i64 a, .int .i64 b, .int .i64 c, .int .i64 d], .agg #[.slice A n cc], .int .i64 t] w fun e w' => e = .returned (.bool (hsS a b c d xs n t)) ∧ Q w w' := by
  obtain ⟨hp, hq⟩ := lnB_pts hl
  have hn24 : 2 ≤ n ∧ n ≤ 40 := by unfold isTrk at hT; rw [Bool.and_eq_true, decide_eq_true_eq] at hT; exact hT.1
  have KS := Lib.hid (fun (u : Int) wv (h : Rd wv A xs) => spec_l14Side a b c d A n cc xs u wv hp hq h hn hT)
  have KC := Lib.hid (fun wv (h : Rd wv A xs) => spec_Crossings A n cc xs a b c d wv h hn hT hl)
  obtain ⟨mL, hL1, hL2⟩ := crL_len a b c d xs (n - 1)
  have hm40 : mL ≤ 40 := by omega
  have HC : Hid (crsS a b c d xs n t = crsSk (crL a b c d xs (n - 1)) t mL) := Lib.hid (by unfold crsS; rw [hL1, Nat.mul_div_cancel _ (by decide)]; rfl)
  have HH : Hid (hsS a b c d xs n t = ((sideV a b c d xs n t == 1) || (sideV a b c d xs n (t - 60000) == 1) || fixS a b c d xs n t n || crsS a b c d xs n t)) := Lib.hid rfl
  have HN := Lib.hid hn
  generalize hsS a b c d xs n t = H at *
  generalize crsS a b c d xs n t = CB at *
  generalize crL a b c d xs (n - 1) = L at *
  have HL := Lib.hid hL1
  obtain ⟨W, hW⟩ : ∃ W, W = (w.alloc (.cells #[.int .i64 a, .int .i64 b, .int .i64 c, .int .i64 d] 27)).alloc (.cells #[.slice A n cc] 43) := ⟨_, rfl⟩
  have C1 : Blk W w.heap.size 27 #[.int .i64 a, .int .i64 b, .int .i64 c, .int .i64 d] := by rw [hW]; exact (Blk.new _ _ _).alloc _
  have C2 : Blk W (w.heap.size + 1) 43 #[.slice A n cc] := by rw [hW]; exact (by simpa using Blk.new (w.alloc (.cells #[.int .i64 a, .int .i64 b, .int .i64 c, .int .i64 d] 27)) 43 #[.slice A n cc])
  have QW : Q w W := by rw [hW]; exact ((Q.refl w).alloc _).alloc _
  clear hn hT hl hL1
  have K1 := Lib.hid (KS.out t)
  have K2 := Lib.hid (KS.out (t - 60000))
  generalize sideV a b c d xs n t = S1 at *
  generalize sideV a b c d xs n (t - 60000) = S2 at *
  subst hW
  by_cases h1 : S1 = 1
  · have HE := Lib.hid (show H = true by rw [HH.out, h1]; simp)
    subst h1
    go_enter Tryz.func87, Tryz.ntmps87
    go_wp2_with (go_at_call 88; refine (K1.out _ (ha.q QW)).mono ?_; rintro e w1 ⟨rfl, q1⟩)
    go_ret
    exact ⟨ret_bool HE.out.symm, QW.trans q1⟩
  · have h1b : (S1 == 1) = false := by simpa using h1
    by_cases h2 : S2 = 1
    · have HE := Lib.hid (show H = true by rw [HH.out, h2]; simp)
      subst h2
      go_enter Tryz.func87, Tryz.ntmps87
      go_wp2_with (first | (have q10 := q1; go_at_call 88; refine (K2.out _ (ha.q (QW.trans q10))).mono ?_; rintro e w2 ⟨rfl, q2⟩) | (go_at_call 88; refine (K1.out _ (ha.q QW)).mono ?_; rintro e w1 ⟨rfl, q1⟩; have c3 := (C1.q q1).cell; have c4 := (C2.q q1).cell))
      go_ret
      exact ⟨ret_bool HE.out.symm, (QW.trans q1).trans q2⟩
    · have h2b : (S2 == 1) = false := by simpa using h2
      have HG := Lib.hid (show H = (fixS a b c d xs n t n || CB) by rw [HH.out, h1b, h2b]; simp)
      go_enter Tryz.func87, Tryz.ntmps87
      go_wp2_with (first | (have q10 := q1; go_at_call 88; refine (K2.out _ (ha.q (QW.trans q10))).mono ?_; rintro e w2 ⟨rfl, q2⟩; have c4 := (C2.q (q10.trans q2)).cell) | (go_at_call 88; refine (K1.out _ (ha.q QW)).mono ?_; rintro e w1 ⟨rfl, q1⟩; have c3 := (C1.q q1).cell; have c4 := (C2.q q1).cell))
      have QS := q1.trans q2
      clear c3 c4 HH
      replace C1 := C1.q QS
      replace C2 := C2.q QS
      replace QW := QW.trans QS
      clear QS
      go_loopw [8] (fun i wr => ∃ k : Nat, k ≤ n ∧ i = .int .i64 k ∧ Hid (fixS a b c d xs n t k = false) ∧ Q w2 wr) (fun i _ => n - (intOf i).toNat)
      case atStart => exact ⟨0, Nat.zero_le _, rfl, Lib.hid rfl, by (repeat (first | assumption | exact Q.refl _ | refine Q.alloc ?_ _ | refine Q.drewN ?_ _ | refine Q.drew ?_))⟩
      case round =>
        obtain ⟨k, hk, rfl, HF, hqr⟩ := hrel
        have hqw := QW.trans hqr
        have D1 := C1.q hqr
        have D2 := C2.q hqr
        have d1 := D1.cell
        have d2 := D2.cell
        by_cases hlt : k < n
        · have hkI : (k : Int) < (n : Int) := by omega
          obtain ⟨bl, o, rfl, g0, g1, g2⟩ := (ha.q hqw).at3 HN.out hlt
          have HX : Hid (fixSi a b c d xs n t k = (inR (el xs (k * 3)) (t - 60000) t && (sideV a b c d xs n (el xs (k * 3)) == 1))) := Lib.hid rfl
          have k5 := fun wv => spec_inR (el xs (k * 3)) (t - 60000) t wv
          have k7 := KS.out (el xs (k * 3))
          obtain ⟨IB, hIB⟩ : ∃ B, B = inR (el xs (k * 3)) (t - 60000) t := ⟨_, rfl⟩
          obtain ⟨SS, hSS⟩ : ∃ B, B = sideV a b c d xs n (el xs (k * 3)) := ⟨_, rfl⟩
          rw [← hIB] at k5 HX
          rw [← hSS] at k7 HX
          have K5 := Lib.hid k5
          have K7 := Lib.hid k7
          have l1 := later_cells D1.cell D1.lt
          have l2 := later_cells D2.cell D2.lt
          have lg := later_cell g0
          clear hIB hSS k5 k7
          cases IB
          · have HM := Lib.hid (show fixS a b c d xs n t (k + 1) = false by rw [fixS_succ, HF.out, HX.out]; rfl)
            clear HX
            go_wp2_with fail
            refine wp_region_later_lit (by kernel_rfl) (by kernel_rfl) ?_
            repeat (any_goals (first | go_big_quiet_step ((first | (go_at_call 58; exact later_same (K5.out _)) | (go_at_call 88; with_reducible exact later_call (K7.out _ (ha.q (hqw.trans (Later.q _))))))) | quiet_step ((first | (go_at_call 58; exact later_same (K5.out _)) | (go_at_call 88; with_reducible exact later_call (K7.out _ (ha.q (hqw.trans (Later.q _))))))) | (refine wpQuiet_step (fun K hK => ?_); go_simp; split <;> (refine hK _ ?_; clear hK K))))
            all_goals (refine wpQuiet_nil ?_; rintro _ ⟨⟨w8, q8⟩, rfl⟩; try dsimp only)
            all_goals go_wp2_with fail
            go_roundw
            case rel => exact ⟨k + 1, by omega, by go_num, HM, hqr.trans q8⟩
            case measure => simp [intOf]; omega
          · by_cases h3 : SS = 1
            · have h3b : (SS == 1) = true := by simpa using h3
              have HM := Lib.hid (show fixS a b c d xs n t n = true from fixS_yes hlt (by rw [HX.out, h3b]; rfl))
              clear HX h3
              go_wp2_with fail
              refine wp_region_later_lit (by kernel_rfl) (by kernel_rfl) ?_
              repeat (any_goals (first | go_big_quiet_step ((first | (go_at_call 58; exact later_same (K5.out _)) | (go_at_call 88; with_reducible exact later_call (K7.out _ (ha.q (hqw.trans (Later.q _))))))) | quiet_step ((first | (go_at_call 58; exact later_same (K5.out _)) | (go_at_call 88; with_reducible exact later_call (K7.out _ (ha.q (hqw.trans (Later.q _))))))) | (refine wpQuiet_step (fun K hK => ?_); go_simp; split <;> (refine hK _ ?_; clear hK K))))
              all_goals (refine wpQuiet_nil ?_; rintro _ ⟨⟨w8, q8⟩, rfl⟩; try dsimp only)
              all_goals go_wp2_with fail
              go_ret
              exact ⟨ret_bool (by rw [HG.out, HM.out]; simp), hqw.trans q8⟩
            · have h3b : (SS == 1) = false := by simpa using h3
              have HM := Lib.hid (show fixS a b c d xs n t (k + 1) = false by rw [fixS_succ, HF.out, HX.out, h3b]; rfl)
              clear HX h3
              go_wp2_with fail
              refine wp_region_later_lit (by kernel_rfl) (by kernel_rfl) ?_
              repeat (any_goals (first | go_big_quiet_step ((first | (go_at_call 58; exact later_same (K5.out _)) | (go_at_call 88; with_reducible exact later_call (K7.out _ (ha.q (hqw.trans (Later.q _))))))) | quiet_step ((first | (go_at_call 58; exact later_same (K5.out _)) | (go_at_call 88; with_reducible exact later_call (K7.out _ (ha.q (hqw.trans (Later.q _))))))) | (refine wpQuiet_step (fun K hK => ?_); go_simp; split <;> (refine hK _ ?_; clear hK K))))
              all_goals (refine wpQuiet_nil ?_; rintro _ ⟨⟨w8, q8⟩, rfl⟩; try dsimp only)
              all_goals go_wp2_with fail
              go_roundw
              case rel => exact ⟨k + 1, by omega, by go_num, HM, hqr.trans q8⟩
              case measure => simp [intOf]; omega
        · obtain rfl : k = n := by omega
          go_wp2_with (go_at_call 31; refine (KC.out _ (ha.q hqw)).mono ?_; rintro e w3 ⟨A1, m, c1, rfl, o1, q3⟩)
          have hm : m = mL := by have := o1.len; rw [HL.out] at this; omega
          subst hm
          have QX := hqw.trans q3
          have HG2 := Lib.hid (show H = crsSk L t m by rw [HG.out, HF.out, HC.out]; rfl)
          clear d1 d2 HF
          go_loopw [10] (fun i wr => ∃ j : Nat, j ≤ m ∧ i = .int .i64 j ∧ Hid (crsSk L t j = false) ∧ Q w3 wr) (fun i _ => m - (intOf i).toNat)
          case atStart => exact ⟨0, Nat.zero_le _, rfl, Lib.hid rfl, Q.refl _⟩
          case round =>
            obtain ⟨j, hj, rfl, HF, hq3⟩ := hrel
            have hqw3 := QX.trans hq3
            by_cases hlt2 : j < m
            · have hltI : (j : Int) < (m : Int) := by omega
              obtain ⟨bl, o, rfl, g0, g1, g2, g3, g4⟩ := (o1.rd.q hq3).at5 HL.out hlt2
              have HX : Hid (crsSi L t j = ((el L (j * 5 + 2) == 1) && inR (el L (j * 5)) (t - 60000) t)) := Lib.hid rfl
              generalize el L (j * 5) = x0 at *
              generalize el L (j * 5 + 1) = x1 at *
              generalize el L (j * 5 + 2) = x2 at *
              generalize el L (j * 5 + 3) = x3 at *
              generalize el L (j * 5 + 4) = x4 at *
              have k5 := fun wv => spec_inR x0 (t - 60000) t wv
              obtain ⟨IB, hIB⟩ : ∃ B, B = inR x0 (t - 60000) t := ⟨_, rfl⟩
              rw [← hIB] at k5 HX
              have K5 := Lib.hid k5
              clear hIB k5
              by_cases hw : x2 = 1
              · have hwb : (x2 == 1) = true := by simpa using hw
                cases IB
                · have HM := Lib.hid (show crsSk L t (j + 1) = false by rw [crsSk_succ, HF.out, HX.out, hwb]; rfl)
                  clear HX hw
                  go_wp2_with (go_at_call 58; refine (K5.out _).mono ?_; rintro e w' ⟨rfl, rfl⟩)
                  go_roundw
                  case rel => exact ⟨j + 1, by omega, by go_num, HM, hq3⟩
                  case measure => simp [intOf]; omega
                · have HM := Lib.hid (show crsSk L t m = true from crsSk_yes hlt2 (by rw [HX.out, hwb]; rfl))
                  clear HX hw
                  go_wp2_with (go_at_call 58; refine (K5.out _).mono ?_; rintro e w' ⟨rfl, rfl⟩)
                  go_ret
                  exact ⟨ret_bool (by rw [HG2.out, HM.out]), hqw3⟩
              · have hwb : (x2 == 1) = false := by simpa using hw
                have HM := Lib.hid (show crsSk L t (j + 1) = false by rw [crsSk_succ, HF.out, HX.out, hwb]; rfl)
                clear HX hw
                go_wp2_with fail
                go_roundw
                case rel => exact ⟨j + 1, by omega, by go_num, HM, hq3⟩
                case measure => simp [intOf]; omega
            · obtain rfl : j = m := by omega
              go_wp2_with fail
              go_ret
              exact ⟨ret_bool (by rw [HG2.out, HF.out]), hqw3⟩
          
end Go.Proofs.YteofhfefbphjdaaGreatDoor
