/- Walks: the law on limits. No condition. -/
import Derived.Test.YthlfadkpeogajaaDrA
import Derived.Test.YthlfadkpeogajaaLimP
import Derived.Test.YthlfadkpeogajaaFirstL
import Derived.Test.YthlfadkpeogajaaLk
namespace Go.Proofs.Ythlfadkpeogajaa
open Go.RowKit Go.WideShapes Go.ChangeShapes
set_option maxRecDepth 100000 in
set_option maxHeartbeats 4000000 in
theorem law_FnLimits (A : Option Addr) (n c : Nat) (hc : n ≤ c ∧ c ≤ maxLen) (w : World) (ha : Rd8 w A n) :
    Calls Try.prog 8 #[.slice A n c] w fun e w' => e = .returned (.bool true) ∧ Below w.heap.size w w' := by
  have hn : n ≤ 9223372036854775807 := by unfold maxLen at hc; omega
  clear hc
  have K0 := Lib.hid (fun wv => big_any A n c wv hn)
  by_cases h4 : 4096 < n
  · rw [decide_eq_true h4] at K0
    go_enter Try.func8, Try.ntmps8
    go_wp2_with (go_at_call 11; refine (K0.out _).mono ?_; rintro e w' ⟨rfl, rfl⟩)
    go_ret
    exact ⟨rfl, Q.refl _⟩
  · rw [decide_eq_false h4] at K0
    replace hn : n ≤ 140737488355327 := by omega
    have K1 := Lib.hid (fun wv (h : Rd8 wv A n) => spec_DrawApplyLimits A n c wv h hn)
    clear h4
    go_enter Try.func8, Try.ntmps8
    go_wp2_with (first | (go_at_call 11; refine (K0.out _).mono ?_; rintro e w' ⟨rfl, rfl⟩) | (go_at_call 40; refine (K1.out _ ha).mono ?_; rintro e w1 ⟨x, y, z, LA, m, d, xs, rfl, ho1, hm, q1⟩; refine Hid.out ?_))
    refine Lib.hid ?_
    have hx := ho1.rd
    have hl := ho1.len
    clear ho1
    clear K0 K1
    have B0 := Blk.new w1 25 #[.int .i64 x, .int .i64 y, .int .i64 z]
    have Q1 : Q w (w1.alloc (.cells #[.int .i64 x, .int .i64 y, .int .i64 z] 25)) := q1.alloc _
    replace hx := hx.q ((Q.refl w1).alloc (.cells #[.int .i64 x, .int .i64 y, .int .i64 z] 25))
    have k2 := fun wv (h : Rd wv LA xs) => impl_ApplyLimits x y z LA m d xs wv h hl (by omega)
    have k3 := fun wv (h : Rd wv LA xs) => spec_ApplyLimits x y z LA m d xs wv h hl (by omega)
    have k5 := fun wv (h : Rd wv LA xs) => impl_LateBoats x y z LA m d xs wv h hl (by omega)
    have k6 := fun wv (h : Rd wv LA xs) => impl_FF LA m d xs wv h hl (by omega)
    clear q1
    have cB := B0.cell
    by_cases hC : alC x y z xs m = 0
    · obtain ⟨h1, h2, h3, h4, h5, h6, h7, h8, h9⟩ := lim_again hl hC
      obtain ⟨bf, hbf⟩ := Int.eq_ofNat_of_zero_le h4
      have hN : alN x y z xs m = m := by unfold alN; rw [if_pos hC]
      have hN2 : alN x y z (alL x y z xs m) m = m := by unfold alN; rw [if_pos h1]
      have k4 := fun wv (B : Option Addr) (e : Nat) (h : Rd wv B (alL x y z xs m)) => impl_ApplyLimits x y z B m e (alL x y z xs m) wv h h7 (by omega)
      have hlb : lbL x y z xs m = lateTo (ftm xs m + z) xs m := by unfold lbL; rw [if_pos h5]
      rw [hlb, h5] at k5
      have hbm : bf < m := by
        rcases bestF_char (xs := xs) m with ⟨e, _⟩ | ⟨q, e, hq, _⟩
        · omega
        · omega
      rw [show ffV xs m = (bf : Int) by unfold ffV ffP; rw [if_neg (by omega), if_neg (by omega)]; exact hbf, show ffC xs m = 0 by unfold ffC ffP; rw [if_neg (by omega), if_neg (by omega)]] at k6
      have hlm := fun (k : Nat) (hk : k < m) => late_mem (t := ftm xs m + z) (xs := xs) hk
      have hne := fun (k : Nat) (hk : k < m) => late_ne (t := ftm xs m + z) (xs := xs) hk
      have hb0 := h6 bf hbf
      have hll : (lateTo (ftm xs m + z) xs m).length ≤ m := by unfold lateTo; rw [List.length_map]; exact Nat.le_trans (List.length_filter_le _ _) (by simp)
      rw [h1, hN2, h2] at k4
      rw [h9] at k4 h7
      rw [hN, h9, hC] at k2 k3
      have KH := Lib.hid (fun wv (B : Option Addr) (e : Nat) (k : Nat) (hk : k < m) (h : Rd wv B (lateTo (ftm xs m + z) xs m)) => by have := hasInt_any B (lateTo (ftm xs m + z) xs m).length e _ (k : Int) wv h rfl (by omega); rw [hlm k hk] at this; exact this)
      generalize lateTo (ftm xs m + z) xs m = ls at *
      generalize spTo (ftm xs m + z) xs m = ys at *
      have HY := Lib.hid h7
      have HX := Lib.hid hl
      have HNE := Lib.hid hne
      have HB0 := Lib.hid hb0
      have K2 := Lib.hid k2
      have K3 := Lib.hid k3
      have K4 := Lib.hid k4
      have K5 := Lib.hid k5
      have K6 := Lib.hid k6
      obtain ⟨N, hNl⟩ : ∃ N, N = ls.length := ⟨_, rfl⟩
      clear k2 k3 k4 k5 k6 h1 h2 h3 h4 h5 h6 h7 h8 h9 hC hN hN2 hlb hlm hne hb0 hl hbf
      go_wp2_with (go_at_call 41; refine (K2.out _ hx).mono ?_; rintro e w3 ⟨A3, c3, rfl, o3, q3⟩; refine Hid.out ?_)
      refine Lib.hid ?_
      have Q3 := Q1.trans q3
      replace B0 := B0.q q3
      replace hx := hx.q q3
      replace cB := B0.cell
      go_wp2_with (go_at_call 42; refine (K3.out _ hx).mono ?_; rintro e w4 ⟨A4, c4, rfl, o4, q4⟩; refine Hid.out ?_)
      refine Lib.hid ?_
      have Q4 := Q3.trans q4
      replace B0 := B0.q q4
      replace hx := hx.q q4
      replace o3 := o3.q q4
      replace cB := B0.cell
      clear o4
      go_wp2_with (go_at_call 41; refine (K4.out _ _ _ o3.rd).mono ?_; rintro e w5 ⟨A5, c5, rfl, o5, q5⟩; refine Hid.out ?_)
      refine Lib.hid ?_
      have Q5 := Q4.trans q5
      replace B0 := B0.q q5
      replace hx := hx.q q5
      replace o3 := o3.q q5
      replace cB := B0.cell
      go_wp2_with (go_at_call 43; refine (K5.out _ hx).mono ?_; rintro e w6 ⟨A6, c6, rfl, o6, q6⟩; refine Hid.out ?_)
      refine Lib.hid ?_
      have Q6 := Q5.trans q6
      replace B0 := B0.q q6
      replace hx := hx.q q6
      replace o3 := o3.q q6
      replace o5 := o5.q q6
      replace cB := B0.cell
      go_wp2_with (go_at_call 44; refine (K6.out _ hx).mono ?_; rintro e w7 ⟨rfl, q7⟩; refine Hid.out ?_)
      refine Lib.hid ?_
      have Q7 := Q6.trans q7
      replace B0 := B0.q q7
      replace hx := hx.q q7
      replace o3 := o3.q q7
      replace o5 := o5.q q7
      replace o6 := o6.q q7
      clear cB B0
      have KF := Lib.hid (KH.out w7 A6 c6 bf hbm o6.rd)
      rw [HB0.out] at KF
      go_wp2_with (go_at_call 22; refine (KF.out).mono ?_; rintro e w8 ⟨rfl, q8⟩; refine Hid.out ?_)
      refine Lib.hid ?_
      have Q8 := Q7.trans q8
      replace hx := hx.q q8
      replace o3 := o3.q q8
      replace o5 := o5.q q8
      replace o6 := o6.q q8
      have r3 := o3.rd
      have r5 := o5.rd
      have r6 := o6.rd
      clear o3 o5 o6 KF HB0
      go_wp2_with fail
      go_loopw [15] (fun i wr => ∃ k : Nat, k ≤ m ∧ i = .int .i64 k ∧ Q w8 wr) (fun i _ => m - (intOf i).toNat)
      case atStart => exact ⟨0, Nat.zero_le _, rfl, Q.refl _⟩
      case round =>
        obtain ⟨k, hk, rfl, hq⟩ := hrel
        by_cases hlt : k < m
        · have hkI : (k : Int) < (m : Int) := by omega
          obtain ⟨b3, o3, rfl, u0, u1, u2⟩ := (r3.q hq).at3 HY.out hlt
          obtain ⟨b5, o5, rfl, v0, v1, v2⟩ := (r5.q hq).at3 HY.out hlt
          obtain ⟨bx, ox, rfl, x0, x1, x2⟩ := (hx.q hq).at3 HX.out hlt
          have HL := HNE.out k hlt
          have KF := fun wv (h : Rd wv A6 ls) => KH.out wv A6 c6 k hlt h
          obtain ⟨LB, hLB⟩ : ∃ L, L = lateB (ftm xs m + z) xs k := ⟨_, rfl⟩
          rw [← hLB] at HL KF
          have KF := Lib.hid KF
          have lu0 := later_cell u0
          have lu1 := later_cell u1
          have lu2 := later_cell u2
          have lv0 := later_cell v0
          have lv1 := later_cell v1
          have lv2 := later_cell v2
          have lx0 := later_cell x0
          have lx1 := later_cell x1
          have lx2 := later_cell x2
          clear hLB u0 u1 u2 v0 v1 v2 x0 x1 x2 HNE
          generalize el ys (k * 3) = y0 at *
          generalize el ys (k * 3 + 1) = y1 at *
          generalize el ys (k * 3 + 2) = y2 at *
          generalize el xs (k * 3) = z0 at *
          generalize el xs (k * 3 + 1) = z1 at *
          generalize el xs (k * 3 + 2) = z2 at *
          by_cases e0 : y0 = z0
          · by_cases e1 : y1 = z1
            · by_cases e2 : y2 = z2
              · subst e0 e1 e2
                have HLB : LB = false := by simpa using HL
                subst HLB
                clear HL
                go_wp2_with fail
                refine wp_region_later_lit (by kernel_rfl) (by kernel_rfl) ?_
                repeat (any_goals (first | go_big_quiet_step ((go_at_call 22; with_reducible exact later_call (KF.out _ (r6.q (hq.trans (Later.q _)))))) | quiet_step ((go_at_call 22; with_reducible exact later_call (KF.out _ (r6.q (hq.trans (Later.q _)))))) | (refine wpQuiet_step (fun K hK => ?_); go_simp; split <;> (refine hK _ ?_; clear hK K))))
                all_goals (refine wpQuiet_nil ?_; rintro _ ⟨⟨w9, q9⟩, rfl⟩; try dsimp only)
                all_goals go_wp2_with fail
                all_goals go_roundw
                case rel => exact ⟨k + 1, by omega, by go_num, hq.trans q9⟩
                case measure => simp [intOf]; omega
              · subst e0 e1
                have HLB : LB = true := by simpa [e2] using HL
                subst HLB
                have eb : (y2 == z2) = false := by simpa using e2
                clear HL
                go_wp2_with fail
                refine wp_region_later_lit (by kernel_rfl) (by kernel_rfl) ?_
                repeat (any_goals (first | go_big_quiet_step ((go_at_call 22; with_reducible exact later_call (KF.out _ (r6.q (hq.trans (Later.q _)))))) | quiet_step ((go_at_call 22; with_reducible exact later_call (KF.out _ (r6.q (hq.trans (Later.q _)))))) | (refine wpQuiet_step (fun K hK => ?_); go_simp; split <;> (refine hK _ ?_; clear hK K))))
                all_goals (refine wpQuiet_nil ?_; rintro _ ⟨⟨w9, q9⟩, rfl⟩; try dsimp only)
                all_goals go_wp2_with fail
                all_goals go_roundw
                case rel => exact ⟨k + 1, by omega, by go_num, hq.trans q9⟩
                case measure => simp [intOf]; omega
            · subst e0
              have HLB : LB = true := by simpa [e1] using HL
              subst HLB
              have eb : (y1 == z1) = false := by simpa using e1
              clear HL
              go_wp2_with fail
              refine wp_region_later_lit (by kernel_rfl) (by kernel_rfl) ?_
              repeat (any_goals (first | go_big_quiet_step ((go_at_call 22; with_reducible exact later_call (KF.out _ (r6.q (hq.trans (Later.q _)))))) | quiet_step ((go_at_call 22; with_reducible exact later_call (KF.out _ (r6.q (hq.trans (Later.q _)))))) | (refine wpQuiet_step (fun K hK => ?_); go_simp; split <;> (refine hK _ ?_; clear hK K))))
              all_goals (refine wpQuiet_nil ?_; rintro _ ⟨⟨w9, q9⟩, rfl⟩; try dsimp only)
              all_goals go_wp2_with fail
              all_goals go_roundw
              case rel => exact ⟨k + 1, by omega, by go_num, hq.trans q9⟩
              case measure => simp [intOf]; omega
          · have HLB : LB = true := by simpa [e0] using HL
            subst HLB
            have eb : (y0 == z0) = false := by simpa using e0
            clear HL
            go_wp2_with fail
            refine wp_region_later_lit (by kernel_rfl) (by kernel_rfl) ?_
            repeat (any_goals (first | go_big_quiet_step ((go_at_call 22; with_reducible exact later_call (KF.out _ (r6.q (hq.trans (Later.q _)))))) | quiet_step ((go_at_call 22; with_reducible exact later_call (KF.out _ (r6.q (hq.trans (Later.q _)))))) | (refine wpQuiet_step (fun K hK => ?_); go_simp; split <;> (refine hK _ ?_; clear hK K))))
            all_goals (refine wpQuiet_nil ?_; rintro _ ⟨⟨w9, q9⟩, rfl⟩; try dsimp only)
            all_goals go_wp2_with fail
            all_goals go_roundw
            case rel => exact ⟨k + 1, by omega, by go_num, hq.trans q9⟩
            case measure => simp [intOf]; omega
        · obtain rfl : k = m := by omega
          go_wp2_with fail
          go_ret
          exact ⟨rfl, Q8.trans hq⟩
    · obtain ⟨C, hCC⟩ : ∃ C, C = alC x y z xs m := ⟨_, rfl⟩
      have hN : alN x y z xs m = 0 := by unfold alN; rw [if_neg hC]
      rw [← hCC, hN] at k2 k3
      rw [← hCC] at hC
      have hCb : (C != 0) = true := by simpa using hC
      have K2 := Lib.hid k2
      have K3 := Lib.hid k3
      clear k2 k3 k5 k6 hCC hC hN
      go_wp2_with (first | (go_at_call 42; refine (K3.out _ (hx.q q3)).mono ?_; rintro e w4 ⟨A4, c4, rfl, o4, q4⟩) | (go_at_call 41; refine (K2.out _ hx).mono ?_; rintro e w3 ⟨A3, c3, rfl, o3, q3⟩; have cB3 := (B0.q q3).cell))
      go_ret
      exact ⟨rfl, (Q1.trans q3).trans q4⟩
end Go.Proofs.Ythlfadkpeogajaa
