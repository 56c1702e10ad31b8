/- Words: the best of several starts is of a boat that has started, and none that has started is before it (plain). Walks: the law on recalls. No condition. -/
import Derived.Test.YtpdcehmnegagmaaBst
import Derived.Test.YtpdcehmnegagmaaDrX
import Derived.Test.YtpdcehmnegagmaaRecall
import Derived.Test.YtpdcehmnegagmaaLk
namespace Go.Proofs.Ytpdcehmnegagmaa
theorem bs_least (L : List St4) : ∀ k i, i < k → (sx L i).1 = 0 → 0 ≤ bsTo L k ∧ (sx L (bsTo L k).toNat).2.2.1 ≤ (sx L i).2.2.1 := by
  intro k
  induction k with
  | zero => intro i hi; omega
  | succ k ih =>
    intro i hi h0
    by_cases hc : (sx L k).1 = 0 ∧ (bsTo L k < 0 ∨ (sx L k).2.2.1 < (sx L (bsTo L k).toNat).2.2.1)
    · rw [bsTo_yes hc.1 hc.2, Int.toNat_natCast]
      refine ⟨by omega, ?_⟩
      by_cases he : i = k
      · subst he; omega
      · have := ih i (by omega) h0
        rcases hc.2 with h | h <;> omega
    · rw [bsTo_no hc]
      by_cases he : i = k
      · subst he
        have hn : ¬ (bsTo L i < 0 ∨ (sx L i).2.2.1 < (sx L (bsTo L i).toNat).2.2.1) := fun e => hc ⟨h0, e⟩
        omega
      · exact ih i (by omega) h0
end Go.Proofs.Ytpdcehmnegagmaa
namespace Go.Proofs.Ytpdcehmnegagmaa
open Go.RowKit Go.WideShapes Go.ChangeShapes
theorem bs_facts {a b c d : Int} {D : List (Nat × List Int)} {t fl : Int} (h : stsC a b c d D t fl = 0) : ∀ i, i < (stsL a b c d D t fl).length → (sx (stsL a b c d D t fl) i).1 = 0 → bsC a b c d D t fl = 0 ∧ ∃ j : Nat, j < (stsL a b c d D t fl).length ∧ bsV a b c d D t fl = (j : Int) ∧ (sx (stsL a b c d D t fl) j).2.2.1 ≤ (sx (stsL a b c d D t fl) i).2.2.1 := by
  intro i hi h0
  have h1 := bs_least (stsL a b c d D t fl) _ i hi h0
  have h2 := bsTo_bd (stsL a b c d D t fl) (stsL a b c d D t fl).length
  have hC : bsC a b c d D t fl = 0 := by unfold bsC; rw [if_pos h, if_neg (by omega)]
  refine ⟨hC, (bsTo (stsL a b c d D t fl) (stsL a b c d D t fl).length).toNat, by omega, ?_, h1.2⟩
  unfold bsV
  rw [if_pos hC]
  omega
set_option maxRecDepth 100000 in
set_option maxHeartbeats 4000000 in
theorem law_FnRecalls (A : Option Addr) (n c : Nat) (hc : n ≤ c ∧ c ≤ maxLen) (w : World) (ha : Rd8 w A n) :
    Calls Try.prog 4 #[.slice A n c] w fun e w' => e = .returned (.bool true) ∧ Below w.heap.size w w' := by
  have hn : n ≤ 9223372036854775807 := by unfold maxLen at hc; omega
  clear hc
  have K0 := Lib.hid (fun wv => big_any A n c wv hn)
  by_cases h4 : 4096 < n
  · rw [decide_eq_true h4] at K0
    go_enter Try.func4, Try.ntmps4
    go_wp2_with (go_at_call 5; refine (K0.out _).mono ?_; rintro e w' ⟨rfl, rfl⟩)
    go_ret
    exact ⟨rfl, Q.refl _⟩
  · rw [decide_eq_false h4] at K0
    replace hn : n ≤ 140737488355327 := by omega
    have K1 := Lib.hid (fun wv (h : Rd8 wv A n) => spec_DrawStartsOf A n c wv h hn)
    clear h4
    go_enter Try.func4, Try.ntmps4
    go_wp2_with (go_at_call 5; refine (K0.out _).mono ?_; rintro e w' ⟨rfl, rfl⟩)
    refine (K1.out _ ha).mono ?_
    rintro e w1 ⟨x, y, z, u, B, m, d, D, t, fl, rfl, hx, hl, hm, q1⟩
    clear K0 K1 ha
    have BL := Blk.new w1 27 #[.int .i64 x, .int .i64 y, .int .i64 z, .int .i64 u]
    have QW : Q w (w1.alloc (.cells #[.int .i64 x, .int .i64 y, .int .i64 z, .int .i64 u] 27)) := q1.alloc _
    replace hx := hx.q ((Q.refl w1).alloc (.cells #[.int .i64 x, .int .i64 y, .int .i64 z, .int .i64 u] 27))
    clear q1
    have hm2 : m ≤ 9223372036854775807 := by omega
    have k1 := fun wv (h : RdD wv B D) => impl_StartsOf x y z u B m d D t fl wv h hl hm2
    have k2 := fun wv (h : RdD wv B D) => spec_StartsOf x y z u B m d D t fl wv h hl hm2
    have hS := stsL_len x y z u D t fl
    by_cases h0 : stsC x y z u D t fl = 0
    · have hA : allC x y z u D t = 0 := by
        rcases @stsC_C x y z u D t fl with h | h | h
        · exact h.1
        · have := h.2.2; omega
        · have := h.2; omega
      have k3 := fun wv (h : RdD wv B D) => impl_EarlyBoats x y z u B m d D t wv h hl hm2
      have k4 := fun wv (h : RdD wv B D) => impl_IsRecall x y z u B m d D t wv h hl hm2
      have k5 := fun wv (h : RdD wv B D) => impl_BestStart x y z u B m d D t fl wv h hl hm2
      have HB := Lib.hid (bs_facts h0)
      have hE := ebL_len x y z u D t
      have hR : rcB x y z u D t = decide (m < 2 * (ebL x y z u D t).length) := by unfold rcB; rw [hA, hl]; simp
      rw [h0] at k1 k2
      rw [hA] at k3 k4
      rw [hR] at k4
      unfold RSt at k1 k2
      unfold RS at k3
      clear h0 hA hR
      generalize stsL x y z u D t fl = L at *
      generalize ebL x y z u D t = E at *
      generalize bsC x y z u D t fl = C at *
      generalize bsV x y z u D t fl = V at *
      obtain ⟨M, hM⟩ : ∃ M, M = L.length := ⟨_, rfl⟩
      rw [← hM] at k1 k2 HB hS
      have HM := Lib.hid hM.symm
      clear hM
      generalize E.length = N at *
      have K1 := Lib.hid k1
      have K2 := Lib.hid k2
      have K3 := Lib.hid k3
      have K4 := Lib.hid k4
      have K5 := Lib.hid k5
      clear k1 k2 k3 k4 k5
      go_wp2_with fail
      refine (K1.out _ hx).mono ?_
      rintro e w2 ⟨A1, c1, rfl, o1, q2⟩
      replace BL := BL.q q2
      replace QW := QW.trans q2
      replace hx := hx.q q2
      have r1 := o1.rd
      have cL := BL.cell
      clear o1 q2
      go_wp2_with fail
      refine (K2.out _ hx).mono ?_
      rintro e w3 ⟨A2, c2, rfl, o2, q3⟩
      replace BL := BL.q q3
      replace QW := QW.trans q3
      replace hx := hx.q q3
      replace r1 := r1.q q3
      have r2 := o2.rd
      replace cL := BL.cell
      clear o2 q3
      go_wp2_with fail
      refine (K3.out _ hx).mono ?_
      rintro e w4 ⟨A3, c3, rfl, o3, q4⟩
      replace BL := BL.q q4
      replace QW := QW.trans q4
      replace hx := hx.q q4
      replace r1 := r1.q q4
      replace r2 := r2.q q4
      replace cL := BL.cell
      clear o3 q4
      go_wp2_with fail
      refine (K4.out _ hx).mono ?_
      rintro e w5 ⟨rfl, q5⟩
      replace BL := BL.q q5
      replace QW := QW.trans q5
      replace hx := hx.q q5
      replace r1 := r1.q q5
      replace r2 := r2.q q5
      replace cL := BL.cell
      clear q5
      by_cases hmn : m < 2 * N
      · have hI : (m : Int) < 2 * (N : Int) := by omega
        rw [decide_eq_true hmn]
        go_wp2_with fail
        refine (K5.out _ hx).mono ?_
        rintro e w6 ⟨rfl, q6⟩
        replace QW := QW.trans q6
        replace r1 := r1.q q6
        replace r2 := r2.q q6
        clear q6 cL BL hx K1 K2 K3 K4 K5
        go_wp2_with fail
        go_loopw [17] (fun i wr => ∃ k : Nat, k ≤ M ∧ i = .int .i64 k ∧ Q w6 wr) (fun i _ => M - (intOf i).toNat)
        case atStart => exact ⟨0, by omega, rfl, Q.refl _⟩
        case round =>
          obtain ⟨k, hk, rfl, hq⟩ := hrel
          by_cases hlt : k < M
          · have hltI : (k : Int) < (M : Int) := by omega
            obtain ⟨b1, o1, rfl, g0, g1, g2, g3⟩ := (r1.q hq).at_ HM.out hlt
            obtain ⟨b2, o2, rfl, j0, j1, j2, j3⟩ := (r2.q hq).at_ HM.out hlt
            have HBk := HB.out k hlt
            obtain ⟨p, hp⟩ : ∃ p, p = sx L k := ⟨_, rfl⟩
            rw [← hp] at g0 g1 g2 g3 j0 j1 j2 j3 HBk
            obtain ⟨x0, y0, z0, u0⟩ := p
            dsimp only at g0 g1 g2 g3 j0 j1 j2 j3 HBk
            clear hp
            by_cases hx0 : x0 = 0
            · obtain ⟨hC0, j, hj, hV0, hle⟩ := HBk hx0
              subst hx0 hC0 hV0
              obtain ⟨b3, o3, he, f0, f1, f2, f3⟩ := (r1.q hq).at_ HM.out hj
              cases he
              have hjI : (j : Int) < (M : Int) := by omega
              generalize (sx L j).2.2.1 = zz at *
              clear f0 f1 f3 HBk
              have hzz : ¬ z0 < zz := by omega
              go_wp2_with fail
              refine wp_region_quiet_lit (by kernel_rfl) (by kernel_rfl) ?_
              repeat (any_goals (first | go_big_quiet_step ( fail) | quiet_step ( fail) | (refine wpQuiet_step (fun K hK => ?_); go_simp; split <;> (refine hK _ ?_; clear hK K))))
              all_goals (refine wpQuiet_nil ?_; intro _ hw'; obtain ⟨nq, hw''⟩ := hw'; subst hw'')
              all_goals go_wp2_with fail
              refine wp_region_quiet_lit (by kernel_rfl) (by kernel_rfl) ?_
              repeat (any_goals (first | go_big_quiet_step ( fail) | quiet_step ( fail) | (refine wpQuiet_step (fun K hK => ?_); go_simp; split <;> (refine hK _ ?_; clear hK K))))
              all_goals (refine wpQuiet_nil ?_; intro _ hw'; obtain ⟨nq, hw''⟩ := hw'; subst hw'')
              all_goals go_wp2_with fail
              go_roundw
              case rel => exact ⟨k + 1, by omega, by go_num, hq.trans (by (repeat (first | assumption | exact Q.refl _ | refine Q.alloc ?_ _ | refine Q.drewN ?_ _ | refine Q.drew ?_)))⟩
              case measure => simp [intOf]; omega
            · have hxb : (x0 == 0) = false := by simpa using hx0
              clear HBk
              go_wp2_with fail
              refine wp_region_quiet_lit (by kernel_rfl) (by kernel_rfl) ?_
              repeat (any_goals (first | go_big_quiet_step ( fail) | quiet_step ( fail) | (refine wpQuiet_step (fun K hK => ?_); go_simp; split <;> (refine hK _ ?_; clear hK K))))
              all_goals (refine wpQuiet_nil ?_; intro _ hw'; obtain ⟨nq, hw''⟩ := hw'; subst hw'')
              all_goals go_wp2_with fail
              refine wp_region_quiet_lit (by kernel_rfl) (by kernel_rfl) ?_
              repeat (any_goals (first | go_big_quiet_step ( fail) | quiet_step ( fail) | (refine wpQuiet_step (fun K hK => ?_); go_simp; split <;> (refine hK _ ?_; clear hK K))))
              all_goals (refine wpQuiet_nil ?_; intro _ hw'; obtain ⟨nq, hw''⟩ := hw'; subst hw'')
              all_goals go_wp2_with fail
              go_roundw
              case rel => exact ⟨k + 1, by omega, by go_num, hq.trans (by (repeat (first | assumption | exact Q.refl _ | refine Q.alloc ?_ _ | refine Q.drewN ?_ _ | refine Q.drew ?_)))⟩
              case measure => simp [intOf]; omega
          · obtain rfl : k = M := by omega
            go_wp2_with fail
            go_ret
            exact ⟨rfl, QW.trans hq⟩
      · have hI : ¬ (m : Int) < 2 * (N : Int) := by omega
        rw [decide_eq_false hmn]
        go_wp2_with fail
        refine (K5.out _ hx).mono ?_
        rintro e w6 ⟨rfl, q6⟩
        replace QW := QW.trans q6
        replace r1 := r1.q q6
        replace r2 := r2.q q6
        clear q6 cL BL hx K1 K2 K3 K4 K5
        go_wp2_with fail
        go_loopw [17] (fun i wr => ∃ k : Nat, k ≤ M ∧ i = .int .i64 k ∧ Q w6 wr) (fun i _ => M - (intOf i).toNat)
        case atStart => exact ⟨0, by omega, rfl, Q.refl _⟩
        case round =>
          obtain ⟨k, hk, rfl, hq⟩ := hrel
          by_cases hlt : k < M
          · have hltI : (k : Int) < (M : Int) := by omega
            obtain ⟨b1, o1, rfl, g0, g1, g2, g3⟩ := (r1.q hq).at_ HM.out hlt
            obtain ⟨b2, o2, rfl, j0, j1, j2, j3⟩ := (r2.q hq).at_ HM.out hlt
            have HBk := HB.out k hlt
            obtain ⟨p, hp⟩ : ∃ p, p = sx L k := ⟨_, rfl⟩
            rw [← hp] at g0 g1 g2 g3 j0 j1 j2 j3 HBk
            obtain ⟨x0, y0, z0, u0⟩ := p
            dsimp only at g0 g1 g2 g3 j0 j1 j2 j3 HBk
            clear hp
            by_cases hx0 : x0 = 0
            · obtain ⟨hC0, j, hj, hV0, hle⟩ := HBk hx0
              subst hx0 hC0 hV0
              obtain ⟨b3, o3, he, f0, f1, f2, f3⟩ := (r1.q hq).at_ HM.out hj
              cases he
              have hjI : (j : Int) < (M : Int) := by omega
              generalize (sx L j).2.2.1 = zz at *
              clear f0 f1 f3 HBk
              have hzz : ¬ z0 < zz := by omega
              go_wp2_with fail
              refine wp_region_quiet_lit (by kernel_rfl) (by kernel_rfl) ?_
              repeat (any_goals (first | go_big_quiet_step ( fail) | quiet_step ( fail) | (refine wpQuiet_step (fun K hK => ?_); go_simp; split <;> (refine hK _ ?_; clear hK K))))
              all_goals (refine wpQuiet_nil ?_; intro _ hw'; obtain ⟨nq, hw''⟩ := hw'; subst hw'')
              all_goals go_wp2_with fail
              refine wp_region_quiet_lit (by kernel_rfl) (by kernel_rfl) ?_
              repeat (any_goals (first | go_big_quiet_step ( fail) | quiet_step ( fail) | (refine wpQuiet_step (fun K hK => ?_); go_simp; split <;> (refine hK _ ?_; clear hK K))))
              all_goals (refine wpQuiet_nil ?_; intro _ hw'; obtain ⟨nq, hw''⟩ := hw'; subst hw'')
              all_goals go_wp2_with fail
              go_roundw
              case rel => exact ⟨k + 1, by omega, by go_num, hq.trans (by (repeat (first | assumption | exact Q.refl _ | refine Q.alloc ?_ _ | refine Q.drewN ?_ _ | refine Q.drew ?_)))⟩
              case measure => simp [intOf]; omega
            · have hxb : (x0 == 0) = false := by simpa using hx0
              clear HBk
              go_wp2_with fail
              refine wp_region_quiet_lit (by kernel_rfl) (by kernel_rfl) ?_
              repeat (any_goals (first | go_big_quiet_step ( fail) | quiet_step ( fail) | (refine wpQuiet_step (fun K hK => ?_); go_simp; split <;> (refine hK _ ?_; clear hK K))))
              all_goals (refine wpQuiet_nil ?_; intro _ hw'; obtain ⟨nq, hw''⟩ := hw'; subst hw'')
              all_goals go_wp2_with fail
              refine wp_region_quiet_lit (by kernel_rfl) (by kernel_rfl) ?_
              repeat (any_goals (first | go_big_quiet_step ( fail) | quiet_step ( fail) | (refine wpQuiet_step (fun K hK => ?_); go_simp; split <;> (refine hK _ ?_; clear hK K))))
              all_goals (refine wpQuiet_nil ?_; intro _ hw'; obtain ⟨nq, hw''⟩ := hw'; subst hw'')
              all_goals go_wp2_with fail
              go_roundw
              case rel => exact ⟨k + 1, by omega, by go_num, hq.trans (by (repeat (first | assumption | exact Q.refl _ | refine Q.alloc ?_ _ | refine Q.drewN ?_ _ | refine Q.drew ?_)))⟩
              case measure => simp [intOf]; omega
          · obtain rfl : k = M := by omega
            go_wp2_with fail
            go_ret
            exact ⟨rfl, QW.trans hq⟩
    · have hcn : (stsC x y z u D t fl != 0) = true := by simpa using h0
      unfold RSt at k1 k2
      generalize stsL x y z u D t fl = L at *
      generalize stsC x y z u D t fl = C at *
      generalize L.length = M at *
      have K1 := Lib.hid k1
      have K2 := Lib.hid k2
      clear k1 k2 h0
      go_wp2_with fail
      refine (K1.out _ hx).mono ?_
      rintro e w2 ⟨A1, c1, rfl, o1, q2⟩
      replace BL := BL.q q2
      replace QW := QW.trans q2
      replace hx := hx.q q2
      have cL := BL.cell
      go_wp2_with fail
      refine (K2.out _ hx).mono ?_
      rintro e w3 ⟨A2, c2, rfl, o2, q3⟩
      go_wp2_with fail
      go_ret
      exact ⟨rfl, QW.trans q3⟩
end Go.Proofs.Ytpdcehmnegagmaa
