/- Walks: the boats that are late, as the program and the reference list them, for all arguments. No condition. -/
import Derived.Test.YthlfadkpeogajaaLim
import Derived.Outline
namespace Go.Proofs.Ythlfadkpeogajaa
open Go.RowKit Go.WideShapes Go.ChangeShapes
def lateB (t : Int) (xs : List Int) (k : Nat) : Bool := decide (el xs (k * 3 + 1) = 0 ∧ t < el xs (k * 3 + 2))
def lateTo (t : Int) (xs : List Int) (k : Nat) : List Int := ((List.range k).filter (lateB t xs)).map Int.ofNat
theorem lateTo_yes {t : Int} {xs : List Int} {k : Nat} (h : lateB t xs k = true) : lateTo t xs (k + 1) = lateTo t xs k ++ [(k : Int)] := by simp [lateTo, List.range_succ, h]
theorem lateTo_no {t : Int} {xs : List Int} {k : Nat} (h : lateB t xs k = false) : lateTo t xs (k + 1) = lateTo t xs k := by simp [lateTo, List.range_succ, h]
theorem lateTo_len (t : Int) (xs : List Int) (k : Nat) : (lateTo t xs k).length ≤ k := by
  unfold lateTo
  rw [List.length_map]
  exact Nat.le_trans (List.length_filter_le _ _) (by simp)
def lbL (a b c : Int) (xs : List Int) (n : Nat) : List Int := if lmC a b c xs n = 0 then lateTo (ftm xs n + c) xs n else []
theorem lbL_no {a b c : Int} {xs : List Int} {n : Nat} (h : lmC a b c xs n ≠ 0) : lbL a b c xs n = [] := by simp [lbL, h]
theorem lbL_yes {a b c : Int} {xs : List Int} {n : Nat} (h : lmC a b c xs n = 0) : lbL a b c xs n = lateTo (ftm xs n + c) xs n := by simp [lbL, h]
theorem lbL_len (a b c : Int) (xs : List Int) (n : Nat) : (lbL a b c xs n).length ≤ 16 := by
  unfold lbL
  split
  · rename_i h
    have h1 := (finC_zero (lmC_zero h).2).1
    have h2 := lateTo_len (ftm xs n + c) xs n
    omega
  · simp
theorem spec_l15Late (a b c : Int) (A : Option Addr) (n d : Nat) (xs : List Int) (k : Nat) (w : World) (ha : Rd w A xs) (hn : xs.length = n * 3) (hn2 : n ≤ 9223372036854775807) (hk : k < n) (hl : isLim a b c = true) (hf : finC xs n = 0) :
    Calls Try.prog 79 #[.agg #[.int .i64 a, .int .i64 b, .int .i64 c], .slice A n d, .int .i64 k] w fun e w' => e = .returned (.bool (lateB (ftm xs n + c) xs k)) ∧ Q w w' := by
  have k0 := spec_l16First A n d xs
  have hbd := bestF_bd xs n
  have hF := bestF_facts xs n
  have hL := isLim_bd hl
  have hT := ftm_bd hf
  have HF := Lib.hid (And.intro hl hf)
  clear hl hf
  by_cases h0 : el xs (k * 3 + 1) = 0
  · obtain ⟨m, hm⟩ := Int.eq_ofNat_of_zero_le (show 0 ≤ bestF xs n by
      rcases Int.lt_or_le (bestF xs n) 0 with h | h
      · exact absurd h0 (hF.1 h k hk)
      · exact h)
    have hmn : m < n := by omega
    have e0 := ftm_pos hm
    have hb1 := hT.1
    have hb2 := hT.2.1
    rw [e0] at hb1 hb2
    rw [hm] at k0
    have HE : Hid (lateB (ftm xs n + c) xs k = decide (el xs (m * 3 + 2) + c < el xs (k * 3 + 2))) := Lib.hid (by simp [lateB, h0, e0])
    have K0 := Lib.hid k0
    have hb : (el xs (k * 3 + 1) == 0) = true := by simpa using h0
    clear k0 hF hT e0 h0 hm hbd
    have hkI : (k : Int) < (n : Int) := by omega
    have hmI : (m : Int) < (n : Int) := by omega
    go_enter Try.func79, Try.ntmps79
    go_wp2_with (go_at_call 78; refine (K0.out _ (ha.q (by (repeat (first | assumption | exact Q.refl _ | refine Q.alloc ?_ _ | refine Q.drewN ?_ _ | refine Q.drew ?_)))) hn hn2).mono ?_; rintro e w1 ⟨rfl, q1⟩; have Q1 : Q w w1 := Q.trans (by (repeat (first | assumption | exact Q.refl _ | refine Q.alloc ?_ _ | refine Q.drewN ?_ _ | refine Q.drew ?_))) q1; have c1 := q1.box; obtain ⟨bl, o, hA, g0, g1, g2⟩ := (ha.q Q1).at3 hn hk; subst hA; obtain ⟨bl2, o2, hA2, j0, j1, j2⟩ := (ha.q Q1).at3 hn hmn; cases hA2)
    refine wp_region_quiet_lit (by kernel_rfl) (by kernel_rfl) ?_
    repeat (any_goals (first | go_big_quiet_step ( fail) | quiet_step ( fail) | (refine wpQuiet_step (fun K hK => ?_); go_simp; split <;> (refine hK _ ?_; clear hK K))))
    all_goals (refine wpQuiet_nil ?_; intro _ hw'; obtain ⟨nq, hw''⟩ := hw'; subst hw'')
    go_wp2_with fail
    go_ret
    exact ⟨ret_bool HE.out.symm, Q1.drewN _⟩
  · have HE : Hid (lateB (ftm xs n + c) xs k = false) := Lib.hid (by simp [lateB, h0])
    have K0 := Lib.hid k0
    have hb : (el xs (k * 3 + 1) == 0) = false := by simpa using h0
    clear k0 hF hT h0 hbd
    have hkI : (k : Int) < (n : Int) := by omega
    go_enter Try.func79, Try.ntmps79
    go_wp2_with (go_at_call 78; refine (K0.out _ (ha.q (by (repeat (first | assumption | exact Q.refl _ | refine Q.alloc ?_ _ | refine Q.drewN ?_ _ | refine Q.drew ?_)))) hn hn2).mono ?_; rintro e w1 ⟨rfl, q1⟩; have Q1 : Q w w1 := Q.trans (by (repeat (first | assumption | exact Q.refl _ | refine Q.alloc ?_ _ | refine Q.drewN ?_ _ | refine Q.drew ?_))) q1; have c1 := q1.box; obtain ⟨bl, o, hA, g0, g1, g2⟩ := (ha.q Q1).at3 hn hk; subst hA)
    refine wp_region_quiet_lit (by kernel_rfl) (by kernel_rfl) ?_
    repeat (any_goals (first | go_big_quiet_step ( fail) | quiet_step ( fail) | (refine wpQuiet_step (fun K hK => ?_); go_simp; split <;> (refine hK _ ?_; clear hK K))))
    all_goals (refine wpQuiet_nil ?_; intro _ hw'; obtain ⟨nq, hw''⟩ := hw'; subst hw'')
    go_wp2_with fail
    go_ret
    exact ⟨ret_bool HE.out.symm, Q1.drewN _⟩
set_option maxHeartbeats 1000000 in
theorem impl_LateBoats (a b c : Int) (A : Option Addr) (n d : Nat) (xs : List Int) (w : World) (ha : Rd w A xs) (hn : xs.length = n * 3) (hn2 : n ≤ 9223372036854775807) :
    Calls Try.prog 43 #[.agg #[.int .i64 a, .int .i64 b, .int .i64 c], .slice A n d] w (RS w 2 1 (lbL a b c xs n).length (lbL a b c xs n) (lmC a b c xs n)) := by
  by_cases hC : lmC a b c xs n = 0
  · obtain ⟨hl, hf⟩ := lmC_zero hC
    have h16 := (finC_zero hf).1
    have hL := isLim_bd hl
    have hT := ftm_bd hf
    rw [lbL_yes hC]
    have kT := impl_firstTime A n d xs
    obtain ⟨f, hft⟩ : ∃ f, f = ftm xs n := ⟨_, rfl⟩
    rw [← hft] at kT hT ⊢
    have hT1 := hT.1
    have hT2 := hT.2.1
    have k0 := impl_limitsCode a b c A n d xs
    rw [hC] at k0 ⊢
    have K0 := Lib.hid k0
    have KT := Lib.hid kT
    clear k0 kT hC hl hf hft hT
    go_enter Try.func43, Try.ntmps43
    go_wp2_with (first | (go_at_call 80; refine (K0.out _ (ha.q (by (repeat (first | assumption | exact Q.refl _ | refine Q.alloc ?_ _ | refine Q.drewN ?_ _ | refine Q.drew ?_)))) hn hn2).mono ?_; rintro e w1 ⟨rfl, q1⟩; have Q1 : Q w w1 := Q.trans (by (repeat (first | assumption | exact Q.refl _ | refine Q.alloc ?_ _ | refine Q.drewN ?_ _ | refine Q.drew ?_))) q1; have B1 := (Blk.new _ _ _).q q1) | (go_at_call 75; refine (KT.out _ ((ha.q Q1).q (by (repeat (first | assumption | exact Q.refl _ | refine Q.alloc ?_ _ | refine Q.drewN ?_ _ | refine Q.drew ?_)))) hn hn2).mono ?_; rintro e w2 ⟨rfl, q2⟩))
    have qe : Q w1 w2 := Q.trans (by (repeat (first | assumption | exact Q.refl _ | refine Q.alloc ?_ _ | refine Q.drewN ?_ _ | refine Q.drew ?_))) q2
    have o2 : OwnL w2 w1.heap.size 2 1 (.slice (some ⟨w1.heap.size, 0, none⟩) 0 0) [] := (OwnL.new w1 _ _ (Nat.le_refl _)).q q2
    go_loopw [7, 22] (fun v i wr => ∃ k : Nat, k ≤ n ∧ i = .int .i64 k ∧ OwnL wr w1.heap.size 2 1 v (lateTo (f + c) xs k) ∧ Q w1 wr) (fun _ i _ => n - (intOf i).toNat)
    case atStart => exact ⟨0, by omega, rfl, o2, qe⟩
    case round =>
      obtain ⟨k, hk, rfl, ⟨A1, m, d1, rfl, hown⟩, hq⟩ := hrel
      have hlen : m ≤ k := by have := hown.len; have := lateTo_len (f + c) xs k; omega
      have c2 := (B1.q hq).cell
      have hz := (B1.q hq).lt
      by_cases hlt : k < n
      · obtain ⟨bl, o, rfl, g0, g1, g2⟩ := (ha.q (Q1.trans hq)).at3 hn hlt
        by_cases h0 : el xs (k * 3 + 1) = 0
        · have hb : (el xs (k * 3 + 1) == 0) = true := by simpa using h0
          have hB2 : Hid (lateB (f + c) xs k = decide (f + c < el xs (k * 3 + 2))) := Lib.hid (by simp [lateB, h0])
          clear h0
          by_cases hless : f + c < el xs (k * 3 + 2)
          · go_wp2_with (at_builtin; refine appK elInt64 rfl _ _ rfl [(k : Int)] rfl (hown.q (by (repeat (first | assumption | exact Q.refl _ | refine Q.alloc ?_ _ | refine Q.drewN ?_ _ | refine Q.drew ?_)))) rfl (by simp) rfl _ _ rfl (by omega) (Q.size (Q.trans hq (by (repeat (first | assumption | exact Q.refl _ | refine Q.alloc ?_ _ | refine Q.drewN ?_ _ | refine Q.drew ?_))))) ?_; intro A' c' w' hown' hg' hgr')
            go_roundw
            case rel => exact ⟨k + 1, by omega, by go_num, by rw [lateTo_yes (by rw [hB2.out]; simpa using hless)]; exact ⟨_, _, _, rfl, hown'⟩, Q.mark (Q.trans hq (by (repeat (first | assumption | exact Q.refl _ | refine Q.alloc ?_ _ | refine Q.drewN ?_ _ | refine Q.drew ?_)))) (hown.q (by (repeat (first | assumption | exact Q.refl _ | refine Q.alloc ?_ _ | refine Q.drewN ?_ _ | refine Q.drew ?_)))) (Nat.le_refl _) hg'⟩
            case measure => simp [intOf]; omega
          · go_wp2_with fail
            go_roundw
            case rel => exact ⟨k + 1, by omega, by go_num, by rw [lateTo_no (by rw [hB2.out]; simpa using hless)]; exact ⟨_, _, _, rfl, hown.q (by (repeat (first | assumption | exact Q.refl _ | refine Q.alloc ?_ _ | refine Q.drewN ?_ _ | refine Q.drew ?_)))⟩, hq.trans (by (repeat (first | assumption | exact Q.refl _ | refine Q.alloc ?_ _ | refine Q.drewN ?_ _ | refine Q.drew ?_)))⟩
            case measure => simp [intOf]; omega
        · have hb : (el xs (k * 3 + 1) == 0) = false := by simpa using h0
          have hB2 : Hid (lateB (f + c) xs k = false) := Lib.hid (by simp [lateB, h0])
          clear h0
          go_wp2_with fail
          go_roundw
          case rel => exact ⟨k + 1, by omega, by go_num, by rw [lateTo_no hB2.out]; exact ⟨_, _, _, rfl, hown.q (by (repeat (first | assumption | exact Q.refl _ | refine Q.alloc ?_ _ | refine Q.drewN ?_ _ | refine Q.drew ?_)))⟩, hq.trans (by (repeat (first | assumption | exact Q.refl _ | refine Q.alloc ?_ _ | refine Q.drewN ?_ _ | refine Q.drew ?_)))⟩
          case measure => simp [intOf]; omega
      · obtain rfl : k = n := by omega
        go_wp2_with fail
        go_ret2
        exact RS.mk' (hown.mono Q1.size) (Q1.trans hq) (by simp) (by decide)
  · rw [lbL_no hC]
    have k0 := impl_limitsCode a b c A n d xs
    have K0 := Lib.hid k0
    have hb : (lmC a b c xs n != 0) = true := by simpa using hC
    clear k0 hC
    go_enter Try.func43, Try.ntmps43
    go_wp2_with (go_at_call 80; refine (K0.out _ (ha.q (by (repeat (first | assumption | exact Q.refl _ | refine Q.alloc ?_ _ | refine Q.drewN ?_ _ | refine Q.drew ?_)))) hn hn2).mono ?_; rintro e w1 ⟨rfl, q1⟩; have Q1 : Q w w1 := Q.trans (by (repeat (first | assumption | exact Q.refl _ | refine Q.alloc ?_ _ | refine Q.drewN ?_ _ | refine Q.drew ?_))) q1)
    go_ret2
    exact RS.nil _ _ _ _ _ Q1
end Go.Proofs.Ythlfadkpeogajaa
