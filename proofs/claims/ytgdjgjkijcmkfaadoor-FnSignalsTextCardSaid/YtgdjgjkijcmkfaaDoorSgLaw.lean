/- Walks: the law that a log is recovered from its text. Condition: what the library's variables hold (Env). -/
import Derived.Test.YtgdjgjkijcmkfaaDoorSgI
import Derived.Test.YtgdjgjkijcmkfaaDoorSgDa
import Derived.Test.YtgdjgjkijcmkfaaDoorLk
namespace Go.Proofs.YtgdjgjkijcmkfaaDoor
open Go.RowKit Go.WideShapes Go.ChangeShapes
theorem sgR_of {xs : List Int} {n : Nat} (hn : xs.length = n * 2) : ∃ ys N, SigR (sgT xs n) ys N true ∧ (sigOk xs n = true → ys = xs ∧ N = n) ∧ (sigOk xs n = false → N = 0 ∧ ys = []) := by
  cases h : sigOk xs n
  · exact ⟨[], 0, Or.inl ⟨rfl, rfl, rfl, by rw [sgT_no h]; rfl⟩, fun h => by simp at h, fun _ => ⟨rfl, rfl⟩⟩
  · exact ⟨xs, n, Or.inl ⟨rfl, hn, h, rfl⟩, fun _ => ⟨rfl, rfl⟩, fun h => by simp at h⟩
theorem sgT_le {xs : List Int} {n : Nat} : (sgT xs n).size ≤ 1048576 := by
  cases h : sigOk xs n
  · rw [sgT_no h]; decide
  · rw [sgT_yes h]
    have h1 := sgP_le h n (Nat.le_refl _)
    have h2 := sig_n h
    omega
set_option maxRecDepth 100000 in
set_option maxHeartbeats 4000000 in
theorem law_FnSignalsText (A : Option Addr) (n c : Nat) (hc : n ≤ c ∧ c ≤ maxLen) (w : World) (ha : Rd8 w A n) (hE : Env w) :
    Calls Tryd.prog 8 #[.slice A n c] w fun e w' => e = .returned (.bool true) ∧ Below w.heap.size w w' := by
  have hn : n ≤ 9223372036854775807 := by unfold maxLen at hc; omega
  clear hc
  have K0 := Lib.hid (fun wv => big_any A n c wv hn)
  by_cases h4 : 4096 < n
  · rw [decide_eq_true h4] at K0
    go_enter Tryd.func8, Tryd.ntmps8
    go_wp2_with (go_at_call 33; refine (K0.out _).mono ?_; rintro e w' ⟨rfl, rfl⟩)
    go_ret
    exact ⟨rfl, Q.refl _⟩
  · rw [decide_eq_false h4] at K0
    replace hn : n ≤ 140737488355327 := by omega
    have K1 := Lib.hid (fun wv (h : Rd8 wv A n) => spec_DrawSignalsText A n c wv h hn)
    clear h4
    go_enter Tryd.func8, Tryd.ntmps8
    go_wp2_with (go_at_call 33; refine (K0.out _).mono ?_; rintro e w' ⟨rfl, rfl⟩)
    refine (K1.out _ ha).mono ?_
    rintro e w1 ⟨B, m, d, xs, rfl, rb, hm, hm2, q1⟩
    have E1 := hE.q q1
    clear K0 K1
    obtain ⟨ys, N, hR, hyes, hno⟩ := sgR_of hm
    have hsz : (sgT xs m).size ≤ 1048576 := sgT_le
    have K2 := Lib.hid (fun wv (h : Rd wv B xs) (hE : Env wv) => impl_SignalsText B m d xs wv h hm (by omega) hE.tbl)
    have K3 := Lib.hid (fun wv (h : Rd wv B xs) => spec_SignalsText B m d xs wv h hm (by omega))
    have K4 := Lib.hid (fun wv (h : Env wv) => impl_ReadSignals _ _ _ _ hR hsz wv h)
    have K5 := Lib.hid (fun wv (h : Rd wv B xs) => spec_IsSignals B m d xs wv h hm (by omega))
    have HM := Lib.hid hm
    clear hR hsz hm
    generalize sgT xs m = S at *
    cases hl : sigOk xs m
    · obtain ⟨rfl, rfl⟩ := hno hl
      rw [hl] at K5
      clear hyes hno
      go_wp2_with fail
      refine (K2.out _ rb E1).mono ?_
      rintro e w2 ⟨rfl, q2⟩
      go_wp2_with fail
      refine (K3.out _ (rb.q q2)).mono ?_
      rintro e w3 ⟨rfl, q3⟩
      go_wp2_with fail
      refine (K4.out _ ((E1.q q2).q q3)).mono ?_
      rintro e w4 ⟨A4, c4, rfl, o4, q4⟩
      go_wp2_with fail
      refine (K5.out _ (((rb.q q2).q q3).q q4)).mono ?_
      rintro e w5 ⟨rfl, q5⟩
      go_wp2_with fail
      go_ret
      exact ⟨rfl, ((((q1.trans q2).trans q3).trans q4).trans q5)⟩
    · obtain ⟨rfl, rfl⟩ := hyes hl
      rw [hl] at K5
      clear hyes hno
      go_wp2_with fail
      refine (K2.out _ rb E1).mono ?_
      rintro e w2 ⟨rfl, q2⟩
      go_wp2_with fail
      refine (K3.out _ (rb.q q2)).mono ?_
      rintro e w3 ⟨rfl, q3⟩
      go_wp2_with fail
      refine (K4.out _ ((E1.q q2).q q3)).mono ?_
      rintro e w4 ⟨A4, c4, rfl, o4, q4⟩
      go_wp2_with fail
      refine (K5.out _ (((rb.q q2).q q3).q q4)).mono ?_
      rintro e w5 ⟨rfl, q5⟩
      have r4 := o4.rd.q q5
      have r5 := (((rb.q q2).q q3).q q4).q q5
      have Q5 := (((q1.trans q2).trans q3).trans q4).trans q5
      clear o4 rb E1 K2 K3 K4 K5 q1 q2 q3 q4 q5
      go_wp2_with fail
      go_loopw [7] (fun i wr => ∃ k : Nat, k ≤ N ∧ i = .int .i64 k ∧ Q w5 wr) (fun i _ => N - (intOf i).toNat)
      case atStart => exact ⟨0, Nat.zero_le _, rfl, Q.refl _⟩
      case round =>
        obtain ⟨k, hk, rfl, hq⟩ := hrel
        by_cases hlt : k < N
        · have hkI : (k : Int) < (N : Int) := by omega
          obtain ⟨b3, o3, rfl, u0, u1⟩ := (r4.q hq).at2 HM.out hlt
          obtain ⟨b5, o5, rfl, v0, v1⟩ := (r5.q hq).at2 HM.out hlt
          have lu0 := later_cell u0
          have lu1 := later_cell u1
          have lv0 := later_cell v0
          have lv1 := later_cell v1
          clear u0 u1 v0 v1
          go_wp2_with fail
          refine wp_region_later_lit (by kernel_rfl) (by kernel_rfl) ?_
          repeat (any_goals (first | go_big_quiet_step (fail) | quiet_step (fail) | (refine wpQuiet_step (fun K hK => ?_); go_simp; split <;> (refine hK _ ?_; clear hK K))))
          all_goals (refine wpQuiet_nil ?_; rintro _ ⟨⟨w9, q9⟩, rfl⟩; try dsimp only)
          all_goals go_wp2_with fail
          all_goals go_roundw
          case rel => exact ⟨k + 1, by omega, by go_num, hq.trans q9⟩
          case measure => simp [intOf]; omega
        · obtain rfl : k = N := by omega
          go_wp2_with fail
          go_ret
          exact ⟨rfl, Q5.trans hq⟩
end Go.Proofs.YtgdjgjkijcmkfaaDoor
