/- Walks: the text of a list of signals, as the reference writes it. No condition. -/
import Derived.Test.YtgdjgjkijcmkfaaDoorSgT
import Derived.Test.YtgdjgjkijcmkfaaDoorTail
namespace Go.Proofs.YtgdjgjkijcmkfaaDoor
open Go.RowKit Go.WideShapes Go.ChangeShapes Go.Deep
theorem ba_nil (a : ByteArray) : (⟨#[]⟩ : ByteArray) ++ a = a := by
  rw [← bs_eta a, show (⟨#[]⟩ : ByteArray) = bs [] from rfl, bs_app]
  rfl
theorem sgP_step (xs : List Int) (k : Nat) : sgP xs (k + 1) = (if k = 0 then ⟨#[]⟩ else sgP xs k ++ bs [32]) ++ wordS (el xs (k * 2)) ++ bs [64] ++ nmS (el xs (k * 2 + 1)) := by
  cases k with
  | zero =>
    rw [if_pos rfl, ba_nil]
    rfl
  | succ j =>
    rw [if_neg (by omega)]
    show sgP xs (j + 1) ++ bs [32] ++ sg1 xs (j + 1) = _
    unfold sg1
    simp only [ba_assoc]
set_option maxRecDepth 100000 in
set_option maxHeartbeats 4000000 in
theorem spec_SignalsText (A : Option Addr) (n c : Nat) (xs : List Int) (w : World) (ha : Rd w A xs) (hn : xs.length = n * 2) (hn2 : n ≤ 9223372036854775807) :
    Calls Tryd.prog 16 #[.slice A n c] w fun e w' => e = .returned (.string (sgT xs n)) ∧ Q w w' := by
  have K0 := Lib.hid (fun wv (h : Rd wv A xs) => spec_IsSignals A n c xs wv h hn hn2)
  cases hok : sigOk xs n
  · rw [hok] at K0
    have HE : Hid (sgT xs n = ⟨#[]⟩) := Lib.hid (by unfold sgT; rw [hok]; rfl)
    by_cases h0 : n = 0
    · subst h0
      go_enter Tryd.func16, Tryd.ntmps16
      go_wp2_with fail
      go_loopw [3, 4] (fun v i wr => v = .string ⟨#[]⟩ ∧ i = .int .i64 0 ∧ wr = w) (fun _ _ _ => 0)
      case atStart => exact ⟨rfl, rfl, rfl⟩
      case round =>
        obtain ⟨rfl, rfl, rfl⟩ := hrel
        go_wp2_with fail
        go_ret
        exact ⟨by rw [HE.out]; rfl, Q.refl _⟩
    · have h0I : (0 : Int) < (n : Int) := by omega
      go_enter Tryd.func16, Tryd.ntmps16
      go_wp2_with fail
      go_loopw [3, 4] (fun v i wr => v = .string ⟨#[]⟩ ∧ i = .int .i64 0 ∧ wr = w) (fun _ _ _ => 0)
      case atStart => exact ⟨rfl, rfl, rfl⟩
      case round =>
        obtain ⟨rfl, rfl, rfl⟩ := hrel
        go_wp2_with fail
        refine (K0.out _ ha).mono ?_
        rintro e w2 ⟨rfl, q2⟩
        go_wp2_with fail
        go_ret
        exact ⟨by rw [HE.out]; rfl, q2⟩
  · rw [hok] at K0
    have HE : Hid (sgT xs n = sgP xs n) := Lib.hid (by unfold sgT; rw [hok]; rfl)
    have HOK := Lib.hid hok
    have hn40 := sig_n hok
    have HN := Lib.hid hn
    have hnI : (n : Int) ≤ 40 := by omega
    clear hok hn hn2
    go_enter Tryd.func16, Tryd.ntmps16
    go_wp2_with fail
    go_loopw [3, 4] (fun v i wr => ∃ k : Nat, k ≤ n ∧ i = .int .i64 (k : Nat) ∧ v = .string (sgP xs k) ∧ Q w wr) (fun _ i _ => n - (intOf i).toNat)
    case atStart => exact ⟨0, by omega, rfl, rfl, Q.refl _⟩
    case round =>
      obtain ⟨k, hk, rfl, rfl, hq⟩ := hrel
      by_cases hlt : k < n
      · have hltI : (k : Int) < (n : Int) := by omega
        have hz := sgP_le HOK.out k hk
        have HP := Lib.hid (sgP_step xs k)
        obtain ⟨hk1, hk2⟩ := sig_at HOK.out hlt
        obtain ⟨b, o, rfl, _, _⟩ := (ha.q hq).at2 HN.out hlt
        go_wp2_with fail
        refine (K0.out _ (ha.q hq)).mono ?_
        rintro e w2 ⟨rfl, q2⟩
        obtain ⟨b', o', hb', g0, g1⟩ := (ha.q (hq.trans q2)).at2 HN.out hlt
        injection hb' with hb'
        injection hb' with hb1 hb2
        subst hb1 hb2
        have Q2 := hq.trans q2
        generalize el xs (k * 2) = x0 at *
        generalize el xs (k * 2 + 1) = x1 at *
        have hs1 := wordS_le x0
        have hs2 := nmS_le (n := x1) (by omega)
        have K1 := Lib.hid (fun wv => spec_l13Word x0 hk1 wv)
        have K2 := Lib.hid (fun wv => spec_num x1 (by omega) wv)
        generalize wordS x0 = W1 at *
        generalize nmS x1 = N1 at *
        have l0 := later_cell g0
        have l1 := later_cell g1
        by_cases h0 : k = 0
        · subst h0
          have hs3 : (sgP xs 0).size ≤ 1200 := by omega
          have HP2 := Lib.hid (show sgP xs (0 + 1) = sgP xs 0 ++ W1 ++ bs [64] ++ N1 by rw [HP.out, if_pos rfl]; rfl)
          simp only [Nat.zero_mul, Nat.add_zero, Nat.zero_add] at g0 g1
          clear l0 l1
          have l0 := later_cell g0
          have l1 := later_cell g1
          generalize sgP xs 0 = T0 at *
          clear HP hz
          go_wp2_with fail
          refine wp_region_later_lit (by kernel_rfl) (by kernel_rfl) ?_
          repeat (any_goals (first | go_big_quiet_step ((first | (go_at_call 51; with_reducible exact later_call (K1.out _)) | (go_at_call 52; with_reducible exact later_call (K2.out _)))) | quiet_step ((first | (go_at_call 51; with_reducible exact later_call (K1.out _)) | (go_at_call 52; with_reducible exact later_call (K2.out _)))) | (refine wpQuiet_step (fun K hK => ?_); go_simp; split <;> (refine hK _ ?_; clear hK K))))
          all_goals (refine wpQuiet_nil ?_; rintro _ ⟨⟨w3, q3⟩, rfl⟩; try dsimp only)
          all_goals go_wp2_with fail
          go_roundw
          case rel => exact ⟨0 + 1, by omega, by go_num, by rw [HP2.out]; rfl, Q2.trans q3⟩
          case measure => simp [intOf]; omega
        · have h0I : (0 : Int) < (k : Int) := by omega
          have hs3 : (sgP xs k).size ≤ 1200 := by omega
          have HP2 := Lib.hid (show sgP xs (k + 1) = sgP xs k ++ bs [32] ++ W1 ++ bs [64] ++ N1 by rw [HP.out, if_neg h0])
          generalize sgP xs k = T0 at *
          clear HP hz
          go_wp2_with fail
          refine wp_region_later_lit (by kernel_rfl) (by kernel_rfl) ?_
          repeat (any_goals (first | go_big_quiet_step ((first | (go_at_call 51; with_reducible exact later_call (K1.out _)) | (go_at_call 52; with_reducible exact later_call (K2.out _)))) | quiet_step ((first | (go_at_call 51; with_reducible exact later_call (K1.out _)) | (go_at_call 52; with_reducible exact later_call (K2.out _)))) | (refine wpQuiet_step (fun K hK => ?_); go_simp; split <;> (refine hK _ ?_; clear hK K))))
          all_goals (refine wpQuiet_nil ?_; rintro _ ⟨⟨w3, q3⟩, rfl⟩; try dsimp only)
          all_goals go_wp2_with fail
          go_roundw
          case rel => exact ⟨k + 1, by omega, by go_num, by rw [HP2.out]; rfl, Q2.trans q3⟩
          case measure => simp [intOf]; omega
      · obtain rfl : k = n := by omega
        go_wp2_with fail
        go_ret
        exact ⟨by rw [HE.out]; rfl, hq⟩
end Go.Proofs.YtgdjgjkijcmkfaaDoor
