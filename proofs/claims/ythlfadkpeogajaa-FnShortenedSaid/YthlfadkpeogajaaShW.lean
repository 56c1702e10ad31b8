/- Walks: the law on shortened races. No condition. -/
import Derived.Test.YthlfadkpeogajaaDrS
import Derived.Test.YthlfadkpeogajaaShP
import Derived.Test.YthlfadkpeogajaaLk
namespace Go.Proofs.Ythlfadkpeogajaa
open Go.RowKit Go.WideShapes Go.ChangeShapes
theorem sumTo_m {xs : List Int} : ∀ j : Nat, (∀ q, q < j → 1 ≤ el xs q ∧ el xs q ≤ 1000000) → 0 ≤ sumTo xs j ∧ sumTo xs j ≤ j * 1000000
  | 0, _ => ⟨by simp [sumTo], by simp [sumTo]⟩
  | j + 1, h => by
    have h1 := sumTo_m j (fun q hq => h q (by omega))
    have h2 := h j (by omega)
    rw [sumTo]
    omega
theorem fst6_m {m : Nat} {xs : List Int} (j : Nat) (h : ∀ q, q < j → 1 ≤ el xs q ∧ el xs q ≤ 1000000) : 0 ≤ fst6 m xs j ∧ fst6 m xs j ≤ j * 1000000 := by
  unfold fst6
  split
  · exact sumTo_m j h
  · have := sumTo_m m (fun q hq => h q (by omega))
    omega
set_option maxRecDepth 100000 in
set_option maxHeartbeats 4000000 in
theorem law_FnShortened (A : Option Addr) (n c : Nat) (hc : n ≤ c ∧ c ≤ maxLen) (w : World) (ha : Rd8 w A n) :
    Calls Try.prog 7 #[.slice A n c] w fun e w' => e = .returned (.bool true) ∧ Below w.heap.size w w' := by
  have hn : n ≤ 9223372036854775807 := by unfold maxLen at hc; omega
  clear hc
  have K0 := Lib.hid (fun wv => big_any A n c wv hn)
  by_cases h4 : 4096 < n
  · rw [decide_eq_true h4] at K0
    go_enter Try.func7, Try.ntmps7
    go_wp2_with (go_at_call 11; refine (K0.out _).mono ?_; rintro e w' ⟨rfl, rfl⟩)
    go_ret
    exact ⟨rfl, Q.refl _⟩
  · rw [decide_eq_false h4] at K0
    replace hn : n ≤ 140737488355327 := by omega
    have K1 := Lib.hid (fun wv (h : Rd8 wv A n) => spec_DrawShortenAt A n c wv h hn)
    clear h4
    go_enter Try.func7, Try.ntmps7
    go_wp2_with (first | (go_at_call 11; refine (K0.out _).mono ?_; rintro e w' ⟨rfl, rfl⟩) | (go_at_call 37; refine (K1.out _ ha).mono ?_; rintro e w1 ⟨x, y, z, LA, N, d, xs, s, t, rfl, hx, hl, hN, q1⟩; refine Hid.out ?_))
    refine Lib.hid ?_
    clear K0 K1
    have B0 := Blk.new w1 25 #[.int .i64 x, .int .i64 y, .int .i64 z]
    have Q1 : Q w (w1.alloc (.cells #[.int .i64 x, .int .i64 y, .int .i64 z] 25)) := q1.alloc _
    replace hx := hx.q ((Q.refl w1).alloc (.cells #[.int .i64 x, .int .i64 y, .int .i64 z] 25))
    have k2 := fun wv (h : Rd wv LA xs) => impl_ShortenAt x y z LA N d xs s t wv h hl (by omega)
    have k3 := fun wv (h : Rd wv LA xs) => spec_ShortenAt x y z LA N d xs s t wv h hl (by omega)
    clear q1
    have cB := B0.cell
    by_cases hC : shC x y z s t xs N = 0
    · obtain ⟨m, k, rfl, h1m, hV, hmk, hkN, hN9, ht1, ht2, hb1, hb2, hlegs, hle, hgt⟩ := sh_facts hC
      rw [hV, hC] at k2 k3
      have K2 := Lib.hid k2
      have K3 := Lib.hid k3
      clear k2 k3 hV hC
      have HG := Lib.hid hlegs
      have HLE := Lib.hid hle
      have HGT := Lib.hid hgt
      have HXL := Lib.hid hl
      clear hlegs hle hgt hl
      have hNI : (N : Int) ≤ 9 := by omega
      have hkI : (k : Int) ≤ (N : Int) := by omega
      have hmI : (m : Int) < (k : Int) := by omega
      go_wp2_with (first | (have q30 := q3; go_at_call 39; refine (K3.out _ (hx.q q3)).mono ?_; rintro e w4 ⟨rfl, q4⟩; have cB4 := ((B0.q q3).q q4).cell; refine Hid.out ?_) | (go_at_call 38; refine (K2.out _ hx).mono ?_; rintro e w3 ⟨rfl, q3⟩; have cB3 := (B0.q q3).cell))
      refine Lib.hid ?_
      have Q4 := (Q1.trans q3).trans q4
      replace hx := (hx.q q3).q q4
      clear cB3 cB K2 K3
      by_cases ht : 1000000 < t
      · go_wp2_with fail
        go_ret
        exact ⟨rfl, Q4⟩
      · by_cases hy : 1000000 < y
        · go_wp2_with fail
          go_ret
          exact ⟨rfl, Q4⟩
        · go_wp2_with fail
          go_loopw [11, 12, 13] (fun f u i wr => ∃ j : Nat, j ≤ k ∧ i = .int .i64 j ∧ u = .int .i64 (sumTo xs j) ∧ f = .int .i64 (fst6 m xs j) ∧ Hid (∀ q, q < j → 1 ≤ el xs q ∧ el xs q ≤ 1000000) ∧ wr = w4) (fun _ _ i _ => k - (intOf i).toNat)
          case atStart => exact ⟨0, Nat.zero_le _, rfl, rfl, by simp [fst6, sumTo], Lib.hid (fun q hq => absurd hq (by omega)), rfl⟩
          case round =>
            obtain ⟨j, hj, rfl, rfl, rfl, HQ, rfl⟩ := hrel
            obtain ⟨hS0, hS1⟩ := sumTo_m j HQ.out
            obtain ⟨hF0, hF1⟩ := fst6_m (m := m) j HQ.out
            by_cases hlt : j < k
            · have hjI : (j : Int) < (k : Int) := by omega
              have hjN : (j : Int) < (N : Int) := by omega
              obtain ⟨bl, o, rfl, g0⟩ := hx.at1 HXL.out (show j < N by omega)
              have hE := HG.out j (by omega)
              by_cases hbig : 1000000 < el xs j
              · generalize el xs j = E at *
                go_wp2_with fail
                go_ret
                exact ⟨rfl, Q4⟩
              · have HQ2 : Hid (∀ q, q < j + 1 → 1 ≤ el xs q ∧ el xs q ≤ 1000000) := Lib.hid (fun q hq => by
                  rcases Nat.lt_or_ge q j with h | h
                  · exact HQ.out q h
                  · obtain rfl : q = j := by omega
                    omega)
                have HSS : Hid (sumTo xs (j + 1) = sumTo xs j + el xs j) := Lib.hid rfl
                by_cases hjm : j < m
                · have HFS := Lib.hid (fst6_lt (xs := xs) hjm)
                  have hjmI : (j : Int) < (m : Int) := by omega
                  generalize el xs j = E at *
                  generalize sumTo xs j = S at *
                  generalize fst6 m xs j = F at *
                  go_wp2_with fail
                  go_roundw
                  case rel => exact ⟨j + 1, by omega, by go_num, by rw [HSS.out], by rw [HFS.out], HQ2, trivial⟩
                  case measure => simp [intOf]; omega
                · have HFS := Lib.hid (fst6_ge (xs := xs) hjm)
                  have hjmI : ¬ (j : Int) < (m : Int) := by omega
                  generalize el xs j = E at *
                  generalize sumTo xs j = S at *
                  generalize fst6 m xs j = F at *
                  go_wp2_with fail
                  go_roundw
                  case rel => exact ⟨j + 1, by omega, by go_num, by rw [HSS.out], by rw [HFS.out], HQ2, trivial⟩
                  case measure => simp [intOf]; omega
            · obtain rfl : j = k := by omega
              have HLE2 : Hid (t * sumTo xs j ≤ y * fst6 m xs j) := Lib.hid (by rw [fst6_end (by omega)]; exact HLE.out)
              have hp1 := mul_bd' (a := t) (x := sumTo xs j) (M := 1000000) (N := 9000000) ⟨by omega, by omega⟩ ⟨hS0, by omega⟩
              have hp2 := mul_bd' (a := y) (x := fst6 m xs j) (M := 1000000) (N := 9000000) ⟨by omega, by omega⟩ ⟨hF0, by omega⟩
              by_cases hjN : j < N
              · obtain ⟨bl, o, rfl, g0⟩ := hx.at1 HXL.out hjN
                have hjI : (j : Int) < (N : Int) := by omega
                have hE := HG.out j hjN
                have HGT2 : Hid (y * fst6 m xs j < t * (sumTo xs j + el xs j)) := Lib.hid (by rw [fst6_end (by omega)]; exact HGT.out hjN)
                by_cases hbig : 1000000 < el xs j
                · generalize el xs j = E at *
                  generalize sumTo xs j = S at *
                  generalize fst6 m xs j = F at *
                  have hle2 := HLE2.out
                  go_wp2_with fail
                  refine wp_region_quiet_lit (by kernel_rfl) (by kernel_rfl) ?_
                  repeat (any_goals (first | go_big_quiet_step ( fail) | quiet_step ( fail) | (refine wpQuiet_step (fun K hK => ?_); go_simp; split <;> (refine hK _ ?_; clear hK K))))
                  all_goals (refine wpQuiet_nil ?_; intro _ hw'; obtain ⟨nq, hw''⟩ := hw'; subst hw'')
                  all_goals go_wp2_with fail
                  all_goals go_ret
                  all_goals exact ⟨by first | rfl | exact ret_bool (by simp; omega), by (repeat (first | assumption | exact Q.refl _ | refine Q.alloc ?_ _ | refine Q.drewN ?_ _ | refine Q.drew ?_))⟩
                · have hp3 := mul_bd' (a := t) (x := sumTo xs j + el xs j) (M := 1000000) (N := 10000000) ⟨by omega, by omega⟩ ⟨by omega, by omega⟩
                  generalize el xs j = E at *
                  generalize sumTo xs j = S at *
                  generalize fst6 m xs j = F at *
                  have hle2 := HLE2.out
                  have hgt2 := HGT2.out
                  go_wp2_with fail
                  refine wp_region_quiet_lit (by kernel_rfl) (by kernel_rfl) ?_
                  repeat (any_goals (first | go_big_quiet_step ( fail) | quiet_step ( fail) | (refine wpQuiet_step (fun K hK => ?_); go_simp; split <;> (refine hK _ ?_; clear hK K))))
                  all_goals (refine wpQuiet_nil ?_; intro _ hw'; obtain ⟨nq, hw''⟩ := hw'; subst hw'')
                  all_goals go_wp2_with fail
                  all_goals go_ret
                  all_goals exact ⟨by first | rfl | exact ret_bool (by simp; omega), by (repeat (first | assumption | exact Q.refl _ | refine Q.alloc ?_ _ | refine Q.drewN ?_ _ | refine Q.drew ?_))⟩
              · obtain rfl : N = j := by omega
                generalize sumTo xs N = S at *
                generalize fst6 m xs N = F at *
                have hle2 := HLE2.out
                go_wp2_with fail
                refine wp_region_quiet_lit (by kernel_rfl) (by kernel_rfl) ?_
                repeat (any_goals (first | go_big_quiet_step ( fail) | quiet_step ( fail) | (refine wpQuiet_step (fun K hK => ?_); go_simp; split <;> (refine hK _ ?_; clear hK K))))
                all_goals (refine wpQuiet_nil ?_; intro _ hw'; obtain ⟨nq, hw''⟩ := hw'; subst hw'')
                all_goals go_wp2_with fail
                all_goals go_ret
                all_goals exact ⟨by first | rfl | exact ret_bool (by simp; omega), by (repeat (first | assumption | exact Q.refl _ | refine Q.alloc ?_ _ | refine Q.drewN ?_ _ | refine Q.drew ?_))⟩
    · obtain ⟨C, hCC⟩ : ∃ C, C = shC x y z s t xs N := ⟨_, rfl⟩
      obtain ⟨V, hVV⟩ : ∃ V, V = shV x y z s t xs N := ⟨_, rfl⟩
      rw [← hCC, ← hVV] at k2 k3
      rw [← hCC] at hC
      have hCb : (C != 0) = true := by simpa using hC
      have K2 := Lib.hid k2
      have K3 := Lib.hid k3
      clear k2 k3 hCC hC hVV
      go_wp2_with (first | (have q30 := q3; go_at_call 39; refine (K3.out _ (hx.q q3)).mono ?_; rintro e w4 ⟨rfl, q4⟩) | (go_at_call 38; refine (K2.out _ hx).mono ?_; rintro e w3 ⟨rfl, q3⟩; have cB3 := (B0.q q3).cell))
      go_ret
      exact ⟨rfl, (Q1.trans q3).trans q4⟩
end Go.Proofs.Ythlfadkpeogajaa
