/- Walks: the laws' own functions on slices of int64 (equal, mark, held), for all slices. No condition. -/
import Derived.Test.YtadljkdjlpmllaaSl
import Derived.Outline
namespace Go.Proofs.Ytadljkdjlpmllaa
open Go.RowKit Go.WideShapes Go.ChangeShapes

theorem take_eq_step {xs ys : List Int} {k : Nat} (hx : k < xs.length) (hy : k < ys.length) (h : xs.take k = ys.take k) (he : xs.getD k 0 = ys.getD k 0) : xs.take (k + 1) = ys.take (k + 1) := by
  rw [List.take_succ_eq_append_getElem hx, List.take_succ_eq_append_getElem hy, h]
  simp only [List.getD_eq_getElem?_getD, List.getElem?_eq_getElem hx, List.getElem?_eq_getElem hy, Option.getD_some] at he
  rw [he]
theorem ne_of_getD {xs ys : List Int} {k : Nat} (he : xs.getD k 0 ≠ ys.getD k 0) : xs ≠ ys := fun e => he (by rw [e])

theorem eqInt64S_any (A B : Option Addr) (n m c d : Nat) (xs ys : List Int) (w : World) (ha : Rd w A xs) (hb : Rd w B ys) (hn : xs.length = n) (hm : ys.length = m) (hn2 : n ≤ 9223372036854775807) :
    Calls Try.prog 9 #[.slice A n c, .slice B m d] w fun e w' => e = .returned (.bool (decide (xs = ys))) ∧ Q w w' := by
  by_cases hne : n = m
  · subst hne
    obtain ⟨b1, o1, hA, hca⟩ := ha
    obtain ⟨b2, o2, hB, hcb⟩ := hb
    have H1 := Lib.hid hn
    have H2 := Lib.hid hm
    rw [hn] at hA hca
    rw [hm] at hB hcb
    clear hn hm
    go_enter Try.func9, Try.ntmps9
    go_wp2_with fail
    go_loopw [5] (fun i wr => ∃ k : Nat, k ≤ n ∧ i = .int .i64 k ∧ xs.take k = ys.take k ∧ Q w wr) (fun i _ => n - (intOf i).toNat)
    case atStart => exact ⟨0, by omega, rfl, by simp, Q.refl _⟩
    case round =>
      obtain ⟨k, hk, rfl, ht, hq⟩ := hrel
      have HT := Lib.hid ht
      clear ht
      by_cases hlt : k < n
      · obtain rfl := hA (by omega)
        obtain rfl := hB (by omega)
        have h1 := hq.cell (hca k hlt)
        have h2 := hq.cell (hcb k hlt)
        clear hca hcb hA hB
        obtain ⟨x, hx⟩ : ∃ x, x = xs.getD k 0 := ⟨_, rfl⟩
        obtain ⟨y, hy⟩ : ∃ y, y = ys.getD k 0 := ⟨_, rfl⟩
        rw [← hx] at h1
        rw [← hy] at h2
        have HX := Lib.hid hx
        have HY := Lib.hid hy
        clear hx hy
        go_wp2_with fail
        refine wp_region_quiet_lit (by kernel_rfl) (by kernel_rfl) ?_
        repeat (any_goals (first | go_big_quiet_step ( fail) | quiet_step ( fail) | (refine wpQuiet_step (fun K hK => ?_); go_simp; split <;> (refine hK _ ?_; clear hK K))))
        all_goals (refine wpQuiet_nil ?_; intro _ hw'; obtain ⟨nq, hw''⟩ := hw'; subst hw'')
        all_goals go_wp2_with fail
        · go_ret
          exact ⟨ret_bool (by have h : xs ≠ ys := ne_of_getD (k := k) (by rw [← HX.out, ← HY.out]; simpa using ‹(x != y) = true›); simp [h]), hq.drewN _⟩
        · go_roundw
          case rel => exact ⟨k + 1, by omega, by go_num, take_eq_step (by rw [H1.out]; omega) (by rw [H2.out]; omega) HT.out (by rw [← HX.out, ← HY.out]; simpa using ‹(x != y) = false›), hq.drewN _⟩
          case measure => simp [intOf]; omega
      · obtain rfl : k = n := by omega
        go_wp2_with fail
        go_ret
        exact ⟨ret_bool (by have := HT.out; rw [List.take_of_length_le (by rw [H1.out]; omega), List.take_of_length_le (by rw [H2.out]; omega)] at this; simp [this]), hq⟩
  · go_enter Try.func9, Try.ntmps9
    go_wp2_with fail
    go_ret
    exact ⟨ret_bool (by have : xs ≠ ys := fun e => hne (by rw [← hn, ← hm, e]); simp [this]), Q.refl _⟩
theorem eqInt64S_same (A B : Option Addr) (n c d : Nat) (xs : List Int) (w : World) (ha : Rd w A xs) (hb : Rd w B xs) (hn : xs.length = n) (hn2 : n ≤ 9223372036854775807) :
    Calls Try.prog 9 #[.slice A n c, .slice B n d] w fun e w' => e = .returned (.bool true) ∧ Q w w' :=
  (eqInt64S_any A B n n c d xs xs w ha hb hn hn hn2).mono fun _ _ h => ⟨by rw [h.1]; simp, h.2⟩
theorem heldInt64S_any (A : Option Addr) (n c : Nat) (q : Int) (w : World) (ha : Rd w A (seqI q n)) (hq0 : 0 ≤ q) (hn : q + n ≤ 1152921504606846976) :
    Calls Try.prog 13 #[.slice A n c, .int .i64 q] w fun e w' => e = .returned (.int .i64 (q + n)) ∧ Q w w' := by
  obtain ⟨b, o, hA, hc⟩ := ha
  rw [seqI_len] at hA hc
  go_enter Try.func13, Try.ntmps13
  go_wp2_with fail
  go_loopw [1, 5] (fun q' i wr => ∃ k : Nat, k ≤ n ∧ i = .int .i64 k ∧ q' = .int .i64 (q + k) ∧ Q w wr) (fun _ i _ => n - (intOf i).toNat)
  case atStart => exact ⟨0, by omega, rfl, by simp, Q.refl _⟩
  case round =>
    obtain ⟨k, hk, rfl, rfl, hq⟩ := hrel
    by_cases hlt : k < n
    · obtain rfl := hA (by omega)
      have h1 := hq.cell (hc k hlt)
      rw [seqI_get q hlt] at h1
      clear hc hA
      go_wp2_with fail
      go_roundw
      case rel => exact ⟨k + 1, by omega, by go_num, by go_num, hq⟩
      case measure => simp [intOf]; omega
    · obtain rfl : k = n := by omega
      go_wp2_with fail
      go_ret
      exact ⟨rfl, hq⟩
theorem markInt64S_any (A : Option Addr) (n c B : Nat) (xs : List Int) (q : Int) (w : World) (ho : Own w B 2 1 (.slice A n c) n xs) (hq0 : 0 ≤ q) (hn : q + n ≤ 1152921504606846976) :
    Calls Try.prog 12 #[.slice A n c, .int .i64 q] w fun e w' => e = .returned (.int .i64 (q + n)) ∧ Own w' B 2 1 (.slice A n c) n (seqI q n) ∧ w.grownBy w' (A.map (·.block)) := by
  go_enter Try.func12, Try.ntmps12
  have hl : xs.length = n := by simpa using ho.1
  have HL := Lib.hid hl
  clear hl
  go_wp2_with fail
  go_loopw [1, 5] (fun q' i wr => ∃ k : Nat, k ≤ n ∧ i = .int .i64 k ∧ q' = .int .i64 (q + k) ∧ Own wr B 2 1 (.slice A n c) n (seqI q k ++ xs.drop k) ∧ w.grownBy wr (A.map (·.block))) (fun _ i _ => n - (intOf i).toNat)
  case atStart => exact ⟨0, by omega, rfl, by simp, ho, grown_refl _ _⟩
  case round =>
    obtain ⟨k, hk, rfl, rfl, hown, hg⟩ := hrel
    by_cases hlt : k < n
    · obtain ⟨g, rfl, hB⟩ := hown.split (by omega)
      have h1 := hown.cell (j := k) (by omega)
      have h2 := hown.frozen k
      go_wp2_with fail
      go_roundw
      case rel => exact ⟨k + 1, by omega, by go_num, by go_num, by rw [← seq_set (by rw [HL.out]; exact hlt)]; exact hown.stored k _, grown_set hg _ _⟩
      case measure => simp [intOf]; omega
    · obtain rfl : k = n := by omega
      go_wp2_with fail
      go_ret
      exact ⟨rfl, by rw [seq_done HL.out] at hown; exact hown, hg⟩
theorem infoInt64 : (Try.prog.info? 2).map (fun i => (i.zero, i.size, i.bytes)) = some (some (.int .i64 0), 1, 8) := by kernel_rfl
end Go.Proofs.Ytadljkdjlpmllaa
