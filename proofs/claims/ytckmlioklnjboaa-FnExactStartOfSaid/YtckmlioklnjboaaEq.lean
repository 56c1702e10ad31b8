/- Walks: the laws' own functions on slices of int64 (equal, mark, held), for all slices. No condition. -/
import Derived.Test.YtckmlioklnjboaaSl
import Derived.Outline
namespace Go.Proofs.Ytckmlioklnjboaa
open Go.RowKit Go.WideShapes Go.ChangeShapes

theorem take_eq_step {xs ys : List Int} {k : Nat} (hx : k < xs.length) (hy : k < ys.length) (h : xs.take k = ys.take k) (he : xs.getD k 0 = ys.getD k 0) : xs.take (k + 1) = ys.take (k + 1) := by
  rw [List.take_succ_eq_append_getElem hx, List.take_succ_eq_append_getElem hy, h]
  simp only [List.getD_eq_getElem?_getD, List.getElem?_eq_getElem hx, List.getElem?_eq_getElem hy, Option.getD_some] at he
  rw [he]
theorem ne_of_getD {xs ys : List Int} {k : Nat} (he : xs.getD k 0 ≠ ys.getD k 0) : xs ≠ ys := fun e => he (by rw [e])

theorem eqInt64S_any (A B : Option Addr) (n m c d : Nat) (xs ys : List Int) (w : World) (ha : Rd w A xs) (hb : Rd w B ys) (hn : xs.length = n) (hm : ys.length = m) (hn2 : n ≤ 9223372036854775807) :
    Calls Try.prog 30 #[.slice A n c, .slice B m d] w fun e w' => e = .returned (.bool (decide (xs = ys))) ∧ Q w w' := by
  by_cases hne : n = m
  · subst hne
    obtain ⟨b1, o1, hA, hca⟩ := ha
    obtain ⟨b2, o2, hB, hcb⟩ := hb
    have H1 := Lib.hid hn
    have H2 := Lib.hid hm
    rw [hn] at hA hca
    rw [hm] at hB hcb
    clear hn hm
    go_enter Try.func30, Try.ntmps30
    go_wp2_with fail
    go_loopw [5] (fun i wr => ∃ k : Nat, k ≤ n ∧ i = .int .i64 k ∧ xs.take k = ys.take k ∧ Q w wr) (fun i _ => n - (intOf i).toNat)
    case atStart => exact ⟨0, by omega, rfl, by simp, Q.refl _⟩
    case round =>
      obtain ⟨k, hk, rfl, ht, hq⟩ := hrel
      have HT := Lib.hid ht
      clear ht
      by_cases hlt : k < n
      · obtain rfl := hA (by omega)
        obtain rfl := hB (by omega)
        have h1 := hq.cell (hca k hlt)
        have h2 := hq.cell (hcb k hlt)
        clear hca hcb hA hB
        obtain ⟨x, hx⟩ : ∃ x, x = xs.getD k 0 := ⟨_, rfl⟩
        obtain ⟨y, hy⟩ : ∃ y, y = ys.getD k 0 := ⟨_, rfl⟩
        rw [← hx] at h1
        rw [← hy] at h2
        have HX := Lib.hid hx
        have HY := Lib.hid hy
        clear hx hy
        go_wp2_with fail
        refine wp_region_quiet_lit (by kernel_rfl) (by kernel_rfl) ?_
        repeat (any_goals (first | go_big_quiet_step ( fail) | quiet_step ( fail) | (refine wpQuiet_step (fun K hK => ?_); go_simp; split <;> (refine hK _ ?_; clear hK K))))
        all_goals (refine wpQuiet_nil ?_; intro _ hw'; obtain ⟨nq, hw''⟩ := hw'; subst hw'')
        all_goals go_wp2_with fail
        · go_ret
          exact ⟨ret_bool (by have h : xs ≠ ys := ne_of_getD (k := k) (by rw [← HX.out, ← HY.out]; simpa using ‹(x != y) = true›); simp [h]), hq.drewN _⟩
        · go_roundw
          case rel => exact ⟨k + 1, by omega, by go_num, take_eq_step (by rw [H1.out]; omega) (by rw [H2.out]; omega) HT.out (by rw [← HX.out, ← HY.out]; simpa using ‹(x != y) = false›), hq.drewN _⟩
          case measure => simp [intOf]; omega
      · obtain rfl : k = n := by omega
        go_wp2_with fail
        go_ret
        exact ⟨ret_bool (by have := HT.out; rw [List.take_of_length_le (by rw [H1.out]; omega), List.take_of_length_le (by rw [H2.out]; omega)] at this; simp [this]), hq⟩
  · go_enter Try.func30, Try.ntmps30
    go_wp2_with fail
    go_ret
    exact ⟨ret_bool (by have : xs ≠ ys := fun e => hne (by rw [← hn, ← hm, e]); simp [this]), Q.refl _⟩
theorem eqInt64S_same (A B : Option Addr) (n c d : Nat) (xs : List Int) (w : World) (ha : Rd w A xs) (hb : Rd w B xs) (hn : xs.length = n) (hn2 : n ≤ 9223372036854775807) :
    Calls Try.prog 30 #[.slice A n c, .slice B n d] w fun e w' => e = .returned (.bool true) ∧ Q w w' :=
  (eqInt64S_any A B n n c d xs xs w ha hb hn hn hn2).mono fun _ _ h => ⟨by rw [h.1]; simp, h.2⟩
theorem infoInt64 : (Try.prog.info? 2).map (fun i => (i.zero, i.size, i.bytes)) = some (some (.int .i64 0), 1, 8) := by kernel_rfl
theorem toInt64S_any (A : Option Addr) (n c : Nat) (xs : List Int) (w : World) (ha : Rd w A xs) (hn : xs.length = n) (hn2 : n ≤ 1048576) :
    Calls Try.prog 27 #[.slice A n c] w fun e w' => ∃ A' c', e = .returned (.slice A' n c') ∧ Own w' w.heap.size 2 1 (.slice A' n c') n xs ∧ Q w w' := by
  obtain ⟨i0, hi, hz0, hz1, hz2⟩ := info_parts infoInt64
  go_enter Try.func27, Try.ntmps27
  go_wp2_with (at_make; refine wpList_make_full _ rfl _ _ 63 rfl w.heap.size 2 i0 (.int .i64 0) 1 Try.underlying63 hi hz0 hz1 .i64 .i64 n n n rfl rfl rfl rfl (by rw [hz2]; omega) (by unfold maxLen; omega) (Nat.le_refl _) ?_; intro w1 hown hgrow)
  rw [show (madeCells (Value.int .i64 0).cells (n * 1)).toList = _ from made_ints (k := 1) rfl (by decide) _] at hown
  have hown : Own w1 w.heap.size 2 1 (.slice (some ⟨w.heap.size, 0, none⟩) n n) n (List.replicate (n * 1) 0) := hown
  have hq0 : Q w w1 := (Q.refl w).grown hgrow (by simp)
  have hzl : (List.replicate (n * 1) (0 : Int)).length = n := by simp
  obtain ⟨zs, hzs⟩ : ∃ zs, zs = List.replicate (n * 1) (0 : Int) := ⟨_, rfl⟩
  rw [← hzs] at hown hzl
  obtain ⟨b, o, hA, hc⟩ := ha
  have HN := Lib.hid hn
  have HZ := Lib.hid hzl
  rw [hn] at hA hc
  clear hzs hgrow hn hzl hi hz0 hz1 hz2
  go_loopw [4] (fun i wr => ∃ k : Nat, k ≤ n ∧ i = .int .i64 k ∧ Own wr w.heap.size 2 1 (.slice (some ⟨w.heap.size, 0, none⟩) n n) n (xs.take k ++ zs.drop k) ∧ Q w wr) (fun i _ => n - (intOf i).toNat)
  case atStart => exact ⟨0, by omega, rfl, by simpa using hown, hq0⟩
  case round =>
    clear hown hq0
    obtain ⟨k, hk, rfl, hown, hq⟩ := hrel
    by_cases hlt : k < n
    · obtain rfl := hA (by omega)
      obtain ⟨x0, hx0⟩ : ∃ x, x = xs.getD k 0 := ⟨_, rfl⟩
      have g0 := hq.cell (hc k (by omega))
      rw [← hx0] at g0
      have Hx0 := Lib.hid hx0
      clear hx0 hc hA
      have c0 := hown.cell (j := k) (by omega)
      have f0 := hown.frozen k
      go_wp2_with fail
      have p1 := hown.stored k x0
      rw [Hx0.out, take_set (by rw [HN.out]; omega) (by rw [HN.out, HZ.out]), ← Hx0.out] at p1
      go_roundw
      case rel => exact ⟨k + 1, by omega, by go_num, p1, hq.own_set hown (Nat.le_refl _) _ _⟩
      case measure => simp [intOf]; omega
    · obtain rfl : k = n := by omega
      rw [take_done HN.out HZ.out] at hown
      go_wp2_with fail
      go_ret
      exact ⟨_, _, rfl, hown, hq⟩
end Go.Proofs.Ytckmlioklnjboaa
