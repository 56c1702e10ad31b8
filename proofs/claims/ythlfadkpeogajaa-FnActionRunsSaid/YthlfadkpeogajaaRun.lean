/- Walks: a run of actions, as the program and the reference do it, for every state and list of actions. No condition. -/
import Derived.Test.YthlfadkpeogajaaAct
namespace Go.Proofs.Ythlfadkpeogajaa
open Go.RowKit Go.WideShapes Go.ChangeShapes
def runA (s : Int) (i : Int) : List Int → Int × Int × Int
  | [] => (s, i, 0)
  | a :: r => if nextC s a = 0 then runA (nextV s a) (i + 1) r else (s, i, nextC s a)
theorem drop_step {xs : List Int} {k : Nat} (h : k < xs.length) : xs.drop k = xs.getD k 0 :: xs.drop (k + 1) := by
  rw [List.drop_eq_getElem_cons h]
  simp [List.getD_eq_getElem?_getD, List.getElem?_eq_getElem h]
def runR (s : Int) (xs : List Int) : Int × Int × Int := if ¬ (1 ≤ s ∧ s ≤ 7) then (0, 0, 2) else if 50 < xs.length then (0, 0, 3) else runA s 0 xs
theorem spec_RunIn (s : Int) (A : Option Addr) (n c : Nat) (xs : List Int) (w : World) (ha : Rd w A xs) (hn : xs.length = n) (hn2 : n ≤ 9223372036854775807) (hs : 1 ≤ s ∧ s ≤ 7) (h50 : n ≤ 50) :
    Calls Try.prog 34 #[.int .i64 s, .slice A n c] w fun e w' => e = .returned (.tuple #[.int .i64 (runA s 0 xs).1, .int .i64 (runA s 0 xs).2.1, .int .i64 (runA s 0 xs).2.2]) ∧ Q w w' := by
  obtain ⟨b, o, hA, hc⟩ := ha
  obtain ⟨r, hr⟩ : ∃ r, r = runA s 0 xs := ⟨_, rfl⟩
  rw [← hr]
  have HN := Lib.hid hn
  have HR := Lib.hid hr
  rw [hn] at hA hc
  clear hn hr
  go_enter Try.func34, Try.ntmps34
  go_wp2_with (go_at_call 69; refine (spec_State _ _).mono ?_; rintro e w' ⟨rfl, rfl⟩)
  go_loopw [0, 7] (fun st i wr => ∃ (k : Nat) (s' : Int), k ≤ n ∧ i = .int .i64 k ∧ st = .int .i64 s' ∧ Hid (runA s' k (xs.drop k) = r) ∧ Q w wr) (fun _ i _ => n - (intOf i).toNat)
  case atStart => exact ⟨0, s, by omega, rfl, rfl, Lib.hid (by rw [HR.out]; rfl), Q.refl _⟩
  case round =>
    obtain ⟨k, s', hk, rfl, rfl, hr, hq⟩ := hrel
    by_cases hlt : k < n
    · obtain rfl := hA (by omega)
      obtain ⟨x, hx⟩ : ∃ x, x = xs.getD k 0 := ⟨_, rfl⟩
      have g0 := hq.cell (hc k (by omega))
      rw [← hx] at g0
      have hr2 := hr.out
      rw [drop_step (by rw [HN.out]; exact hlt), ← hx] at hr2
      have HR2 : Hid (runA s' k (x :: xs.drop (k + 1)) = r) := Lib.hid hr2
      clear hx hr hr2 hc hA
      go_wp2_with fail
      refine (spec_NextState _ _ _).mono ?_
      rintro e w1 ⟨rfl, q1⟩
      by_cases h0 : nextC s' x = 0
      · have HR3 : Hid (runA (nextV s' x) ((k : Int) + 1) (xs.drop (k + 1)) = r) := by have := HR2.out; rw [runA, if_pos h0] at this; exact Lib.hid this
        go_wp2_with fail
        go_roundw
        case rel => exact ⟨k + 1, _, by omega, by go_num, rfl, HR3, hq.trans q1⟩
        case measure => simp [intOf]; omega
      · have HR3 : Hid ((s', (k : Int), nextC s' x) = r) := by have := HR2.out; rw [runA, if_neg h0] at this; exact Lib.hid this
        have hb : (nextC s' x != 0) = true := by simpa using h0
        go_wp2_with fail
        go_ret3
        exact ⟨by rw [← HR3.out]; rfl, hq.trans q1⟩
    · obtain rfl : k = n := by omega
      have HR3 : Hid ((s', (k : Int), 0) = r) := by have := hr.out; rw [List.drop_of_length_le (by rw [HN.out]; omega), runA] at this; exact Lib.hid this
      go_wp2_with fail
      go_ret3
      exact ⟨by rw [← HR3.out]; rfl, hq⟩
theorem spec_RunActions (s : Int) (A : Option Addr) (n c : Nat) (xs : List Int) (w : World) (ha : Rd w A xs) (hn : xs.length = n) (hn2 : n ≤ 9223372036854775807) :
    Calls Try.prog 34 #[.int .i64 s, .slice A n c] w fun e w' => e = .returned (.tuple #[.int .i64 (runR s xs).1, .int .i64 (runR s xs).2.1, .int .i64 (runR s xs).2.2]) ∧ Q w w' := by
  by_cases hs : 1 ≤ s ∧ s ≤ 7
  · by_cases h50 : n ≤ 50
    · rw [show runR s xs = runA s 0 xs by unfold runR; rw [if_neg (by omega), if_neg (by omega)]]
      exact spec_RunIn s A n c xs w ha hn hn2 hs h50
    · rw [show runR s xs = (0, 0, 3) by unfold runR; rw [if_neg (by omega), if_pos (by omega)]]
      clear hn
      go_enter Try.func34, Try.ntmps34
      go_wp2_with (go_at_call 69; refine (spec_State _ _).mono ?_; rintro e w' ⟨rfl, rfl⟩)
      go_ret3
      exact ⟨rfl, Q.refl _⟩
  · rw [show runR s xs = (0, 0, 2) by unfold runR; rw [if_pos hs]]
    clear hn
    go_enter Try.func34, Try.ntmps34
    go_wp2_with (go_at_call 69; refine (spec_State _ _).mono ?_; rintro e w' ⟨rfl, rfl⟩)
    go_ret3
    exact ⟨rfl, Q.refl _⟩
theorem impl_RunIn (s : Int) (A : Option Addr) (n c : Nat) (xs : List Int) (w : World) (ha : Rd w A xs) (hn : xs.length = n) (hn2 : n ≤ 9223372036854775807) (hs : 1 ≤ s ∧ s ≤ 7) (h50 : n ≤ 50) :
    Calls Try.prog 33 #[.int .i64 s, .slice A n c] w fun e w' => e = .returned (.tuple #[.int .i64 (runA s 0 xs).1, .int .i64 (runA s 0 xs).2.1, .int .i64 (runA s 0 xs).2.2]) ∧ Q w w' := by
  obtain ⟨b, o, hA, hc⟩ := ha
  obtain ⟨r, hr⟩ : ∃ r, r = runA s 0 xs := ⟨_, rfl⟩
  rw [← hr]
  have HN := Lib.hid hn
  have HR := Lib.hid hr
  rw [hn] at hA hc
  clear hn hr
  go_enter Try.func33, Try.ntmps33
  go_wp2_with (go_at_call 67; refine (impl_isState _ _).mono ?_; rintro e w' ⟨rfl, rfl⟩)
  go_loopw [0, 19] (fun st i wr => ∃ (k : Nat) (s' : Int), k ≤ n ∧ i = .int .i64 k ∧ st = .int .i64 s' ∧ Hid (runA s' k (xs.drop k) = r) ∧ Q w wr) (fun _ i _ => n - (intOf i).toNat)
  case atStart => exact ⟨0, s, by omega, rfl, rfl, Lib.hid (by rw [HR.out]; rfl), Q.refl _⟩
  case round =>
    obtain ⟨k, s', hk, rfl, rfl, hr, hq⟩ := hrel
    by_cases hlt : k < n
    · obtain rfl := hA (by omega)
      obtain ⟨x, hx⟩ : ∃ x, x = xs.getD k 0 := ⟨_, rfl⟩
      have g0 := hq.cell (hc k (by omega))
      rw [← hx] at g0
      have hr2 := hr.out
      rw [drop_step (by rw [HN.out]; exact hlt), ← hx] at hr2
      have HR2 : Hid (runA s' k (x :: xs.drop (k + 1)) = r) := Lib.hid hr2
      clear hx hr hr2 hc hA
      go_wp2_with fail
      refine (impl_NextState _ _ _).mono ?_
      rintro e w1 ⟨rfl, q1⟩
      by_cases h0 : nextC s' x = 0
      · have HR3 : Hid (runA (nextV s' x) ((k : Int) + 1) (xs.drop (k + 1)) = r) := by have := HR2.out; rw [runA, if_pos h0] at this; exact Lib.hid this
        go_wp2_with fail
        go_roundw
        case rel => exact ⟨k + 1, _, by omega, by go_num, rfl, HR3, hq.trans q1⟩
        case measure => simp [intOf]; omega
      · have HR3 : Hid ((s', (k : Int), nextC s' x) = r) := by have := HR2.out; rw [runA, if_neg h0] at this; exact Lib.hid this
        have hb : (nextC s' x != 0) = true := by simpa using h0
        go_wp2_with fail
        go_ret3
        exact ⟨by rw [← HR3.out]; rfl, hq.trans q1⟩
    · obtain rfl : k = n := by omega
      have HR3 : Hid ((s', (k : Int), 0) = r) := by have := hr.out; rw [List.drop_of_length_le (by rw [HN.out]; omega), runA] at this; exact Lib.hid this
      go_wp2_with fail
      go_ret3
      exact ⟨by rw [← HR3.out]; rfl, hq⟩
theorem impl_RunActions (s : Int) (A : Option Addr) (n c : Nat) (xs : List Int) (w : World) (ha : Rd w A xs) (hn : xs.length = n) (hn2 : n ≤ 9223372036854775807) :
    Calls Try.prog 33 #[.int .i64 s, .slice A n c] w fun e w' => e = .returned (.tuple #[.int .i64 (runR s xs).1, .int .i64 (runR s xs).2.1, .int .i64 (runR s xs).2.2]) ∧ Q w w' := by
  by_cases hs : 1 ≤ s ∧ s ≤ 7
  · by_cases h50 : n ≤ 50
    · rw [show runR s xs = runA s 0 xs by unfold runR; rw [if_neg (by omega), if_neg (by omega)]]
      exact impl_RunIn s A n c xs w ha hn hn2 hs h50
    · rw [show runR s xs = (0, 0, 3) by unfold runR; rw [if_neg (by omega), if_pos (by omega)]]
      clear hn
      go_enter Try.func33, Try.ntmps33
      go_wp2_with (go_at_call 67; refine (impl_isState _ _).mono ?_; rintro e w' ⟨rfl, rfl⟩)
      go_ret3
      exact ⟨rfl, Q.refl _⟩
  · rw [show runR s xs = (0, 0, 2) by unfold runR; rw [if_pos hs]]
    clear hn
    go_enter Try.func33, Try.ntmps33
    go_wp2_with (go_at_call 67; refine (impl_isState _ _).mono ?_; rintro e w' ⟨rfl, rfl⟩)
    go_ret3
    exact ⟨rfl, Q.refl _⟩
end Go.Proofs.Ythlfadkpeogajaa
