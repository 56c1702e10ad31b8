/- Walks: whether a demand is met by facts, as the program and the reference decide it. No condition. -/
import Derived.Test.YtckmlioklnjboaaK
import Derived.Test.YtckmlioklnjboaaIn
import Derived.Outline
namespace Go.Proofs.Ytckmlioklnjboaa
open Go.RowKit Go.WideShapes Go.ChangeShapes
theorem pigeon : ∀ (M : Nat) (f : Nat → Nat) (n : Nat), (∀ i, i < n → f i < M) → (∀ i j, i < j → j < n → f i ≠ f j) → n ≤ M := by
  intro M
  induction M with
  | zero => intro f n h _; rcases Nat.eq_zero_or_pos n with h0 | h0; omega; exact absurd (h 0 h0) (by omega)
  | succ M ih =>
    intro f n h hd
    by_cases hx : ∃ i, i < n ∧ f i = M
    · obtain ⟨i0, h0, e0⟩ := hx
      have := ih (fun i => if i < i0 then f i else f (i + 1)) (n - 1) (fun i hi => by
        by_cases c : i < i0
        · simp only [if_pos c]
          have := h i (by omega)
          have := hd i i0 c h0
          omega
        · simp only [if_neg c]
          have := h (i + 1) (by omega)
          have := hd i0 (i + 1) (by omega) (by omega)
          omega) (fun i j hij hj => by
        by_cases c : i < i0
        · by_cases c2 : j < i0
          · simp only [if_pos c, if_pos c2]; exact hd i j hij (by omega)
          · simp only [if_pos c, if_neg c2]; exact hd i (j + 1) (by omega) (by omega)
        · simp only [if_neg c, if_neg (show ¬ j < i0 by omega)]; exact hd (i + 1) (j + 1) (by omega) (by omega))
      omega
    · have := ih f n (fun i hi => by
        have := h i hi
        have : f i ≠ M := fun e => hx ⟨i, hi, e⟩
        omega) hd
      omega
/-! ### Demands -/
def hasTo (xs : List Int) (k : Nat) (v : Int) : Bool := (List.range k).any fun j => el xs j == v
theorem hasTo_succ (xs : List Int) (k : Nat) (v : Int) : hasTo xs (k + 1) v = (hasTo xs k v || (el xs k == v)) := by simp [hasTo, List.range_succ]
theorem hasTo_yes {xs : List Int} {k n : Nat} {v : Int} (hk : k < n) (h : el xs k = v) : hasTo xs n v = true := by
  unfold hasTo
  rw [List.any_eq_true]
  exact ⟨k, by simpa using hk, by simpa using h⟩
theorem hasTo_no {xs : List Int} {k n : Nat} {v : Int} (hk : k < n) (h : hasTo xs n v = false) : el xs k ≠ v := fun e => by rw [hasTo_yes hk e] at h; cases h
theorem idx_any (A : Option Addr) (n c : Nat) (xs : List Int) (v : Int) (w : World) (ha : Rd w A xs) (hn : n ≤ xs.length) (hn2 : n ≤ 9223372036854775807) :
    Calls Try.prog 98 #[.slice A n c, .int .i64 v] w fun e w' => ∃ r : Int, e = .returned (.int .i64 r) ∧ decide (0 ≤ r) = hasTo xs n v ∧ w = w' := by
  have HN := Lib.hid hn
  clear hn
  obtain ⟨R, hR⟩ : ∃ R, R = hasTo xs n v := ⟨_, rfl⟩
  rw [← hR]
  have HR := Lib.hid hR
  clear hR
  go_enter Try.func98, Try.ntmps98
  go_wp2_with fail
  go_loop [8] (fun i => ∃ k : Nat, k ≤ n ∧ i = .int .i64 k ∧ Hid (hasTo xs k v = false)) (fun i => n - (intOf i).toNat)
  case atStart => exact ⟨0, Nat.zero_le _, rfl, Lib.hid rfl⟩
  case round =>
    obtain ⟨k, hk, rfl, HT⟩ := hrel
    by_cases hlt : k < n
    · have hltI : (k : Int) < (n : Int) := by omega
      obtain ⟨b1, o1, hA, hc⟩ := ha
      obtain rfl := hA (by have := HN.out; omega)
      have g0 := hc k (by have := HN.out; omega)
      rw [el_eq] at g0
      clear hc hA
      by_cases he : v = el xs k
      · subst he
        have HE := Lib.hid (hasTo_yes hlt (rfl : el xs k = el xs k))
        go_wp2_with fail
        go_ret
        exact ⟨(k : Int), rfl, by rw [HR.out, HE.out]; simp, rfl⟩
      · have heb : (v == el xs k) = false := by simpa using he
        have HE : Hid (hasTo xs (k + 1) v = false) := Lib.hid (by rw [hasTo_succ, HT.out]; simpa using fun e => he e.symm)
        clear he
        go_wp2_with fail
        go_round
        case rel => exact ⟨k + 1, by omega, by go_num, HE⟩
        case measure => simp [intOf]; omega
    · obtain rfl : k = n := by omega
      go_wp2_with fail
      go_ret
      exact ⟨-1, rfl, by rw [HR.out, HT.out]; rfl, rfl⟩
theorem has_any (A : Option Addr) (n c : Nat) (xs : List Int) (v : Int) (w : World) (ha : Rd w A xs) (hn : n ≤ xs.length) (hn2 : n ≤ 9223372036854775807) :
    Calls Try.prog 77 #[.slice A n c, .int .i64 v] w fun e w' => e = .returned (.bool (hasTo xs n v)) ∧ w = w' := by
  have K := Lib.hid (idx_any A n c xs v w ha hn hn2)
  go_enter Try.func77, Try.ntmps77
  go_wp2_with fail
  refine (K.out).mono ?_
  rintro e w1 ⟨r, rfl, hr, rfl⟩
  have HR := Lib.hid hr
  clear hr
  go_wp2_with fail
  go_ret
  exact ⟨ret_bool (by rw [← HR.out]), rfl⟩
def dmAt (L : List Int) (k : Nat) : Bool := inR (el L k) (-8) 8 && !(el L k == 0) && !hasTo L k (el L k) && !hasTo L k (-(el L k))
def dmTo (L : List Int) (k : Nat) : Bool := (List.range k).all (dmAt L)
theorem dmTo_succ (L : List Int) (k : Nat) : dmTo L (k + 1) = (dmTo L k && dmAt L k) := by simp [dmTo, List.range_succ]
theorem dmTo_no {L : List Int} {k n : Nat} (hk : k < n) (h : dmAt L k = false) : dmTo L n = false := by
  unfold dmTo
  rw [List.all_eq_false]
  exact ⟨k, by simpa using hk, by simp [h]⟩
theorem dmTo_at {L : List Int} {k n : Nat} (h : dmTo L n = true) (hk : k < n) : dmAt L k = true := by
  unfold dmTo at h
  rw [List.all_eq_true] at h
  exact h k (by simpa using hk)
theorem dmAt_yes {L : List Int} {k : Nat} (h : dmAt L k = true) : (-8 ≤ el L k ∧ el L k ≤ 8) ∧ el L k ≠ 0 ∧ hasTo L k (el L k) = false ∧ hasTo L k (-(el L k)) = false := by
  simpa [dmAt, inR, and_assoc] using h
/-- A demand has at most eight facts. -/
theorem dmTo_len {L : List Int} {n : Nat} (h : dmTo L n = true) : n ≤ 8 := by
  refine pigeon 8 (fun i => (el L i).natAbs - 1) n (fun i hi => ?_) (fun i j hij hj => ?_)
  · have := dmAt_yes (dmTo_at h hi); show (el L i).natAbs - 1 < 8; omega
  · have h1 := dmAt_yes (dmTo_at h (show i < n by omega))
    have h2 := dmAt_yes (dmTo_at h hj)
    have h3 := hasTo_no hij h2.2.2.1
    have h4 := hasTo_no hij h2.2.2.2
    show (el L i).natAbs - 1 ≠ (el L j).natAbs - 1
    omega
def demB (L : List Int) (n : Nat) (o : Int) : Bool := dmTo L n && inR o 0 3
theorem impl_isOutcome (n : Int) (w : World) : Calls Try.prog 78 #[.int .i64 n] w fun e w' => e = .returned (.bool (inR n 0 3)) ∧ w = w' := by
  go_enter Try.func78, Try.ntmps78
  go_wp2_with (go_at_call 54; refine (impl_inR _ _ _ _).mono ?_; rintro e w' ⟨rfl, rfl⟩)
  go_ret
  exact ⟨rfl, rfl⟩
end Go.Proofs.Ytckmlioklnjboaa
