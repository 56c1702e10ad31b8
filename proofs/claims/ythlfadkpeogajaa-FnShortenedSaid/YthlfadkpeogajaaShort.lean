/- Walks: the leg after which a race is shortened, as the program and the reference compute it, for all arguments. No condition. -/
import Derived.Test.YthlfadkpeogajaaCmp
import Derived.Test.YthlfadkpeogajaaLim
namespace Go.Proofs.Ythlfadkpeogajaa
open Go.RowKit Go.WideShapes Go.ChangeShapes
def legTo (xs : List Int) (k : Nat) : Bool := (List.range k).all fun i => decide (1 ≤ el xs i ∧ el xs i ≤ 1000000000)
theorem legTo_succ {xs : List Int} {k : Nat} (h : legTo xs k = true) (h2 : 1 ≤ el xs k ∧ el xs k ≤ 1000000000) : legTo xs (k + 1) = true := by
  unfold legTo at *
  rw [List.range_succ, List.all_append, h]
  simp [h2]
theorem legTo_no {xs : List Int} {k n : Nat} (hk : k < n) (h : ¬ (1 ≤ el xs k ∧ el xs k ≤ 1000000000)) : legTo xs n = false := by
  unfold legTo
  rw [List.all_eq_false]
  exact ⟨k, by simpa using hk, by simpa using h⟩
theorem legTo_at {xs : List Int} {k n : Nat} (h : legTo xs n = true) (hk : k < n) : 1 ≤ el xs k ∧ el xs k ≤ 1000000000 := by
  unfold legTo at h
  rw [List.all_eq_true] at h
  simpa using h k (by simpa using hk)
def sumTo (xs : List Int) : Nat → Int
  | 0 => 0
  | k + 1 => sumTo xs k + el xs k
theorem sumTo_bd {xs : List Int} {n : Nat} (h : legTo xs n = true) : ∀ k : Nat, k ≤ n → 0 ≤ sumTo xs k ∧ sumTo xs k ≤ k * 1000000000
  | 0, _ => ⟨by simp [sumTo], by simp [sumTo]⟩
  | k + 1, hk => by
    have h1 := sumTo_bd h k (by omega)
    have h2 := legTo_at h (show k < n by omega)
    show 0 ≤ sumTo xs k + el xs k ∧ sumTo xs k + el xs k ≤ _
    omega
def bstTo (t r : Int) (s : Nat) (xs : List Int) : Nat → Int
  | 0 => 0
  | k + 1 => if s < k + 1 ∧ t * sumTo xs (k + 1) ≤ r * sumTo xs s then (k : Int) + 1 else bstTo t r s xs k
theorem bst_yes {t r : Int} {s k : Nat} {xs : List Int} (h1 : s < k + 1) (h2 : t * sumTo xs (k + 1) ≤ r * sumTo xs s) : bstTo t r s xs (k + 1) = (k : Int) + 1 := by rw [bstTo, if_pos ⟨h1, h2⟩]
theorem bst_no {t r : Int} {s k : Nat} {xs : List Int} (h : ¬ (s < k + 1 ∧ t * sumTo xs (k + 1) ≤ r * sumTo xs s)) : bstTo t r s xs (k + 1) = bstTo t r s xs k := by rw [bstTo, if_neg h]
theorem bst_low {t r : Int} {s : Nat} {xs : List Int} : ∀ k : Nat, k ≤ s → bstTo t r s xs k = 0
  | 0, _ => rfl
  | k + 1, h => by rw [bst_no (by omega)]; exact bst_low k (by omega)
theorem bst_bd {t r : Int} {s : Nat} {xs : List Int} : ∀ k : Nat, 0 ≤ bstTo t r s xs k ∧ bstTo t r s xs k ≤ k
  | 0 => ⟨by simp [bstTo], by simp [bstTo]⟩
  | k + 1 => by
    have := bst_bd (t := t) (r := r) (s := s) (xs := xs) k
    unfold bstTo
    split <;> omega
def bfr (s : Nat) (xs : List Int) (k : Nat) : Int := if s ≤ k then sumTo xs s else 0
theorem bfr_eq {s : Nat} {xs : List Int} {k : Nat} (h : s ≤ k) : bfr s xs k = sumTo xs s := by simp [bfr, h]
theorem bfr_lt {s : Nat} {xs : List Int} {k : Nat} (h : k < s) : bfr s xs k = 0 := by simp [bfr]; omega
def shOk (s t : Int) (n : Nat) : Prop := 1 ≤ s ∧ s ≤ (n : Int) - 1 ∧ 1 ≤ t ∧ t ≤ 1000000000
instance (s t : Int) (n : Nat) : Decidable (shOk s t n) := by unfold shOk; infer_instance
def shC (a b c s t : Int) (xs : List Int) (n : Nat) : Int := if isLim a b c = false then 1 else if 9 < n then 3 else if legTo xs n = false then 2 else if ¬ shOk s t n then 2 else if bstTo t b s.toNat xs n = 0 then 4 else 0
def shV (a b c s t : Int) (xs : List Int) (n : Nat) : Int := if shC a b c s t xs n = 0 then bstTo t b s.toNat xs n else 0
theorem sh_bad {a b c s t : Int} {xs : List Int} {n : Nat} {C : Int} (h : shC a b c s t xs n = C) (hC : C ≠ 0) : shV a b c s t xs n = 0 := by simp [shV, h, hC]
theorem sh_1 {a b c s t : Int} {xs : List Int} {n : Nat} (h : isLim a b c = false) : shC a b c s t xs n = 1 := by simp [shC, h]
theorem sh_3 {a b c s t : Int} {xs : List Int} {n : Nat} (h : isLim a b c = true) (h2 : 9 < n) : shC a b c s t xs n = 3 := by simp [shC, h, h2]
theorem sh_2a {a b c s t : Int} {xs : List Int} {n : Nat} (h : isLim a b c = true) (h2 : ¬ 9 < n) (h3 : legTo xs n = false) : shC a b c s t xs n = 2 := by simp [shC, h, h2, h3]
theorem sh_2b {a b c s t : Int} {xs : List Int} {n : Nat} (h : isLim a b c = true) (h2 : ¬ 9 < n) (h3 : legTo xs n = true) (h4 : ¬ shOk s t n) : shC a b c s t xs n = 2 := by simp [shC, h, h2, h3, h4]
theorem sh_4 {a b c s t : Int} {xs : List Int} {n : Nat} (h : isLim a b c = true) (h2 : ¬ 9 < n) (h3 : legTo xs n = true) (h4 : shOk s t n) (h5 : bstTo t b s.toNat xs n = 0) : shC a b c s t xs n = 4 := by simp [shC, h, h2, h3, h4, h5]
theorem sh_0 {a b c s t : Int} {xs : List Int} {n : Nat} (h : isLim a b c = true) (h2 : ¬ 9 < n) (h3 : legTo xs n = true) (h4 : shOk s t n) (h5 : bstTo t b s.toNat xs n ≠ 0) : shC a b c s t xs n = 0 := by simp [shC, h, h2, h3, h4, h5]
theorem sh_val {a b c s t : Int} {xs : List Int} {n : Nat} (h : shC a b c s t xs n = 0) : shV a b c s t xs n = bstTo t b s.toNat xs n := by simp [shV, h]
def ShPost (a b c s t : Int) (xs : List Int) (n : Nat) (w : World) (e : Ending) (w' : World) : Prop := e = .returned (.tuple #[.int .i64 (shV a b c s t xs n), .int .i64 (shC a b c s t xs n)]) ∧ Q w w'
theorem ShPost.bad {a b c s t : Int} {xs : List Int} {n : Nat} {w w' : World} {C : Int} (h : shC a b c s t xs n = C) (hC : C ≠ 0) (hq : Q w w') : ShPost a b c s t xs n w (.returned (.tuple #[.int .i64 0, .int .i64 C])) w' := ⟨by rw [sh_bad h hC, h], hq⟩
theorem ShPost.ok {a b c s t : Int} {xs : List Int} {n : Nat} {w w' : World} {v : Int} (h : shC a b c s t xs n = 0) (hv : v = bstTo t b s.toNat xs n) (hq : Q w w') : ShPost a b c s t xs n w (.returned (.tuple #[.int .i64 v, .int .i64 0])) w' := ⟨by rw [sh_val h, h, hv], hq⟩
set_option maxHeartbeats 2000000 in
theorem impl_ShortenAtP (a b c : Int) (A : Option Addr) (n d : Nat) (xs : List Int) (s t : Int) (w : World) (ha : Rd w A xs) (hn : xs.length = n) (hn2 : n ≤ 9223372036854775807) :
    Calls Try.prog 38 #[.agg #[.int .i64 a, .int .i64 b, .int .i64 c], .slice A n d, .int .i64 s, .int .i64 t] w (ShPost a b c s t xs n w) := by
  cases hl : isLim a b c
  · have HC := Lib.hid (sh_1 (s := s) (t := t) (xs := xs) (n := n) hl)
    go_enter Try.func38, Try.ntmps38
    go_wp2_with (go_at_call 15; refine (impl_IsLimits _ _ _ _).mono ?_; rintro e w1 ⟨rfl, q1⟩; have Q1 : Q w w1 := Q.trans (by (repeat (first | assumption | exact Q.refl _ | refine Q.alloc ?_ _ | refine Q.drewN ?_ _ | refine Q.drew ?_))) q1)
    go_ret2
    exact ShPost.bad HC.out (by decide) Q1
  · by_cases h9 : 9 < n
    · have HC := Lib.hid (sh_3 (s := s) (t := t) (xs := xs) (n := n) hl h9)
      go_enter Try.func38, Try.ntmps38
      go_wp2_with (go_at_call 15; refine (impl_IsLimits _ _ _ _).mono ?_; rintro e w1 ⟨rfl, q1⟩; have Q1 : Q w w1 := Q.trans (by (repeat (first | assumption | exact Q.refl _ | refine Q.alloc ?_ _ | refine Q.drewN ?_ _ | refine Q.drew ?_))) q1)
      go_ret2
      exact ShPost.bad HC.out (by decide) Q1
    · have hlb := isLim_bd hl
      have H2a := Lib.hid (fun h3 => sh_2a (s := s) (t := t) (xs := xs) (n := n) hl h9 h3)
      have H2b := Lib.hid (fun h3 h4 => sh_2b (s := s) (t := t) (xs := xs) (n := n) hl h9 h3 h4)
      have H4 := Lib.hid (fun h3 h4 h5 => sh_4 (s := s) (t := t) (xs := xs) (n := n) hl h9 h3 h4 h5)
      have H0 := Lib.hid (fun h3 h4 h5 => sh_0 (s := s) (t := t) (xs := xs) (n := n) hl h9 h3 h4 h5)
      go_enter Try.func38, Try.ntmps38
      go_wp2_with (go_at_call 15; refine (impl_IsLimits _ _ _ _).mono ?_; rintro e w1 ⟨rfl, q1⟩; have Q1 : Q w w1 := Q.trans (by (repeat (first | assumption | exact Q.refl _ | refine Q.alloc ?_ _ | refine Q.drewN ?_ _ | refine Q.drew ?_))) q1; have B1 := (Blk.new _ _ _).q q1)
      clear hl
      go_loop [26] (fun i => ∃ k : Nat, k ≤ n ∧ i = .int .i64 k ∧ Hid (legTo xs k = true)) (fun i => n - (intOf i).toNat)
      case atStart => exact ⟨0, by omega, rfl, Lib.hid rfl⟩
      case round =>
        obtain ⟨k, hk, rfl, HT⟩ := hrel
        by_cases hlt : k < n
        · obtain ⟨bl, o, rfl, g0⟩ := (ha.q Q1).at1 hn hlt
          by_cases hg : 1 ≤ el xs k ∧ el xs k ≤ 1000000000
          · go_wp2_with (go_at_call 60; refine (impl_in _ _ _ _).mono ?_; rintro e w' ⟨rfl, rfl⟩)
            go_round
            case rel => exact ⟨k + 1, by omega, by go_num, Lib.hid (legTo_succ HT.out hg)⟩
            case measure => simp [intOf]; omega
          · go_wp2_with (go_at_call 60; refine (impl_in _ _ _ _).mono ?_; rintro e w' ⟨rfl, rfl⟩)
            go_ret2
            exact ShPost.bad (H2a.out (legTo_no hlt hg)) (by decide) Q1
        · obtain rfl : k = n := by omega
          by_cases hok : 1 ≤ s ∧ s ≤ (k : Int) - 1 ∧ 1 ≤ t ∧ t ≤ 1000000000
          · obtain ⟨m, rfl⟩ := Int.eq_ofNat_of_zero_le (show 0 ≤ s by omega)
            have hle := fun (j : Nat) (hj : j < k) => legTo_at HT.out hj
            have hsb := sumTo_bd HT.out
            have HH := Lib.hid (And.intro hle hsb)
            have hsm := hsb m (by omega)
            clear hle hsb
            have c1 := B1.cell
            go_wp2_with (go_at_call 60; refine (impl_in _ _ _ _).mono ?_; rintro e w' ⟨rfl, rfl⟩)
            go_loop [12, 13, 14, 47] (fun x y z i => ∃ j : Nat, j ≤ k ∧ i = .int .i64 j ∧ x = .int .i64 (bfr m xs j) ∧ y = .int .i64 (sumTo xs j) ∧ z = .int .i64 (bstTo t b m xs j)) (fun _ _ _ i => k - (intOf i).toNat)
            case atStart => exact ⟨0, by omega, rfl, by rw [bfr_lt (by omega)], rfl, rfl⟩
            case round =>
              obtain ⟨j, hj, rfl, rfl, rfl, rfl⟩ := hrel
              by_cases hlt2 : j < k
              · obtain ⟨bl, o, rfl, g0⟩ := (ha.q Q1).at1 hn hlt2
                have hg := HH.out.1 j hlt2
                have hs0 := HH.out.2 j (by omega)
                have hs1 := HH.out.2 (j + 1) (by omega)
                rcases Nat.lt_trichotomy (j + 1) m with h3 | h3 | h3
                · have hb : (((j : Int) + 1) == (m : Int)) = false := by simp; omega
                  have hb2 : decide ((m : Int) < (j : Int) + 1) = false := by simp; omega
                  go_wp2_with fail
                  go_round
                  case rel => exact ⟨j + 1, by omega, by go_num, by rw [bfr_lt (by omega), bfr_lt (by omega)], rfl, by rw [bst_no (by omega)]⟩
                  case measure => simp [intOf]; omega
                · have hb : (((j : Int) + 1) == (m : Int)) = true := by simp; omega
                  have hb2 : decide ((m : Int) < (j : Int) + 1) = false := by simp; omega
                  go_wp2_with fail
                  go_round
                  case rel => exact ⟨j + 1, by omega, by go_num, by rw [bfr_eq (by omega), ← h3]; rfl, rfl, by rw [bst_no (by omega)]⟩
                  case measure => simp [intOf]; omega
                · have hb : (((j : Int) + 1) == (m : Int)) = false := by simp; omega
                  have hb2 : decide ((m : Int) < (j : Int) + 1) = true := by simp; omega
                  have eb : bfr m xs j = sumTo xs m := bfr_eq (by omega)
                  rw [eb]
                  have EB := Lib.hid eb
                  have hS : sumTo xs (j + 1) = sumTo xs j + el xs j := rfl
                  have HS := Lib.hid hS
                  by_cases hc : cmpI t (sumTo xs j + el xs j) b (sumTo xs m) ≤ 0
                  · have HCM := Lib.hid (cmpI_le.1 hc)
                    clear eb hS
                    go_wp2_with (go_at_call 72; refine (impl_cmp _ _ _ _ (by omega) (by omega) (by omega) (by omega) _).mono ?_; rintro e w' ⟨rfl, rfl⟩)
                    go_round
                    case rel => exact ⟨j + 1, by omega, by go_num, by rw [bfr_eq (by omega)], rfl, by rw [bst_yes (by omega) (by rw [HS.out]; exact HCM.out)]⟩
                    case measure => simp [intOf]; omega
                  · have HCM := Lib.hid (mt cmpI_le.2 hc)
                    clear eb hS
                    go_wp2_with (go_at_call 72; refine (impl_cmp _ _ _ _ (by omega) (by omega) (by omega) (by omega) _).mono ?_; rintro e w' ⟨rfl, rfl⟩)
                    go_round
                    case rel => exact ⟨j + 1, by omega, by go_num, by rw [bfr_eq (by omega)], rfl, by rw [bst_no (by rw [HS.out]; exact fun h => absurd h.2 (Int.not_le.2 HCM.out))]⟩
                    case measure => simp [intOf]; omega
              · obtain rfl : j = k := by omega
                by_cases h0 : bstTo t b m xs j = 0
                · have E := H4.out HT.out hok h0
                  have E' := Lib.hid E
                  have hb : (bstTo t b m xs j == 0) = true := by simpa using h0
                  clear E h0
                  go_wp2_with fail
                  go_ret2
                  exact ShPost.bad E'.out (by decide) Q1
                · have E := H0.out HT.out hok h0
                  have E' := Lib.hid E
                  have hb : (bstTo t b m xs j == 0) = false := by simpa using h0
                  clear E h0
                  go_wp2_with fail
                  go_ret2
                  exact ShPost.ok E'.out rfl Q1
          · have E' := Lib.hid (H2b.out HT.out hok)
            go_wp2_with (go_at_call 60; refine (impl_in _ _ _ _).mono ?_; rintro e w' ⟨rfl, rfl⟩)
            all_goals first | (exfalso; simp at *; omega) | (go_ret2; exact ShPost.bad E'.out (by decide) Q1)
theorem mul_bd {a x M N : Int} (ha : 0 ≤ a ∧ a ≤ M) (hx : 0 ≤ x ∧ x ≤ N) : 0 ≤ a * x ∧ a * x ≤ M * N :=
  ⟨Int.mul_nonneg ha.1 hx.1, Int.mul_le_mul ha.2 hx.2 hx.1 (by omega)⟩
theorem most_eq {a b c d X Y P R : Int} (hX : X = a * (b / 1000000)) (hP : P = a * (b % 1000000)) (hY : Y = c * (d / 1000000)) (hR : R = c * (d % 1000000)) (p0 : 0 ≤ P) (r0 : 0 ≤ R) :
    (X + P / 1000000 < Y + R / 1000000 ∨ X + P / 1000000 = Y + R / 1000000 ∧ P % 1000000 ≤ R % 1000000) ↔ a * b ≤ c * d := by
  have e1 : a * b = 1000000 * X + P := by
    rw [hX, hP, Int.mul_left_comm, ← Int.mul_add, Int.mul_ediv_add_emod]
  have e2 : c * d = 1000000 * Y + R := by
    rw [hY, hR, Int.mul_left_comm, ← Int.mul_add, Int.mul_ediv_add_emod]
  rw [e1, e2]
  omega
set_option maxHeartbeats 1000000 in
theorem spec_Most (a b c d : Int) (w : World) (ha : 0 ≤ a ∧ a ≤ 1000000000) (hb : 0 ≤ b ∧ b ≤ 10000000000) (hc : 0 ≤ c ∧ c ≤ 1000000000) (hd : 0 ≤ d ∧ d ≤ 10000000000) :
    Calls Try.prog 73 #[.int .i64 a, .int .i64 b, .int .i64 c, .int .i64 d] w fun e w' => e = .returned (.bool (decide (a * b ≤ c * d))) ∧ w = w' := by
  have h1 := mul_bd (N := 10000) ha (show 0 ≤ b / 1000000 ∧ b / 1000000 ≤ 10000 by omega)
  have h2 := mul_bd (N := 1000000) ha (show 0 ≤ b % 1000000 ∧ b % 1000000 ≤ 1000000 by omega)
  have h3 := mul_bd (N := 10000) hc (show 0 ≤ d / 1000000 ∧ d / 1000000 ≤ 10000 by omega)
  have h4 := mul_bd (N := 1000000) hc (show 0 ≤ d % 1000000 ∧ d % 1000000 ≤ 1000000 by omega)
  have HE := Lib.hid (most_eq (a := a) (b := b) (c := c) (d := d) rfl rfl rfl rfl h2.1 h4.1)
  go_enter Try.func73, Try.ntmps73
  go_wp2_with fail
  all_goals go_ret
  all_goals refine ⟨ret_bool ?_, rfl⟩
  all_goals (rw [Bool.eq_iff_iff]; refine Iff.trans ?_ (HE.out.trans decide_eq_true_iff.symm))
  all_goals (try simp only [beq_iff_eq, beq_eq_false_iff_ne, ne_eq, decide_eq_true_iff] at *)
  all_goals (clear HE h1 h2 h3 h4; first | omega | (simp; omega))
set_option maxHeartbeats 2000000 in
theorem spec_ShortenAtP (a b c : Int) (A : Option Addr) (n d : Nat) (xs : List Int) (s t : Int) (w : World) (ha : Rd w A xs) (hn : xs.length = n) (hn2 : n ≤ 9223372036854775807) :
    Calls Try.prog 39 #[.agg #[.int .i64 a, .int .i64 b, .int .i64 c], .slice A n d, .int .i64 s, .int .i64 t] w (ShPost a b c s t xs n w) := by
  cases hl : isLim a b c
  · have HC := Lib.hid (sh_1 (s := s) (t := t) (xs := xs) (n := n) hl)
    go_enter Try.func39, Try.ntmps39
    go_wp2_with (go_at_call 63; refine (spec_IsLimits _ _ _ _).mono ?_; rintro e w1 ⟨rfl, q1⟩; have Q1 : Q w w1 := Q.trans (by (repeat (first | assumption | exact Q.refl _ | refine Q.alloc ?_ _ | refine Q.drewN ?_ _ | refine Q.drew ?_))) q1)
    go_ret2
    exact ShPost.bad HC.out (by decide) Q1
  · by_cases h9 : 9 < n
    · have HC := Lib.hid (sh_3 (s := s) (t := t) (xs := xs) (n := n) hl h9)
      go_enter Try.func39, Try.ntmps39
      go_wp2_with (go_at_call 63; refine (spec_IsLimits _ _ _ _).mono ?_; rintro e w1 ⟨rfl, q1⟩; have Q1 : Q w w1 := Q.trans (by (repeat (first | assumption | exact Q.refl _ | refine Q.alloc ?_ _ | refine Q.drewN ?_ _ | refine Q.drew ?_))) q1)
      go_ret2
      exact ShPost.bad HC.out (by decide) Q1
    · have hlb := isLim_bd hl
      have H2a := Lib.hid (fun h3 => sh_2a (s := s) (t := t) (xs := xs) (n := n) hl h9 h3)
      have H2b := Lib.hid (fun h3 h4 => sh_2b (s := s) (t := t) (xs := xs) (n := n) hl h9 h3 h4)
      have H4 := Lib.hid (fun h3 h4 h5 => sh_4 (s := s) (t := t) (xs := xs) (n := n) hl h9 h3 h4 h5)
      have H0 := Lib.hid (fun h3 h4 h5 => sh_0 (s := s) (t := t) (xs := xs) (n := n) hl h9 h3 h4 h5)
      go_enter Try.func39, Try.ntmps39
      go_wp2_with (go_at_call 63; refine (spec_IsLimits _ _ _ _).mono ?_; rintro e w1 ⟨rfl, q1⟩; have Q1 : Q w w1 := Q.trans (by (repeat (first | assumption | exact Q.refl _ | refine Q.alloc ?_ _ | refine Q.drewN ?_ _ | refine Q.drew ?_))) q1; have B1 := (Blk.new _ _ _).q q1)
      clear hl
      go_loop [10] (fun i => ∃ k : Nat, k ≤ n ∧ i = .int .i64 k ∧ Hid (legTo xs k = true)) (fun i => n - (intOf i).toNat)
      case atStart => exact ⟨0, by omega, rfl, Lib.hid rfl⟩
      case round =>
        obtain ⟨k, hk, rfl, HT⟩ := hrel
        by_cases hlt : k < n
        · obtain ⟨bl, o, rfl, g0⟩ := (ha.q Q1).at1 hn hlt
          by_cases hg : 1 ≤ el xs k ∧ el xs k ≤ 1000000000
          · go_wp2_with (go_at_call 64; refine (spec_in _ _ _ _).mono ?_; rintro e w' ⟨rfl, rfl⟩)
            go_round
            case rel => exact ⟨k + 1, by omega, by go_num, Lib.hid (legTo_succ HT.out hg)⟩
            case measure => simp [intOf]; omega
          · go_wp2_with (go_at_call 64; refine (spec_in _ _ _ _).mono ?_; rintro e w' ⟨rfl, rfl⟩)
            go_ret2
            exact ShPost.bad (H2a.out (legTo_no hlt hg)) (by decide) Q1
        · obtain rfl : k = n := by omega
          by_cases hok : 1 ≤ s ∧ s ≤ (k : Int) - 1 ∧ 1 ≤ t ∧ t ≤ 1000000000
          · obtain ⟨m, rfl⟩ := Int.eq_ofNat_of_zero_le (show 0 ≤ s by omega)
            have hle := fun (j : Nat) (hj : j < k) => legTo_at HT.out hj
            have hsb := sumTo_bd HT.out
            have HH := Lib.hid (And.intro hle hsb)
            have hsm := hsb m (by omega)
            clear hle hsb
            have c1 := B1.cell
            go_wp2_with (go_at_call 64; refine (spec_in _ _ _ _).mono ?_; rintro e w' ⟨rfl, rfl⟩)
            go_loop [11, 12] (fun x i => ∃ j : Nat, j ≤ m ∧ i = .int .i64 j ∧ x = .int .i64 (sumTo xs j)) (fun _ i => m - (intOf i).toNat)
            case atStart => exact ⟨0, by omega, rfl, rfl⟩
            case round =>
              obtain ⟨j, hj, rfl, rfl⟩ := hrel
              by_cases hlt2 : j < m
              · obtain ⟨bl, o, rfl, g0⟩ := (ha.q Q1).at1 hn (show j < k by omega)
                have hg := HH.out.1 j (by omega)
                have hs0 := HH.out.2 j (by omega)
                go_wp2_with fail
                go_round
                case rel => exact ⟨j + 1, by omega, by go_num, rfl⟩
                case measure => simp [intOf]; omega
              · obtain rfl : j = m := by omega
                go_wp2_with fail
                go_loop [13, 14, 15] (fun z y i => ∃ p : Nat, j ≤ p ∧ p ≤ k ∧ i = .int .i64 ((p : Int) + 1) ∧ y = .int .i64 (sumTo xs p) ∧ z = .int .i64 (bstTo t b j xs p)) (fun _ _ i => k + 1 - (intOf i).toNat)
                case atStart => exact ⟨j, by omega, by omega, rfl, rfl, by rw [bst_low j (by omega)]⟩
                case round =>
                  obtain ⟨p, hp1, hp, rfl, rfl, rfl⟩ := hrel
                  by_cases hlt3 : p < k
                  · obtain ⟨bl, o, rfl, g0⟩ := (ha.q Q1).at1 hn hlt3
                    have hg := HH.out.1 p hlt3
                    have hs0 := HH.out.2 p (by omega)
                    have hS : sumTo xs (p + 1) = sumTo xs p + el xs p := rfl
                    have HS := Lib.hid hS
                    clear hS
                    by_cases hc : t * (sumTo xs p + el xs p) ≤ b * sumTo xs j
                    · have HCM := Lib.hid hc
                      have hd : decide (t * (sumTo xs p + el xs p) ≤ b * sumTo xs j) = true := by simpa using hc
                      clear hc
                      go_wp2_with (go_at_call 73; refine (spec_Most _ _ _ _ _ (by omega) (by omega) (by omega) (by omega)).mono ?_; rintro e w' ⟨rfl, rfl⟩)
                      go_round
                      case rel => exact ⟨p + 1, by omega, by omega, by go_num, rfl, by rw [bst_yes (by omega) (by rw [HS.out]; exact HCM.out)]⟩
                      case measure => simp [intOf]; omega
                    · have HCM := Lib.hid hc
                      have hd : decide (t * (sumTo xs p + el xs p) ≤ b * sumTo xs j) = false := by simpa using hc
                      clear hc
                      go_wp2_with (go_at_call 73; refine (spec_Most _ _ _ _ _ (by omega) (by omega) (by omega) (by omega)).mono ?_; rintro e w' ⟨rfl, rfl⟩)
                      go_round
                      case rel => exact ⟨p + 1, by omega, by omega, by go_num, rfl, by rw [bst_no (by rw [HS.out]; exact fun h => absurd h.2 (Int.not_le.2 HCM.out))]⟩
                      case measure => simp [intOf]; omega
                  · obtain rfl : p = k := by omega
                    by_cases h0 : bstTo t b j xs p = 0
                    · have E := H4.out HT.out hok h0
                      have E' := Lib.hid E
                      have hb : (bstTo t b j xs p == 0) = true := by simpa using h0
                      clear E h0
                      go_wp2_with fail
                      go_ret2
                      exact ShPost.bad E'.out (by decide) Q1
                    · have E := H0.out HT.out hok h0
                      have E' := Lib.hid E
                      have hb : (bstTo t b j xs p == 0) = false := by simpa using h0
                      clear E h0
                      go_wp2_with fail
                      go_ret2
                      exact ShPost.ok E'.out rfl Q1
          · have E' := Lib.hid (H2b.out HT.out hok)
            go_wp2_with (go_at_call 64; refine (spec_in _ _ _ _).mono ?_; rintro e w' ⟨rfl, rfl⟩)
            all_goals first | (exfalso; simp at *; omega) | (go_ret2; exact ShPost.bad E'.out (by decide) Q1)
theorem spec_ShortenAt (a b c : Int) (A : Option Addr) (n d : Nat) (xs : List Int) (s t : Int) (w : World) (ha : Rd w A xs) (hn : xs.length = n) (hn2 : n ≤ 9223372036854775807) :
    Calls Try.prog 39 #[.agg #[.int .i64 a, .int .i64 b, .int .i64 c], .slice A n d, .int .i64 s, .int .i64 t] w fun e w' => e = .returned (.tuple #[.int .i64 (shV a b c s t xs n), .int .i64 (shC a b c s t xs n)]) ∧ Q w w' := spec_ShortenAtP a b c A n d xs s t w ha hn hn2
theorem impl_ShortenAt (a b c : Int) (A : Option Addr) (n d : Nat) (xs : List Int) (s t : Int) (w : World) (ha : Rd w A xs) (hn : xs.length = n) (hn2 : n ≤ 9223372036854775807) :
    Calls Try.prog 38 #[.agg #[.int .i64 a, .int .i64 b, .int .i64 c], .slice A n d, .int .i64 s, .int .i64 t] w fun e w' => e = .returned (.tuple #[.int .i64 (shV a b c s t xs n), .int .i64 (shC a b c s t xs n)]) ∧ Q w w' := impl_ShortenAtP a b c A n d xs s t w ha hn hn2

end Go.Proofs.Ythlfadkpeogajaa
