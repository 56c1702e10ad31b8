/- Walks: where a track is at a time, as the program and the reference compute it, for all valid tracks and times at which they last. -/
import Derived.Test.YtckmlioklnjboaaCheck
namespace Go.Proofs.Ytckmlioklnjboaa
open Go.RowKit Go.WideShapes Go.ChangeShapes
/-- The last leg below m that begins at or before t. -/
def legS (xs : List Int) (t : Int) : Nat → Nat
  | 0 => 0
  | k + 1 => if el xs (k * 3) ≤ t then k else legS xs t k
theorem legS_yes {xs : List Int} {t : Int} {k : Nat} (h : el xs (k * 3) ≤ t) : legS xs t (k + 1) = k := by rw [legS, if_pos h]
theorem legS_no {xs : List Int} {t : Int} {k : Nat} (h : ¬ el xs (k * 3) ≤ t) : legS xs t (k + 1) = legS xs t k := by rw [legS, if_neg h]
theorem legS_lt (xs : List Int) (t : Int) : ∀ k : Nat, legS xs t (k + 1) ≤ k
  | 0 => by unfold legS; split <;> simp [legS]
  | k + 1 => by
    by_cases h : el xs ((k + 1) * 3) ≤ t
    · rw [legS_yes h]; exact Nat.le_refl _
    · rw [legS_no h]; exact Nat.le_succ_of_le (legS_lt xs t k)
theorem legS_facts {xs : List Int} {t : Int} (h0 : el xs 0 ≤ t) : ∀ k : Nat, el xs (legS xs t (k + 1) * 3) ≤ t ∧ ∀ j, legS xs t (k + 1) < j → j ≤ k → t < el xs (j * 3)
  | 0 => by
    have e : legS xs t 1 = 0 := Nat.le_zero.1 (legS_lt xs t 0)
    rw [e]
    exact ⟨by simpa using h0, fun j h1 h2 => by omega⟩
  | k + 1 => by
    by_cases h : el xs ((k + 1) * 3) ≤ t
    · rw [legS_yes h]
      exact ⟨h, fun j h1 h2 => by omega⟩
    · rw [legS_no h]
      obtain ⟨h1, h2⟩ := legS_facts h0 k
      refine ⟨h1, fun j h3 h4 => ?_⟩
      rcases Nat.lt_or_ge j (k + 1) with h5 | h5
      · exact h2 j h3 (by omega)
      · obtain rfl : j = k + 1 := by omega
        omega
def lastsB (xs : List Int) (n : Nat) (t : Int) : Bool := inR t (el xs 0) (el xs ((n - 1) * 3))
theorem leg_facts {xs : List Int} {n : Nat} {t : Int} (hT : isTrk xs n = true) (hl : lastsB xs n t = true) :
    legS xs t (n - 1) + 1 < n ∧ el xs (legS xs t (n - 1) * 3) ≤ t ∧ t ≤ el xs ((legS xs t (n - 1) + 1) * 3) := by
  have hn := trk_n hT
  obtain ⟨N, rfl⟩ : ∃ N, n = N + 2 := ⟨n - 2, by omega⟩
  have h := of_decide_eq_true hl
  simp only [show N + 2 - 1 = N + 1 by omega] at h ⊢
  have h1 := legS_lt xs t N
  obtain ⟨h2, h3⟩ := legS_facts h.1 N
  refine ⟨by omega, h2, ?_⟩
  rcases Nat.lt_or_ge (legS xs t (N + 1)) N with h4 | h4
  · exact Int.le_of_lt (h3 _ (by omega) (by omega))
  · rw [show legS xs t (N + 1) = N by omega]
    exact h.2
theorem impl_legAt (A : Option Addr) (n c : Nat) (xs : List Int) (t : Int) (w : World) (ha : Rd w A xs) (hn : xs.length = n * 3) (hT : isTrk xs n = true) :
    Calls Try.prog 108 #[.agg #[.slice A n c], .int .i64 t] w fun e w' => e = .returned (.int .i64 (legS xs t (n - 1))) ∧ Q w w' := by
  have hn2 := trk_n hT
  obtain ⟨N, rfl⟩ : ∃ N, n = N + 2 := ⟨n - 2, by omega⟩
  simp only [show N + 2 - 1 = N + 1 by omega]
  clear hT
  go_enter Try.func108, Try.ntmps108
  go_wp2_with fail
  go_loop [5] (fun i => ∃ k : Nat, k ≤ N ∧ i = .int .i64 k ∧ Hid (legS xs t (N + 1) = legS xs t (k + 1))) (fun i => (intOf i).toNat)
  case atStart => exact ⟨N, Nat.le_refl _, by go_num, Lib.hid rfl⟩
  case round =>
    obtain ⟨k, hk, rfl, HL⟩ := hrel
    obtain ⟨b, o, rfl, g0, _, _⟩ := (ha.q ((Q.refl w).alloc (.cells #[.slice A (N + 2) c] 40))).at3 hn (show k < N + 2 by omega)
    have hkI : (k : Int) < ((N + 2 : Nat) : Int) := by omega
    rcases Nat.eq_zero_or_pos k with rfl | hpos
    · have HX := Lib.hid (Nat.le_zero.1 (legS_lt xs t 0))
      go_wp2_with fail
      go_ret
      exact ⟨ret_int (by rw [HL.out, HX.out]; rfl), by (repeat (first | assumption | exact Q.refl _ | refine Q.alloc ?_ _ | refine Q.drewN ?_ _ | refine Q.drew ?_))⟩
    · have hpI : (0 : Int) < (k : Int) := by omega
      by_cases hgt : t < el xs (k * 3)
      · obtain ⟨j, rfl⟩ : ∃ j, k = j + 1 := ⟨k - 1, by omega⟩
        have HX := Lib.hid (HL.out.trans (legS_no (k := j + 1) (by omega)))
        go_wp2_with fail
        go_round
        case rel => exact ⟨j, by omega, by go_num, HX⟩
        case measure => simp [intOf]
      · have HX := Lib.hid (HL.out.trans (legS_yes (by omega)))
        go_wp2_with fail
        go_ret
        exact ⟨ret_int (by rw [HX.out]), by (repeat (first | assumption | exact Q.refl _ | refine Q.alloc ?_ _ | refine Q.drewN ?_ _ | refine Q.drew ?_))⟩
theorem spec_l03Leg (A : Option Addr) (n c : Nat) (xs : List Int) (t : Int) (w : World) (ha : Rd w A xs) (hn : xs.length = n * 3) (hT : isTrk xs n = true) :
    Calls Try.prog 103 #[.agg #[.slice A n c], .int .i64 t] w fun e w' => e = .returned (.int .i64 (legS xs t (n - 1))) ∧ Q w w' := by
  have hn2 := trk_n hT
  obtain ⟨N, rfl⟩ : ∃ N, n = N + 1 := ⟨n - 1, by omega⟩
  simp only [show N + 1 - 1 = N by omega]
  clear hT
  go_enter Try.func103, Try.ntmps103
  go_wp2_with fail
  go_loop [5, 6] (fun v i => ∃ k : Nat, k ≤ N ∧ i = .int .i64 k ∧ v = .int .i64 (legS xs t k)) (fun _ i => N - (intOf i).toNat)
  case atStart => exact ⟨0, Nat.zero_le _, rfl, rfl⟩
  case round =>
    obtain ⟨k, hk, rfl, rfl⟩ := hrel
    by_cases hlt : k < N
    · obtain ⟨b, o, rfl, g0, _, _⟩ := (ha.q ((Q.refl w).alloc (.cells #[.slice A (N + 1) c] 40))).at3 hn (show k < N + 1 by omega)
      by_cases hle : el xs (k * 3) ≤ t
      · have HX := Lib.hid (legS_yes hle)
        go_wp2_with fail
        go_round
        case rel => exact ⟨k + 1, by omega, by go_num, by rw [HX.out]⟩
        case measure => simp [intOf]; omega
      · have HX := Lib.hid (legS_no hle)
        go_wp2_with fail
        go_round
        case rel => exact ⟨k + 1, by omega, by go_num, by rw [HX.out]⟩
        case measure => simp [intOf]; omega
    · obtain rfl : k = N := by omega
      go_wp2_with fail
      go_ret
      exact ⟨rfl, by (repeat (first | assumption | exact Q.refl _ | refine Q.alloc ?_ _ | refine Q.drewN ?_ _ | refine Q.drew ?_))⟩
theorem impl_lasts (A : Option Addr) (n c : Nat) (xs : List Int) (t : Int) (w : World) (ha : Rd w A xs) (hn : xs.length = n * 3) (hT : isTrk xs n = true) :
    Calls Try.prog 71 #[.agg #[.slice A n c], .int .i64 t] w fun e w' => e = .returned (.bool (lastsB xs n t)) ∧ Q w w' := by
  have hn2 := trk_n hT
  obtain ⟨N, rfl⟩ : ∃ N, n = N + 1 := ⟨n - 1, by omega⟩
  unfold lastsB
  simp only [show N + 1 - 1 = N by omega]
  clear hT
  obtain ⟨b, o, rfl, g0, _, _⟩ := ha.at3 hn (show 0 < N + 1 by omega)
  obtain ⟨_, _, hA, j0, _, _⟩ := ha.at3 hn (show N < N + 1 by omega)
  cases hA
  simp only [Nat.zero_mul, Nat.add_zero] at g0
  have B := Blk.new w 40 #[.slice (some ⟨b, o, none⟩) (N + 1) c]
  have lB := later_cells B.cell B.lt
  have l0 := later_cell (((Q.refl w).alloc (.cells #[.slice (some ⟨b, o, none⟩) (N + 1) c] 40)).cell g0)
  have l1 := later_cell (((Q.refl w).alloc (.cells #[.slice (some ⟨b, o, none⟩) (N + 1) c] 40)).cell j0)
  clear g0 j0
  go_enter Try.func71, Try.ntmps71
  go_wp2_with fail
  refine wp_region_later_lit (by kernel_rfl) (by kernel_rfl) ?_
  repeat (any_goals (first | go_big_quiet_step ((go_at_call 54; exact later_same (impl_inR _ _ _ _))) | quiet_step ((go_at_call 54; exact later_same (impl_inR _ _ _ _))) | (refine wpQuiet_step (fun K hK => ?_); go_simp; split <;> (refine hK _ ?_; clear hK K))))
  all_goals (refine wpQuiet_nil ?_; rintro _ ⟨⟨w2, q2⟩, rfl⟩; try dsimp only)
  all_goals go_wp2_with fail
  go_ret
  exact ⟨rfl, Q.trans (by (repeat (first | assumption | exact Q.refl _ | refine Q.alloc ?_ _ | refine Q.drewN ?_ _ | refine Q.drew ?_))) q2⟩
theorem spec_l03Lasts (A : Option Addr) (n c : Nat) (xs : List Int) (t : Int) (w : World) (ha : Rd w A xs) (hn : xs.length = n * 3) (hT : isTrk xs n = true) :
    Calls Try.prog 82 #[.agg #[.slice A n c], .int .i64 t] w fun e w' => e = .returned (.bool (lastsB xs n t)) ∧ Q w w' := by
  have hn2 := trk_n hT
  obtain ⟨N, rfl⟩ : ∃ N, n = N + 1 := ⟨n - 1, by omega⟩
  unfold lastsB
  simp only [show N + 1 - 1 = N by omega]
  clear hT
  obtain ⟨b, o, rfl, g0, _, _⟩ := ha.at3 hn (show 0 < N + 1 by omega)
  obtain ⟨_, _, hA, j0, _, _⟩ := ha.at3 hn (show N < N + 1 by omega)
  cases hA
  simp only [Nat.zero_mul, Nat.add_zero] at g0
  have B := Blk.new w 40 #[.slice (some ⟨b, o, none⟩) (N + 1) c]
  have lB := later_cells B.cell B.lt
  have l0 := later_cell (((Q.refl w).alloc (.cells #[.slice (some ⟨b, o, none⟩) (N + 1) c] 40)).cell g0)
  have l1 := later_cell (((Q.refl w).alloc (.cells #[.slice (some ⟨b, o, none⟩) (N + 1) c] 40)).cell j0)
  clear g0 j0
  go_enter Try.func82, Try.ntmps82
  go_wp2_with fail
  refine wp_region_later_lit (by kernel_rfl) (by kernel_rfl) ?_
  repeat (any_goals (first | go_big_quiet_step ((go_at_call 52; exact later_same (spec_inR _ _ _ _))) | quiet_step ((go_at_call 52; exact later_same (spec_inR _ _ _ _))) | (refine wpQuiet_step (fun K hK => ?_); go_simp; split <;> (refine hK _ ?_; clear hK K))))
  all_goals (refine wpQuiet_nil ?_; rintro _ ⟨⟨w2, q2⟩, rfl⟩; try dsimp only)
  all_goals go_wp2_with fail
  go_ret
  exact ⟨rfl, Q.trans (by (repeat (first | assumption | exact Q.refl _ | refine Q.alloc ?_ _ | refine Q.drewN ?_ _ | refine Q.drew ?_))) q2⟩
/-- A coordinate between two others, rounded down. -/
def posC (a b g d : Int) : Int := a + (b - a) * g / d
theorem posC_bd {a b g d V : Int} (hg : 0 ≤ g ∧ g ≤ d) (hd : 0 < d) (hV : -V ≤ b - a ∧ b - a ≤ V) : -V ≤ (b - a) * g / d ∧ (b - a) * g / d ≤ V := by
  have h0 : 0 ≤ V := by omega
  have h1 : (b - a) * g ≤ V * d := Int.le_trans (Int.mul_le_mul_of_nonneg_right hV.2 hg.1) (Int.mul_le_mul_of_nonneg_left hg.2 h0)
  have h2 : V * g ≤ V * d := Int.mul_le_mul_of_nonneg_left hg.2 h0
  have h3 : (-V) * g ≤ (b - a) * g := Int.mul_le_mul_of_nonneg_right hV.1 hg.1
  rw [Int.neg_mul] at h3
  refine ⟨Int.le_ediv_of_mul_le hd (by rw [Int.neg_mul]; omega), ?_⟩
  have := Int.ediv_le_ediv hd h1
  rwa [Int.mul_ediv_cancel _ (by omega)] at this
theorem l02_facts {v g d : Int} (hv : -2000000 ≤ v ∧ v ≤ 2000000) (hg : 0 ≤ g ∧ g ≤ d) (hd : 0 < d ∧ d ≤ 1000000000) :
    (-2000 ≤ v / 1000 ∧ v / 1000 ≤ 2000) ∧ (-2000000000000 ≤ v / 1000 * g ∧ v / 1000 * g ≤ 2000000000000) ∧ (-2000 ≤ v / 1000 * g / d ∧ v / 1000 * g / d ≤ 2000) ∧
    (0 ≤ v / 1000 * g - v / 1000 * g / d * d ∧ v / 1000 * g - v / 1000 * g / d * d < d) ∧ (-2000000000000 ≤ v / 1000 * g / d * d ∧ v / 1000 * g / d * d ≤ 2000000000000) ∧ (0 ≤ (v - 1000 * (v / 1000)) * g ∧ (v - 1000 * (v / 1000)) * g ≤ 999000000000) ∧
    1000 * (v / 1000 * g / d) + (1000 * (v / 1000 * g - v / 1000 * g / d * d) + (v - 1000 * (v / 1000)) * g) / d = v * g / d ∧ (0 ≤ (1000 * (v / 1000 * g - v / 1000 * g / d * d) + (v - 1000 * (v / 1000)) * g) / d ∧ (1000 * (v / 1000 * g - v / 1000 * g / d * d) + (v - 1000 * (v / 1000)) * g) / d ≤ 2000000000000) := by
  have h1 : -2000 ≤ v / 1000 ∧ v / 1000 ≤ 2000 := by omega
  have hl : 0 ≤ v - 1000 * (v / 1000) ∧ v - 1000 * (v / 1000) ≤ 999 := by omega
  have hV : v = 1000 * (v / 1000) + (v - 1000 * (v / 1000)) := by omega
  generalize v / 1000 = H at *
  generalize v - 1000 * H = L at *
  have h2 : -2000000000000 ≤ H * g ∧ H * g ≤ 2000000000000 := by
    have a1 : H * g ≤ 2000 * g := Int.mul_le_mul_of_nonneg_right h1.2 hg.1
    have a2 : (-2000) * g ≤ H * g := Int.mul_le_mul_of_nonneg_right h1.1 hg.1
    omega
  have h3 : -2000 ≤ H * g / d ∧ H * g / d ≤ 2000 := by
    have := posC_bd (a := 0) (b := H) (V := 2000) hg hd.1 (by omega)
    simpa using this
  have h4 : H * g - H * g / d * d = H * g % d := by
    have := Int.mul_ediv_add_emod (H * g) d
    rw [Int.mul_comm] at this
    omega
  have h5 := Int.emod_nonneg (H * g) (show d ≠ 0 by omega)
  have h6 := Int.emod_lt_of_pos (H * g) hd.1
  have h7 : 0 ≤ L * g ∧ L * g ≤ 999000000000 := by
    have := mul_bd' (N := 1000000000) (M := 999) hl (show 0 ≤ g ∧ g ≤ 1000000000 by omega)
    omega
  have h8 : (-2000) * d ≤ H * g / d * d := Int.mul_le_mul_of_nonneg_right h3.1 (by omega)
  have h9 : H * g / d * d ≤ 2000 * d := Int.mul_le_mul_of_nonneg_right h3.2 (by omega)
  refine ⟨h1, h2, h3, by omega, by omega, h7, ?_, ?_⟩
  · rw [h4]
    have e : v * g = (1000 * (H * g % d) + L * g) + d * (1000 * (H * g / d)) := by
      have a1 := Int.mul_ediv_add_emod (H * g) d
      rw [hV, Int.add_mul, Int.mul_assoc, Int.mul_left_comm d 1000]
      omega
    rw [e, Int.add_mul_ediv_left _ _ (by omega)]
    omega
  · rw [h4]
    refine ⟨Int.ediv_nonneg (by omega) (by omega), Int.le_trans (Int.ediv_le_self _ (by omega)) (by omega)⟩
end Go.Proofs.Ytckmlioklnjboaa
