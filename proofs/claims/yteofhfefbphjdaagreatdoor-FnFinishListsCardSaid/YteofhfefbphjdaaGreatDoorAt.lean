/- Walks: where a track is at a time, as the program and the reference compute it, for all valid tracks and times at which they last. Walks: the position of a valid track at a time at which it lasts, as the program and the reference compute it. -/
import Derived.Test.YteofhfefbphjdaaGreatDoorCheck
import Derived.Deep.Cut
import Derived.Deep.RegionWith
import Derived.Test.YteofhfefbphjdaaGreatDoorK
namespace Go.Proofs.YteofhfefbphjdaaGreatDoor
open Go.RowKit Go.WideShapes Go.ChangeShapes
/-- The last leg below m that begins at or before t. -/
def legS (xs : List Int) (t : Int) : Nat → Nat
  | 0 => 0
  | k + 1 => if el xs (k * 3) ≤ t then k else legS xs t k
theorem legS_yes {xs : List Int} {t : Int} {k : Nat} (h : el xs (k * 3) ≤ t) : legS xs t (k + 1) = k := by rw [legS, if_pos h]
theorem legS_no {xs : List Int} {t : Int} {k : Nat} (h : ¬ el xs (k * 3) ≤ t) : legS xs t (k + 1) = legS xs t k := by rw [legS, if_neg h]
theorem legS_lt (xs : List Int) (t : Int) : ∀ k : Nat, legS xs t (k + 1) ≤ k
  | 0 => by unfold legS; split <;> simp [legS]
  | k + 1 => by
    by_cases h : el xs ((k + 1) * 3) ≤ t
    · rw [legS_yes h]; exact Nat.le_refl _
    · rw [legS_no h]; exact Nat.le_succ_of_le (legS_lt xs t k)
theorem legS_facts {xs : List Int} {t : Int} (h0 : el xs 0 ≤ t) : ∀ k : Nat, el xs (legS xs t (k + 1) * 3) ≤ t ∧ ∀ j, legS xs t (k + 1) < j → j ≤ k → t < el xs (j * 3)
  | 0 => by
    have e : legS xs t 1 = 0 := Nat.le_zero.1 (legS_lt xs t 0)
    rw [e]
    exact ⟨by simpa using h0, fun j h1 h2 => by omega⟩
  | k + 1 => by
    by_cases h : el xs ((k + 1) * 3) ≤ t
    · rw [legS_yes h]
      exact ⟨h, fun j h1 h2 => by omega⟩
    · rw [legS_no h]
      obtain ⟨h1, h2⟩ := legS_facts h0 k
      refine ⟨h1, fun j h3 h4 => ?_⟩
      rcases Nat.lt_or_ge j (k + 1) with h5 | h5
      · exact h2 j h3 (by omega)
      · obtain rfl : j = k + 1 := by omega
        omega
def lastsB (xs : List Int) (n : Nat) (t : Int) : Bool := inR t (el xs 0) (el xs ((n - 1) * 3))
theorem leg_facts {xs : List Int} {n : Nat} {t : Int} (hT : isTrk xs n = true) (hl : lastsB xs n t = true) :
    legS xs t (n - 1) + 1 < n ∧ el xs (legS xs t (n - 1) * 3) ≤ t ∧ t ≤ el xs ((legS xs t (n - 1) + 1) * 3) := by
  have hn := trk_n hT
  obtain ⟨N, rfl⟩ : ∃ N, n = N + 2 := ⟨n - 2, by omega⟩
  have h := of_decide_eq_true hl
  simp only [show N + 2 - 1 = N + 1 by omega] at h ⊢
  have h1 := legS_lt xs t N
  obtain ⟨h2, h3⟩ := legS_facts h.1 N
  refine ⟨by omega, h2, ?_⟩
  rcases Nat.lt_or_ge (legS xs t (N + 1)) N with h4 | h4
  · exact Int.le_of_lt (h3 _ (by omega) (by omega))
  · rw [show legS xs t (N + 1) = N by omega]
    exact h.2
theorem impl_legAt (A : Option Addr) (n c : Nat) (xs : List Int) (t : Int) (w : World) (ha : Rd w A xs) (hn : xs.length = n * 3) (hT : isTrk xs n = true) :
    Calls Tryz.prog 107 #[.agg #[.slice A n c], .int .i64 t] w fun e w' => e = .returned (.int .i64 (legS xs t (n - 1))) ∧ Q w w' := by
  have hn2 := trk_n hT
  obtain ⟨N, rfl⟩ : ∃ N, n = N + 2 := ⟨n - 2, by omega⟩
  simp only [show N + 2 - 1 = N + 1 by omega]
  clear hT
  go_enter Tryz.func107, Tryz.ntmps107
  go_wp2_with fail
  go_loop [5] (fun i => ∃ k : Nat, k ≤ N ∧ i = .int .i64 k ∧ Hid (legS xs t (N + 1) = legS xs t (k + 1))) (fun i => (intOf i).toNat)
  case atStart => exact ⟨N, Nat.le_refl _, by go_num, Lib.hid rfl⟩
  case round =>
    obtain ⟨k, hk, rfl, HL⟩ := hrel
    obtain ⟨b, o, rfl, g0, _, _⟩ := (ha.q ((Q.refl w).alloc (.cells #[.slice A (N + 2) c] 43))).at3 hn (show k < N + 2 by omega)
    have hkI : (k : Int) < ((N + 2 : Nat) : Int) := by omega
    rcases Nat.eq_zero_or_pos k with rfl | hpos
    · have HX := Lib.hid (Nat.le_zero.1 (legS_lt xs t 0))
      go_wp2_with fail
      go_ret
      exact ⟨ret_int (by rw [HL.out, HX.out]; rfl), by (repeat (first | assumption | exact Q.refl _ | refine Q.alloc ?_ _ | refine Q.drewN ?_ _ | refine Q.drew ?_))⟩
    · have hpI : (0 : Int) < (k : Int) := by omega
      by_cases hgt : t < el xs (k * 3)
      · obtain ⟨j, rfl⟩ : ∃ j, k = j + 1 := ⟨k - 1, by omega⟩
        have HX := Lib.hid (HL.out.trans (legS_no (k := j + 1) (by omega)))
        go_wp2_with fail
        go_round
        case rel => exact ⟨j, by omega, by go_num, HX⟩
        case measure => simp [intOf]
      · have HX := Lib.hid (HL.out.trans (legS_yes (by omega)))
        go_wp2_with fail
        go_ret
        exact ⟨ret_int (by rw [HX.out]), by (repeat (first | assumption | exact Q.refl _ | refine Q.alloc ?_ _ | refine Q.drewN ?_ _ | refine Q.drew ?_))⟩
theorem spec_l03Leg (A : Option Addr) (n c : Nat) (xs : List Int) (t : Int) (w : World) (ha : Rd w A xs) (hn : xs.length = n * 3) (hT : isTrk xs n = true) :
    Calls Tryz.prog 109 #[.agg #[.slice A n c], .int .i64 t] w fun e w' => e = .returned (.int .i64 (legS xs t (n - 1))) ∧ Q w w' := by
  have hn2 := trk_n hT
  obtain ⟨N, rfl⟩ : ∃ N, n = N + 1 := ⟨n - 1, by omega⟩
  simp only [show N + 1 - 1 = N by omega]
  clear hT
  go_enter Tryz.func109, Tryz.ntmps109
  go_wp2_with fail
  go_loop [5, 6] (fun v i => ∃ k : Nat, k ≤ N ∧ i = .int .i64 k ∧ v = .int .i64 (legS xs t k)) (fun _ i => N - (intOf i).toNat)
  case atStart => exact ⟨0, Nat.zero_le _, rfl, rfl⟩
  case round =>
    obtain ⟨k, hk, rfl, rfl⟩ := hrel
    by_cases hlt : k < N
    · obtain ⟨b, o, rfl, g0, _, _⟩ := (ha.q ((Q.refl w).alloc (.cells #[.slice A (N + 1) c] 43))).at3 hn (show k < N + 1 by omega)
      by_cases hle : el xs (k * 3) ≤ t
      · have HX := Lib.hid (legS_yes hle)
        go_wp2_with fail
        go_round
        case rel => exact ⟨k + 1, by omega, by go_num, by rw [HX.out]⟩
        case measure => simp [intOf]; omega
      · have HX := Lib.hid (legS_no hle)
        go_wp2_with fail
        go_round
        case rel => exact ⟨k + 1, by omega, by go_num, by rw [HX.out]⟩
        case measure => simp [intOf]; omega
    · obtain rfl : k = N := by omega
      go_wp2_with fail
      go_ret
      exact ⟨rfl, by (repeat (first | assumption | exact Q.refl _ | refine Q.alloc ?_ _ | refine Q.drewN ?_ _ | refine Q.drew ?_))⟩
theorem impl_lasts (A : Option Addr) (n c : Nat) (xs : List Int) (t : Int) (w : World) (ha : Rd w A xs) (hn : xs.length = n * 3) (hT : isTrk xs n = true) :
    Calls Tryz.prog 85 #[.agg #[.slice A n c], .int .i64 t] w fun e w' => e = .returned (.bool (lastsB xs n t)) ∧ Q w w' := by
  have hn2 := trk_n hT
  obtain ⟨N, rfl⟩ : ∃ N, n = N + 1 := ⟨n - 1, by omega⟩
  unfold lastsB
  simp only [show N + 1 - 1 = N by omega]
  clear hT
  obtain ⟨b, o, rfl, g0, _, _⟩ := ha.at3 hn (show 0 < N + 1 by omega)
  obtain ⟨_, _, hA, j0, _, _⟩ := ha.at3 hn (show N < N + 1 by omega)
  cases hA
  simp only [Nat.zero_mul, Nat.add_zero] at g0
  have B := Blk.new w 43 #[.slice (some ⟨b, o, none⟩) (N + 1) c]
  have lB := later_cells B.cell B.lt
  have l0 := later_cell (((Q.refl w).alloc (.cells #[.slice (some ⟨b, o, none⟩) (N + 1) c] 43)).cell g0)
  have l1 := later_cell (((Q.refl w).alloc (.cells #[.slice (some ⟨b, o, none⟩) (N + 1) c] 43)).cell j0)
  clear g0 j0
  go_enter Tryz.func85, Tryz.ntmps85
  go_wp2_with fail
  refine wp_region_later_lit (by kernel_rfl) (by kernel_rfl) ?_
  repeat (any_goals (first | go_big_quiet_step ((go_at_call 29; exact later_same (impl_inR _ _ _ _))) | quiet_step ((go_at_call 29; exact later_same (impl_inR _ _ _ _))) | (refine wpQuiet_step (fun K hK => ?_); go_simp; split <;> (refine hK _ ?_; clear hK K))))
  all_goals (refine wpQuiet_nil ?_; rintro _ ⟨⟨w2, q2⟩, rfl⟩; try dsimp only)
  all_goals go_wp2_with fail
  go_ret
  exact ⟨rfl, Q.trans (by (repeat (first | assumption | exact Q.refl _ | refine Q.alloc ?_ _ | refine Q.drewN ?_ _ | refine Q.drew ?_))) q2⟩
theorem spec_l03Lasts (A : Option Addr) (n c : Nat) (xs : List Int) (t : Int) (w : World) (ha : Rd w A xs) (hn : xs.length = n * 3) (hT : isTrk xs n = true) :
    Calls Tryz.prog 90 #[.agg #[.slice A n c], .int .i64 t] w fun e w' => e = .returned (.bool (lastsB xs n t)) ∧ Q w w' := by
  have hn2 := trk_n hT
  obtain ⟨N, rfl⟩ : ∃ N, n = N + 1 := ⟨n - 1, by omega⟩
  unfold lastsB
  simp only [show N + 1 - 1 = N by omega]
  clear hT
  obtain ⟨b, o, rfl, g0, _, _⟩ := ha.at3 hn (show 0 < N + 1 by omega)
  obtain ⟨_, _, hA, j0, _, _⟩ := ha.at3 hn (show N < N + 1 by omega)
  cases hA
  simp only [Nat.zero_mul, Nat.add_zero] at g0
  have B := Blk.new w 43 #[.slice (some ⟨b, o, none⟩) (N + 1) c]
  have lB := later_cells B.cell B.lt
  have l0 := later_cell (((Q.refl w).alloc (.cells #[.slice (some ⟨b, o, none⟩) (N + 1) c] 43)).cell g0)
  have l1 := later_cell (((Q.refl w).alloc (.cells #[.slice (some ⟨b, o, none⟩) (N + 1) c] 43)).cell j0)
  clear g0 j0
  go_enter Tryz.func90, Tryz.ntmps90
  go_wp2_with fail
  refine wp_region_later_lit (by kernel_rfl) (by kernel_rfl) ?_
  repeat (any_goals (first | go_big_quiet_step ((go_at_call 58; exact later_same (spec_inR _ _ _ _))) | quiet_step ((go_at_call 58; exact later_same (spec_inR _ _ _ _))) | (refine wpQuiet_step (fun K hK => ?_); go_simp; split <;> (refine hK _ ?_; clear hK K))))
  all_goals (refine wpQuiet_nil ?_; rintro _ ⟨⟨w2, q2⟩, rfl⟩; try dsimp only)
  all_goals go_wp2_with fail
  go_ret
  exact ⟨rfl, Q.trans (by (repeat (first | assumption | exact Q.refl _ | refine Q.alloc ?_ _ | refine Q.drewN ?_ _ | refine Q.drew ?_))) q2⟩
/-- A coordinate between two others, rounded down. -/
def posC (a b g d : Int) : Int := a + (b - a) * g / d
theorem posC_bd {a b g d V : Int} (hg : 0 ≤ g ∧ g ≤ d) (hd : 0 < d) (hV : -V ≤ b - a ∧ b - a ≤ V) : -V ≤ (b - a) * g / d ∧ (b - a) * g / d ≤ V := by
  have h0 : 0 ≤ V := by omega
  have h1 : (b - a) * g ≤ V * d := Int.le_trans (Int.mul_le_mul_of_nonneg_right hV.2 hg.1) (Int.mul_le_mul_of_nonneg_left hg.2 h0)
  have h2 : V * g ≤ V * d := Int.mul_le_mul_of_nonneg_left hg.2 h0
  have h3 : (-V) * g ≤ (b - a) * g := Int.mul_le_mul_of_nonneg_right hV.1 hg.1
  rw [Int.neg_mul] at h3
  refine ⟨Int.le_ediv_of_mul_le hd (by rw [Int.neg_mul]; omega), ?_⟩
  have := Int.ediv_le_ediv hd h1
  rwa [Int.mul_ediv_cancel _ (by omega)] at this
theorem l02_facts {v g d : Int} (hv : -2000000 ≤ v ∧ v ≤ 2000000) (hg : 0 ≤ g ∧ g ≤ d) (hd : 0 < d ∧ d ≤ 1000000000) :
    (-2000 ≤ v / 1000 ∧ v / 1000 ≤ 2000) ∧ (-2000000000000 ≤ v / 1000 * g ∧ v / 1000 * g ≤ 2000000000000) ∧ (-2000 ≤ v / 1000 * g / d ∧ v / 1000 * g / d ≤ 2000) ∧
    (0 ≤ v / 1000 * g - v / 1000 * g / d * d ∧ v / 1000 * g - v / 1000 * g / d * d < d) ∧ (-2000000000000 ≤ v / 1000 * g / d * d ∧ v / 1000 * g / d * d ≤ 2000000000000) ∧ (0 ≤ (v - 1000 * (v / 1000)) * g ∧ (v - 1000 * (v / 1000)) * g ≤ 999000000000) ∧
    1000 * (v / 1000 * g / d) + (1000 * (v / 1000 * g - v / 1000 * g / d * d) + (v - 1000 * (v / 1000)) * g) / d = v * g / d ∧ (0 ≤ (1000 * (v / 1000 * g - v / 1000 * g / d * d) + (v - 1000 * (v / 1000)) * g) / d ∧ (1000 * (v / 1000 * g - v / 1000 * g / d * d) + (v - 1000 * (v / 1000)) * g) / d ≤ 2000000000000) := by
  have h1 : -2000 ≤ v / 1000 ∧ v / 1000 ≤ 2000 := by omega
  have hl : 0 ≤ v - 1000 * (v / 1000) ∧ v - 1000 * (v / 1000) ≤ 999 := by omega
  have hV : v = 1000 * (v / 1000) + (v - 1000 * (v / 1000)) := by omega
  generalize v / 1000 = H at *
  generalize v - 1000 * H = L at *
  have h2 : -2000000000000 ≤ H * g ∧ H * g ≤ 2000000000000 := by
    have a1 : H * g ≤ 2000 * g := Int.mul_le_mul_of_nonneg_right h1.2 hg.1
    have a2 : (-2000) * g ≤ H * g := Int.mul_le_mul_of_nonneg_right h1.1 hg.1
    omega
  have h3 : -2000 ≤ H * g / d ∧ H * g / d ≤ 2000 := by
    have := posC_bd (a := 0) (b := H) (V := 2000) hg hd.1 (by omega)
    simpa using this
  have h4 : H * g - H * g / d * d = H * g % d := by
    have := Int.mul_ediv_add_emod (H * g) d
    rw [Int.mul_comm] at this
    omega
  have h5 := Int.emod_nonneg (H * g) (show d ≠ 0 by omega)
  have h6 := Int.emod_lt_of_pos (H * g) hd.1
  have h7 : 0 ≤ L * g ∧ L * g ≤ 999000000000 := by
    have := mul_bd' (N := 1000000000) (M := 999) hl (show 0 ≤ g ∧ g ≤ 1000000000 by omega)
    omega
  have h8 : (-2000) * d ≤ H * g / d * d := Int.mul_le_mul_of_nonneg_right h3.1 (by omega)
  have h9 : H * g / d * d ≤ 2000 * d := Int.mul_le_mul_of_nonneg_right h3.2 (by omega)
  refine ⟨h1, h2, h3, by omega, by omega, h7, ?_, ?_⟩
  · rw [h4]
    have e : v * g = (1000 * (H * g % d) + L * g) + d * (1000 * (H * g / d)) := by
      have a1 := Int.mul_ediv_add_emod (H * g) d
      rw [hV, Int.add_mul, Int.mul_assoc, Int.mul_left_comm d 1000]
      omega
    rw [e, Int.add_mul_ediv_left _ _ (by omega)]
    omega
  · rw [h4]
    refine ⟨Int.ediv_nonneg (by omega) (by omega), Int.le_trans (Int.ediv_le_self _ (by omega)) (by omega)⟩
end Go.Proofs.YteofhfefbphjdaaGreatDoor
namespace Go.Proofs.YteofhfefbphjdaaGreatDoor
open Go.RowKit Go.WideShapes Go.ChangeShapes
set_option maxHeartbeats 2000000 in
theorem spec_l02At (a b g d : Int) (w : World) (ha : -1000000 ≤ a ∧ a ≤ 1000000) (hv : -2000000 ≤ b - a ∧ b - a ≤ 2000000) (hg : 0 ≤ g ∧ g ≤ d) (hd : 0 < d ∧ d ≤ 1000000000) :
    Calls Tryz.prog 110 #[.int .i64 a, .int .i64 b, .agg #[.int .i64 g, .int .i64 d]] w fun e w' => e = .returned (.int .i64 (posC a b g d)) ∧ Q w w' := by
  obtain ⟨h1, h2, h3, h4, h5, h6, h7, h8⟩ := l02_facts hv hg hd
  have HR := Lib.hid h7
  clear h7
  go_enter Tryz.func110, Tryz.ntmps110
  go_wp2_with (go_at_call 44; refine (spec_Floor _ _ _ (by omega) (by omega) (by omega)).mono ?_; rintro e w' ⟨rfl, rfl⟩)
  go_ret
  exact ⟨ret_int (by have := HR.out; unfold posC; omega), by (repeat (first | assumption | exact Q.refl _ | refine Q.alloc ?_ _ | refine Q.drewN ?_ _ | refine Q.drew ?_))⟩
def atX (xs : List Int) (n : Nat) (t : Int) : Int := posC (el xs (legS xs t (n - 1) * 3 + 1)) (el xs ((legS xs t (n - 1) + 1) * 3 + 1)) (t - el xs (legS xs t (n - 1) * 3)) (el xs ((legS xs t (n - 1) + 1) * 3) - el xs (legS xs t (n - 1) * 3))
def atY (xs : List Int) (n : Nat) (t : Int) : Int := posC (el xs (legS xs t (n - 1) * 3 + 2)) (el xs ((legS xs t (n - 1) + 1) * 3 + 2)) (t - el xs (legS xs t (n - 1) * 3)) (el xs ((legS xs t (n - 1) + 1) * 3) - el xs (legS xs t (n - 1) * 3))
/-- What a valid track says of two neighbouring fixes. -/
theorem trk_two {xs : List Int} {n k : Nat} (hT : isTrk xs n = true) (hk : k + 1 < n) :
    (0 ≤ el xs (k * 3) ∧ el xs (k * 3) < el xs ((k + 1) * 3) ∧ el xs ((k + 1) * 3) ≤ 1000000000) ∧ (-1000000 ≤ el xs (k * 3 + 1) ∧ el xs (k * 3 + 1) ≤ 1000000) ∧ (-1000000 ≤ el xs (k * 3 + 2) ∧ el xs (k * 3 + 2) ≤ 1000000) ∧
    (-1000000 ≤ el xs ((k + 1) * 3 + 1) ∧ el xs ((k + 1) * 3 + 1) ≤ 1000000) ∧ (-1000000 ≤ el xs ((k + 1) * 3 + 2) ∧ el xs ((k + 1) * 3 + 2) ≤ 1000000) := by
  unfold isTrk at hT
  simp only [Bool.and_eq_true] at hT
  obtain ⟨a1, a2, a3⟩ := fixAt_yes (fixTo_at hT.2 (show k < n by omega))
  obtain ⟨b1, b2, b3⟩ := fixAt_yes (fixTo_at hT.2 hk)
  have a2 := of_decide_eq_true a2
  have b2 := of_decide_eq_true b2
  rw [show k + 1 - 1 = k by omega] at b3
  have b3 : el xs (k * 3) < el xs ((k + 1) * 3) := b3.resolve_left (by omega)
  exact ⟨⟨a1.1, b3, b1.2⟩, ⟨a2.1, a2.2.1⟩, ⟨a2.2.2.1, a2.2.2.2⟩, ⟨b2.1, b2.2.1⟩, ⟨b2.2.2.1, b2.2.2.2⟩⟩
theorem trk_40 {xs : List Int} {n : Nat} (hT : isTrk xs n = true) : n ≤ 40 := by
  unfold isTrk at hT
  simp only [Bool.and_eq_true] at hT
  exact (of_decide_eq_true hT.1).2
theorem mul_bd3 {v g : Int} (hv : -2000000 ≤ v ∧ v ≤ 2000000) (hg : 0 ≤ g ∧ g ≤ 1000000000) : -2000000000000000 ≤ v * g ∧ v * g ≤ 2000000000000000 := by
  have h1 : v * g ≤ 2000000 * g := Int.mul_le_mul_of_nonneg_right hv.2 hg.1
  have h2 : (-2000000) * g ≤ v * g := Int.mul_le_mul_of_nonneg_right hv.1 hg.1
  omega
set_option maxHeartbeats 2000000 in
theorem impl_positionAt (A : Option Addr) (n c : Nat) (xs : List Int) (t : Int) (w : World) (ha : Rd w A xs) (hn : xs.length = n * 3) (hT : isTrk xs n = true) (hl : lastsB xs n t = true) :
    Calls Tryz.prog 86 #[.agg #[.slice A n c], .int .i64 t] w fun e w' => e = .returned (.agg #[.int .i64 (atX xs n t), .int .i64 (atY xs n t)]) ∧ Q w w' := by
  obtain ⟨hk, ht1, ht2⟩ := leg_facts hT hl
  have KL := Lib.hid (fun wv (h : Rd wv A xs) => impl_legAt A n c xs t wv h hn hT)
  unfold atX atY
  obtain ⟨k, hK⟩ : ∃ k, k = legS xs t (n - 1) := ⟨_, rfl⟩
  rw [← hK] at hk ht1 ht2 KL ⊢
  clear hK
  obtain ⟨⟨f1, f2, f3⟩, f4, f5, f6, f7⟩ := trk_two hT hk
  obtain ⟨b, o, rfl, g0, g1, g2⟩ := ha.at3 hn (show k < n by omega)
  obtain ⟨_, _, hA, j0, j1, j2⟩ := ha.at3 hn hk
  cases hA
  have hn40 := trk_40 hT
  have hk40 : (k : Int) ≤ 40 := by omega
  have hkI : (k : Int) < (n : Int) := by omega
  have hkJ : (k : Int) + 1 < (n : Int) := by omega
  clear hn hT hl hn40
  generalize el xs (k * 3) = t0 at *
  generalize el xs (k * 3 + 1) = x0 at *
  generalize el xs (k * 3 + 2) = y0 at *
  generalize el xs ((k + 1) * 3) = t1 at *
  generalize el xs ((k + 1) * 3 + 1) = x1 at *
  generalize el xs ((k + 1) * 3 + 2) = y1 at *
  go_enter Tryz.func86, Tryz.ntmps86
  go_wp2_with (go_at_call 107; refine (KL.out _ (ha.q (by (repeat (first | assumption | exact Q.refl _ | refine Q.alloc ?_ _ | refine Q.drewN ?_ _ | refine Q.drew ?_))))).mono ?_; rintro e w1 ⟨rfl, q1⟩; have bx := q1.box2; have lx := q1.boxB2.lt; have br := (Blk.new _ _ _).q q1; have Q1 : Q w w1 := Q.trans (by (repeat (first | assumption | exact Q.refl _ | refine Q.alloc ?_ _ | refine Q.drewN ?_ _ | refine Q.drew ?_))) q1; have g0 := Q1.cell g0; have g1 := Q1.cell g1; have g2 := Q1.cell g2; have j0 := Q1.cell j0; have j1 := Q1.cell j1; have j2 := Q1.cell j2; have lb := World.block_lt_of_cell? w1 _ j2)
  go_cut [6, 7] from 6 (fun p q wc => ∃ b6 b7, p = .pointer (some ⟨b6, 0, none⟩) ∧ q = .pointer (some ⟨b7, 0, none⟩) ∧ Blk wc b6 98 #[.int .i64 t0, .int .i64 x0, .int .i64 y0] ∧ Blk wc b7 98 #[.int .i64 t1, .int .i64 x1, .int .i64 y1] ∧ Blk wc (w.heap.size + 1) 25 #[.int .i64 0, .int .i64 0] ∧ Q w wc)
  case first =>
    go_region
    all_goals (go_wp2_with fail; go_meet)
    · refine ⟨_, _, rfl, rfl, ?_, ?_, ?_, Q1.trans (by (repeat (first | assumption | exact Q.refl _ | refine Q.alloc ?_ _ | refine Q.drewN ?_ _ | refine Q.drew ?_)))⟩
      · exact ((Blk.new w1 _ _).alloc _).drew
      · exact Blk.drew (by simpa using Blk.new (w1.alloc _) 98 #[.int .i64 t1, .int .i64 x1, .int .i64 y1])
      · exact Blk.drew (((by simpa using br : Blk w1 (w.heap.size + 1) _ _).alloc _).alloc _)
    · refine ⟨_, _, rfl, rfl, ?_, ?_, ?_, Q1.trans (by (repeat (first | assumption | exact Q.refl _ | refine Q.alloc ?_ _ | refine Q.drewN ?_ _ | refine Q.drew ?_)))⟩
      · exact Blk.drew (by simpa using Blk.new (w1.alloc _) 98 #[.int .i64 t0, .int .i64 x0, .int .i64 y0])
      · exact ((Blk.new w1 _ _).alloc _).drew
      · exact Blk.drew (((by simpa using br : Blk w1 (w.heap.size + 1) _ _).alloc _).alloc _)
  case rest =>
    obtain ⟨b6, b7, rfl, rfl, B6, B7, BR, QC⟩ := hcut
    have d6 := B6.cell
    have d7 := B7.cell
    have l6 := B6.lt
    have l7 := B7.lt
    have e4 := BR.cell
    have z4 := BR.frozen
    have m1 := posC_bd (a := x0) (b := x1) (g := t - t0) (d := t1 - t0) (V := 2000000) (by omega) (by omega) (by omega)
    have m2 := posC_bd (a := y0) (b := y1) (g := t - t0) (d := t1 - t0) (V := 2000000) (by omega) (by omega) (by omega)
    have p1 := mul_bd3 (v := x1 - x0) (g := t - t0) (by omega) (by omega)
    have p2 := mul_bd3 (v := y1 - y0) (g := t - t0) (by omega) (by omega)
    clear g0 g1 g2 j0 j1 j2 bx lx lb q1 br KL ha
    clear g0 g1 g2 j0 j1 j2
    have HX := Lib.hid (show posC x0 x1 (t - t0) (t1 - t0) = x0 + (x1 - x0) * (t - t0) / (t1 - t0) from rfl)
    have HY := Lib.hid (show posC y0 y1 (t - t0) (t1 - t0) = y0 + (y1 - y0) * (t - t0) / (t1 - t0) from rfl)
    have wx : IntKind.i64.wrap (x1 - x0) = x1 - x0 := by rw [IntKind.wrap_i64]; omega
    have wy : IntKind.i64.wrap (y1 - y0) = y1 - y0 := by rw [IntKind.wrap_i64]; omega
    have vx : IntKind.i64.wrap ((x1 - x0) * (t - t0)) = (x1 - x0) * (t - t0) := by rw [IntKind.wrap_i64]; omega
    have vy : IntKind.i64.wrap ((y1 - y0) * (t - t0)) = (y1 - y0) * (t - t0) := by rw [IntKind.wrap_i64]; omega
    have L6 := later_cells d6 l6
    have L7 := later_cells d7 l7
    clear d6 d7 e4 z4
    go_wp2_with fail
    refine wp_region_later_lit (by kernel_rfl) (by kernel_rfl) ?_
    repeat (any_goals (first | go_big_quiet_step (fail) | quiet_step (fail) | (refine wpQuiet_step (fun K hK => ?_); go_simp; split <;> (refine hK _ ?_; clear hK K))))
    all_goals (refine wpQuiet_nil ?_; rintro _ ⟨⟨w2, q2⟩, rfl⟩; try dsimp only)
    clear L6 L7
    have L6 := later_cells (B6.q q2).cell (B6.q q2).lt
    have L7 := later_cells (B7.q q2).cell (B7.q q2).lt
    go_wp2_with fail
    refine wp_region_later_tail 25 (by kernel_rfl) (by kernel_rfl) ?_
    simp only [List.take_succ_cons, List.take_zero, List.drop_succ_cons, List.drop_zero]
    repeat (any_goals (first | go_big_quiet_step ((go_at_call 84; exact later_same (impl_floorDiv _ _ _ (by omega) (by omega) (by omega)))) | quiet_step ((go_at_call 84; exact later_same (impl_floorDiv _ _ _ (by omega) (by omega) (by omega))))))
    refine wpQuiet_nil ?_
    rintro w3 ⟨⟨w4, q4⟩, hw⟩
    obtain rfl : w3 = w4 := hw
    clear L6 L7
    have e4 := ((BR.q q2).q q4).cell
    have z4 := ((BR.q q2).q q4).frozen
    have Q4 : Q w w3 := QC.trans (q2.trans q4)
    go_wp2_with fail
    have bf := ((((BR.q q2).q q4).set_ 0 (.int .i64 (x0 + (x1 - x0) * (t - t0) / (t1 - t0)))).set_ 1 (.int .i64 (y0 + (y1 - y0) * (t - t0) / (t1 - t0)))).cell
    exact bodyPost_ret (v := .agg #[.int .i64 (posC x0 x1 (t - t0) (t1 - t0)), .int .i64 (posC y0 y1 (t - t0) (t1 - t0))]) (by rw [HX.out, HY.out]; simp [results, Tryz.results86, go_sem, bf]) rfl ⟨rfl, (Q4.setCell (by simp) _).setCell (by simp) _⟩
set_option maxHeartbeats 2000000 in
theorem spec_l03At (A : Option Addr) (n c : Nat) (xs : List Int) (t : Int) (w : World) (ha : Rd w A xs) (hn : xs.length = n * 3) (hT : isTrk xs n = true) (hl : lastsB xs n t = true) :
    Calls Tryz.prog 91 #[.agg #[.slice A n c], .int .i64 t] w fun e w' => e = .returned (.agg #[.int .i64 (atX xs n t), .int .i64 (atY xs n t)]) ∧ Q w w' := by
  obtain ⟨hk, ht1, ht2⟩ := leg_facts hT hl
  have KL := Lib.hid (fun wv (h : Rd wv A xs) => spec_l03Leg A n c xs t wv h hn hT)
  unfold atX atY
  obtain ⟨k, hK⟩ : ∃ k, k = legS xs t (n - 1) := ⟨_, rfl⟩
  rw [← hK] at hk ht1 ht2 KL ⊢
  clear hK
  obtain ⟨⟨f1, f2, f3⟩, f4, f5, f6, f7⟩ := trk_two hT hk
  obtain ⟨b, o, rfl, g0, g1, g2⟩ := ha.at3 hn (show k < n by omega)
  obtain ⟨_, _, hA, j0, j1, j2⟩ := ha.at3 hn hk
  cases hA
  have hn40 := trk_40 hT
  have hk40 : (k : Int) ≤ 40 := by omega
  have hkI : (k : Int) < (n : Int) := by omega
  have hkJ : (k : Int) + 1 < (n : Int) := by omega
  clear hn hT hl hn40
  generalize el xs (k * 3) = t0 at *
  generalize el xs (k * 3 + 1) = x0 at *
  generalize el xs (k * 3 + 2) = y0 at *
  generalize el xs ((k + 1) * 3) = t1 at *
  generalize el xs ((k + 1) * 3 + 1) = x1 at *
  generalize el xs ((k + 1) * 3 + 2) = y1 at *
  go_enter Tryz.func91, Tryz.ntmps91
  go_wp2_with (go_at_call 109; refine (KL.out _ (ha.q (by (repeat (first | assumption | exact Q.refl _ | refine Q.alloc ?_ _ | refine Q.drewN ?_ _ | refine Q.drew ?_))))).mono ?_; rintro e w1 ⟨rfl, q1⟩; have bx := q1.box2; have lx := q1.boxB2.lt; have br := (Blk.new _ _ _).q q1; have Q1 : Q w w1 := Q.trans (by (repeat (first | assumption | exact Q.refl _ | refine Q.alloc ?_ _ | refine Q.drewN ?_ _ | refine Q.drew ?_))) q1; have g0 := Q1.cell g0; have g1 := Q1.cell g1; have g2 := Q1.cell g2; have j0 := Q1.cell j0; have j1 := Q1.cell j1; have j2 := Q1.cell j2; have lb := World.block_lt_of_cell? w1 _ j2)
  go_cut [6, 7] from 6 (fun p q wc => ∃ b6 b7, p = .pointer (some ⟨b6, 0, none⟩) ∧ q = .pointer (some ⟨b7, 0, none⟩) ∧ Blk wc b6 98 #[.int .i64 t0, .int .i64 x0, .int .i64 y0] ∧ Blk wc b7 98 #[.int .i64 t1, .int .i64 x1, .int .i64 y1] ∧ Blk wc (w.heap.size + 1) 25 #[.int .i64 0, .int .i64 0] ∧ Q w wc)
  case first =>
    go_region
    all_goals (go_wp2_with fail; go_meet)
    · refine ⟨_, _, rfl, rfl, ?_, ?_, ?_, Q1.trans (by (repeat (first | assumption | exact Q.refl _ | refine Q.alloc ?_ _ | refine Q.drewN ?_ _ | refine Q.drew ?_)))⟩
      · exact ((Blk.new w1 _ _).alloc _).drew
      · exact Blk.drew (by simpa using Blk.new (w1.alloc _) 98 #[.int .i64 t1, .int .i64 x1, .int .i64 y1])
      · exact Blk.drew (((by simpa using br : Blk w1 (w.heap.size + 1) _ _).alloc _).alloc _)
    · refine ⟨_, _, rfl, rfl, ?_, ?_, ?_, Q1.trans (by (repeat (first | assumption | exact Q.refl _ | refine Q.alloc ?_ _ | refine Q.drewN ?_ _ | refine Q.drew ?_)))⟩
      · exact Blk.drew (by simpa using Blk.new (w1.alloc _) 98 #[.int .i64 t0, .int .i64 x0, .int .i64 y0])
      · exact ((Blk.new w1 _ _).alloc _).drew
      · exact Blk.drew (((by simpa using br : Blk w1 (w.heap.size + 1) _ _).alloc _).alloc _)
  case rest =>
    obtain ⟨b6, b7, rfl, rfl, B6, B7, BR, QC⟩ := hcut
    have d6 := B6.cell
    have d7 := B7.cell
    have l6 := B6.lt
    have l7 := B7.lt
    clear g0 g1 g2 j0 j1 j2 bx lx lb q1 br KL ha
    clear g0 g1 g2 j0 j1 j2
    go_wp2_with fail
    have B8 := Blk.new wc 77 #[.int .i64 (t - t0), .int .i64 (t1 - t0)]
    have L6 := later_cells (B6.alloc (.cells #[.int .i64 (t - t0), .int .i64 (t1 - t0)] 77)).cell (B6.alloc _).lt
    have L7 := later_cells (B7.alloc (.cells #[.int .i64 (t - t0), .int .i64 (t1 - t0)] 77)).cell (B7.alloc _).lt
    have L8 := later_cells B8.cell B8.lt
    clear d6 d7
    refine wp_region_later_tail 13 (by kernel_rfl) (by kernel_rfl) ?_
    simp only [List.take_succ_cons, List.take_zero, List.drop_succ_cons, List.drop_zero]
    repeat (any_goals (first | go_big_quiet_step ((go_at_call 110; exact later_call (spec_l02At _ _ _ _ _ (by omega) (by omega) (by omega) (by omega)))) | quiet_step ((go_at_call 110; exact later_call (spec_l02At _ _ _ _ _ (by omega) (by omega) (by omega) (by omega))))))
    refine wpQuiet_nil ?_
    rintro w3 ⟨⟨w4, q4⟩, hw⟩
    obtain rfl : w3 = w4 := hw
    clear L6 L7 L8
    have br3 := (BR.alloc (.cells #[.int .i64 (t - t0), .int .i64 (t1 - t0)] 77)).q q4
    have e4 := br3.cell
    have z4 := br3.frozen
    have Q4 : Q w w3 := Q.trans (QC.alloc _) q4
    go_wp2_with fail
    have bf := ((br3.set_ 0 (.int .i64 (posC x0 x1 (t - t0) (t1 - t0)))).set_ 1 (.int .i64 (posC y0 y1 (t - t0) (t1 - t0)))).cell
    exact bodyPost_ret (v := .agg #[.int .i64 (posC x0 x1 (t - t0) (t1 - t0)), .int .i64 (posC y0 y1 (t - t0) (t1 - t0))]) (by simp [results, Tryz.results91, go_sem, bf]) rfl ⟨rfl, (Q4.setCell (by simp) _).setCell (by simp) _⟩
end Go.Proofs.YteofhfefbphjdaaGreatDoor
