/- Walks: the laws' own functions on Fix and slices of it (equal, mark, held, copy), for all arguments. No condition. Walks: tracks (valid, copied, equal), as the program, the reference and the laws treat them, for all arguments. No condition. -/
import Derived.Test.YteofhfefbphjdaaGreatDoorK
import Derived.Deep.Cut
import Derived.Outline
namespace Go.Proofs.YteofhfefbphjdaaGreatDoor
open Go.RowKit Go.WideShapes Go.ChangeShapes
theorem infoFix : (Tryz.prog.info? 98).map (fun i => (i.zero, i.size, i.bytes)) = some (some (.agg #[.int .i64 0, .int .i64 0, .int .i64 0]), 3, 24) := by kernel_rfl
end Go.Proofs.YteofhfefbphjdaaGreatDoor
namespace Go.Proofs.YteofhfefbphjdaaGreatDoor
open Go.RowKit Go.WideShapes Go.ChangeShapes Go.Deep
theorem elFix : EltT 41 98 3 := EltT.mk infoFix Tryz.underlying41 (by decide) rfl (by decide)
/-- From lo to hi, point by point. -/
def ptB (x y : Int) : Bool := decide (-1000000 ≤ x ∧ x ≤ 1000000 ∧ -1000000 ≤ y ∧ y ≤ 1000000)
theorem impl_IsPoint (x y : Int) (w : World) : Calls Tryz.prog 78 #[.agg #[.int .i64 x, .int .i64 y]] w fun e w' => e = .returned (.bool (ptB x y)) ∧ Q w w' := by
  go_enter Tryz.func78, Tryz.ntmps78
  go_wp2_with (go_at_call 29; refine (impl_in _ _ _ _).mono ?_; rintro e w' ⟨rfl, rfl⟩)
  all_goals go_ret
  all_goals refine ⟨ret_bool ?_, by (repeat (first | assumption | exact Q.refl _ | refine Q.alloc ?_ _ | refine Q.drewN ?_ _ | refine Q.drew ?_))⟩
  all_goals (unfold ptB; rw [Bool.eq_iff_iff]; simp at *; omega)
theorem spec_IsPoint (x y : Int) (w : World) : Calls Tryz.prog 45 #[.agg #[.int .i64 x, .int .i64 y]] w fun e w' => e = .returned (.bool (ptB x y)) ∧ Q w w' := by
  go_enter Tryz.func45, Tryz.ntmps45
  go_wp2_with (go_at_call 58; refine (spec_in _ _ _ _).mono ?_; rintro e w' ⟨rfl, rfl⟩)
  all_goals go_ret
  all_goals refine ⟨ret_bool ?_, by (repeat (first | assumption | exact Q.refl _ | refine Q.alloc ?_ _ | refine Q.drewN ?_ _ | refine Q.drew ?_))⟩
  all_goals (unfold ptB; rw [Bool.eq_iff_iff]; simp at *; omega)
theorem impl_pointOf (a x y : Int) (w : World) : Calls Tryz.prog 95 #[.agg #[.int .i64 a, .int .i64 x, .int .i64 y]] w fun e w' => e = .returned (.agg #[.int .i64 x, .int .i64 y]) ∧ Q w w' := by
  go_enter Tryz.func95, Tryz.ntmps95
  go_wp2
  exact bodyPost_ret (v := .agg #[.int .i64 x, .int .i64 y]) (by simp [results, Tryz.results95, go_sem]) rfl ⟨rfl, by (repeat (first | assumption | exact Q.refl _ | refine Q.alloc ?_ _ | refine Q.drewN ?_ _ | refine Q.drew ?_))⟩
theorem spec_l03Point (a x y : Int) (w : World) : Calls Tryz.prog 68 #[.agg #[.int .i64 a, .int .i64 x, .int .i64 y]] w fun e w' => e = .returned (.agg #[.int .i64 x, .int .i64 y]) ∧ Q w w' := by
  go_enter Tryz.func68, Tryz.ntmps68
  go_wp2
  exact bodyPost_ret (v := .agg #[.int .i64 x, .int .i64 y]) (by simp [results, Tryz.results68, go_sem]) rfl ⟨rfl, by (repeat (first | assumption | exact Q.refl _ | refine Q.alloc ?_ _ | refine Q.drewN ?_ _ | refine Q.drew ?_))⟩
def fixAt (xs : List Int) (k : Nat) : Bool := decide (0 ≤ el xs (k * 3) ∧ el xs (k * 3) ≤ 1000000000) && ptB (el xs (k * 3 + 1)) (el xs (k * 3 + 2)) && (decide (k = 0) || decide (el xs ((k - 1) * 3) < el xs (k * 3)))
def fixTo (xs : List Int) (k : Nat) : Bool := (List.range k).all (fixAt xs)
theorem fixTo_succ (xs : List Int) (k : Nat) : fixTo xs (k + 1) = (fixTo xs k && fixAt xs k) := by simp [fixTo, List.range_succ]
theorem fixTo_no {xs : List Int} {k n : Nat} (hk : k < n) (h : fixAt xs k = false) : fixTo xs n = false := by
  unfold fixTo
  rw [List.all_eq_false]
  exact ⟨k, by simpa using hk, by simp [h]⟩
theorem fixTo_at {xs : List Int} {k n : Nat} (h : fixTo xs n = true) (hk : k < n) : fixAt xs k = true := by
  unfold fixTo at h
  rw [List.all_eq_true] at h
  exact h k (by simpa using hk)
def isTrk (xs : List Int) (n : Nat) : Bool := decide (2 ≤ n ∧ n ≤ 40) && fixTo xs n
theorem impl_isTime (n : Int) (w : World) : Calls Tryz.prog 52 #[.int .i64 n] w fun e w' => e = .returned (.bool (decide (0 ≤ n ∧ n ≤ 1000000000))) ∧ w = w' := by
  go_enter Tryz.func52, Tryz.ntmps52
  go_wp2_with (go_at_call 29; refine (impl_in _ _ _ _).mono ?_; rintro e w' ⟨rfl, rfl⟩)
  go_ret
  exact ⟨ret_bool (by simp), rfl⟩
theorem fixAt_yes {xs : List Int} {k : Nat} (h : fixAt xs k = true) : (0 ≤ el xs (k * 3) ∧ el xs (k * 3) ≤ 1000000000) ∧ ptB (el xs (k * 3 + 1)) (el xs (k * 3 + 2)) = true ∧ (k = 0 ∨ el xs ((k - 1) * 3) < el xs (k * 3)) := by
  simpa [fixAt, and_assoc] using h
theorem fixAt_mk {xs : List Int} {k : Nat} (h : (0 ≤ el xs (k * 3) ∧ el xs (k * 3) ≤ 1000000000) ∧ ptB (el xs (k * 3 + 1)) (el xs (k * 3 + 2)) = true ∧ (k = 0 ∨ el xs ((k - 1) * 3) < el xs (k * 3))) : fixAt xs k = true := by
  simpa [fixAt, and_assoc] using h
set_option maxHeartbeats 4000000 in
theorem impl_IsTrack (A : Option Addr) (n c : Nat) (xs : List Int) (w : World) (ha : Rd w A xs) (hn : xs.length = n * 3) (hn2 : n ≤ 9223372036854775807) :
    Calls Tryz.prog 82 #[.agg #[.slice A n c]] w fun e w' => e = .returned (.bool (isTrk xs n)) ∧ Q w w' := by
  go_enter Tryz.func82, Tryz.ntmps82
  go_wp2_with fail
  go_loopw [8] (fun i wr => ∃ k : Nat, k ≤ n ∧ i = .int .i64 k ∧ Hid (fixTo xs k = true) ∧ Q (w.alloc (.cells #[.slice A n c] 43)) wr) (fun i _ => n - (intOf i).toNat)
  case atStart => exact ⟨0, by omega, rfl, Lib.hid rfl, Q.refl _⟩
  case round =>
    obtain ⟨k, hk, rfl, HT, hq⟩ := hrel
    have hqw : Q w wr := Q.trans (by (repeat (first | assumption | exact Q.refl _ | refine Q.alloc ?_ _ | refine Q.drewN ?_ _ | refine Q.drew ?_))) hq
    by_cases hlt : k < n
    · have hR := ha.q hqw
      obtain ⟨bl, o, rfl, g0, g1, g2⟩ := hR.at3 hn hlt
      have Bf := Blk.new wr 98 #[.int .i64 (el xs (k * 3)), .int .i64 (el xs (k * 3 + 1)), .int .i64 (el xs (k * 3 + 2))]
      have Bh := hq.boxB.alloc (.cells #[.int .i64 (el xs (k * 3)), .int .i64 (el xs (k * 3 + 1)), .int .i64 (el xs (k * 3 + 2))] 98)
      have lf := later_cells Bf.cell Bf.lt
      have lh := later_cells Bh.cell Bh.lt
      cases hat : fixAt xs k
      · have HF := Lib.hid (fixTo_no hlt hat)
        have HM : ptB (el xs (k * 3 + 1)) (el xs (k * 3 + 2)) = true → ¬ ((0 ≤ el xs (k * 3) ∧ el xs (k * 3) ≤ 1000000000) ∧ (k = 0 ∨ el xs ((k - 1) * 3) < el xs (k * 3))) := fun hp h => by rw [fixAt_mk ⟨h.1, hp, h.2⟩] at hat; cases hat
        clear hat
        cases hp : ptB (el xs (k * 3 + 1)) (el xs (k * 3 + 2))
        · clear HM
          rcases Nat.eq_zero_or_pos k with rfl | hpos
          · simp only [Nat.zero_mul, Nat.add_zero, Nat.zero_add] at g0 g1 g2 lf lh hp
            go_wp2_with fail
            refine wp_region_later_lit (by kernel_rfl) (by kernel_rfl) ?_
            repeat (any_goals (first | go_big_quiet_step ((first | (go_at_call 52; exact later_same (impl_isTime _ _)) | (go_at_call 95; exact later_call (impl_pointOf _ _ _ _)) | (go_at_call 78; exact later_call (impl_IsPoint _ _ _)))) | quiet_step ((first | (go_at_call 52; exact later_same (impl_isTime _ _)) | (go_at_call 95; exact later_call (impl_pointOf _ _ _ _)) | (go_at_call 78; exact later_call (impl_IsPoint _ _ _)))) | (refine wpQuiet_step (fun K hK => ?_); go_simp; split <;> (refine hK _ ?_; clear hK K))))
            all_goals (refine wpQuiet_nil ?_; rintro _ ⟨⟨w2, q2⟩, rfl⟩; try dsimp only)
            all_goals go_wp2_with fail
            all_goals (go_ret; exact ⟨ret_bool (by unfold isTrk; rw [HF.out, Bool.and_false]), hqw.trans (Q.trans (by (repeat (first | assumption | exact Q.refl _ | refine Q.alloc ?_ _ | refine Q.drewN ?_ _ | refine Q.drew ?_))) q2)⟩)
          · obtain ⟨j, rfl⟩ : ∃ j, k = j + 1 := ⟨k - 1, by omega⟩
            go_wp2_with fail
            refine wp_region_later_lit (by kernel_rfl) (by kernel_rfl) ?_
            repeat (any_goals (first | go_big_quiet_step ((first | (go_at_call 52; exact later_same (impl_isTime _ _)) | (go_at_call 95; exact later_call (impl_pointOf _ _ _ _)) | (go_at_call 78; exact later_call (impl_IsPoint _ _ _)))) | quiet_step ((first | (go_at_call 52; exact later_same (impl_isTime _ _)) | (go_at_call 95; exact later_call (impl_pointOf _ _ _ _)) | (go_at_call 78; exact later_call (impl_IsPoint _ _ _)))) | (refine wpQuiet_step (fun K hK => ?_); go_simp; split <;> (refine hK _ ?_; clear hK K))))
            all_goals (refine wpQuiet_nil ?_; rintro _ ⟨⟨w2, q2⟩, rfl⟩; try dsimp only)
            all_goals go_wp2_with fail
            all_goals (go_ret; exact ⟨ret_bool (by unfold isTrk; rw [HF.out, Bool.and_false]), hqw.trans (Q.trans (by (repeat (first | assumption | exact Q.refl _ | refine Q.alloc ?_ _ | refine Q.drewN ?_ _ | refine Q.drew ?_))) q2)⟩)
        · have HM := HM hp
          rcases Nat.eq_zero_or_pos k with rfl | hpos
          · have HM : ¬ (0 ≤ el xs 0 ∧ el xs 0 ≤ 1000000000) := fun h => HM ⟨h, .inl rfl⟩
            simp only [Nat.zero_mul, Nat.add_zero, Nat.zero_add] at g0 g1 g2 lf lh hp
            go_wp2_with fail
            refine wp_region_later_lit (by kernel_rfl) (by kernel_rfl) ?_
            repeat (any_goals (first | go_big_quiet_step ((first | (go_at_call 52; exact later_same (impl_isTime _ _)) | (go_at_call 95; exact later_call (impl_pointOf _ _ _ _)) | (go_at_call 78; exact later_call (impl_IsPoint _ _ _)))) | quiet_step ((first | (go_at_call 52; exact later_same (impl_isTime _ _)) | (go_at_call 95; exact later_call (impl_pointOf _ _ _ _)) | (go_at_call 78; exact later_call (impl_IsPoint _ _ _)))) | (refine wpQuiet_step (fun K hK => ?_); go_simp; split <;> (refine hK _ ?_; clear hK K))))
            all_goals (refine wpQuiet_nil ?_; rintro _ ⟨⟨w2, q2⟩, rfl⟩; try dsimp only)
            all_goals go_wp2_with fail
            all_goals (go_ret; exact ⟨ret_bool (by unfold isTrk; rw [HF.out, Bool.and_false]), hqw.trans (Q.trans (by (repeat (first | assumption | exact Q.refl _ | refine Q.alloc ?_ _ | refine Q.drewN ?_ _ | refine Q.drew ?_))) q2)⟩)
          · obtain ⟨j, rfl⟩ : ∃ j, k = j + 1 := ⟨k - 1, by omega⟩
            have HM : ¬ ((0 ≤ el xs ((j + 1) * 3) ∧ el xs ((j + 1) * 3) ≤ 1000000000) ∧ el xs (j * 3) < el xs ((j + 1) * 3)) := fun h => HM ⟨h.1, .inr (by simpa using h.2)⟩
            obtain ⟨_, _, hA, p0, _, _⟩ := (hR.q ((Q.refl wr).alloc (.cells #[.int .i64 (el xs ((j + 1) * 3)), .int .i64 (el xs ((j + 1) * 3 + 1)), .int .i64 (el xs ((j + 1) * 3 + 2))] 98))).at3 hn (show j < n by omega)
            cases hA
            have lp := later_cell p0
            have hjI : (j : Int) < (n : Int) := by omega
            by_cases ht : 0 ≤ el xs ((j + 1) * 3) ∧ el xs ((j + 1) * 3) ≤ 1000000000
            · have ho : el xs ((j + 1) * 3) ≤ el xs (j * 3) := by omega
              clear HM
              go_wp2_with fail
              refine wp_region_later_lit (by kernel_rfl) (by kernel_rfl) ?_
              repeat (any_goals (first | go_big_quiet_step ((first | (go_at_call 52; exact later_same (impl_isTime _ _)) | (go_at_call 95; exact later_call (impl_pointOf _ _ _ _)) | (go_at_call 78; exact later_call (impl_IsPoint _ _ _)))) | quiet_step ((first | (go_at_call 52; exact later_same (impl_isTime _ _)) | (go_at_call 95; exact later_call (impl_pointOf _ _ _ _)) | (go_at_call 78; exact later_call (impl_IsPoint _ _ _)))) | (refine wpQuiet_step (fun K hK => ?_); go_simp; split <;> (refine hK _ ?_; clear hK K))))
              all_goals (refine wpQuiet_nil ?_; rintro _ ⟨⟨w2, q2⟩, rfl⟩; try dsimp only)
              all_goals go_wp2_with fail
              all_goals (go_ret; exact ⟨ret_bool (by unfold isTrk; rw [HF.out, Bool.and_false]), hqw.trans (Q.trans (by (repeat (first | assumption | exact Q.refl _ | refine Q.alloc ?_ _ | refine Q.drewN ?_ _ | refine Q.drew ?_))) q2)⟩)
            · clear HM
              have hd : decide (0 ≤ el xs ((j + 1) * 3) ∧ el xs ((j + 1) * 3) ≤ 1000000000) = false := decide_eq_false ht
              go_wp2_with fail
              refine wp_region_later_lit (by kernel_rfl) (by kernel_rfl) ?_
              repeat (any_goals (first | go_big_quiet_step ((first | (go_at_call 52; exact later_same (impl_isTime _ _)) | (go_at_call 95; exact later_call (impl_pointOf _ _ _ _)) | (go_at_call 78; exact later_call (impl_IsPoint _ _ _)))) | quiet_step ((first | (go_at_call 52; exact later_same (impl_isTime _ _)) | (go_at_call 95; exact later_call (impl_pointOf _ _ _ _)) | (go_at_call 78; exact later_call (impl_IsPoint _ _ _)))) | (refine wpQuiet_step (fun K hK => ?_); go_simp; split <;> (refine hK _ ?_; clear hK K))))
              all_goals (refine wpQuiet_nil ?_; rintro _ ⟨⟨w2, q2⟩, rfl⟩; try dsimp only)
              all_goals go_wp2_with fail
              all_goals (go_ret; exact ⟨ret_bool (by unfold isTrk; rw [HF.out, Bool.and_false]), hqw.trans (Q.trans (by (repeat (first | assumption | exact Q.refl _ | refine Q.alloc ?_ _ | refine Q.drewN ?_ _ | refine Q.drew ?_))) q2)⟩)
      · obtain ⟨h1, h2, h3⟩ := fixAt_yes hat
        have HS : Hid (fixTo xs (k + 1) = true) := Lib.hid (by rw [fixTo_succ, HT.out, hat]; rfl)
        clear hat
        rcases Nat.eq_zero_or_pos k with rfl | hpos
        · simp only [Nat.zero_mul, Nat.add_zero, Nat.zero_add] at g0 g1 g2 lf lh h1 h2
          go_wp2_with fail
          refine wp_region_later_lit (by kernel_rfl) (by kernel_rfl) ?_
          repeat (any_goals (first | go_big_quiet_step ((first | (go_at_call 52; exact later_same (impl_isTime _ _)) | (go_at_call 95; exact later_call (impl_pointOf _ _ _ _)) | (go_at_call 78; exact later_call (impl_IsPoint _ _ _)))) | quiet_step ((first | (go_at_call 52; exact later_same (impl_isTime _ _)) | (go_at_call 95; exact later_call (impl_pointOf _ _ _ _)) | (go_at_call 78; exact later_call (impl_IsPoint _ _ _)))) | (refine wpQuiet_step (fun K hK => ?_); go_simp; split <;> (refine hK _ ?_; clear hK K))))
          all_goals (refine wpQuiet_nil ?_; rintro _ ⟨⟨w2, q2⟩, rfl⟩; try dsimp only)
          all_goals go_wp2_with fail
          go_roundw
          case rel => exact ⟨1, by omega, rfl, HS, hq.trans (Q.trans (by (repeat (first | assumption | exact Q.refl _ | refine Q.alloc ?_ _ | refine Q.drewN ?_ _ | refine Q.drew ?_))) q2)⟩
          case measure => simp [intOf]; omega
        · obtain ⟨j, rfl⟩ : ∃ j, k = j + 1 := ⟨k - 1, by omega⟩
          have hj : el xs (j * 3) < el xs ((j + 1) * 3) := by simpa using h3
          obtain ⟨_, _, hA, p0, _, _⟩ := (hR.q ((Q.refl wr).alloc (.cells #[.int .i64 (el xs ((j + 1) * 3)), .int .i64 (el xs ((j + 1) * 3 + 1)), .int .i64 (el xs ((j + 1) * 3 + 2))] 98))).at3 hn (show j < n by omega)
          cases hA
          have lp := later_cell p0
          have hjI : (j : Int) < (n : Int) := by omega
          clear h3
          go_wp2_with fail
          refine wp_region_later_lit (by kernel_rfl) (by kernel_rfl) ?_
          repeat (any_goals (first | go_big_quiet_step ((first | (go_at_call 52; exact later_same (impl_isTime _ _)) | (go_at_call 95; exact later_call (impl_pointOf _ _ _ _)) | (go_at_call 78; exact later_call (impl_IsPoint _ _ _)))) | quiet_step ((first | (go_at_call 52; exact later_same (impl_isTime _ _)) | (go_at_call 95; exact later_call (impl_pointOf _ _ _ _)) | (go_at_call 78; exact later_call (impl_IsPoint _ _ _)))) | (refine wpQuiet_step (fun K hK => ?_); go_simp; split <;> (refine hK _ ?_; clear hK K))))
          all_goals (refine wpQuiet_nil ?_; rintro _ ⟨⟨w2, q2⟩, rfl⟩; try dsimp only)
          all_goals go_wp2_with fail
          go_roundw
          case rel => exact ⟨j + 1 + 1, by omega, by go_num, HS, hq.trans (Q.trans (by (repeat (first | assumption | exact Q.refl _ | refine Q.alloc ?_ _ | refine Q.drewN ?_ _ | refine Q.drew ?_))) q2)⟩
          case measure => simp [intOf]; omega
    · obtain rfl : k = n := by omega
      have ch := hq.boxB.cell
      go_wp2_with fail
      all_goals go_ret
      all_goals exact ⟨ret_bool (by unfold isTrk; rw [HT.out, Bool.and_true, Bool.eq_iff_iff]; simp; try omega), hqw⟩
set_option maxHeartbeats 4000000 in
theorem spec_IsTrack (A : Option Addr) (n c : Nat) (xs : List Int) (w : World) (ha : Rd w A xs) (hn : xs.length = n * 3) (hn2 : n ≤ 9223372036854775807) :
    Calls Tryz.prog 57 #[.agg #[.slice A n c]] w fun e w' => e = .returned (.bool (isTrk xs n)) ∧ Q w w' := by
  by_cases h40 : 2 ≤ n ∧ n ≤ 40
  · obtain ⟨h2a, h40a⟩ := h40
    go_enter Tryz.func57, Tryz.ntmps57
    go_wp2_with fail
    go_loopw [4] (fun i wr => ∃ k : Nat, k ≤ n ∧ i = .int .i64 k ∧ Hid (fixTo xs k = true) ∧ Q (w.alloc (.cells #[.slice A n c] 43)) wr) (fun i _ => n - (intOf i).toNat)
    case atStart => exact ⟨0, by omega, rfl, Lib.hid rfl, Q.refl _⟩
    case round =>
      obtain ⟨k, hk, rfl, HT, hq⟩ := hrel
      have hqw : Q w wr := Q.trans (by (repeat (first | assumption | exact Q.refl _ | refine Q.alloc ?_ _ | refine Q.drewN ?_ _ | refine Q.drew ?_))) hq
      have ch0 := hq.boxB.cell
      have hzl := hq.boxB.lt
      by_cases hlt : k < n
      · have hR := ha.q hqw
        obtain ⟨bl, o, rfl, g0, g1, g2⟩ := hR.at3 hn hlt
        have Bf := Blk.new wr 98 #[.int .i64 (el xs (k * 3)), .int .i64 (el xs (k * 3 + 1)), .int .i64 (el xs (k * 3 + 2))]
        have Bh := hq.boxB.alloc (.cells #[.int .i64 (el xs (k * 3)), .int .i64 (el xs (k * 3 + 1)), .int .i64 (el xs (k * 3 + 2))] 98)
        have lf := later_cells Bf.cell Bf.lt
        have lh := later_cells Bh.cell Bh.lt
        cases hat : fixAt xs k
        · have HF := Lib.hid (fixTo_no hlt hat)
          have HM : ptB (el xs (k * 3 + 1)) (el xs (k * 3 + 2)) = true → ¬ ((0 ≤ el xs (k * 3) ∧ el xs (k * 3) ≤ 1000000000) ∧ (k = 0 ∨ el xs ((k - 1) * 3) < el xs (k * 3))) := fun hp h => by rw [fixAt_mk ⟨h.1, hp, h.2⟩] at hat; cases hat
          clear hat
          cases hp : ptB (el xs (k * 3 + 1)) (el xs (k * 3 + 2))
          · clear HM
            rcases Nat.eq_zero_or_pos k with rfl | hpos
            · simp only [Nat.zero_mul, Nat.add_zero, Nat.zero_add] at g0 g1 g2 lf lh hp
              go_wp2_with fail
              refine wp_region_later_lit (by kernel_rfl) (by kernel_rfl) ?_
              repeat (any_goals (first | go_big_quiet_step ((first | (go_at_call 58; exact later_same (spec_in _ _ _ _)) | (go_at_call 68; exact later_call (spec_l03Point _ _ _ _)) | (go_at_call 45; exact later_call (spec_IsPoint _ _ _)))) | quiet_step ((first | (go_at_call 58; exact later_same (spec_in _ _ _ _)) | (go_at_call 68; exact later_call (spec_l03Point _ _ _ _)) | (go_at_call 45; exact later_call (spec_IsPoint _ _ _)))) | (refine wpQuiet_step (fun K hK => ?_); go_simp; split <;> (refine hK _ ?_; clear hK K))))
              all_goals (refine wpQuiet_nil ?_; rintro _ ⟨⟨w2, q2⟩, rfl⟩; try dsimp only)
              all_goals go_wp2_with fail
              all_goals (go_ret; exact ⟨ret_bool (by unfold isTrk; rw [HF.out, Bool.and_false]), hqw.trans (Q.trans (by (repeat (first | assumption | exact Q.refl _ | refine Q.alloc ?_ _ | refine Q.drewN ?_ _ | refine Q.drew ?_))) q2)⟩)
            · obtain ⟨j, rfl⟩ : ∃ j, k = j + 1 := ⟨k - 1, by omega⟩
              go_wp2_with fail
              refine wp_region_later_lit (by kernel_rfl) (by kernel_rfl) ?_
              repeat (any_goals (first | go_big_quiet_step ((first | (go_at_call 58; exact later_same (spec_in _ _ _ _)) | (go_at_call 68; exact later_call (spec_l03Point _ _ _ _)) | (go_at_call 45; exact later_call (spec_IsPoint _ _ _)))) | quiet_step ((first | (go_at_call 58; exact later_same (spec_in _ _ _ _)) | (go_at_call 68; exact later_call (spec_l03Point _ _ _ _)) | (go_at_call 45; exact later_call (spec_IsPoint _ _ _)))) | (refine wpQuiet_step (fun K hK => ?_); go_simp; split <;> (refine hK _ ?_; clear hK K))))
              all_goals (refine wpQuiet_nil ?_; rintro _ ⟨⟨w2, q2⟩, rfl⟩; try dsimp only)
              all_goals go_wp2_with fail
              all_goals (go_ret; exact ⟨ret_bool (by unfold isTrk; rw [HF.out, Bool.and_false]), hqw.trans (Q.trans (by (repeat (first | assumption | exact Q.refl _ | refine Q.alloc ?_ _ | refine Q.drewN ?_ _ | refine Q.drew ?_))) q2)⟩)
          · have HM := HM hp
            rcases Nat.eq_zero_or_pos k with rfl | hpos
            · have HM : ¬ (0 ≤ el xs 0 ∧ el xs 0 ≤ 1000000000) := fun h => HM ⟨h, .inl rfl⟩
              simp only [Nat.zero_mul, Nat.add_zero, Nat.zero_add] at g0 g1 g2 lf lh hp
              go_wp2_with fail
              refine wp_region_later_lit (by kernel_rfl) (by kernel_rfl) ?_
              repeat (any_goals (first | go_big_quiet_step ((first | (go_at_call 58; exact later_same (spec_in _ _ _ _)) | (go_at_call 68; exact later_call (spec_l03Point _ _ _ _)) | (go_at_call 45; exact later_call (spec_IsPoint _ _ _)))) | quiet_step ((first | (go_at_call 58; exact later_same (spec_in _ _ _ _)) | (go_at_call 68; exact later_call (spec_l03Point _ _ _ _)) | (go_at_call 45; exact later_call (spec_IsPoint _ _ _)))) | (refine wpQuiet_step (fun K hK => ?_); go_simp; split <;> (refine hK _ ?_; clear hK K))))
              all_goals (refine wpQuiet_nil ?_; rintro _ ⟨⟨w2, q2⟩, rfl⟩; try dsimp only)
              all_goals go_wp2_with fail
              all_goals (go_ret; exact ⟨ret_bool (by unfold isTrk; rw [HF.out, Bool.and_false]), hqw.trans (Q.trans (by (repeat (first | assumption | exact Q.refl _ | refine Q.alloc ?_ _ | refine Q.drewN ?_ _ | refine Q.drew ?_))) q2)⟩)
            · obtain ⟨j, rfl⟩ : ∃ j, k = j + 1 := ⟨k - 1, by omega⟩
              have HM : ¬ ((0 ≤ el xs ((j + 1) * 3) ∧ el xs ((j + 1) * 3) ≤ 1000000000) ∧ el xs (j * 3) < el xs ((j + 1) * 3)) := fun h => HM ⟨h.1, .inr (by simpa using h.2)⟩
              obtain ⟨_, _, hA, p0, _, _⟩ := (hR.q ((Q.refl wr).alloc (.cells #[.int .i64 (el xs ((j + 1) * 3)), .int .i64 (el xs ((j + 1) * 3 + 1)), .int .i64 (el xs ((j + 1) * 3 + 2))] 98))).at3 hn (show j < n by omega)
              cases hA
              have lp := later_cell p0
              have hjI : (j : Int) < (n : Int) := by omega
              by_cases ht : 0 ≤ el xs ((j + 1) * 3) ∧ el xs ((j + 1) * 3) ≤ 1000000000
              · have ho : el xs ((j + 1) * 3) ≤ el xs (j * 3) := by omega
                clear HM
                go_wp2_with fail
                refine wp_region_later_lit (by kernel_rfl) (by kernel_rfl) ?_
                repeat (any_goals (first | go_big_quiet_step ((first | (go_at_call 58; exact later_same (spec_in _ _ _ _)) | (go_at_call 68; exact later_call (spec_l03Point _ _ _ _)) | (go_at_call 45; exact later_call (spec_IsPoint _ _ _)))) | quiet_step ((first | (go_at_call 58; exact later_same (spec_in _ _ _ _)) | (go_at_call 68; exact later_call (spec_l03Point _ _ _ _)) | (go_at_call 45; exact later_call (spec_IsPoint _ _ _)))) | (refine wpQuiet_step (fun K hK => ?_); go_simp; split <;> (refine hK _ ?_; clear hK K))))
                all_goals (refine wpQuiet_nil ?_; rintro _ ⟨⟨w2, q2⟩, rfl⟩; try dsimp only)
                all_goals go_wp2_with fail
                all_goals (go_ret; exact ⟨ret_bool (by unfold isTrk; rw [HF.out, Bool.and_false]), hqw.trans (Q.trans (by (repeat (first | assumption | exact Q.refl _ | refine Q.alloc ?_ _ | refine Q.drewN ?_ _ | refine Q.drew ?_))) q2)⟩)
              · clear HM
                have hd : decide (0 ≤ el xs ((j + 1) * 3) ∧ el xs ((j + 1) * 3) ≤ 1000000000) = false := decide_eq_false ht
                go_wp2_with fail
                refine wp_region_later_lit (by kernel_rfl) (by kernel_rfl) ?_
                repeat (any_goals (first | go_big_quiet_step ((first | (go_at_call 58; exact later_same (spec_in _ _ _ _)) | (go_at_call 68; exact later_call (spec_l03Point _ _ _ _)) | (go_at_call 45; exact later_call (spec_IsPoint _ _ _)))) | quiet_step ((first | (go_at_call 58; exact later_same (spec_in _ _ _ _)) | (go_at_call 68; exact later_call (spec_l03Point _ _ _ _)) | (go_at_call 45; exact later_call (spec_IsPoint _ _ _)))) | (refine wpQuiet_step (fun K hK => ?_); go_simp; split <;> (refine hK _ ?_; clear hK K))))
                all_goals (refine wpQuiet_nil ?_; rintro _ ⟨⟨w2, q2⟩, rfl⟩; try dsimp only)
                all_goals go_wp2_with fail
                all_goals (go_ret; exact ⟨ret_bool (by unfold isTrk; rw [HF.out, Bool.and_false]), hqw.trans (Q.trans (by (repeat (first | assumption | exact Q.refl _ | refine Q.alloc ?_ _ | refine Q.drewN ?_ _ | refine Q.drew ?_))) q2)⟩)
        · obtain ⟨h1, h2, h3⟩ := fixAt_yes hat
          have HS : Hid (fixTo xs (k + 1) = true) := Lib.hid (by rw [fixTo_succ, HT.out, hat]; rfl)
          clear hat
          rcases Nat.eq_zero_or_pos k with rfl | hpos
          · simp only [Nat.zero_mul, Nat.add_zero, Nat.zero_add] at g0 g1 g2 lf lh h1 h2
            go_wp2_with fail
            refine wp_region_later_lit (by kernel_rfl) (by kernel_rfl) ?_
            repeat (any_goals (first | go_big_quiet_step ((first | (go_at_call 58; exact later_same (spec_in _ _ _ _)) | (go_at_call 68; exact later_call (spec_l03Point _ _ _ _)) | (go_at_call 45; exact later_call (spec_IsPoint _ _ _)))) | quiet_step ((first | (go_at_call 58; exact later_same (spec_in _ _ _ _)) | (go_at_call 68; exact later_call (spec_l03Point _ _ _ _)) | (go_at_call 45; exact later_call (spec_IsPoint _ _ _)))) | (refine wpQuiet_step (fun K hK => ?_); go_simp; split <;> (refine hK _ ?_; clear hK K))))
            all_goals (refine wpQuiet_nil ?_; rintro _ ⟨⟨w2, q2⟩, rfl⟩; try dsimp only)
            all_goals go_wp2_with fail
            go_roundw
            case rel => exact ⟨1, by omega, rfl, HS, hq.trans (Q.trans (by (repeat (first | assumption | exact Q.refl _ | refine Q.alloc ?_ _ | refine Q.drewN ?_ _ | refine Q.drew ?_))) q2)⟩
            case measure => simp [intOf]; omega
          · obtain ⟨j, rfl⟩ : ∃ j, k = j + 1 := ⟨k - 1, by omega⟩
            have hj : el xs (j * 3) < el xs ((j + 1) * 3) := by simpa using h3
            obtain ⟨_, _, hA, p0, _, _⟩ := (hR.q ((Q.refl wr).alloc (.cells #[.int .i64 (el xs ((j + 1) * 3)), .int .i64 (el xs ((j + 1) * 3 + 1)), .int .i64 (el xs ((j + 1) * 3 + 2))] 98))).at3 hn (show j < n by omega)
            cases hA
            have lp := later_cell p0
            have hjI : (j : Int) < (n : Int) := by omega
            clear h3
            go_wp2_with fail
            refine wp_region_later_lit (by kernel_rfl) (by kernel_rfl) ?_
            repeat (any_goals (first | go_big_quiet_step ((first | (go_at_call 58; exact later_same (spec_in _ _ _ _)) | (go_at_call 68; exact later_call (spec_l03Point _ _ _ _)) | (go_at_call 45; exact later_call (spec_IsPoint _ _ _)))) | quiet_step ((first | (go_at_call 58; exact later_same (spec_in _ _ _ _)) | (go_at_call 68; exact later_call (spec_l03Point _ _ _ _)) | (go_at_call 45; exact later_call (spec_IsPoint _ _ _)))) | (refine wpQuiet_step (fun K hK => ?_); go_simp; split <;> (refine hK _ ?_; clear hK K))))
            all_goals (refine wpQuiet_nil ?_; rintro _ ⟨⟨w2, q2⟩, rfl⟩; try dsimp only)
            all_goals go_wp2_with fail
            go_roundw
            case rel => exact ⟨j + 1 + 1, by omega, by go_num, HS, hq.trans (Q.trans (by (repeat (first | assumption | exact Q.refl _ | refine Q.alloc ?_ _ | refine Q.drewN ?_ _ | refine Q.drew ?_))) q2)⟩
            case measure => simp [intOf]; omega
      · obtain rfl : k = n := by omega
        have ch := hq.boxB.cell
        go_wp2_with fail
        go_ret
        exact ⟨ret_bool (by unfold isTrk; rw [HT.out, Bool.and_true]; symm; exact decide_eq_true ⟨by omega, by omega⟩), hqw⟩
  · go_enter Tryz.func57, Tryz.ntmps57
    go_wp2_with fail
    all_goals (go_ret; exact ⟨ret_bool (by unfold isTrk; rw [decide_eq_false h40]; rfl), by (repeat (first | assumption | exact Q.refl _ | refine Q.alloc ?_ _ | refine Q.drewN ?_ _ | refine Q.drew ?_))⟩)
/-- A cell that is a slice of numbers or of structs of numbers (k numbers an element). -/
theorem open_rows0 {P : Program} {H : Type} {enc : TypeId × Value → H} {w : World} {base : Nat} {spare : Nat → Bool} {held : Bool} {t e : TypeId} {k fuel : Nat} {cs : List Value} {x : DataW H × List MemPlace}
    (ht : P.underlying t = some (.slice e)) (hF : FlatE P e k) (hC : P.cellsOf e = k) (hk : 0 < k) (hf : DataW.trod enc P w base spare held fuel t cs = some x) :
    ∃ A len cap xs, cs = [.slice A len cap] ∧ xs.length = len * k ∧ Rd w A xs ∧ (∀ y ∈ xs, -9223372036854775808 ≤ y ∧ y ≤ 9223372036854775807) ∧ len ≤ cap ∧ cap ≤ maxLen := by
  rcases open_slice ht hf with ⟨rfl, _⟩ | ⟨a, len, cap, m, n, D, Pl, rfl, hb, hl, hm, hmm, hx, hi⟩
  · exact ⟨none, 0, 0, [], rfl, by simp, Rd.nil _ _, (fun y hy => by cases hy), Nat.le_refl _, Nat.zero_le _⟩
  · have hlm : len ≤ m := by rw [hmm]; split <;> omega
    have hX : ∀ i, i < len → ∃ xs : List Int, xs.length = k ∧ (∀ y ∈ xs, -9223372036854775808 ≤ y ∧ y ≤ 9223372036854775807) ∧ ∀ q, q < k → w.cell? ((a.add (i * k)).add q) = some (.int .i64 (xs.getD q 0)) := by
      intro i hil
      obtain ⟨cs', hc, ht'⟩ := hi i (by omega)
      rw [hC] at hc
      obtain ⟨xs, rfl, hxl, hxb⟩ := hF _ _ _ _ _ _ _ _ ht'
      obtain ⟨_, hcl, hat⟩ := World.cells?_some hc
      refine ⟨xs, hxl, hxb, fun q hq => ?_⟩
      rw [hat q hq, List.getElem?_map, List.getD_eq_getElem?_getD, List.getElem?_eq_getElem (by omega)]
      rfl
    obtain ⟨X, hX⟩ : ∃ X : Nat → List Int, ∀ i, i < len → (X i).length = k ∧ (∀ y ∈ X i, -9223372036854775808 ≤ y ∧ y ≤ 9223372036854775807) ∧ ∀ q, q < k → w.cell? ((a.add (i * k)).add q) = some (.int .i64 ((X i).getD q 0)) := by
      refine ⟨fun i => if h : i < len then (hX i h).choose else [], fun i hil => ?_⟩
      simp only [dif_pos hil]
      exact (hX i hil).choose_spec
    have hdiv : ∀ j, j < len * k → j / k < len := fun j hj => Nat.div_lt_of_lt_mul (by rw [Nat.mul_comm]; exact hj)
    refine ⟨some a, len, cap, (List.range (len * k)).map fun i => (X (i / k)).getD (i % k) 0, rfl, by simp, ?_, ?_, hl, hm⟩
    · rcases Nat.eq_zero_or_pos len with rfl | hpos
      · simp only [Nat.zero_mul, List.range_zero, List.map_nil]; exact Rd.nil _ _
      · obtain ⟨b, off, spot⟩ := a
        have hspot : spot = none := by simpa [Addr.add] using World.cell?_spot ((hX 0 hpos).2.2 0 hk)
        subst hspot
        refine ⟨b, off, fun _ => rfl, fun j hj => ?_⟩
        have hj : j < len * k := by simpa using hj
        rw [flat_index hj]
        have := (hX (j / k) (hdiv j hj)).2.2 (j % k) (Nat.mod_lt _ hk)
        rw [Go.WideShapes.add_plain, Go.WideShapes.add_plain, Nat.add_assoc] at this
        rw [← this]
        have hdm : j / k * k + j % k = j := by rw [Nat.mul_comm]; exact Nat.div_add_mod j k
        rw [hdm]
    · intro y hy
      obtain ⟨j, hj, rfl⟩ := List.mem_map.1 hy
      have hj : j < len * k := by simpa using hj
      have h1 := hX (j / k) (hdiv j hj)
      refine h1.2.1 _ ?_
      rw [List.getD_eq_getElem?_getD, List.getElem?_eq_getElem (by rw [h1.1]; exact Nat.mod_lt _ hk)]
      exact List.getElem_mem _
end Go.Proofs.YteofhfefbphjdaaGreatDoor
