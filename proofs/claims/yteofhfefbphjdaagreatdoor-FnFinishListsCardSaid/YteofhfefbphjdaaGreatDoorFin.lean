/- Walks: lists of finishes: whether they are such, how many boats have finished, which is the first, as the program and the reference say it. No condition. -/
import Derived.Test.YteofhfefbphjdaaGreatDoorEqFinish
import Derived.Test.YteofhfefbphjdaaGreatDoorTc
namespace Go.Proofs.YteofhfefbphjdaaGreatDoor
open Go.RowKit Go.WideShapes Go.ChangeShapes
def finAt (xs : List Int) (i : Nat) : Bool := isFin (xs.getD (i * 3) 0) (xs.getD (i * 3 + 1) 0) (xs.getD (i * 3 + 2) 0)
def finTo (xs : List Int) (k : Nat) : Bool := (List.range k).all (finAt xs)
theorem finTo_succ (xs : List Int) (k : Nat) : finTo xs (k + 1) = (finTo xs k && finAt xs k) := by simp [finTo, List.range_succ]
theorem finTo_no {xs : List Int} {k n : Nat} (hk : k < n) (h : finAt xs k = false) : finTo xs n = false := by
  unfold finTo
  rw [List.all_eq_false]
  exact ⟨k, by simpa using hk, by simp [h]⟩
def finC (xs : List Int) (n : Nat) : Int := if 16 < n then 3 else if finTo xs n then 0 else 1
theorem finC_big {xs : List Int} {n : Nat} (h : 16 < n) : finC xs n = 3 := by simp [finC, h]
theorem finC_ok {xs : List Int} {n : Nat} (h : ¬ 16 < n) (h2 : finTo xs n = true) : finC xs n = 0 := by simp [finC, h, h2]
theorem finC_no {xs : List Int} {n : Nat} (h : ¬ 16 < n) (h2 : finTo xs n = false) : finC xs n = 1 := by simp [finC, h, h2]
theorem impl_finishesCode (A : Option Addr) (n c : Nat) (xs : List Int) (w : World) (ha : Rd w A xs) (hn : xs.length = n * 3) (hn2 : n ≤ 9223372036854775807) :
    Calls Tryz.prog 26 #[.slice A n c] w fun e w' => e = .returned (.int .i64 (finC xs n)) ∧ Q w w' := by
  by_cases h16 : 16 < n
  · rw [finC_big h16]
    go_enter Tryz.func26, Tryz.ntmps26
    go_wp2_with fail
    go_ret
    exact ⟨rfl, Q.refl _⟩
  · obtain ⟨bl, o, hA, hc⟩ := ha
    have HN := Lib.hid hn
    have H16 := Lib.hid h16
    have hle : n ≤ 16 := by omega
    rw [hn] at hA hc
    clear hn h16
    go_enter Tryz.func26, Tryz.ntmps26
    go_wp2_with fail
    go_loopw [10] (fun i wr => ∃ k : Nat, k ≤ n ∧ i = .int .i64 k ∧ Hid (finTo xs k = true) ∧ Q w wr) (fun i _ => n - (intOf i).toNat)
    case atStart => exact ⟨0, by omega, rfl, Lib.hid rfl, Q.refl _⟩
    case round =>
      obtain ⟨k, hk, rfl, HT, hq⟩ := hrel
      by_cases hlt : k < n
      · obtain rfl := hA (by omega)
        obtain ⟨x0, hx0⟩ : ∃ x, x = xs.getD (k * 3) 0 := ⟨_, rfl⟩
        obtain ⟨x1, hx1⟩ : ∃ x, x = xs.getD (k * 3 + 1) 0 := ⟨_, rfl⟩
        obtain ⟨x2, hx2⟩ : ∃ x, x = xs.getD (k * 3 + 2) 0 := ⟨_, rfl⟩
        have g0 := hq.cell (hc (k * 3) (by omega))
        have g1 := hq.cell (hc (k * 3 + 1) (by omega))
        have g2 := hq.cell (hc (k * 3 + 2) (by omega))
        rw [← hx0] at g0
        rw [← hx1, ← Nat.add_assoc] at g1
        rw [← hx2, ← Nat.add_assoc] at g2
        have HS : Hid (finAt xs k = isFin x0 x1 x2) := Lib.hid (by rw [hx0, hx1, hx2]; rfl)
        clear hx0 hx1 hx2 hc hA
        go_wp2_with fail
        refine (impl_IsFinish _ _ _ _).mono ?_
        rintro e w1 ⟨rfl, q1⟩
        cases hf : isFin x0 x1 x2
        · have HF := Lib.hid hf
          clear hf
          go_wp2_with fail
          go_ret
          exact ⟨ret_int (by rw [finC_no H16.out (finTo_no hlt (by rw [HS.out]; exact HF.out))]), (hq.alloc _).trans q1⟩
        · have HF := Lib.hid hf
          clear hf
          go_wp2_with fail
          go_roundw
          case rel => exact ⟨k + 1, by omega, by go_num, Lib.hid (by rw [finTo_succ, HT.out, HS.out, HF.out]; rfl), (hq.alloc _).trans q1⟩
          case measure => simp [intOf]; omega
      · obtain rfl : k = n := by omega
        go_wp2_with fail
        go_ret
        exact ⟨ret_int (by rw [finC_ok H16.out HT.out]), hq⟩
def cntF (xs : List Int) : Nat → Nat
  | 0 => 0
  | k + 1 => if xs.getD (k * 3 + 1) 0 = 0 then cntF xs k + 1 else cntF xs k
theorem cntF_le (xs : List Int) (k : Nat) : cntF xs k ≤ k := by
  induction k with
  | zero => exact Nat.le_refl _
  | succ k ih => unfold cntF; split <;> omega
theorem impl_CountFinished (A : Option Addr) (n c : Nat) (xs : List Int) (w : World) (ha : Rd w A xs) (hn : xs.length = n * 3) (hn2 : n ≤ 9223372036854775807) :
    Calls Tryz.prog 10 #[.slice A n c] w fun e w' => e = .returned (.tuple #[.int .i64 (if finC xs n = 0 then (cntF xs n : Int) else 0), .int .i64 (finC xs n)]) ∧ Q w w' := by
  obtain ⟨C, hC⟩ : ∃ C, C = finC xs n := ⟨_, rfl⟩
  have k0 := impl_finishesCode A n c xs
  rw [← hC] at k0 ⊢
  have hC16 : C = 0 → n ≤ 16 := fun h => by
    rcases Nat.lt_or_ge 16 n with h1 | h1
    · rw [hC, finC_big h1] at h; omega
    · exact h1
  have K0 := Lib.hid k0
  clear k0 hC
  have HN := Lib.hid hn
  clear hn
  by_cases h0 : C = 0
  · have hn16 := hC16 h0
    subst h0
    clear hC16
    go_enter Tryz.func10, Tryz.ntmps10
    go_wp2_with fail
    refine (K0.out _ ha HN.out hn2).mono ?_
    rintro e w1 ⟨rfl, q1⟩
    obtain ⟨bl, o, hA, hc1⟩ := ha
    rw [HN.out] at hA hc1
    have hc0 : ∀ j, j < n * 3 → w.cell? ⟨bl, o + j, none⟩ = some (.int .i64 (xs.getD j 0)) := hc1
    clear hc1
    go_wp2_with fail
    go_loopw [5, 15] (fun m i wr => ∃ k : Nat, k ≤ n ∧ i = .int .i64 k ∧ m = .int .i64 (cntF xs k) ∧ Q w wr) (fun _ i _ => n - (intOf i).toNat)
    case atStart => exact ⟨0, by omega, rfl, rfl, q1⟩
    case round =>
      clear q1
      obtain ⟨k, hk, rfl, rfl, hq⟩ := hrel
      have hle := cntF_le xs k
      obtain ⟨m, hm⟩ : ∃ m, m = cntF xs k := ⟨_, rfl⟩
      rw [← hm] at hle ⊢
      have HM := Lib.hid hm
      clear hm
      by_cases hlt : k < n
      · obtain rfl := hA (by omega)
        obtain ⟨x0, hx0⟩ : ∃ x, x = xs.getD (k * 3) 0 := ⟨_, rfl⟩
        obtain ⟨x1, hx1⟩ : ∃ x, x = xs.getD (k * 3 + 1) 0 := ⟨_, rfl⟩
        obtain ⟨x2, hx2⟩ : ∃ x, x = xs.getD (k * 3 + 2) 0 := ⟨_, rfl⟩
        have g0 := hq.cell (hc0 (k * 3) (by omega))
        have g1 := hq.cell (hc0 (k * 3 + 1) (by omega))
        have g2 := hq.cell (hc0 (k * 3 + 2) (by omega))
        rw [← hx0] at g0
        rw [← hx1, ← Nat.add_assoc] at g1
        rw [← hx2, ← Nat.add_assoc] at g2
        have HX := Lib.hid hx1
        clear hx0 hx1 hx2 hc0 hA
        by_cases h0 : x1 = 0
        · have e1 : cntF xs (k + 1) = m + 1 := by rw [cntF, if_pos (by rw [← HX.out]; exact h0), HM.out]
          have E1 := Lib.hid e1
          have hb : (x1 == 0) = true := by simpa using h0
          clear h0 e1
          go_wp2_with fail
          go_roundw
          case rel => exact ⟨k + 1, by omega, by go_num, by rw [E1.out]; go_num, (hq.alloc _)⟩
          case measure => simp [intOf]; omega
        · have e1 : cntF xs (k + 1) = m := by rw [cntF, if_neg (by rw [← HX.out]; exact h0), HM.out]
          have E1 := Lib.hid e1
          have hb : (x1 == 0) = false := by simpa using h0
          clear h0 e1
          go_wp2_with fail
          go_roundw
          case rel => exact ⟨k + 1, by omega, by go_num, by rw [E1.out], (hq.alloc _)⟩
          case measure => simp [intOf]; omega
      · obtain rfl : k = n := by omega
        go_wp2_with fail
        go_ret2
        exact ⟨by rw [HM.out]; rfl, hq⟩
  · have hb : (C != 0) = true := by simpa using h0
    have H0 := Lib.hid h0
    clear h0 hC16
    go_enter Tryz.func10, Tryz.ntmps10
    go_wp2_with fail
    refine (K0.out _ ha HN.out hn2).mono ?_
    rintro e w1 ⟨rfl, q1⟩
    go_wp2_with fail
    go_ret2
    exact ⟨rfl, q1⟩
end Go.Proofs.YteofhfefbphjdaaGreatDoor
