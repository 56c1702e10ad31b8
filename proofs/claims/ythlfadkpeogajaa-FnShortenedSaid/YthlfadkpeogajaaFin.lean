/- Walks: lists of finishes: whether they are such, how many boats have finished, which is the first, as the program and the reference say it. No condition. -/
import Derived.Test.YthlfadkpeogajaaEqFinish
import Derived.Test.YthlfadkpeogajaaTc
namespace Go.Proofs.Ythlfadkpeogajaa
open Go.RowKit Go.WideShapes Go.ChangeShapes
def finAt (xs : List Int) (i : Nat) : Bool := isFin (xs.getD (i * 3) 0) (xs.getD (i * 3 + 1) 0) (xs.getD (i * 3 + 2) 0)
def finTo (xs : List Int) (k : Nat) : Bool := (List.range k).all (finAt xs)
theorem finTo_succ (xs : List Int) (k : Nat) : finTo xs (k + 1) = (finTo xs k && finAt xs k) := by simp [finTo, List.range_succ]
theorem finTo_no {xs : List Int} {k n : Nat} (hk : k < n) (h : finAt xs k = false) : finTo xs n = false := by
  unfold finTo
  rw [List.all_eq_false]
  exact ⟨k, by simpa using hk, by simp [h]⟩
def finC (xs : List Int) (n : Nat) : Int := if 16 < n then 3 else if finTo xs n then 0 else 1
theorem finC_big {xs : List Int} {n : Nat} (h : 16 < n) : finC xs n = 3 := by simp [finC, h]
theorem finC_ok {xs : List Int} {n : Nat} (h : ¬ 16 < n) (h2 : finTo xs n = true) : finC xs n = 0 := by simp [finC, h, h2]
theorem finC_no {xs : List Int} {n : Nat} (h : ¬ 16 < n) (h2 : finTo xs n = false) : finC xs n = 1 := by simp [finC, h, h2]
theorem impl_finishesCode (A : Option Addr) (n c : Nat) (xs : List Int) (w : World) (ha : Rd w A xs) (hn : xs.length = n * 3) (hn2 : n ≤ 9223372036854775807) :
    Calls Try.prog 81 #[.slice A n c] w fun e w' => e = .returned (.int .i64 (finC xs n)) ∧ Q w w' := by
  by_cases h16 : 16 < n
  · rw [finC_big h16]
    go_enter Try.func81, Try.ntmps81
    go_wp2_with fail
    go_ret
    exact ⟨rfl, Q.refl _⟩
  · obtain ⟨bl, o, hA, hc⟩ := ha
    have HN := Lib.hid hn
    have H16 := Lib.hid h16
    have hle : n ≤ 16 := by omega
    rw [hn] at hA hc
    clear hn h16
    go_enter Try.func81, Try.ntmps81
    go_wp2_with fail
    go_loopw [10] (fun i wr => ∃ k : Nat, k ≤ n ∧ i = .int .i64 k ∧ Hid (finTo xs k = true) ∧ Q w wr) (fun i _ => n - (intOf i).toNat)
    case atStart => exact ⟨0, by omega, rfl, Lib.hid rfl, Q.refl _⟩
    case round =>
      obtain ⟨k, hk, rfl, HT, hq⟩ := hrel
      by_cases hlt : k < n
      · obtain rfl := hA (by omega)
        obtain ⟨x0, hx0⟩ : ∃ x, x = xs.getD (k * 3) 0 := ⟨_, rfl⟩
        obtain ⟨x1, hx1⟩ : ∃ x, x = xs.getD (k * 3 + 1) 0 := ⟨_, rfl⟩
        obtain ⟨x2, hx2⟩ : ∃ x, x = xs.getD (k * 3 + 2) 0 := ⟨_, rfl⟩
        have g0 := hq.cell (hc (k * 3) (by omega))
        have g1 := hq.cell (hc (k * 3 + 1) (by omega))
        have g2 := hq.cell (hc (k * 3 + 2) (by omega))
        rw [← hx0] at g0
        rw [← hx1, ← Nat.add_assoc] at g1
        rw [← hx2, ← Nat.add_assoc] at g2
        have HS : Hid (finAt xs k = isFin x0 x1 x2) := Lib.hid (by rw [hx0, hx1, hx2]; rfl)
        clear hx0 hx1 hx2 hc hA
        go_wp2_with fail
        refine (impl_IsFinish _ _ _ _).mono ?_
        rintro e w1 ⟨rfl, q1⟩
        cases hf : isFin x0 x1 x2
        · have HF := Lib.hid hf
          clear hf
          go_wp2_with fail
          go_ret
          exact ⟨ret_int (by rw [finC_no H16.out (finTo_no hlt (by rw [HS.out]; exact HF.out))]), (hq.alloc _).trans q1⟩
        · have HF := Lib.hid hf
          clear hf
          go_wp2_with fail
          go_roundw
          case rel => exact ⟨k + 1, by omega, by go_num, Lib.hid (by rw [finTo_succ, HT.out, HS.out, HF.out]; rfl), (hq.alloc _).trans q1⟩
          case measure => simp [intOf]; omega
      · obtain rfl : k = n := by omega
        go_wp2_with fail
        go_ret
        exact ⟨ret_int (by rw [finC_ok H16.out HT.out]), hq⟩
theorem spec_l16List (A : Option Addr) (n c : Nat) (xs : List Int) (w : World) (ha : Rd w A xs) (hn : xs.length = n * 3) (hn2 : n ≤ 9223372036854775807) :
    Calls Try.prog 97 #[.slice A n c] w fun e w' => e = .returned (.int .i64 (finC xs n)) ∧ Q w w' := by
  by_cases h16 : 16 < n
  · rw [finC_big h16]
    go_enter Try.func97, Try.ntmps97
    go_wp2_with fail
    go_ret
    exact ⟨rfl, Q.refl _⟩
  · obtain ⟨bl, o, hA, hc⟩ := ha
    have HN := Lib.hid hn
    have H16 := Lib.hid h16
    have hle : n ≤ 16 := by omega
    rw [hn] at hA hc
    clear hn h16
    go_enter Try.func97, Try.ntmps97
    go_wp2_with fail
    go_loopw [3] (fun i wr => ∃ k : Nat, k ≤ n ∧ i = .int .i64 k ∧ Hid (finTo xs k = true) ∧ Q w wr) (fun i _ => n - (intOf i).toNat)
    case atStart => exact ⟨0, by omega, rfl, Lib.hid rfl, Q.refl _⟩
    case round =>
      obtain ⟨k, hk, rfl, HT, hq⟩ := hrel
      by_cases hlt : k < n
      · obtain rfl := hA (by omega)
        obtain ⟨x0, hx0⟩ : ∃ x, x = xs.getD (k * 3) 0 := ⟨_, rfl⟩
        obtain ⟨x1, hx1⟩ : ∃ x, x = xs.getD (k * 3 + 1) 0 := ⟨_, rfl⟩
        obtain ⟨x2, hx2⟩ : ∃ x, x = xs.getD (k * 3 + 2) 0 := ⟨_, rfl⟩
        have g0 := hq.cell (hc (k * 3) (by omega))
        have g1 := hq.cell (hc (k * 3 + 1) (by omega))
        have g2 := hq.cell (hc (k * 3 + 2) (by omega))
        rw [← hx0] at g0
        rw [← hx1, ← Nat.add_assoc] at g1
        rw [← hx2, ← Nat.add_assoc] at g2
        have HS : Hid (finAt xs k = isFin x0 x1 x2) := Lib.hid (by rw [hx0, hx1, hx2]; rfl)
        clear hx0 hx1 hx2 hc hA
        go_wp2_with fail
        refine (spec_IsFinish _ _ _ _).mono ?_
        rintro e w1 ⟨rfl, q1⟩
        cases hf : isFin x0 x1 x2
        · have HF := Lib.hid hf
          clear hf
          go_wp2_with fail
          go_ret
          exact ⟨ret_int (by rw [finC_no H16.out (finTo_no hlt (by rw [HS.out]; exact HF.out))]), hq.trans q1⟩
        · have HF := Lib.hid hf
          clear hf
          go_wp2_with fail
          go_roundw
          case rel => exact ⟨k + 1, by omega, by go_num, Lib.hid (by rw [finTo_succ, HT.out, HS.out, HF.out]; rfl), hq.trans q1⟩
          case measure => simp [intOf]; omega
      · obtain rfl : k = n := by omega
        go_wp2_with fail
        go_ret
        exact ⟨ret_int (by rw [finC_ok H16.out HT.out]), hq⟩
def cntF (xs : List Int) : Nat → Nat
  | 0 => 0
  | k + 1 => if xs.getD (k * 3 + 1) 0 = 0 then cntF xs k + 1 else cntF xs k
theorem cntF_le (xs : List Int) (k : Nat) : cntF xs k ≤ k := by
  induction k with
  | zero => exact Nat.le_refl _
  | succ k ih => unfold cntF; split <;> omega
end Go.Proofs.Ythlfadkpeogajaa
