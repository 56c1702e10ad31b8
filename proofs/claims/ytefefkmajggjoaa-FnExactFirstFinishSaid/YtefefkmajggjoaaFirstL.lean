/- Walks: the law that the program's FirstFinish returns what the reference's returns, for every list of finishes. No condition. -/
import Derived.Test.YtefefkmajggjoaaFirst
namespace Go.Proofs.Ytefefkmajggjoaa
open Go.RowKit Go.WideShapes Go.ChangeShapes
def ffP (xs : List Int) (n : Nat) : Int × Int := if finC xs n ≠ 0 then (0, finC xs n) else if bestF xs n < 0 then (0, 4) else (bestF xs n, 0)
def ffV (xs : List Int) (n : Nat) : Int := (ffP xs n).1
def ffC (xs : List Int) (n : Nat) : Int := (ffP xs n).2
def ffR (v c : Int) : Ending := .returned (.tuple #[.int .i64 v, .int .i64 c])
theorem ff_bad {xs : List Int} {n : Nat} (h : ¬ finC xs n = 0) : (Ending.returned (.tuple #[.int .i64 (ffV xs n), .int .i64 (ffC xs n)])) = .returned (.tuple #[.int .i64 0, .int .i64 (finC xs n)]) := by simp [ffV, ffC, ffP, h]
theorem ff_none {xs : List Int} {n : Nat} (h : finC xs n = 0) (h2 : bestF xs n < 0) : (Ending.returned (.tuple #[.int .i64 (ffV xs n), .int .i64 (ffC xs n)])) = .returned (.tuple #[.int .i64 0, .int .i64 4]) := by simp [ffV, ffC, ffP, h, h2]
theorem ff_some {xs : List Int} {n : Nat} (h : finC xs n = 0) (h2 : ¬ bestF xs n < 0) : (Ending.returned (.tuple #[.int .i64 (ffV xs n), .int .i64 (ffC xs n)])) = .returned (.tuple #[.int .i64 (bestF xs n), .int .i64 0]) := by simp [ffV, ffC, ffP, h, h2]
theorem spec_FF (A : Option Addr) (n c : Nat) (xs : List Int) (w : World) (ha : Rd w A xs) (hn : xs.length = n * 3) (hn2 : n ≤ 9223372036854775807) :
    Calls Try.prog 16 #[.slice A n c] w fun e w' => e = .returned (.tuple #[.int .i64 (ffV xs n), .int .i64 (ffC xs n)]) ∧ Q w w' := by
  obtain ⟨C, hC⟩ : ∃ C, C = finC xs n := ⟨_, rfl⟩
  obtain ⟨p, hp⟩ : ∃ p, p = bestF xs n := ⟨_, rfl⟩
  have k0 := spec_l16List A n c xs
  have k1 := spec_l16First A n c xs
  rw [← hC] at k0
  rw [← hp] at k1
  have K0 := Lib.hid k0
  have K1 := Lib.hid k1
  have HN := Lib.hid hn
  clear k0 k1 hn
  have hbd := bestF_bd xs n
  rw [← hp] at hbd
  by_cases h0 : C = 0
  · by_cases hneg : p < 0
    · rw [ff_none (by rw [← hC]; exact h0) (by rw [← hp]; exact hneg)]
      subst h0
      clear hC hp
      go_enter Try.func16, Try.ntmps16
      go_wp2_with fail
      refine (K0.out _ ha HN.out hn2).mono ?_
      rintro e w1 ⟨rfl, q1⟩
      go_wp2_with fail
      refine (K1.out _ (ha.q q1) HN.out hn2).mono ?_
      rintro e w2 ⟨rfl, q2⟩
      go_wp2_with fail
      go_ret2
      exact ⟨rfl, q1.trans q2⟩
    · rw [ff_some (by rw [← hC]; exact h0) (by rw [← hp]; exact hneg), ← hp]
      subst h0
      clear hC hp
      go_enter Try.func16, Try.ntmps16
      go_wp2_with fail
      refine (K0.out _ ha HN.out hn2).mono ?_
      rintro e w1 ⟨rfl, q1⟩
      go_wp2_with fail
      refine (K1.out _ (ha.q q1) HN.out hn2).mono ?_
      rintro e w2 ⟨rfl, q2⟩
      go_wp2_with fail
      go_ret2
      exact ⟨rfl, q1.trans q2⟩
  · rw [ff_bad (by rw [← hC]; exact h0), ← hC]
    have hb : (C != 0) = true := by simpa using h0
    clear h0 hC hp
    go_enter Try.func16, Try.ntmps16
    go_wp2_with fail
    refine (K0.out _ ha HN.out hn2).mono ?_
    rintro e w1 ⟨rfl, q1⟩
    go_wp2_with fail
    go_ret2
    exact ⟨rfl, q1⟩
theorem impl_FF (A : Option Addr) (n c : Nat) (xs : List Int) (w : World) (ha : Rd w A xs) (hn : xs.length = n * 3) (hn2 : n ≤ 9223372036854775807) :
    Calls Try.prog 17 #[.slice A n c] w fun e w' => e = .returned (.tuple #[.int .i64 (ffV xs n), .int .i64 (ffC xs n)]) ∧ Q w w' := by
  obtain ⟨C, hC⟩ : ∃ C, C = finC xs n := ⟨_, rfl⟩
  obtain ⟨p, hp⟩ : ∃ p, p = bestF xs n := ⟨_, rfl⟩
  have k0 := impl_finishesCode A n c xs
  have k1 := impl_firstFinish A n c xs
  rw [← hC] at k0
  rw [← hp] at k1
  have K0 := Lib.hid k0
  have K1 := Lib.hid k1
  have HN := Lib.hid hn
  clear k0 k1 hn
  have hbd := bestF_bd xs n
  rw [← hp] at hbd
  by_cases h0 : C = 0
  · by_cases hneg : p < 0
    · rw [ff_none (by rw [← hC]; exact h0) (by rw [← hp]; exact hneg)]
      subst h0
      clear hC hp
      go_enter Try.func17, Try.ntmps17
      go_wp2_with fail
      refine (K0.out _ ha HN.out hn2).mono ?_
      rintro e w1 ⟨rfl, q1⟩
      go_wp2_with fail
      refine (K1.out _ (ha.q q1) HN.out hn2).mono ?_
      rintro e w2 ⟨rfl, q2⟩
      go_wp2_with fail
      go_ret2
      exact ⟨rfl, q1.trans q2⟩
    · rw [ff_some (by rw [← hC]; exact h0) (by rw [← hp]; exact hneg), ← hp]
      subst h0
      clear hC hp
      go_enter Try.func17, Try.ntmps17
      go_wp2_with fail
      refine (K0.out _ ha HN.out hn2).mono ?_
      rintro e w1 ⟨rfl, q1⟩
      go_wp2_with fail
      refine (K1.out _ (ha.q q1) HN.out hn2).mono ?_
      rintro e w2 ⟨rfl, q2⟩
      go_wp2_with fail
      go_ret2
      exact ⟨rfl, q1.trans q2⟩
  · rw [ff_bad (by rw [← hC]; exact h0), ← hC]
    have hb : (C != 0) = true := by simpa using h0
    clear h0 hC hp
    go_enter Try.func17, Try.ntmps17
    go_wp2_with fail
    refine (K0.out _ ha HN.out hn2).mono ?_
    rintro e w1 ⟨rfl, q1⟩
    go_wp2_with fail
    go_ret2
    exact ⟨rfl, q1⟩
theorem law_FnExactFirstFinish (A : Option Addr) (n c : Nat) (xs : List Int) (hn : xs.length = n * 3) (_ : ∀ y ∈ xs, -9223372036854775808 ≤ y ∧ y ≤ 9223372036854775807) (hc : n ≤ c ∧ c ≤ maxLen) (w : World) (ha : Rd w A xs) :
    Calls Try.prog 4 #[.slice A n c] w fun e w' => e = .returned (.bool true) ∧ Below w.heap.size w w' := by
  have hn2 : n ≤ 9223372036854775807 := by have := hc.2; unfold maxLen at this; omega
  clear hc
  have HN := Lib.hid hn
  clear hn
  by_cases hs : (n : Int) ≤ 1048576
  · go_enter Try.func4, Try.ntmps4
    go_wp2_with fail
    refine (szFinishS_any A n c 1048576 _ (by omega) (by omega) hn2).mono ?_
    rintro e w' ⟨rfl, rfl⟩
    rw [if_pos hs]
    go_wp2_with fail
    refine (toFinishS_any A n c xs _ ha HN.out (by omega)).mono ?_
    rintro e w1 ⟨A1, c1, rfl, o1, q1⟩
    go_wp2_with fail
    refine (spec_FF A1 n c1 xs _ o1.rd HN.out hn2).mono ?_
    rintro e w2 ⟨rfl, q2⟩
    have q12 := q1.trans q2
    go_wp2_with fail
    refine (toFinishS_any A n c xs _ (ha.q q12) HN.out (by omega)).mono ?_
    rintro e w3 ⟨A3, c3, rfl, o3, q3⟩
    have q13 := q12.trans q3
    go_wp2_with fail
    refine (impl_FF A3 n c3 xs _ o3.rd HN.out hn2).mono ?_
    rintro e w4 ⟨rfl, q4⟩
    have q14 := q13.trans q4
    go_wp2_with fail
    refine (toFinishS_any A n c xs _ (ha.q q14) HN.out (by omega)).mono ?_
    rintro e w5 ⟨A5, c5, rfl, o5, q5⟩
    have q15 := q14.trans q5
    go_wp2_with fail
    refine (eqFinishS_same A3 A5 n c3 c5 xs _ ((o3.rd.q q4).q q5) o5.rd HN.out hn2).mono ?_
    rintro e w6 ⟨rfl, q6⟩
    go_wp2_with fail
    go_ret
    exact ⟨rfl, q15.trans q6⟩
  · go_enter Try.func4, Try.ntmps4
    go_wp2_with fail
    refine (szFinishS_any A n c 1048576 _ (by omega) (by omega) hn2).mono ?_
    rintro e w' ⟨rfl, rfl⟩
    rw [if_neg (by omega)]
    go_wp2_with fail
    go_ret
    exact ⟨rfl, Q.refl _⟩
end Go.Proofs.Ytefefkmajggjoaa
