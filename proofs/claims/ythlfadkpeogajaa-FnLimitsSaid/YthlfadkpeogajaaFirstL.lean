/- Walks: the law that the program's FirstFinish returns what the reference's returns, for every list of finishes. No condition. -/
import Derived.Test.YthlfadkpeogajaaFirst
namespace Go.Proofs.Ythlfadkpeogajaa
open Go.RowKit Go.WideShapes Go.ChangeShapes
def ffP (xs : List Int) (n : Nat) : Int × Int := if finC xs n ≠ 0 then (0, finC xs n) else if bestF xs n < 0 then (0, 4) else (bestF xs n, 0)
def ffV (xs : List Int) (n : Nat) : Int := (ffP xs n).1
def ffC (xs : List Int) (n : Nat) : Int := (ffP xs n).2
def ffR (v c : Int) : Ending := .returned (.tuple #[.int .i64 v, .int .i64 c])
theorem ff_bad {xs : List Int} {n : Nat} (h : ¬ finC xs n = 0) : (Ending.returned (.tuple #[.int .i64 (ffV xs n), .int .i64 (ffC xs n)])) = .returned (.tuple #[.int .i64 0, .int .i64 (finC xs n)]) := by simp [ffV, ffC, ffP, h]
theorem ff_none {xs : List Int} {n : Nat} (h : finC xs n = 0) (h2 : bestF xs n < 0) : (Ending.returned (.tuple #[.int .i64 (ffV xs n), .int .i64 (ffC xs n)])) = .returned (.tuple #[.int .i64 0, .int .i64 4]) := by simp [ffV, ffC, ffP, h, h2]
theorem ff_some {xs : List Int} {n : Nat} (h : finC xs n = 0) (h2 : ¬ bestF xs n < 0) : (Ending.returned (.tuple #[.int .i64 (ffV xs n), .int .i64 (ffC xs n)])) = .returned (.tuple #[.int .i64 (bestF xs n), .int .i64 0]) := by simp [ffV, ffC, ffP, h, h2]
theorem impl_FF (A : Option Addr) (n c : Nat) (xs : List Int) (w : World) (ha : Rd w A xs) (hn : xs.length = n * 3) (hn2 : n ≤ 9223372036854775807) :
    Calls Try.prog 44 #[.slice A n c] w fun e w' => e = .returned (.tuple #[.int .i64 (ffV xs n), .int .i64 (ffC xs n)]) ∧ Q w w' := by
  obtain ⟨C, hC⟩ : ∃ C, C = finC xs n := ⟨_, rfl⟩
  obtain ⟨p, hp⟩ : ∃ p, p = bestF xs n := ⟨_, rfl⟩
  have k0 := impl_finishesCode A n c xs
  have k1 := impl_firstFinish A n c xs
  rw [← hC] at k0
  rw [← hp] at k1
  have K0 := Lib.hid k0
  have K1 := Lib.hid k1
  have HN := Lib.hid hn
  clear k0 k1 hn
  have hbd := bestF_bd xs n
  rw [← hp] at hbd
  by_cases h0 : C = 0
  · by_cases hneg : p < 0
    · rw [ff_none (by rw [← hC]; exact h0) (by rw [← hp]; exact hneg)]
      subst h0
      clear hC hp
      go_enter Try.func44, Try.ntmps44
      go_wp2_with fail
      refine (K0.out _ ha HN.out hn2).mono ?_
      rintro e w1 ⟨rfl, q1⟩
      go_wp2_with fail
      refine (K1.out _ (ha.q q1) HN.out hn2).mono ?_
      rintro e w2 ⟨rfl, q2⟩
      go_wp2_with fail
      go_ret2
      exact ⟨rfl, q1.trans q2⟩
    · rw [ff_some (by rw [← hC]; exact h0) (by rw [← hp]; exact hneg), ← hp]
      subst h0
      clear hC hp
      go_enter Try.func44, Try.ntmps44
      go_wp2_with fail
      refine (K0.out _ ha HN.out hn2).mono ?_
      rintro e w1 ⟨rfl, q1⟩
      go_wp2_with fail
      refine (K1.out _ (ha.q q1) HN.out hn2).mono ?_
      rintro e w2 ⟨rfl, q2⟩
      go_wp2_with fail
      go_ret2
      exact ⟨rfl, q1.trans q2⟩
  · rw [ff_bad (by rw [← hC]; exact h0), ← hC]
    have hb : (C != 0) = true := by simpa using h0
    clear h0 hC hp
    go_enter Try.func44, Try.ntmps44
    go_wp2_with fail
    refine (K0.out _ ha HN.out hn2).mono ?_
    rintro e w1 ⟨rfl, q1⟩
    go_wp2_with fail
    go_ret2
    exact ⟨rfl, q1⟩
end Go.Proofs.Ythlfadkpeogajaa
