/- Walks: the law that the program's CountFinished returns what the reference's returns, for every list of finishes. No condition. -/
import Derived.Test.YtefefkmajggjoaaFin
namespace Go.Proofs.Ytefefkmajggjoaa
open Go.RowKit Go.WideShapes Go.ChangeShapes
def cfV (xs : List Int) (n : Nat) : Int := if finC xs n = 0 then (cntF xs n : Int) else 0
theorem spec_CF (A : Option Addr) (n c : Nat) (xs : List Int) (w : World) (ha : Rd w A xs) (hn : xs.length = n * 3) (hn2 : n ≤ 9223372036854775807) :
    Calls Try.prog 12 #[.slice A n c] w fun e w' => e = .returned (.tuple #[.int .i64 (cfV xs n), .int .i64 (finC xs n)]) ∧ Q w w' := spec_CountFinished A n c xs w ha hn hn2
theorem impl_CF (A : Option Addr) (n c : Nat) (xs : List Int) (w : World) (ha : Rd w A xs) (hn : xs.length = n * 3) (hn2 : n ≤ 9223372036854775807) :
    Calls Try.prog 14 #[.slice A n c] w fun e w' => e = .returned (.tuple #[.int .i64 (cfV xs n), .int .i64 (finC xs n)]) ∧ Q w w' := impl_CountFinished A n c xs w ha hn hn2
theorem law_FnExactCountFinished (A : Option Addr) (n c : Nat) (xs : List Int) (hn : xs.length = n * 3) (_ : ∀ y ∈ xs, -9223372036854775808 ≤ y ∧ y ≤ 9223372036854775807) (hc : n ≤ c ∧ c ≤ maxLen) (w : World) (ha : Rd w A xs) :
    Calls Try.prog 3 #[.slice A n c] w fun e w' => e = .returned (.bool true) ∧ Below w.heap.size w w' := by
  have hn2 : n ≤ 9223372036854775807 := by have := hc.2; unfold maxLen at this; omega
  clear hc
  have HN := Lib.hid hn
  clear hn
  by_cases hs : (n : Int) ≤ 1048576
  · go_enter Try.func3, Try.ntmps3
    go_wp2_with fail
    refine (szFinishS_any A n c 1048576 _ (by omega) (by omega) hn2).mono ?_
    rintro e w' ⟨rfl, rfl⟩
    rw [if_pos hs]
    go_wp2_with fail
    refine (toFinishS_any A n c xs _ ha HN.out (by omega)).mono ?_
    rintro e w1 ⟨A1, c1, rfl, o1, q1⟩
    go_wp2_with fail
    refine (spec_CF A1 n c1 xs _ o1.rd HN.out hn2).mono ?_
    rintro e w2 ⟨rfl, q2⟩
    have q12 := q1.trans q2
    go_wp2_with fail
    refine (toFinishS_any A n c xs _ (ha.q q12) HN.out (by omega)).mono ?_
    rintro e w3 ⟨A3, c3, rfl, o3, q3⟩
    have q13 := q12.trans q3
    go_wp2_with fail
    refine (impl_CF A3 n c3 xs _ o3.rd HN.out hn2).mono ?_
    rintro e w4 ⟨rfl, q4⟩
    have q14 := q13.trans q4
    go_wp2_with fail
    refine (toFinishS_any A n c xs _ (ha.q q14) HN.out (by omega)).mono ?_
    rintro e w5 ⟨A5, c5, rfl, o5, q5⟩
    have q15 := q14.trans q5
    go_wp2_with fail
    refine (eqFinishS_same A3 A5 n c3 c5 xs _ ((o3.rd.q q4).q q5) o5.rd HN.out hn2).mono ?_
    rintro e w6 ⟨rfl, q6⟩
    go_wp2_with fail
    go_ret
    exact ⟨rfl, q15.trans q6⟩
  · go_enter Try.func3, Try.ntmps3
    go_wp2_with fail
    refine (szFinishS_any A n c 1048576 _ (by omega) (by omega) hn2).mono ?_
    rintro e w' ⟨rfl, rfl⟩
    rw [if_neg (by omega)]
    go_wp2_with fail
    go_ret
    exact ⟨rfl, Q.refl _⟩
end Go.Proofs.Ytefefkmajggjoaa
