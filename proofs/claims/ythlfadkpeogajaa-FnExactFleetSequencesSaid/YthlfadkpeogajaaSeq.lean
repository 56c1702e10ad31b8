/- Walks: the starting sequence of signals, as the program and the reference return it, for every warning time. No condition. -/
import Derived.Test.YthlfadkpeogajaaEqSignal
import Derived.Test.YthlfadkpeogajaaIn
namespace Go.Proofs.Ythlfadkpeogajaa
open Go.RowKit Go.WideShapes Go.ChangeShapes
def seqL (x : Int) : List Int := [1, x, 2, x + 60000, 3, x + 240000, 4, x + 300000]
theorem spec_l13Sequence (x : Int) (w : World) (h : 0 ≤ x ∧ x ≤ 999700000) : Calls Try.prog 83 #[.int .i64 x] w fun e w' => ∃ A c, e = .returned (.slice A 4 c) ∧ Own w' w.heap.size 122 2 (.slice A 4 c) 4 (seqL x) ∧ Q w w' := by
  go_enter Try.func83, Try.ntmps83
  go_wp2_with fail
  go_ret
  exact ⟨_, _, rfl, Own.lit w _ _ _ (seqL x) rfl (Nat.le_refl _) rfl (by decide), (Q.refl _).alloc _⟩
def seqN (x : Int) : Nat := if 0 ≤ x ∧ x ≤ 999700000 then 4 else 0
def seqR (x : Int) : List Int := if 0 ≤ x ∧ x ≤ 999700000 then seqL x else []
def seqC (x : Int) : Int := if 0 ≤ x ∧ x ≤ 999700000 then 0 else 2
theorem impl_SequenceFor (x : Int) (w : World) : Calls Try.prog 84 #[.int .i64 x] w (RS w 122 2 (seqN x) (seqR x) (seqC x)) := by
  by_cases h : 0 ≤ x ∧ x ≤ 999700000
  · rw [show seqN x = 4 by simp [seqN, h], show seqR x = seqL x by simp [seqR, h], show seqC x = 0 by simp [seqC, h]]
    go_enter Try.func84, Try.ntmps84
    go_wp2_with (go_at_call 60; refine (impl_in _ _ _ _).mono ?_; rintro e w' ⟨rfl, rfl⟩)
    go_ret2
    exact ⟨_, _, rfl, Own.lit w _ _ _ (seqL x) rfl (Nat.le_refl _) rfl (by decide), (Q.refl _).alloc _⟩
  · rw [show seqN x = 0 by simp [seqN, h], show seqR x = [] by simp [seqR, h], show seqC x = 2 by simp [seqC, h]]
    go_enter Try.func84, Try.ntmps84
    go_wp2_with (go_at_call 60; refine (impl_in _ _ _ _).mono ?_; rintro e w' ⟨rfl, rfl⟩)
    go_ret2
    exact RS.nil _ _ _ _ _ (Q.refl _)
end Go.Proofs.Ythlfadkpeogajaa
