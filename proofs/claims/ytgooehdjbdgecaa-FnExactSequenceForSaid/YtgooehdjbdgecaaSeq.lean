/- Walks: the starting sequence of signals, as the program and the reference return it, for every warning time. No condition. -/
import Derived.Test.YtgooehdjbdgecaaEqSignal
import Derived.Test.YtgooehdjbdgecaaIn
namespace Go.Proofs.Ytgooehdjbdgecaa
open Go.RowKit Go.WideShapes Go.ChangeShapes
def seqL (x : Int) : List Int := [1, x, 2, x + 60000, 3, x + 240000, 4, x + 300000]
theorem spec_l13Sequence (x : Int) (w : World) (h : 0 ≤ x ∧ x ≤ 999700000) : Calls Try.prog 63 #[.int .i64 x] w fun e w' => ∃ A c, e = .returned (.slice A 4 c) ∧ Own w' w.heap.size 81 2 (.slice A 4 c) 4 (seqL x) ∧ Q w w' := by
  go_enter Try.func63, Try.ntmps63
  go_wp2_with fail
  go_ret
  exact ⟨_, _, rfl, Own.lit w _ _ _ (seqL x) rfl (Nat.le_refl _) rfl (by decide), (Q.refl _).alloc _⟩
def seqN (x : Int) : Nat := if 0 ≤ x ∧ x ≤ 999700000 then 4 else 0
def seqR (x : Int) : List Int := if 0 ≤ x ∧ x ≤ 999700000 then seqL x else []
def seqC (x : Int) : Int := if 0 ≤ x ∧ x ≤ 999700000 then 0 else 2
theorem spec_SequenceFor (x : Int) (w : World) : Calls Try.prog 42 #[.int .i64 x] w (RS w 81 2 (seqN x) (seqR x) (seqC x)) := by
  by_cases h : 0 ≤ x ∧ x ≤ 999700000
  · rw [show seqN x = 4 by simp [seqN, h], show seqR x = seqL x by simp [seqR, h], show seqC x = 0 by simp [seqC, h]]
    go_enter Try.func42, Try.ntmps42
    go_wp2_with (go_at_call 51; refine (spec_in _ _ _ _).mono ?_; rintro e w' ⟨rfl, rfl⟩)
    refine (spec_l13Sequence x _ h).mono ?_
    rintro e w1 ⟨A, c, rfl, o1, q1⟩
    go_wp2_with fail
    go_ret2
    exact ⟨_, _, rfl, o1, q1⟩
  · rw [show seqN x = 0 by simp [seqN, h], show seqR x = [] by simp [seqR, h], show seqC x = 2 by simp [seqC, h]]
    go_enter Try.func42, Try.ntmps42
    go_wp2_with (go_at_call 51; refine (spec_in _ _ _ _).mono ?_; rintro e w' ⟨rfl, rfl⟩)
    go_ret2
    exact RS.nil _ _ _ _ _ (Q.refl _)
theorem impl_SequenceFor (x : Int) (w : World) : Calls Try.prog 43 #[.int .i64 x] w (RS w 81 2 (seqN x) (seqR x) (seqC x)) := by
  by_cases h : 0 ≤ x ∧ x ≤ 999700000
  · rw [show seqN x = 4 by simp [seqN, h], show seqR x = seqL x by simp [seqR, h], show seqC x = 0 by simp [seqC, h]]
    go_enter Try.func43, Try.ntmps43
    go_wp2_with (go_at_call 52; refine (impl_in _ _ _ _).mono ?_; rintro e w' ⟨rfl, rfl⟩)
    go_ret2
    exact ⟨_, _, rfl, Own.lit w _ _ _ (seqL x) rfl (Nat.le_refl _) rfl (by decide), (Q.refl _).alloc _⟩
  · rw [show seqN x = 0 by simp [seqN, h], show seqR x = [] by simp [seqR, h], show seqC x = 2 by simp [seqC, h]]
    go_enter Try.func43, Try.ntmps43
    go_wp2_with (go_at_call 52; refine (impl_in _ _ _ _).mono ?_; rintro e w' ⟨rfl, rfl⟩)
    go_ret2
    exact RS.nil _ _ _ _ _ (Q.refl _)
theorem law_FnExactSequenceFor (x : Int) (_ : -9223372036854775808 ≤ x ∧ x ≤ 9223372036854775807) (w : World) :
    Calls Try.prog 13 #[.int .i64 x] w fun e w' => e = .returned (.bool true) ∧ Below w.heap.size w w' := by
  have hlen : seqN x ≤ 1048576 := by unfold seqN; split <;> decide
  obtain ⟨n, hn⟩ : ∃ n, n = seqN x := ⟨_, rfl⟩
  obtain ⟨L, hL⟩ : ∃ L, L = seqR x := ⟨_, rfl⟩
  obtain ⟨C, hC⟩ : ∃ C, C = seqC x := ⟨_, rfl⟩
  have k0 := spec_SequenceFor x
  have k1 := impl_SequenceFor x
  rw [← hn, ← hL, ← hC] at k0 k1
  rw [← hn] at hlen
  have K0 := Lib.hid k0
  have K1 := Lib.hid k1
  clear k0 k1 hn hL hC
  go_enter Try.func13, Try.ntmps13
  go_wp2_with fail
  refine (K0.out _).mono ?_
  rintro e w1 ⟨A0, c0, rfl, o0, q1⟩
  have HL := Lib.hid (show L.length = n * 2 by simpa using o0.1)
  go_wp2_with fail
  refine (K1.out _).mono ?_
  rintro e w2 ⟨A1, c1, rfl, o1, q2⟩
  go_wp2_with fail
  refine (eqSignalS_same A1 A0 n c1 c0 L _ o1.rd (o0.rd.q q2) HL.out (by omega)).mono ?_
  rintro e w3 ⟨rfl, q3⟩
  go_wp2_with fail
  have o3 := o1.q q3
  refine (markSignalS_any A1 n c1 _ L 1 _ o3 (by omega) (by omega)).mono ?_
  rintro e w4 ⟨rfl, o4, g4⟩
  go_wp2_with fail
  refine (heldSignalS_any A1 n c1 1 _ o4.rd (by omega) (by omega)).mono ?_
  rintro e w5 ⟨rfl, q5⟩
  go_wp2_with fail
  refine (K1.out _).mono ?_
  rintro e w6 ⟨A2, c2, rfl, o6, q6⟩
  go_wp2_with fail
  have r0 : Rd w6 A0 L := (((((o0.rd.q q2).q q3).mark (fun p hp => (o0.from p hp).2) o3 g4).q q5).q q6)
  refine (eqSignalS_same A2 A0 n c2 c0 L _ o6.rd r0 HL.out (by omega)).mono ?_
  rintro e w7 ⟨rfl, q7⟩
  go_wp2_with fail
  refine (heldSignalS_any A1 n c1 1 _ (((o4.rd.q q5).q q6).q q7) (by omega) (by omega)).mono ?_
  rintro e w8 ⟨rfl, q8⟩
  go_wp2_with fail
  go_ret
  exact ⟨rfl, (((((((q1.trans q2).trans q3).mark o3 q1.size g4).trans q5).trans q6).trans q7).trans q8)⟩
end Go.Proofs.Ytgooehdjbdgecaa
