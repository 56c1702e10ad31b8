/- For every list of signals the program's IsSignals returns what the reference's returns, and leaves its argument as it was. No condition. -/
import Derived.Test.YtgooehdjbdgecaaSig
namespace Go.Proofs.Ytgooehdjbdgecaa
open Go.RowKit Go.WideShapes Go.ChangeShapes
theorem flatSignal : FlatE Try.prog 84 2 :=
  FlatE.struct Try.underlying84 (by kernel_rfl) ⟨rfl, 1, by kernel_rfl, FlatE.int Try.underlying2, rfl, 1, by kernel_rfl, FlatE.int Try.underlying2, rfl⟩
set_option maxRecDepth 100000 in
theorem lift_FnExactIsSignals (os : Os) (started : os.Started) (H : Type) (enc : TypeId × Value → H) :
    ReturnsInHanded {} Try.checked os 14 .any (Rows.fnExactIsSignalsSpec.pre6 enc Try.prog Try.f14 Rows.fnExactIsSignalsRow.domain false) (Rows.fnExactIsSignalsSpec.post enc Try.prog Try.f14 false true false false) := by
  refine returnsInHanded_of_change (C := Try.checked) own started (by kernel_rfl) Try.func14
    (ChangeSpec.witness6 (enc := enc) (C := Try.checked) false ⟨#[], #[.slice none 0 0], []⟩ 8 (by kernel_rfl) (by kernel_rfl) (by kernel_rfl) (by kernel_rfl)) ?_
  intro W base args ds gs before hval0 hW _ _
  have hval : ∀ (j : Nat) t v, Try.f14.params[j]? = some t → args[j]? = some v → Value.okWide Try.prog W .any base t v := hval0
  have hW' := hW
  obtain ⟨p, q, hA0, hV, hpq, hz, hnd⟩ := hW
  have hA : DataW.TrodAll enc Try.prog W 0 (fun _ => true) true Try.f14.params.toList args.toList ds p := hA0
  rw [Try.params14] at hA hval
  obtain ⟨v0, vs0, d0, ds0, p0, q0, hargs, rfl, hpp, h0, r0⟩ := trodAll_cons hA
  obtain ⟨rfl, rfl, rfl⟩ := trodAll_nil r0
  obtain rfl : args = #[v0] := by cases args; simp_all
  obtain ⟨a0A, a0n, a0c, a0xs, rfl, ha0l, ha0r, ha0b, ha0c1, ha0c2⟩ := open_rows Try.underlying68 flatSignal (by kernel_rfl) (by decide) (hval 0 68 v0 rfl rfl) h0
  exact calls_of_walk laidOut (by kernel_rfl) rfl Try.underlying4 rfl rfl hW' (law_FnExactIsSignals a0A a0n a0c a0xs ha0l ha0b ⟨ha0c1, ha0c2⟩ W ha0r)
theorem FnExactIsSignals_holds : Rows.FnExactIsSignalsSaid :=
  OpenClaim.holds_of_wide 14 Try.f14 rfl rfl rfl rfl rfl rfl rfl ⟨rfl, rfl, rfl, rfl, rfl⟩ rfl rfl rfl rfl rfl (by kernel_rfl) Try.func14 (by kernel_rfl)
    (of_decide_eq_true (by kernel_rfl)) (by unfold Func.isWrapper; first | (rw [if_pos (by decide +kernel)]; kernel_rfl) | (rw [if_neg (by decide +kernel)]; exact ⟨rfl, rfl⟩))
    (fun os started H enc _ => lift_FnExactIsSignals os started H enc)
end Go.Proofs.Ytgooehdjbdgecaa
