/- For every list of finishes the program's FirstFinish returns what the reference's returns, and leaves its argument as it was. No condition. -/
import Derived.Test.YtefefkmajggjoaaFirstL
namespace Go.Proofs.Ytefefkmajggjoaa
open Go.RowKit Go.WideShapes Go.ChangeShapes
theorem flatFinish : FlatE Try.prog 58 3 :=
  FlatE.struct Try.underlying58 (by kernel_rfl) ⟨rfl, 1, by kernel_rfl, FlatE.int Try.underlying2, rfl, 1, by kernel_rfl, FlatE.int Try.underlying2, rfl, 1, by kernel_rfl, FlatE.int Try.underlying2, rfl⟩
set_option maxRecDepth 100000 in
theorem lift_FnExactFirstFinish (os : Os) (started : os.Started) (H : Type) (enc : TypeId × Value → H) :
    ReturnsInHanded {} Try.checked os 4 .any (Rows.fnExactFirstFinishSpec.pre6 enc Try.prog Try.f4 Rows.fnExactFirstFinishRow.domain false) (Rows.fnExactFirstFinishSpec.post enc Try.prog Try.f4 false true false false) := by
  refine returnsInHanded_of_change (C := Try.checked) own started (by kernel_rfl) Try.func4
    (ChangeSpec.witness6 (enc := enc) (C := Try.checked) false ⟨#[], #[.slice none 0 0], []⟩ 8 (by kernel_rfl) (by kernel_rfl) (by kernel_rfl) (by kernel_rfl)) ?_
  intro W base args ds gs before hval0 hW _ _
  have hval : ∀ (j : Nat) t v, Try.f4.params[j]? = some t → args[j]? = some v → Value.okWide Try.prog W .any base t v := hval0
  have hW' := hW
  obtain ⟨p, q, hA0, hV, hpq, hz, hnd⟩ := hW
  have hA : DataW.TrodAll enc Try.prog W 0 (fun _ => true) true Try.f4.params.toList args.toList ds p := hA0
  rw [Try.params4] at hA hval
  obtain ⟨v0, vs0, d0, ds0, p0, q0, hargs, rfl, hpp, h0, r0⟩ := trodAll_cons hA
  obtain ⟨rfl, rfl, rfl⟩ := trodAll_nil r0
  obtain rfl : args = #[v0] := by cases args; simp_all
  obtain ⟨a0A, a0n, a0c, a0xs, rfl, ha0l, ha0r, ha0b, ha0c1, ha0c2⟩ := open_rows Try.underlying22 flatFinish (by kernel_rfl) (by decide) (hval 0 22 v0 rfl rfl) h0
  exact calls_of_walk laidOut (by kernel_rfl) rfl Try.underlying4 rfl rfl hW' (law_FnExactFirstFinish a0A a0n a0c a0xs ha0l ha0b ⟨ha0c1, ha0c2⟩ W ha0r)
theorem FnExactFirstFinish_holds : Rows.FnExactFirstFinishSaid :=
  OpenClaim.holds_of_wide 4 Try.f4 rfl rfl rfl rfl rfl rfl rfl ⟨rfl, rfl, rfl, rfl, rfl⟩ rfl rfl rfl rfl rfl (by kernel_rfl) Try.func4 (by kernel_rfl)
    (of_decide_eq_true (by kernel_rfl)) (by unfold Func.isWrapper; first | (rw [if_pos (by decide +kernel)]; kernel_rfl) | (rw [if_neg (by decide +kernel)]; exact ⟨rfl, rfl⟩))
    (fun os started H enc _ => lift_FnExactFirstFinish os started H enc)
end Go.Proofs.Ytefefkmajggjoaa
