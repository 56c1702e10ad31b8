/- Check times are multiples of the step, and the tracks are near at every incident but not at the check time before it: the statement itself. No condition. -/
import Derived.Test.YtkpdoikjfibflaaGreatChW
namespace Go.Proofs.YtkpdoikjfibflaaGreat
open Go.RowKit Go.WideShapes Go.ChangeShapes
set_option maxRecDepth 100000 in
theorem lift_FnChecks (os : Os) (started : os.Started) (H : Type) (enc : TypeId × Value → H) :
    ReturnsInHanded {} Tryz.checked os 4 .any (Rows.fnChecksSpec.pre6 enc Tryz.prog Tryz.f4 Rows.fnChecksRow.domain false) (Rows.fnChecksSpec.post enc Tryz.prog Tryz.f4 false true false false) := by
  refine returnsInHanded_of_change (C := Tryz.checked) own started (by kernel_rfl) Tryz.func4
    (ChangeSpec.witness6 (enc := enc) (C := Tryz.checked) false ⟨#[], #[.slice none 0 0], []⟩ 8 (by kernel_rfl) (by kernel_rfl) (by kernel_rfl) (by kernel_rfl)) ?_
  intro W base args ds gs before hval0 hW _ _
  have hval : ∀ (j : Nat) t v, Tryz.f4.params[j]? = some t → args[j]? = some v → Value.okWide Tryz.prog W .any base t v := hval0
  have hW' := hW
  obtain ⟨p, q, hA0, hV, hpq, hz, hnd⟩ := hW
  have hA : DataW.TrodAll enc Tryz.prog W 0 (fun _ => true) true Tryz.f4.params.toList args.toList ds p := hA0
  rw [Tryz.params4] at hA hval
  obtain ⟨v0, vs0, d0, ds0, p0, q0, hargs, rfl, hpp, h0, r0⟩ := trodAll_cons hA
  obtain ⟨rfl, rfl, rfl⟩ := trodAll_nil r0
  obtain rfl : args = #[v0] := by cases args; simp_all
  obtain ⟨a0A, a0n, a0c, rfl, ha0r, ha0c1, ha0c2⟩ := open_bytes8 Tryz.underlying46 Tryz.underlying5 (by kernel_rfl) (hval 0 46 v0 rfl rfl) h0
  exact calls_of_walk laidOut (by kernel_rfl) rfl Tryz.underlying4 rfl rfl hW' (law_FnChecks a0A a0n a0c ⟨ha0c1, ha0c2⟩ W ha0r)
theorem FnChecks_holds : Rows.FnChecksSaid :=
  OpenClaim.holds_of_wide 4 Tryz.f4 rfl rfl rfl rfl rfl rfl rfl ⟨rfl, rfl, rfl, rfl, rfl⟩ rfl rfl rfl rfl rfl (by kernel_rfl) Tryz.func4 (by kernel_rfl)
    (of_decide_eq_true (by kernel_rfl)) (by unfold Func.isWrapper; first | (rw [if_pos (by decide +kernel)]; kernel_rfl) | (rw [if_neg (by decide +kernel)]; exact ⟨rfl, rfl⟩))
    (fun os started H enc _ => lift_FnChecks os started H enc)
end Go.Proofs.YtkpdoikjfibflaaGreat
