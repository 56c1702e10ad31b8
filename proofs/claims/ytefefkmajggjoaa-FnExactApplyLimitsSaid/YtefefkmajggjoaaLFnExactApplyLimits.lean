/- It is proved that the program's ApplyLimits returns what the reference's returns, for all arguments. No condition. -/
import Derived.Test.YtefefkmajggjoaaApl
namespace Go.Proofs.Ytefefkmajggjoaa
open Go.RowKit Go.WideShapes Go.ChangeShapes
theorem flatLimits : FlatE Try.prog 31 3 :=
  FlatE.struct Try.underlying31 (by kernel_rfl) ⟨rfl, 1, by kernel_rfl, FlatE.int Try.underlying2, rfl, 1, by kernel_rfl, FlatE.int Try.underlying2, rfl, 1, by kernel_rfl, FlatE.int Try.underlying2, rfl⟩
theorem flatFinish : FlatE Try.prog 58 3 :=
  FlatE.struct Try.underlying58 (by kernel_rfl) ⟨rfl, 1, by kernel_rfl, FlatE.int Try.underlying2, rfl, 1, by kernel_rfl, FlatE.int Try.underlying2, rfl, 1, by kernel_rfl, FlatE.int Try.underlying2, rfl⟩
set_option maxRecDepth 100000 in
theorem lift_FnExactApplyLimits (os : Os) (started : os.Started) (H : Type) (enc : TypeId × Value → H) :
    ReturnsInHanded {} Try.checked os 9 .any (Rows.fnExactApplyLimitsSpec.pre6 enc Try.prog Try.f9 Rows.fnExactApplyLimitsRow.domain false) (Rows.fnExactApplyLimitsSpec.post enc Try.prog Try.f9 false true false false) := by
  refine returnsInHanded_of_change (C := Try.checked) own started (by kernel_rfl) Try.func9
    (ChangeSpec.witness6 (enc := enc) (C := Try.checked) false ⟨#[], #[.agg #[.int .i64 0, .int .i64 0, .int .i64 0], .slice none 0 0], []⟩ 8 (by kernel_rfl) (by kernel_rfl) (by kernel_rfl) (by kernel_rfl)) ?_
  intro W base args ds gs before hval0 hW _ _
  have hval : ∀ (j : Nat) t v, Try.f9.params[j]? = some t → args[j]? = some v → Value.okWide Try.prog W .any base t v := hval0
  have hW' := hW
  obtain ⟨p, q, hA0, hV, hpq, hz, hnd⟩ := hW
  have hA : DataW.TrodAll enc Try.prog W 0 (fun _ => true) true Try.f9.params.toList args.toList ds p := hA0
  rw [Try.params9] at hA hval
  obtain ⟨v0, vs0, d0, ds0, p0, q0, hargs, rfl, hpp, h0, r0⟩ := trodAll_cons hA
  obtain ⟨v1, vs1, d1, ds1, p1, q1, rfl, rfl, rfl, h1, r1⟩ := trodAll_cons r0
  obtain ⟨rfl, rfl, rfl⟩ := trodAll_nil r1
  obtain rfl : args = #[v0, v1] := by cases args; simp_all
  obtain ⟨xs0, rfl, hl0, ha0⟩ := open_flat Try.underlying31 flatLimits (hval 0 31 v0 rfl rfl) h0
  obtain ⟨a0x0, a0x1, a0x2, rfl⟩ := len3 hl0
  obtain ⟨a1A, a1n, a1c, a1xs, rfl, ha1l, ha1r, ha1b, ha1c1, ha1c2⟩ := open_rows Try.underlying22 flatFinish (by kernel_rfl) (by decide) (hval 1 22 v1 rfl rfl) h1
  exact calls_of_walk laidOut (by kernel_rfl) rfl Try.underlying4 rfl rfl hW' (law_FnExactApplyLimits a0x0 a0x1 a0x2 ha0 a1A a1n a1c a1xs ha1l ha1b ⟨ha1c1, ha1c2⟩ W ha1r)
theorem FnExactApplyLimits_holds : Rows.FnExactApplyLimitsSaid :=
  OpenClaim.holds_of_wide 9 Try.f9 rfl rfl rfl rfl rfl rfl rfl ⟨rfl, rfl, rfl, rfl, rfl⟩ rfl rfl rfl rfl rfl (by kernel_rfl) Try.func9 (by kernel_rfl)
    (of_decide_eq_true (by kernel_rfl)) (by unfold Func.isWrapper; first | (rw [if_pos (by decide +kernel)]; kernel_rfl) | (rw [if_neg (by decide +kernel)]; exact ⟨rfl, rfl⟩))
    (fun os started H enc _ => lift_FnExactApplyLimits os started H enc)
end Go.Proofs.Ytefefkmajggjoaa
