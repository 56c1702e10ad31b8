/- The program's IsMet returns what the reference's returns, for all arguments: the statement itself. No condition. -/
import Derived.Test.YtckmlioklnjboaaMetL
namespace Go.Proofs.Ytckmlioklnjboaa
open Go.RowKit Go.WideShapes Go.ChangeShapes
set_option maxRecDepth 100000 in
theorem lift_FnExactIsMet (os : Os) (started : os.Started) (H : Type) (enc : TypeId × Value → H) :
    ReturnsInHanded {} Try.checked os 6 .any (Rows.fnExactIsMetSpec.pre6 enc Try.prog Try.f6 Rows.fnExactIsMetRow.domain false) (Rows.fnExactIsMetSpec.post enc Try.prog Try.f6 false true false false) := by
  refine returnsInHanded_of_change (C := Try.checked) own started (by kernel_rfl) Try.func6
    (ChangeSpec.witness6 (enc := enc) (C := Try.checked) false ⟨#[], #[.slice none 0 0, .agg #[.slice none 0 0, .int .i64 0]], []⟩ 8 (by kernel_rfl) (by kernel_rfl) (by kernel_rfl) (by kernel_rfl)) ?_
  intro W base args ds gs before hval0 hW _ _
  have hval : ∀ (j : Nat) t v, Try.f6.params[j]? = some t → args[j]? = some v → Value.okWide Try.prog W .any base t v := hval0
  have hW' := hW
  obtain ⟨p, q, hA0, hV, hpq, hz, hnd⟩ := hW
  have hA : DataW.TrodAll enc Try.prog W 0 (fun _ => true) true Try.f6.params.toList args.toList ds p := hA0
  rw [Try.params6] at hA hval
  obtain ⟨v0, vs0, d0, ds0, p0, q0, hargs, rfl, hpp, h0, r0⟩ := trodAll_cons hA
  obtain ⟨v1, vs1, d1, ds1, p1, q1, rfl, rfl, rfl, h1, r1⟩ := trodAll_cons r0
  obtain ⟨rfl, rfl, rfl⟩ := trodAll_nil r1
  obtain rfl : args = #[v0, v1] := by cases args; simp_all
  obtain ⟨a0A, a0n, a0c, a0xs, rfl, ha0l, ha0r, ha0b, ha0c1, ha0c2⟩ := open_rows Try.underlying63 (FlatE.int Try.underlying2) (by kernel_rfl) (by decide) (hval 0 63 v0 rfl rfl) h0
  obtain ⟨a1A, a1n, a1c, a1xs, a1o, rfl, ha1l, ha1r, ha1c1, ha1c2⟩ := open_demand (hval 1 70 v1 rfl rfl) h1
  exact calls_of_walk laidOut (by kernel_rfl) rfl Try.underlying4 rfl rfl hW' (law_FnExactIsMet a0A a0n a0c a0xs ha0l ha0b ⟨ha0c1, ha0c2⟩ a1A a1n a1c a1xs a1o ha1l ⟨ha1c1, ha1c2⟩ W ha0r ha1r)
theorem FnExactIsMet_holds : Rows.FnExactIsMetSaid :=
  OpenClaim.holds_of_wide 6 Try.f6 rfl rfl rfl rfl rfl rfl rfl ⟨rfl, rfl, rfl, rfl, rfl⟩ rfl rfl rfl rfl rfl (by kernel_rfl) Try.func6 (by kernel_rfl)
    (of_decide_eq_true (by kernel_rfl)) (by unfold Func.isWrapper; first | (rw [if_pos (by decide +kernel)]; kernel_rfl) | (rw [if_neg (by decide +kernel)]; exact ⟨rfl, rfl⟩))
    (fun os started H enc _ => lift_FnExactIsMet os started H enc)
end Go.Proofs.Ytckmlioklnjboaa
