/- It is proved that the program's IsHearing returns what the reference's returns, for all arguments. No condition. -/
import Derived.Test.YtcmnolcidflhmaaHear
namespace Go.Proofs.Ytcmnolcidflhmaa
open Go.RowKit Go.WideShapes Go.ChangeShapes
theorem flatStatement : FlatE Try.prog 109 3 :=
  FlatE.struct Try.underlying109 (by kernel_rfl) ⟨rfl, 1, by kernel_rfl, FlatE.int Try.underlying2, rfl, 1, by kernel_rfl, FlatE.int Try.underlying2, rfl, 1, by kernel_rfl, FlatE.int Try.underlying2, rfl⟩
set_option maxRecDepth 100000 in
theorem lift_FnExactIsHearing (os : Os) (started : os.Started) (H : Type) (enc : TypeId × Value → H) :
    ReturnsInHanded {} Try.checked os 11 .any (Rows.fnExactIsHearingSpec.pre6 enc Try.prog Try.f11 Rows.fnExactIsHearingRow.domain false) (Rows.fnExactIsHearingSpec.post enc Try.prog Try.f11 false true false false) := by
  refine returnsInHanded_of_change (C := Try.checked) own started (by kernel_rfl) Try.func11
    (ChangeSpec.witness6 (enc := enc) (C := Try.checked) false ⟨#[], #[.int .i64 0, .int .i64 0, .slice none 0 0], []⟩ 8 (by kernel_rfl) (by kernel_rfl) (by kernel_rfl) (by kernel_rfl)) ?_
  intro W base args ds gs before hval0 hW _ _
  have hval : ∀ (j : Nat) t v, Try.f11.params[j]? = some t → args[j]? = some v → Value.okWide Try.prog W .any base t v := hval0
  have hW' := hW
  obtain ⟨p, q, hA0, hV, hpq, hz, hnd⟩ := hW
  have hA : DataW.TrodAll enc Try.prog W 0 (fun _ => true) true Try.f11.params.toList args.toList ds p := hA0
  rw [Try.params11] at hA hval
  obtain ⟨v0, vs0, d0, ds0, p0, q0, hargs, rfl, hpp, h0, r0⟩ := trodAll_cons hA
  obtain ⟨v1, vs1, d1, ds1, p1, q1, rfl, rfl, rfl, h1, r1⟩ := trodAll_cons r0
  obtain ⟨v2, vs2, d2, ds2, p2, q2, rfl, rfl, rfl, h2, r2⟩ := trodAll_cons r1
  obtain ⟨rfl, rfl, rfl⟩ := trodAll_nil r2
  obtain rfl : args = #[v0, v1, v2] := by cases args; simp_all
  obtain ⟨a0, rfl, ha0⟩ := open_i64 Try.underlying2 (hval 0 2 v0 rfl rfl) h0
  obtain ⟨a1, rfl, ha1⟩ := open_i64 Try.underlying2 (hval 1 2 v1 rfl rfl) h1
  obtain ⟨a2A, a2n, a2c, a2xs, rfl, ha2l, ha2r, ha2b, ha2c1, ha2c2⟩ := open_rows Try.underlying61 flatStatement (by kernel_rfl) (by decide) (hval 2 61 v2 rfl rfl) h2
  exact calls_of_walk laidOut (by kernel_rfl) rfl Try.underlying4 rfl rfl hW' (law_FnExactIsHearing a0 ha0 a1 ha1 a2A a2n a2c a2xs ha2l ha2b ⟨ha2c1, ha2c2⟩ W ha2r)
theorem FnExactIsHearing_holds : Rows.FnExactIsHearingSaid :=
  OpenClaim.holds_of_wide 11 Try.f11 rfl rfl rfl rfl rfl rfl rfl ⟨rfl, rfl, rfl, rfl, rfl⟩ rfl rfl rfl rfl rfl (by kernel_rfl) Try.func11 (by kernel_rfl)
    (of_decide_eq_true (by kernel_rfl)) (by unfold Func.isWrapper; first | (rw [if_pos (by decide +kernel)]; kernel_rfl) | (rw [if_neg (by decide +kernel)]; exact ⟨rfl, rfl⟩))
    (fun os started H enc _ => lift_FnExactIsHearing os started H enc)
end Go.Proofs.Ytcmnolcidflhmaa
