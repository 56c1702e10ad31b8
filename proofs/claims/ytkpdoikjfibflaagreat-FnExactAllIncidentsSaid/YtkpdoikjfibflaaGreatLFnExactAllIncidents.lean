/- It is proved that the program's AllIncidents returns what the reference's returns, for all arguments. No condition. -/
import Derived.Test.YtkpdoikjfibflaaGreatUnA
namespace Go.Proofs.YtkpdoikjfibflaaGreat
open Go.RowKit Go.WideShapes Go.ChangeShapes
theorem flatWind : FlatE Tryz.prog 23 2 :=
  FlatE.struct Tryz.underlying23 (by kernel_rfl) ⟨rfl, 1, by kernel_rfl, FlatE.int Tryz.underlying2, rfl, 1, by kernel_rfl, FlatE.int Tryz.underlying2, rfl⟩
theorem flatWatch : FlatE Tryz.prog 25 4 :=
  FlatE.struct Tryz.underlying25 (by kernel_rfl) ⟨rfl, 1, by kernel_rfl, FlatE.int Tryz.underlying2, rfl, 1, by kernel_rfl, FlatE.int Tryz.underlying2, rfl, 1, by kernel_rfl, FlatE.int Tryz.underlying2, rfl, 1, by kernel_rfl, FlatE.int Tryz.underlying2, rfl⟩
set_option maxRecDepth 100000 in
theorem lift_FnExactAllIncidents (os : Os) (started : os.Started) (H : Type) (enc : TypeId × Value → H) :
    ReturnsInHanded {} Tryz.checked os 5 .any (Rows.fnExactAllIncidentsSpec.pre6 enc Tryz.prog Tryz.f5 Rows.fnExactAllIncidentsRow.domain false) (Rows.fnExactAllIncidentsSpec.post enc Tryz.prog Tryz.f5 false true false false) := by
  refine returnsInHanded_of_change (C := Tryz.checked) own started (by kernel_rfl) Tryz.func5
    (ChangeSpec.witness6 (enc := enc) (C := Tryz.checked) false ⟨#[], #[.agg #[.int .i64 0, .int .i64 0], .agg #[.int .i64 0, .int .i64 0, .int .i64 0, .int .i64 0], .slice none 0 0], []⟩ 8 (by kernel_rfl) (by kernel_rfl) (by kernel_rfl) (by kernel_rfl)) ?_
  intro W base args ds gs before hval0 hW _ _
  have hval : ∀ (j : Nat) t v, Tryz.f5.params[j]? = some t → args[j]? = some v → Value.okWide Tryz.prog W .any base t v := hval0
  have hW' := hW
  obtain ⟨p, q, hA0, hV, hpq, hz, hnd⟩ := hW
  have hA : DataW.TrodAll enc Tryz.prog W 0 (fun _ => true) true Tryz.f5.params.toList args.toList ds p := hA0
  rw [Tryz.params5] at hA hval
  obtain ⟨v0, vs0, d0, ds0, p0, q0, hargs, rfl, hpp, h0, r0⟩ := trodAll_cons hA
  obtain ⟨v1, vs1, d1, ds1, p1, q1, rfl, rfl, rfl, h1, r1⟩ := trodAll_cons r0
  obtain ⟨v2, vs2, d2, ds2, p2, q2, rfl, rfl, rfl, h2, r2⟩ := trodAll_cons r1
  obtain ⟨rfl, rfl, rfl⟩ := trodAll_nil r2
  obtain rfl : args = #[v0, v1, v2] := by cases args; simp_all
  obtain ⟨xs0, rfl, hl0, ha0⟩ := open_flat Tryz.underlying23 flatWind (hval 0 23 v0 rfl rfl) h0
  obtain ⟨a0x0, a0x1, rfl⟩ := len2 hl0
  obtain ⟨xs1, rfl, hl1, ha1⟩ := open_flat Tryz.underlying25 flatWatch (hval 1 25 v1 rfl rfl) h1
  obtain ⟨a1x0, a1x1, a1x2, a1x3, rfl⟩ := len4 hl1
  obtain ⟨a2A, a2n, a2c, a2d, rfl, ha2l, ha2r, ha2c1, ha2c2⟩ := open_tracks (hval 2 57 v2 rfl rfl) h2
  exact calls_of_walk laidOut (by kernel_rfl) rfl Tryz.underlying4 rfl rfl hW' (law_FnExactAllIncidents a0x0 a0x1 ha0 a1x0 a1x1 a1x2 a1x3 ha1 a2A a2n a2c a2d ha2l ⟨ha2c1, ha2c2⟩ W ha2r)
theorem FnExactAllIncidents_holds : Rows.FnExactAllIncidentsSaid :=
  OpenClaim.holds_of_wide 5 Tryz.f5 rfl rfl rfl rfl rfl rfl rfl ⟨rfl, rfl, rfl, rfl, rfl⟩ rfl rfl rfl rfl rfl (by kernel_rfl) Tryz.func5 (by kernel_rfl)
    (of_decide_eq_true (by kernel_rfl)) (by unfold Func.isWrapper; first | (rw [if_pos (by decide +kernel)]; kernel_rfl) | (rw [if_neg (by decide +kernel)]; exact ⟨rfl, rfl⟩))
    (fun os started H enc _ => lift_FnExactAllIncidents os started H enc)
end Go.Proofs.YtkpdoikjfibflaaGreat
