/- The program's StartOf returns what the reference's returns, for all arguments: the statement itself. No condition. -/
import Derived.Test.YtckmlioklnjboaaStL
namespace Go.Proofs.Ytckmlioklnjboaa
open Go.RowKit Go.WideShapes Go.ChangeShapes
theorem flatPoint : FlatE Try.prog 23 2 :=
  FlatE.struct Try.underlying23 (by kernel_rfl) ⟨rfl, 1, by kernel_rfl, FlatE.int Try.underlying2, rfl, 1, by kernel_rfl, FlatE.int Try.underlying2, rfl⟩
theorem flatLine : FlatE Try.prog 25 4 :=
  FlatE.struct Try.underlying25 (by kernel_rfl) ⟨rfl, 2, by kernel_rfl, flatPoint, rfl, 2, by kernel_rfl, flatPoint, rfl⟩
set_option maxRecDepth 100000 in
theorem lift_FnExactStartOf (os : Os) (started : os.Started) (H : Type) (enc : TypeId × Value → H) :
    ReturnsInHanded {} Try.checked os 3 .any (Rows.fnExactStartOfSpec.pre6 enc Try.prog Try.f3 Rows.fnExactStartOfRow.domain false) (Rows.fnExactStartOfSpec.post enc Try.prog Try.f3 false true false false) := by
  refine returnsInHanded_of_change (C := Try.checked) own started (by kernel_rfl) Try.func3
    (ChangeSpec.witness6 (enc := enc) (C := Try.checked) false ⟨#[], #[.agg #[.int .i64 0, .int .i64 0, .int .i64 0, .int .i64 0], .agg #[.slice none 0 0], .int .i64 0, .int .i64 0], []⟩ 8 (by kernel_rfl) (by kernel_rfl) (by kernel_rfl) (by kernel_rfl)) ?_
  intro W base args ds gs before hval0 hW _ _
  have hval : ∀ (j : Nat) t v, Try.f3.params[j]? = some t → args[j]? = some v → Value.okWide Try.prog W .any base t v := hval0
  have hW' := hW
  obtain ⟨p, q, hA0, hV, hpq, hz, hnd⟩ := hW
  have hA : DataW.TrodAll enc Try.prog W 0 (fun _ => true) true Try.f3.params.toList args.toList ds p := hA0
  rw [Try.params3] at hA hval
  obtain ⟨v0, vs0, d0, ds0, p0, q0, hargs, rfl, hpp, h0, r0⟩ := trodAll_cons hA
  obtain ⟨v1, vs1, d1, ds1, p1, q1, rfl, rfl, rfl, h1, r1⟩ := trodAll_cons r0
  obtain ⟨v2, vs2, d2, ds2, p2, q2, rfl, rfl, rfl, h2, r2⟩ := trodAll_cons r1
  obtain ⟨v3, vs3, d3, ds3, p3, q3, rfl, rfl, rfl, h3, r3⟩ := trodAll_cons r2
  obtain ⟨rfl, rfl, rfl⟩ := trodAll_nil r3
  obtain rfl : args = #[v0, v1, v2, v3] := by cases args; simp_all
  obtain ⟨xs0, rfl, hl0, ha0⟩ := open_flat Try.underlying25 flatLine (hval 0 25 v0 rfl rfl) h0
  obtain ⟨a0x0, a0x1, a0x2, a0x3, rfl⟩ := len4 hl0
  obtain ⟨a1A, a1n, a1c, a1xs, rfl, ha1l, ha1r, ha1b, ha1c1, ha1c2⟩ := open_track (hval 1 28 v1 rfl rfl) h1
  obtain ⟨a2, rfl, ha2⟩ := open_i64 Try.underlying2 (hval 2 2 v2 rfl rfl) h2
  obtain ⟨a3, rfl, ha3⟩ := open_i64 Try.underlying2 (hval 3 2 v3 rfl rfl) h3
  exact calls_of_walk laidOut (by kernel_rfl) rfl Try.underlying4 rfl rfl hW' (law_FnExactStartOf a0x0 a0x1 a0x2 a0x3 ha0 a1A a1n a1c a1xs ha1l ha1b ⟨ha1c1, ha1c2⟩ a2 ha2 a3 ha3 W ha1r)
theorem FnExactStartOf_holds : Rows.FnExactStartOfSaid :=
  OpenClaim.holds_of_wide 3 Try.f3 rfl rfl rfl rfl rfl rfl rfl ⟨rfl, rfl, rfl, rfl, rfl⟩ rfl rfl rfl rfl rfl (by kernel_rfl) Try.func3 (by kernel_rfl)
    (of_decide_eq_true (by kernel_rfl)) (by unfold Func.isWrapper; first | (rw [if_pos (by decide +kernel)]; kernel_rfl) | (rw [if_neg (by decide +kernel)]; exact ⟨rfl, rfl⟩))
    (fun os started H enc _ => lift_FnExactStartOf os started H enc)
end Go.Proofs.Ytckmlioklnjboaa
