/- Walks: squares of distances, points on a segment, segments that meet, nearness, as the program tells them. No condition. -/
import Derived.Test.YtadljkdjlpmllaaNrC
import Derived.Test.YtadljkdjlpmllaaCmp
namespace Go.Proofs.Ytadljkdjlpmllaa
open Go.RowKit Go.WideShapes Go.ChangeShapes
theorem impl_sqDist (a b c d : Int) (w : World) (hp : pt a b) (hq : pt c d) :
    Calls Try.prog 92 #[.agg #[.int .i64 a, .int .i64 b], .agg #[.int .i64 c, .int .i64 d]] w fun e w' => e = .returned (.int .i64 (sqD a b c d)) ∧ Q w w' := by
  have h := pt_diff hp hq
  have m1 := sq_bd h.1 (by decide)
  have m2 := sq_bd h.2 (by decide)
  have HE := Lib.hid (show sqD a b c d = (a - c) * (a - c) + (b - d) * (b - d) from rfl)
  obtain ⟨h1, h2⟩ := h
  obtain ⟨B1, B2⟩ := bx2 w a b c d
  have L1 := later_cells B1.cell B1.lt
  have L2 := later_cells B2.cell B2.lt
  clear B1 B2
  go_enter Try.func92, Try.ntmps92
  go_wp2_with fail
  refine wp_region_later_lit (by kernel_rfl) (by kernel_rfl) ?_
  repeat (any_goals (first | go_big_quiet_step ((fail)) | quiet_step ((fail)) | (refine wpQuiet_step (fun K hK => ?_); go_simp; split <;> (refine hK _ ?_; clear hK K))))
  all_goals (refine wpQuiet_nil ?_; rintro _ ⟨⟨w2, q2⟩, rfl⟩; try dsimp only)
  all_goals go_wp2_with fail
  go_ret
  exact ⟨ret_int HE.out.symm, Q.trans (by (repeat (first | assumption | exact Q.refl _ | refine Q.alloc ?_ _ | refine Q.drewN ?_ _ | refine Q.drew ?_))) q2⟩
theorem impl_along (a b c d e f : Int) (w : World) (hp : pt a b) (hq : pt c d) (hr : pt e f) :
    Calls Try.prog 91 #[.agg #[.int .i64 a, .int .i64 b, .int .i64 c, .int .i64 d], .agg #[.int .i64 e, .int .i64 f]] w fun r w' => r = .returned (.tuple #[.int .i64 (farV a b c d e f), .int .i64 (sqD a b c d)]) ∧ Q w w' := by
  have h1 := pt_diff hr hp
  have h2 := pt_diff hq hp
  have m1 := mul_2M h1.1 h2.1
  have m2 := mul_2M h1.2 h2.2
  have K1 := Lib.hid (fun wv => impl_sqDist a b c d wv hp hq)
  have HE := Lib.hid (show farV a b c d e f = (e - a) * (c - a) + (f - b) * (d - b) from rfl)
  obtain ⟨h3, h4⟩ := h1
  obtain ⟨h5, h6⟩ := h2
  obtain ⟨B1, B2⟩ := bx42 w a b c d e f
  have L1 := later_cells B1.cell B1.lt
  have L2 := later_cells B2.cell B2.lt
  clear B1 B2
  go_enter Try.func91, Try.ntmps91
  go_wp2_with fail
  refine wp_region_later_lit (by kernel_rfl) (by kernel_rfl) ?_
  repeat (any_goals (first | go_big_quiet_step (((go_at_call 92; exact later_call (K1.out _)))) | quiet_step (((go_at_call 92; exact later_call (K1.out _)))) | (refine wpQuiet_step (fun K hK => ?_); go_simp; split <;> (refine hK _ ?_; clear hK K))))
  all_goals (refine wpQuiet_nil ?_; rintro _ ⟨⟨w2, q2⟩, rfl⟩; try dsimp only)
  all_goals go_wp2_with fail
  go_ret2
  exact ⟨ret_ii HE.out.symm rfl, Q.trans (by (repeat (first | assumption | exact Q.refl _ | refine Q.alloc ?_ _ | refine Q.drewN ?_ _ | refine Q.drew ?_))) q2⟩
theorem impl_sides (a b c d e f g h : Int) (w : World) (hp : pt a b) (hq : pt c d) (hr : pt e f) (hs : pt g h) :
    Calls Try.prog 80 #[.agg #[.int .i64 a, .int .i64 b, .int .i64 c, .int .i64 d], .agg #[.int .i64 e, .int .i64 f, .int .i64 g, .int .i64 h]] w fun r w' => r = .returned (.tuple #[.int .i64 (sgn (crossV a b c d e f)), .int .i64 (sgn (crossV a b c d g h))]) ∧ Q w w' := by
  have K1 := Lib.hid (fun wv => impl_turn a b c d e f wv hp hq hr)
  have K2 := Lib.hid (fun wv => impl_turn a b c d g h wv hp hq hs)
  obtain ⟨B1, B2⟩ := bx44 w a b c d e f g h
  have L1 := later_cells B1.cell B1.lt
  have L2 := later_cells B2.cell B2.lt
  clear B1 B2
  go_enter Try.func80, Try.ntmps80
  go_wp2_with fail
  refine wp_region_later_lit (by kernel_rfl) (by kernel_rfl) ?_
  repeat (any_goals (first | go_big_quiet_step (((first | (go_at_call 90; first | with_reducible exact later_call (K1.out _) | with_reducible exact later_call (K2.out _))))) | quiet_step (((first | (go_at_call 90; first | with_reducible exact later_call (K1.out _) | with_reducible exact later_call (K2.out _))))) | (refine wpQuiet_step (fun K hK => ?_); go_simp; split <;> (refine hK _ ?_; clear hK K))))
  all_goals (refine wpQuiet_nil ?_; rintro _ ⟨⟨w2, q2⟩, rfl⟩; try dsimp only)
  all_goals go_wp2_with fail
  go_ret2
  exact ⟨rfl, Q.trans (by (repeat (first | assumption | exact Q.refl _ | refine Q.alloc ?_ _ | refine Q.drewN ?_ _ | refine Q.drew ?_))) q2⟩
end Go.Proofs.Ytadljkdjlpmllaa
