/- Helper lemmas: from the row's condition on the library's table to the walk's. No condition of its own. -/
import Derived.Test.YtkpdoikjfibflaaGreatDoorTxt
import Derived.Test.YtkpdoikjfibflaaGreatDoorTie
import Derived.Test.YtkpdoikjfibflaaGreatDoorCards
import Derived.LaidMore
import Derived.LaidHandle
import Derived.MakeChecks
import Derived.Handed
import Derived.HandedShaped
import Derived.SevenTiedAt
import Derived.Stop.Joined
namespace Go.Proofs.YtkpdoikjfibflaaGreatDoor
open Go.RowKit Go.WideShapes Go.ChangeShapes Go.ChangeAt
theorem tPow : (Tryz.prog.globals[0]?).map (·.type) = some 166 := by kernel_rfl
/-- The table stands third on the row's list. -/
theorem tbl_of_laid {W : World} (h : laidMetH Tryz.prog [("math/bits.deBruijn32tab", Rows.laid_math_bits_deBruijn32tab), ("math/bits.deBruijn64tab", Rows.laid_math_bits_deBruijn64tab), ("internal/strconv.uint64pow10", Rows.laid_internal_strconv_uint64pow10)] W) : Tbl W := by
  rw [MakeChecks.laidMetH_plain _ _ _ (by kernel_rfl)] at h
  obtain ⟨ps, ⟨g0, t0, cs0, f0, p0, q0, hg0, ht0, hv0, hd0, ⟨g1, t1, cs1, f1, p1, q1, hg1, ht1, hv1, hd1, ⟨g2, t2, cs2, f2, p2, q2, hg2, ht2, hv2, hd2, _, _⟩, _⟩, _⟩, _, _⟩ := h
  obtain rfl := Option.some.inj (gPow.symm.trans hg2)
  obtain rfl := Option.some.inj (tPow.symm.trans ht2)
  unfold Tbl Lib.TabIs
  have e : Rows.laid_internal_strconv_uint64pow10 = (Lib.tabData .u64 Lib.pow10Tab : DataW Unit) := by kernel_rfl
  rw [e] at hd2
  rw [hv2, ← Lib.cells_of_tab Tryz.underlying166 Tryz.underlying134 (by kernel_rfl) (by kernel_rfl) hd2]
end Go.Proofs.YtkpdoikjfibflaaGreatDoor
