/- Walks: the laws' own small functions on codes and on slices of numbers. No condition. -/
import Derived.Test.YtpdcehmnegagmaaK
import Derived.Test.YtpdcehmnegagmaaTail
namespace Go.Proofs.Ytpdcehmnegagmaa
open Go.RowKit Go.WideShapes Go.ChangeShapes
theorem big_any (A : Option Addr) (n c : Nat) (w : World) (hn : n ≤ 9223372036854775807) : Calls Try.prog 5 #[.slice A n c] w fun e w' => e = .returned (.bool (decide (4096 < n))) ∧ w = w' := by
  go_enter Try.func5, Try.ntmps5
  go_wp2
  go_ret
  exact ⟨ret_bool (by rw [Bool.eq_iff_iff]; simp; omega), rfl⟩
theorem mem_take_succ {xs : List Int} {x : Int} {k : Nat} (hk : k < xs.length) : x ∈ xs.take (k + 1) ↔ x ∈ xs.take k ∨ x = el xs k := by
  rw [List.take_succ_eq_append_getElem hk, List.mem_append, List.mem_singleton]
  unfold el
  rw [List.getD_eq_getElem?_getD, List.getElem?_eq_getElem hk]
  rfl
end Go.Proofs.Ytpdcehmnegagmaa
