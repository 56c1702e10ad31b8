/- Walks: the first crossing with a way, from a time on, as the program finds it. -/
import Derived.Test.YtlmaecmjpbgegaaCrs
namespace Go.Proofs.Ytlmaecmjpbgegaa
open Go.RowKit Go.WideShapes Go.ChangeShapes
def fcP (L : List Int) (wy fr : Int) (j : Nat) : Bool := (el L (j * 5 + 2) == wy) && decide (fr ≤ el L (j * 5))
/-- The first j below m, or -1. -/
def fcI (L : List Int) (wy fr : Int) : Nat → Int
  | 0 => -1
  | j + 1 => if 0 ≤ fcI L wy fr j then fcI L wy fr j else if fcP L wy fr j then (j : Int) else -1
theorem fcI_none {L : List Int} {wy fr : Int} {j : Nat} (h : fcI L wy fr j = -1) (hp : fcP L wy fr j = false) : fcI L wy fr (j + 1) = -1 := by
  rw [fcI, h, if_neg (by omega), hp]
  rfl
theorem fcI_found {L : List Int} {wy fr : Int} {j : Nat} (h : fcI L wy fr j = -1) (hp : fcP L wy fr j = true) : ∀ d, fcI L wy fr (j + 1 + d) = (j : Int)
  | 0 => by rw [Nat.add_zero, fcI, h, if_neg (by omega), if_pos hp]
  | d + 1 => by
    have ih := fcI_found h hp d
    rw [show j + 1 + (d + 1) = (j + 1 + d) + 1 by omega, fcI, ih, if_pos (by omega)]
theorem fcI_bd (L : List Int) (wy fr : Int) : ∀ m, fcI L wy fr m = -1 ∨ ∃ j : Nat, j < m ∧ fcI L wy fr m = (j : Int) ∧ fcP L wy fr j = true ∧ ∀ i, i < j → fcP L wy fr i = false
  | 0 => .inl rfl
  | m + 1 => by
    rcases fcI_bd L wy fr m with h | ⟨j, h1, h2, h3, h4⟩
    · cases hp : fcP L wy fr m
      · exact .inl (fcI_none h hp)
      · refine .inr ⟨m, by omega, fcI_found h hp 0, hp, fun i hi => ?_⟩
        cases hpi : fcP L wy fr i
        · rfl
        · exfalso
          have hn : fcI L wy fr i = -1 ∨ 0 ≤ fcI L wy fr i := by rcases fcI_bd L wy fr i with e | ⟨q, _, e, _⟩ <;> omega
          rcases hn with hn | hn
          · have e := fcI_found hn hpi (m - i - 1)
            rw [show i + 1 + (m - i - 1) = m by omega] at e
            omega
          · obtain ⟨e⟩ | ⟨q, hq1, e, hq2, _⟩ := fcI_bd L wy fr i
            · omega
            · have hq0 : fcI L wy fr q = -1 ∨ 0 ≤ fcI L wy fr q := by rcases fcI_bd L wy fr q with e | ⟨q, _, e, _⟩ <;> omega
              have hmono : ∀ d, 0 ≤ fcI L wy fr (i + d) := by
                intro d
                induction d with
                | zero => exact hn
                | succ d ih => rw [show i + (d + 1) = (i + d) + 1 by omega, fcI, if_pos ih]; exact ih
              have := hmono (m - i)
              rw [show i + (m - i) = m by omega] at this
              omega
    · refine .inr ⟨j, by omega, ?_, h3, h4⟩
      rw [fcI, h2, if_pos (by omega)]
def fcA (L : List Int) (i : Int) : Value := if i < 0 then .agg #[.int .i64 0, .int .i64 0, .int .i64 0, .int .i64 0, .int .i64 0] else .agg #[.int .i64 (el L (i.toNat * 5)), .int .i64 (el L (i.toNat * 5 + 1)), .int .i64 (el L (i.toNat * 5 + 2)), .int .i64 (el L (i.toNat * 5 + 3)), .int .i64 (el L (i.toNat * 5 + 4))]
end Go.Proofs.Ytlmaecmjpbgegaa
