/- Walks: the first crossing with a way, from a time on, as the program finds it. Walks: the program's firstCrossing, for all valid tracks and lines. -/
import Derived.Test.YteofhfefbphjdaaGreatDoorCrs
namespace Go.Proofs.YteofhfefbphjdaaGreatDoor
open Go.RowKit Go.WideShapes Go.ChangeShapes
def fcP (L : List Int) (wy fr : Int) (j : Nat) : Bool := (el L (j * 5 + 2) == wy) && decide (fr ≤ el L (j * 5))
/-- The first j below m, or -1. -/
def fcI (L : List Int) (wy fr : Int) : Nat → Int
  | 0 => -1
  | j + 1 => if 0 ≤ fcI L wy fr j then fcI L wy fr j else if fcP L wy fr j then (j : Int) else -1
theorem fcI_none {L : List Int} {wy fr : Int} {j : Nat} (h : fcI L wy fr j = -1) (hp : fcP L wy fr j = false) : fcI L wy fr (j + 1) = -1 := by
  rw [fcI, h, if_neg (by omega), hp]
  rfl
theorem fcI_found {L : List Int} {wy fr : Int} {j : Nat} (h : fcI L wy fr j = -1) (hp : fcP L wy fr j = true) : ∀ d, fcI L wy fr (j + 1 + d) = (j : Int)
  | 0 => by rw [Nat.add_zero, fcI, h, if_neg (by omega), if_pos hp]
  | d + 1 => by
    have ih := fcI_found h hp d
    rw [show j + 1 + (d + 1) = (j + 1 + d) + 1 by omega, fcI, ih, if_pos (by omega)]
theorem fcI_bd (L : List Int) (wy fr : Int) : ∀ m, fcI L wy fr m = -1 ∨ ∃ j : Nat, j < m ∧ fcI L wy fr m = (j : Int) ∧ fcP L wy fr j = true ∧ ∀ i, i < j → fcP L wy fr i = false
  | 0 => .inl rfl
  | m + 1 => by
    rcases fcI_bd L wy fr m with h | ⟨j, h1, h2, h3, h4⟩
    · cases hp : fcP L wy fr m
      · exact .inl (fcI_none h hp)
      · refine .inr ⟨m, by omega, fcI_found h hp 0, hp, fun i hi => ?_⟩
        cases hpi : fcP L wy fr i
        · rfl
        · exfalso
          have hn : fcI L wy fr i = -1 ∨ 0 ≤ fcI L wy fr i := by rcases fcI_bd L wy fr i with e | ⟨q, _, e, _⟩ <;> omega
          rcases hn with hn | hn
          · have e := fcI_found hn hpi (m - i - 1)
            rw [show i + 1 + (m - i - 1) = m by omega] at e
            omega
          · obtain ⟨e⟩ | ⟨q, hq1, e, hq2, _⟩ := fcI_bd L wy fr i
            · omega
            · have hq0 : fcI L wy fr q = -1 ∨ 0 ≤ fcI L wy fr q := by rcases fcI_bd L wy fr q with e | ⟨q, _, e, _⟩ <;> omega
              have hmono : ∀ d, 0 ≤ fcI L wy fr (i + d) := by
                intro d
                induction d with
                | zero => exact hn
                | succ d ih => rw [show i + (d + 1) = (i + d) + 1 by omega, fcI, if_pos ih]; exact ih
              have := hmono (m - i)
              rw [show i + (m - i) = m by omega] at this
              omega
    · refine .inr ⟨j, by omega, ?_, h3, h4⟩
      rw [fcI, h2, if_pos (by omega)]
def fcA (L : List Int) (i : Int) : Value := if i < 0 then .agg #[.int .i64 0, .int .i64 0, .int .i64 0, .int .i64 0, .int .i64 0] else .agg #[.int .i64 (el L (i.toNat * 5)), .int .i64 (el L (i.toNat * 5 + 1)), .int .i64 (el L (i.toNat * 5 + 2)), .int .i64 (el L (i.toNat * 5 + 3)), .int .i64 (el L (i.toNat * 5 + 4))]
end Go.Proofs.YteofhfefbphjdaaGreatDoor
namespace Go.Proofs.YteofhfefbphjdaaGreatDoor
open Go.RowKit Go.WideShapes Go.ChangeShapes
def fcV (a b c d : Int) (xs : List Int) (n : Nat) (wy fr : Int) : Int := fcI (crL a b c d xs (n - 1)) wy fr ((crL a b c d xs (n - 1)).length / 5)
set_option maxHeartbeats 4000000 in
theorem impl_firstCrossing (A : Option Addr) (n cc : Nat) (xs : List Int) (a b c d wy fr : Int) (w : World) (ha : Rd w A xs) (hn : xs.length = n * 3) (hT : isTrk xs n = true) (hl : lnB a b c d = true) :
    Calls Tryz.prog 65 #[.agg #[.slice A n cc], .agg #[.int .i64 a, .int .i64 b, .int .i64 c, .int .i64 d], .int .i64 wy, .int .i64 fr] w fun e w' => e = .returned (.tuple #[fcA (crL a b c d xs (n - 1)) (fcV a b c d xs n wy fr), .bool (decide (0 ≤ fcV a b c d xs n wy fr))]) ∧ Q w w' := by
  have K1 := Lib.hid (fun wv (h : Rd wv A xs) => impl_crossingsOf A n cc xs a b c d wv h hn hT hl)
  obtain ⟨mL, hL1, hL2⟩ := crL_len a b c d xs (n - 1)
  have hn24 : 2 ≤ n ∧ n ≤ 40 := by unfold isTrk at hT; rw [Bool.and_eq_true, decide_eq_true_eq] at hT; exact hT.1
  have HV : Hid (fcV a b c d xs n wy fr = fcI (crL a b c d xs (n - 1)) wy fr mL) := Lib.hid (by unfold fcV; rw [hL1, Nat.mul_div_cancel _ (by decide)])
  generalize fcV a b c d xs n wy fr = V at *
  generalize crL a b c d xs (n - 1) = L at *
  have HL := Lib.hid hL1
  have hm40 : mL ≤ 40 := by omega
  obtain ⟨W, hW⟩ : ∃ W, W = ((w.alloc (.cells #[.slice A n cc] 43)).alloc (.cells #[.int .i64 a, .int .i64 b, .int .i64 c, .int .i64 d] 27)).alloc (.cells #[.int .i64 0, .int .i64 0, .int .i64 0, .int .i64 0, .int .i64 0] 79) := ⟨_, rfl⟩
  have B3 : Blk W (w.heap.size + 2) 79 #[.int .i64 0, .int .i64 0, .int .i64 0, .int .i64 0, .int .i64 0] := by rw [hW]; exact (by simpa using Blk.new ((w.alloc (.cells #[.slice A n cc] 43)).alloc (.cells #[.int .i64 a, .int .i64 b, .int .i64 c, .int .i64 d] 27)) 79 #[.int .i64 0, .int .i64 0, .int .i64 0, .int .i64 0, .int .i64 0])
  have Q0 : Q w W := by rw [hW]; exact (((Q.refl w).alloc _).alloc _).alloc _
  have HW := Lib.hid hW
  clear hW hL1 hn hT hl
  go_enter Tryz.func65, Tryz.ntmps65
  go_wp2_with (go_at_call 97; refine (K1.out _ (ha.q (by (repeat (first | assumption | exact Q.refl _ | refine Q.alloc ?_ _ | refine Q.drewN ?_ _ | refine Q.drew ?_))))).mono ?_; rintro e w1 ⟨A1, m, c1, rfl, o1, q1⟩)
  rw [← HW.out] at o1 q1
  have hm : m = mL := by have := o1.len; rw [HL.out] at this; omega
  subst hm
  replace B3 := B3.q q1
  have Q1 := Q0.trans q1
  clear HW Q0 q1 K1
  go_loopw [16] (fun i wr => ∃ j : Nat, j ≤ m ∧ i = .int .i64 j ∧ Hid (fcI L wy fr j = -1) ∧ Q w1 wr) (fun i _ => m - (intOf i).toNat)
  case atStart => exact ⟨0, Nat.zero_le _, rfl, Lib.hid rfl, Q.refl _⟩
  case round =>
    obtain ⟨j, hj, rfl, HF, hq⟩ := hrel
    have BR := B3.q hq
    have hqw := Q1.trans hq
    by_cases hlt : j < m
    · have hltI : (j : Int) < (m : Int) := by omega
      obtain ⟨bl, o, rfl, g0, g1, g2, g3, g4⟩ := (o1.rd.q hq).at5 HL.out hlt
      have HP : Hid (fcP L wy fr j = ((el L (j * 5 + 2) == wy) && decide (fr ≤ el L (j * 5)))) := Lib.hid rfl
      have HA : Hid (fcA L (j : Int) = .agg #[.int .i64 (el L (j * 5)), .int .i64 (el L (j * 5 + 1)), .int .i64 (el L (j * 5 + 2)), .int .i64 (el L (j * 5 + 3)), .int .i64 (el L (j * 5 + 4))]) := Lib.hid (by unfold fcA; rw [if_neg (by omega)]; simp)
      generalize el L (j * 5) = x0 at *
      generalize el L (j * 5 + 1) = x1 at *
      generalize el L (j * 5 + 2) = x2 at *
      generalize el L (j * 5 + 3) = x3 at *
      generalize el L (j * 5 + 4) = x4 at *
      by_cases hw : x2 = wy
      · have hwb : (x2 == wy) = true := by simpa using hw
        by_cases hf : fr ≤ x0
        · have HE : Hid (V = (j : Int)) := Lib.hid (by
            rw [HV.out]
            have := fcI_found (L := L) (wy := wy) (fr := fr) HF.out (by rw [HP.out, hwb]; simpa using hf) (m - j - 1)
            rwa [show j + 1 + (m - j - 1) = m by omega] at this)
          have BA := BR.alloc (.cells #[.int .i64 x0, .int .i64 x1, .int .i64 x2, .int .i64 x3, .int .i64 x4] 79)
          have cA := BA.cell
          have fA := BA.frozen
          have cR := BR.cell
          have fR := BR.frozen
          have lR := BR.lt
          clear HP hw
          go_wp2_with fail
          have F := ((((((BR.set_ 0 (.int .i64 x0)).set_ 1 (.int .i64 x1)).set_ 2 (.int .i64 x2)).set_ 3 (.int .i64 x3)).set_ 4 (.int .i64 x4)).alloc (.cells #[.int .i64 x0, .int .i64 x1, .int .i64 x2, .int .i64 x3, .int .i64 x4] 79)).cell
          rw [HE.out]
          refine bodyPost_ret (v := .tuple #[.agg #[.int .i64 x0, .int .i64 x1, .int .i64 x2, .int .i64 x3, .int .i64 x4], .bool true]) (by simp [results, Tryz.results65, go_sem, F]) rfl ⟨by rw [HA.out]; simp, (((((hqw.setCell (by first | (simp; done) | (simp; omega)) _).setCell (by first | (simp; done) | (simp; omega)) _).setCell (by first | (simp; done) | (simp; omega)) _).setCell (by first | (simp; done) | (simp; omega)) _).setCell (by first | (simp; done) | (simp; omega)) _).alloc _⟩
        · have HN := Lib.hid (fcI_none HF.out (show fcP L wy fr j = false by rw [HP.out, hwb]; simp; omega))
          clear HP hw
          go_wp2_with fail
          go_roundw
          case rel => exact ⟨j + 1, by omega, by go_num, HN, hq.trans (by (repeat (first | assumption | exact Q.refl _ | refine Q.alloc ?_ _ | refine Q.drewN ?_ _ | refine Q.drew ?_)))⟩
          case measure => simp [intOf]; omega
      · have hwb : (x2 == wy) = false := by simpa using hw
        have HN := Lib.hid (fcI_none HF.out (show fcP L wy fr j = false by rw [HP.out, hwb]; rfl))
        clear HP hw
        go_wp2_with fail
        go_roundw
        case rel => exact ⟨j + 1, by omega, by go_num, HN, hq.trans (by (repeat (first | assumption | exact Q.refl _ | refine Q.alloc ?_ _ | refine Q.drewN ?_ _ | refine Q.drew ?_)))⟩
        case measure => simp [intOf]; omega
    · obtain rfl : j = m := by omega
      have HE : Hid (V = -1) := Lib.hid (by rw [HV.out, HF.out])
      have cR := BR.cell
      have fR := BR.frozen
      go_wp2_with fail
      have F := (((((BR.set_ 0 (.int .i64 0)).set_ 1 (.int .i64 0)).set_ 2 (.int .i64 0)).set_ 3 (.int .i64 0)).set_ 4 (.int .i64 0)).cell
      rw [HE.out]
      refine bodyPost_ret (v := .tuple #[.agg #[.int .i64 0, .int .i64 0, .int .i64 0, .int .i64 0, .int .i64 0], .bool false]) (by simp [results, Tryz.results65, go_sem, F]) rfl ⟨by simp [fcA], ((((hqw.setCell (by first | (simp; done) | (simp; omega)) _).setCell (by first | (simp; done) | (simp; omega)) _).setCell (by first | (simp; done) | (simp; omega)) _).setCell (by first | (simp; done) | (simp; omega)) _).setCell (by first | (simp; done) | (simp; omega)) _⟩
end Go.Proofs.YteofhfefbphjdaaGreatDoor
