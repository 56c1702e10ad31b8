/- Walks: the heading of a track at a time, as the reference tells it. No condition. -/
import Derived.Test.YtadljkdjlpmllaaNrI
namespace Go.Proofs.Ytadljkdjlpmllaa
open Go.RowKit Go.WideShapes Go.ChangeShapes
theorem hdC_2 {xs : List Int} {n : Nat} {t : Int} (hT : isTrk xs n = true) (hl : lastsB xs n t = false) : hdC xs n t = 2 := by unfold hdC; rw [if_pos hT, hl, if_neg (by decide)]
theorem hdC_5 {xs : List Int} {n : Nat} {t : Int} (hT : isTrk xs n = true) (hl : lastsB xs n t = true) (h : hdX xs n t = 0 ∧ hdY xs n t = 0) : hdC xs n t = 5 := by unfold hdC; rw [if_pos hT, if_pos hl, if_pos h]
theorem hdC_0 {xs : List Int} {n : Nat} {t : Int} (hT : isTrk xs n = true) (hl : lastsB xs n t = true) (h : ¬ (hdX xs n t = 0 ∧ hdY xs n t = 0)) : hdC xs n t = 0 := by unfold hdC; rw [if_pos hT, if_pos hl, if_neg h]
set_option maxRecDepth 100000 in
set_option maxHeartbeats 2000000 in
theorem spec_HeadingAt (A : Option Addr) (n c : Nat) (xs : List Int) (t : Int) (w : World) (ha : Rd w A xs) (hn : xs.length = n * 3) (hT : isTrk xs n = true) :
    Calls Try.prog 40 #[.agg #[.slice A n c], .int .i64 t] w fun e w' => e = .returned (.tuple #[.agg #[.int .i64 (if hdC xs n t = 0 then hdX xs n t else 0), .int .i64 (if hdC xs n t = 0 then hdY xs n t else 0)], .int .i64 (hdC xs n t)]) ∧ Q w w' := by
  have B1 : Blk ((w.alloc (.cells #[.slice A n c] 35)).alloc (.cells #[.int .i64 0, .int .i64 0] 54)) w.heap.size 35 #[.slice A n c] := (Blk.new _ _ _).alloc _
  have B2 : Blk ((w.alloc (.cells #[.slice A n c] 35)).alloc (.cells #[.int .i64 0, .int .i64 0] 54)) (w.heap.size + 1) 54 #[.int .i64 0, .int .i64 0] := by simpa using Blk.new (w.alloc (.cells #[.slice A n c] 35)) 54 #[.int .i64 0, .int .i64 0]
  have Q0 : Q w ((w.alloc (.cells #[.slice A n c] 35)).alloc (.cells #[.int .i64 0, .int .i64 0] 54)) := by (repeat (first | assumption | exact Q.refl _ | refine Q.alloc ?_ _ | refine Q.drewN ?_ _ | refine Q.drew ?_))
  have k1 := fun wv (h : Rd wv A xs) => spec_LegAt A n c xs t wv h hn hT
  unfold tmC at k1
  cases hl : lastsB xs n t with
  | false =>
    rw [hl] at k1
    have K1 := Lib.hid k1
    rw [hdC_2 hT hl, if_neg (by decide), if_neg (by decide)]
    clear k1 hl hT hn
    go_enter Try.func40, Try.ntmps40
    go_wp2_with fail
    refine (K1.out _ (ha.q Q0)).mono ?_
    rintro e1 w1 ⟨rfl, q1⟩
    have c2 := (B2.q q1).cell
    have f2 := (B2.q q1).frozen
    have l2 := (B2.q q1).lt
    go_wp2_with fail
    have F := (((B2.q q1).set_ 0 (.int .i64 0)).set_ 1 (.int .i64 0)).cell
    exact bodyPost_ret (v := .tuple #[.agg #[.int .i64 0, .int .i64 0], .int .i64 2]) (by simp [results, Try.results40, go_sem, F]) rfl ⟨rfl, (((Q0.trans q1).setCell (by simp) _).setCell (by simp) _)⟩
  | true =>
    rw [hl] at k1
    have hk := (leg_facts hT hl).1
    have k2 := fun wv (h : Rd wv A xs) => spec_l03Heading A n c xs (legS xs t (n - 1)) wv h hn hT hk
    have eX : el xs ((legS xs t (n - 1) + 1) * 3 + 1) - el xs (legS xs t (n - 1) * 3 + 1) = hdX xs n t := rfl
    have eY : el xs ((legS xs t (n - 1) + 1) * 3 + 2) - el xs (legS xs t (n - 1) * 3 + 2) = hdY xs n t := rfl
    rw [eX, eY] at k2
    have h5 := @hdC_5 xs n t hT hl
    have h0 := @hdC_0 xs n t hT hl
    generalize hdX xs n t = X at *
    generalize hdY xs n t = Y at *
    generalize hdC xs n t = C at *
    generalize legS xs t (n - 1) = k at *
    have K1 := Lib.hid k1
    have K2 := Lib.hid k2
    clear k1 k2 hl hT hn hk eX eY
    have HC : Hid ((X = 0 ∧ Y = 0 ∧ C = 5) ∨ (¬ (X = 0 ∧ Y = 0) ∧ C = 0)) := Lib.hid (by
      by_cases h : X = 0 ∧ Y = 0
      · exact .inl ⟨h.1, h.2, h5 h⟩
      · exact .inr ⟨h, h0 h⟩)
    clear h5 h0
    rcases HC.out with ⟨rfl, rfl, rfl⟩ | ⟨hne, rfl⟩
    · rw [if_neg (by decide)]
      go_enter Try.func40, Try.ntmps40
      go_wp2_with fail
      refine (K1.out _ (ha.q Q0)).mono ?_
      rintro e1 w1 ⟨rfl, q1⟩
      have c1 := (B1.q q1).cell
      have l1 := (B1.q q1).lt
      go_wp2_with fail
      refine (K2.out _ (ha.q (Q0.trans q1))).mono ?_
      rintro e2 w2 ⟨rfl, q2⟩
      have c2 := ((B2.q q1).q q2).cell
      have f2 := ((B2.q q1).q q2).frozen
      have l2 := ((B2.q q1).q q2).lt
      go_wp2_with fail
      have F := (((((B2.q q1).q q2).set_ 0 (.int .i64 0)).set_ 1 (.int .i64 0)).alloc (.cells #[.int .i64 0, .int .i64 0] 54)).cell
      exact bodyPost_ret (v := .tuple #[.agg #[.int .i64 0, .int .i64 0], .int .i64 5]) (by simp [results, Try.results40, go_sem, F]) rfl ⟨rfl, ((((Q0.trans q1).trans q2).setCell (by simp) _).setCell (by simp) _).alloc _⟩
    · rw [if_pos rfl, if_pos rfl]
      by_cases hx : X = 0
      · have hy : (Y == 0) = false := by simpa using fun e => hne ⟨hx, e⟩
        subst hx
        go_enter Try.func40, Try.ntmps40
        go_wp2_with fail
        refine (K1.out _ (ha.q Q0)).mono ?_
        rintro e1 w1 ⟨rfl, q1⟩
        have c1 := (B1.q q1).cell
        have l1 := (B1.q q1).lt
        go_wp2_with fail
        refine (K2.out _ (ha.q (Q0.trans q1))).mono ?_
        rintro e2 w2 ⟨rfl, q2⟩
        have c2 := ((B2.q q1).q q2).cell
        have f2 := ((B2.q q1).q q2).frozen
        have l2 := ((B2.q q1).q q2).lt
        go_wp2_with fail
        have F := (((((B2.q q1).q q2).set_ 0 (.int .i64 0)).set_ 1 (.int .i64 Y)).alloc (.cells #[.int .i64 0, .int .i64 Y] 54)).cell
        exact bodyPost_ret (v := .tuple #[.agg #[.int .i64 0, .int .i64 Y], .int .i64 0]) (by simp [results, Try.results40, go_sem, F]) rfl ⟨rfl, ((((Q0.trans q1).trans q2).setCell (by simp) _).setCell (by simp) _).alloc _⟩
      · have hxb : (X == 0) = false := by simpa using hx
        go_enter Try.func40, Try.ntmps40
        go_wp2_with fail
        refine (K1.out _ (ha.q Q0)).mono ?_
        rintro e1 w1 ⟨rfl, q1⟩
        have c1 := (B1.q q1).cell
        have l1 := (B1.q q1).lt
        go_wp2_with fail
        refine (K2.out _ (ha.q (Q0.trans q1))).mono ?_
        rintro e2 w2 ⟨rfl, q2⟩
        have c2 := ((B2.q q1).q q2).cell
        have f2 := ((B2.q q1).q q2).frozen
        have l2 := ((B2.q q1).q q2).lt
        go_wp2_with fail
        have F := (((((B2.q q1).q q2).set_ 0 (.int .i64 X)).set_ 1 (.int .i64 Y)).alloc (.cells #[.int .i64 X, .int .i64 Y] 54)).cell
        exact bodyPost_ret (v := .tuple #[.agg #[.int .i64 X, .int .i64 Y], .int .i64 0]) (by simp [results, Try.results40, go_sem, F]) rfl ⟨rfl, ((((Q0.trans q1).trans q2).setCell (by simp) _).setCell (by simp) _).alloc _⟩
end Go.Proofs.Ytadljkdjlpmllaa
