/- Words: what a start says of the track (plain): a start of code 0 counts from its time or later, and its time is that of the first crossing forward from then. Walks: the program's first crossing of a valid track, where there is one; a start is that of a track. -/
import Derived.Test.YtpdcehmnegagmaaStO
namespace Go.Proofs.Ytpdcehmnegagmaa
theorem st_first {a b c d : Int} {xs : List Int} {n : Nat} {t fl : Int} (h : (stA a b c d xs n t fl).1 = 0) : 0 ≤ fcV a b c d xs n 1 (stA a b c d xs n t fl).2.1 ∧ el (crL a b c d xs (n - 1)) ((fcV a b c d xs n 1 (stA a b c d xs n t fl).2.1).toNat * 5) = (stA a b c d xs n t fl).2.2.1 ∧ t ≤ (stA a b c d xs n t fl).2.1 := by
  unfold stA at h ⊢
  unfold stD at h ⊢
  by_cases h1 : hsI a b c d xs n t = true ∧ fl = 3
  · rw [if_pos h1] at h; exact absurd h (by decide)
  · rw [if_neg h1] at h ⊢
    by_cases h2 : hsI a b c d xs n t = true ∧ fl = 2
    · rw [if_pos h2] at h; exact absurd h (by decide)
    · rw [if_neg h2] at h ⊢
      by_cases h3 : stE a b c d xs n t = true ∧ fcV a b c d xs n (-1) t < 0
      · rw [if_pos h3] at h; exact absurd h (by decide)
      · rw [if_neg h3] at h ⊢
        by_cases h4 : fcV a b c d xs n 1 (stFr a b c d xs n t) < 0 ∨ el xs ((n - 1) * 3) < t
        · rw [if_pos h4] at h
          cases he : stE a b c d xs n t <;> rw [he] at h <;> exact absurd h (by decide)
        · rw [if_neg h4]
          refine ⟨show 0 ≤ fcV a b c d xs n 1 (stFr a b c d xs n t) by omega, rfl, ?_⟩
          show t ≤ stFr a b c d xs n t
          unfold stFr
          cases he : stE a b c d xs n t
          · rw [if_neg (by decide)]; omega
          · rw [if_pos rfl]
            have hv : ¬ fcV a b c d xs n (-1) t < 0 := fun e => h3 ⟨he, e⟩
            unfold fcV at hv ⊢
            obtain e | ⟨j, _, e, hp, _⟩ := fcI_bd (crL a b c d xs (n - 1)) (-1) t ((crL a b c d xs (n - 1)).length / 5)
            · rw [e] at hv; omega
            · rw [e, Int.toNat_natCast]
              unfold fcP at hp
              rw [Bool.and_eq_true, decide_eq_true_eq] at hp
              exact hp.2
theorem st_none {a b c d : Int} {xs : List Int} {n : Nat} {t fl : Int} (h : (stA a b c d xs n t fl).1 ≠ 0) : (stA a b c d xs n t fl).2.1 = 0 ∧ (stA a b c d xs n t fl).2.2.1 = 0 ∧ (stA a b c d xs n t fl).2.2.2 = false := by
  unfold stA at h ⊢
  unfold stD at h ⊢
  repeat' split
  all_goals first
    | exact ⟨rfl, rfl, rfl⟩
    | (exfalso; simp_all)
theorem st_ocs {a b c d : Int} {xs : List Int} {n : Nat} {t fl : Int} (h : (stA a b c d xs n t fl).1 = 3) : sideV a b c d xs n t = 1 := by
  have : stE a b c d xs n t = true := by
    cases he : stE a b c d xs n t
    · exfalso
      unfold stA stD at h
      rw [he] at h
      repeat' split at h
      all_goals simp_all
    · rfl
  unfold stE at this
  simpa using this
theorem ear_has {a b c d : Int} {xs : List Int} {n : Nat} {t : Int} (h : earB a b c d xs n t = true) : hasB a b c d xs n t = true := by
  unfold earB at h
  rw [Bool.and_eq_true] at h
  unfold hasB hsI
  rw [h.1, h.2]
  rfl
end Go.Proofs.Ytpdcehmnegagmaa
namespace Go.Proofs.Ytpdcehmnegagmaa
open Go.RowKit Go.WideShapes Go.ChangeShapes
theorem impl_lineCode0 (A : Option Addr) (n cc : Nat) (xs : List Int) (a b c d : Int) (w : World) (ha : Rd w A xs) (hn : xs.length = n * 3) (hT : isTrk xs n = true) (hl : lnB a b c d = true) (hn2 : n ≤ 9223372036854775807) :
    Calls Try.prog 28 #[.agg #[.slice A n cc], .agg #[.int .i64 a, .int .i64 b, .int .i64 c, .int .i64 d]] w fun e w' => e = .returned (.int .i64 0) ∧ Q w w' := by
  have k1 := fun wv (h : Rd wv A xs) => impl_IsTrack A n cc xs wv h hn hn2
  have k2 := fun wv => impl_IsLine a b c d wv
  rw [hT] at k1
  rw [hl] at k2
  have K1 := Lib.hid k1
  have K2 := Lib.hid k2
  clear k1 k2 hT hl
  have B1 : Blk ((w.alloc (.cells #[.slice A n cc] 30)).alloc (.cells #[.int .i64 a, .int .i64 b, .int .i64 c, .int .i64 d] 27)) (w.heap.size + 1) 27 #[.int .i64 a, .int .i64 b, .int .i64 c, .int .i64 d] := by simpa using Blk.new (w.alloc (.cells #[.slice A n cc] 30)) 27 #[.int .i64 a, .int .i64 b, .int .i64 c, .int .i64 d]
  have Q0 : Q w ((w.alloc (.cells #[.slice A n cc] 30)).alloc (.cells #[.int .i64 a, .int .i64 b, .int .i64 c, .int .i64 d] 27)) := by (repeat (first | assumption | exact Q.refl _ | refine Q.alloc ?_ _ | refine Q.drewN ?_ _ | refine Q.drew ?_))
  go_enter Try.func28, Try.ntmps28
  go_wp2_with fail
  refine (K1.out _ (ha.q Q0)).mono ?_
  rintro e w1 ⟨rfl, q1⟩
  have cB := (B1.q q1).cell
  have lB := (B1.q q1).lt
  go_wp2_with fail
  refine (K2.out _).mono ?_
  rintro e w2 ⟨rfl, q2⟩
  go_wp2_with fail
  go_ret
  exact ⟨rfl, (Q0.trans q1).trans q2⟩
set_option maxHeartbeats 1000000 in
theorem impl_FirstCrossing0 (A : Option Addr) (n cc : Nat) (xs : List Int) (a b c d fr : Int) (w : World) (ha : Rd w A xs) (hn : xs.length = n * 3) (hT : isTrk xs n = true) (hl : lnB a b c d = true) (hn2 : n ≤ 9223372036854775807) (hV : 0 ≤ fcV a b c d xs n 1 fr) :
    Calls Try.prog 11 #[.agg #[.slice A n cc], .agg #[.int .i64 a, .int .i64 b, .int .i64 c, .int .i64 d], .int .i64 1, .int .i64 fr] w fun e w' => ∃ y z u v : Int, e = .returned (.tuple #[.agg #[.int .i64 (el (crL a b c d xs (n - 1)) ((fcV a b c d xs n 1 fr).toNat * 5)), .int .i64 y, .int .i64 z, .int .i64 u, .int .i64 v], .int .i64 0]) ∧ Q w w' := by
  have K1 := Lib.hid (fun wv (h : Rd wv A xs) => impl_lineCode0 A n cc xs a b c d wv h hn hT hl hn2)
  have k2 := fun wv (h : Rd wv A xs) => impl_firstCrossing A n cc xs a b c d 1 fr wv h hn hT hl
  rw [fcA_pos (by omega), decide_eq_true hV] at k2
  generalize el (crL a b c d xs (n - 1)) ((fcV a b c d xs n 1 fr).toNat * 5) = x0 at *
  generalize el (crL a b c d xs (n - 1)) ((fcV a b c d xs n 1 fr).toNat * 5 + 1) = x1 at *
  generalize el (crL a b c d xs (n - 1)) ((fcV a b c d xs n 1 fr).toNat * 5 + 2) = x2 at *
  generalize el (crL a b c d xs (n - 1)) ((fcV a b c d xs n 1 fr).toNat * 5 + 3) = x3 at *
  generalize el (crL a b c d xs (n - 1)) ((fcV a b c d xs n 1 fr).toNat * 5 + 4) = x4 at *
  have K2 := Lib.hid k2
  clear k2 hV hT hl
  have B1 : Blk (((w.alloc (.cells #[.slice A n cc] 30)).alloc (.cells #[.int .i64 a, .int .i64 b, .int .i64 c, .int .i64 d] 27)).alloc (.cells #[.int .i64 0, .int .i64 0, .int .i64 0, .int .i64 0, .int .i64 0] 42)) (w.heap.size + 1) 27 #[.int .i64 a, .int .i64 b, .int .i64 c, .int .i64 d] := Blk.alloc (by simpa using Blk.new (w.alloc (.cells #[.slice A n cc] 30)) 27 #[.int .i64 a, .int .i64 b, .int .i64 c, .int .i64 d]) _
  have B0 : Blk (((w.alloc (.cells #[.slice A n cc] 30)).alloc (.cells #[.int .i64 a, .int .i64 b, .int .i64 c, .int .i64 d] 27)).alloc (.cells #[.int .i64 0, .int .i64 0, .int .i64 0, .int .i64 0, .int .i64 0] 42)) w.heap.size 30 #[.slice A n cc] := ((Blk.new _ _ _).alloc _).alloc _
  have B8 : Blk (((w.alloc (.cells #[.slice A n cc] 30)).alloc (.cells #[.int .i64 a, .int .i64 b, .int .i64 c, .int .i64 d] 27)).alloc (.cells #[.int .i64 0, .int .i64 0, .int .i64 0, .int .i64 0, .int .i64 0] 42)) (w.heap.size + 1 + 1) 42 #[.int .i64 0, .int .i64 0, .int .i64 0, .int .i64 0, .int .i64 0] := by simpa using Blk.new ((w.alloc (.cells #[.slice A n cc] 30)).alloc (.cells #[.int .i64 a, .int .i64 b, .int .i64 c, .int .i64 d] 27)) 42 #[.int .i64 0, .int .i64 0, .int .i64 0, .int .i64 0, .int .i64 0]
  have Q0 : Q w (((w.alloc (.cells #[.slice A n cc] 30)).alloc (.cells #[.int .i64 a, .int .i64 b, .int .i64 c, .int .i64 d] 27)).alloc (.cells #[.int .i64 0, .int .i64 0, .int .i64 0, .int .i64 0, .int .i64 0] 42)) := by (repeat (first | assumption | exact Q.refl _ | refine Q.alloc ?_ _ | refine Q.drewN ?_ _ | refine Q.drew ?_))
  go_enter Try.func11, Try.ntmps11
  go_wp2_with fail
  refine (K1.out _ (ha.q Q0)).mono ?_
  rintro e w1 ⟨rfl, q1⟩
  have c0 := (B0.q q1).cell
  have l0 := (B0.q q1).lt
  have c1 := (B1.q q1).cell
  have l1 := (B1.q q1).lt
  go_wp2_with fail
  refine (K2.out _ (ha.q (Q0.trans q1))).mono ?_
  rintro e w2 ⟨rfl, q2⟩
  have c8 := ((B8.q q1).q q2).cell
  have f8 := ((B8.q q1).q q2).frozen
  have l8 := ((B8.q q1).q q2).lt
  clear c0 l0 c1 l1
  have Q2 := (Q0.trans q1).trans q2
  go_wp2_with fail
  have F := ((((((((B8.q q1).q q2).set_ 0 (.int .i64 x0)).set_ 1 (.int .i64 x1)).set_ 2 (.int .i64 x2)).set_ 3 (.int .i64 x3)).set_ 4 (.int .i64 x4)).alloc (.cells #[.int .i64 x0, .int .i64 x1, .int .i64 x2, .int .i64 x3, .int .i64 x4] 42)).cell
  refine bodyPost_ret (v := .tuple #[.agg #[.int .i64 x0, .int .i64 x1, .int .i64 x2, .int .i64 x3, .int .i64 x4], .int .i64 0]) (by simp [results, Try.results11, go_sem, F]) rfl ⟨x1, x2, x3, x4, rfl, ?_⟩
  exact (((((Q2.setCell (by simp; omega) _).setCell (by simp; omega) _).setCell (by simp; omega) _).setCell (by simp; omega) _).setCell (by simp; omega) _).alloc _
end Go.Proofs.Ytpdcehmnegagmaa
