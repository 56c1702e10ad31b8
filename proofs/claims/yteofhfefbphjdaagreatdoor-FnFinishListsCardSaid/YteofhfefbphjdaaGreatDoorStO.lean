/- Walks: StartOf, as the program and the reference compute it, for all arguments; the law on starts. -/
import Derived.Test.YteofhfefbphjdaaGreatDoorStT
import Derived.Test.YteofhfefbphjdaaGreatDoorEarlyL
import Derived.Test.YteofhfefbphjdaaGreatDoorHastyI
namespace Go.Proofs.YteofhfefbphjdaaGreatDoor
open Go.RowKit Go.WideShapes Go.ChangeShapes
/-- The code for a line, a track, a time and a flag. -/
def stK (a b c d : Int) (xs : List Int) (n : Nat) (t fl : Int) : Int := if lnB a b c d = true ∧ isTrk xs n = true then (if inR t 0 1000000000 = true ∧ inR fl 0 3 = true then 0 else 2) else 1
theorem stK_one (a b c d : Int) (A : Option Addr) (n cc : Nat) (xs : List Int) (t fl : Int) : scC a b c d [⟨A, n, cc, xs⟩] t fl = stK a b c d xs n t fl := by
  simp [scC, stK, Tk.trk]
theorem stK_00 {a b c d : Int} {xs : List Int} {n : Nat} {t fl : Int} (h : stK a b c d xs n t fl = 0) : lnB a b c d = true ∧ isTrk xs n = true ∧ (0 ≤ t ∧ t ≤ 1000000000) ∧ (0 ≤ fl ∧ fl ≤ 3) := by
  unfold stK at h
  split at h
  · rename_i h1
    split at h
    · rename_i h2
      unfold inR at h2
      exact ⟨h1.1, h1.2, of_decide_eq_true h2.1, of_decide_eq_true h2.2⟩
    · cases h
  · cases h
theorem stK_C {a b c d : Int} {xs : List Int} {n : Nat} {t fl : Int} : (stC a b c d xs n t = 0 ∧ inR fl 0 3 = true ∧ stK a b c d xs n t fl = 0) ∨ (stC a b c d xs n t = 0 ∧ inR fl 0 3 = false ∧ stK a b c d xs n t fl = 2) ∨ (stC a b c d xs n t ≠ 0 ∧ stK a b c d xs n t fl = stC a b c d xs n t) := by
  unfold stC stK
  by_cases h1 : lnB a b c d = true ∧ isTrk xs n = true
  · rw [if_pos h1, if_pos h1]
    by_cases h2 : 0 ≤ t ∧ t ≤ 1000000000
    · rw [if_pos h2, inR_yes h2]
      cases h3 : inR fl 0 3
      · exact .inr (.inl ⟨rfl, rfl, by simp⟩)
      · exact .inl ⟨rfl, rfl, by simp⟩
    · rw [if_neg h2, inR_no h2]
      exact .inr (.inr ⟨by decide, by simp⟩)
  · rw [if_neg h1, if_neg h1]
    exact .inr (.inr ⟨by decide, rfl⟩)
/-- What StartOf hands back. -/
def soV (a b c d : Int) (xs : List Int) (n : Nat) (t fl : Int) : St4 := if stK a b c d xs n t fl = 0 then stA a b c d xs n t fl else (0, 0, 0, false)
set_option maxHeartbeats 1000000 in
theorem impl_StartOf (a b c d : Int) (A : Option Addr) (n cc : Nat) (xs : List Int) (t fl : Int) (w : World) (ha : Rd w A xs) (hn : xs.length = n * 3) (hn2 : n ≤ 9223372036854775807) :
    Calls Tryz.prog 13 #[.agg #[.int .i64 a, .int .i64 b, .int .i64 c, .int .i64 d], .agg #[.slice A n cc], .int .i64 t, .int .i64 fl] w fun e w' => e = .returned (.tuple #[stVal (soV a b c d xs n t fl), .int .i64 (stK a b c d xs n t fl)]) ∧ Q w w' := by
  have K1 : ∀ (wv : World) (H : Nat), wv.heap.size = H → Rd wv A xs → Calls Tryz.prog 21 #[.agg #[.int .i64 a, .int .i64 b, .int .i64 c, .int .i64 d], .slice (some ⟨H, 0, none⟩) 1 1, .int .i64 t, .int .i64 fl] (wv.alloc (.cells #[.slice A n cc] 43)) fun e w' => e = .returned (.int .i64 (stK a b c d xs n t fl)) ∧ Q (wv.alloc (.cells #[.slice A n cc] 43)) w' := fun wv H hH h => by
    subst hH
    have := impl_startCode a b c d _ 1 1 [⟨A, n, cc, xs⟩] t fl _ (rdT_one 43 (cc := cc) h hn hn2) rfl (by decide)
    rwa [stK_one] at this
  have C8 : Blk (((w.alloc (.cells #[.int .i64 a, .int .i64 b, .int .i64 c, .int .i64 d] 27)).alloc (.cells #[.slice A n cc] 43)).alloc (.cells #[.int .i64 0, .int .i64 0, .int .i64 0, .bool false] 49)) (w.heap.size + 1 + 1) 49 #[.int .i64 0, .int .i64 0, .int .i64 0, .bool false] := (by simpa using Blk.new ((w.alloc (.cells #[.int .i64 a, .int .i64 b, .int .i64 c, .int .i64 d] 27)).alloc (.cells #[.slice A n cc] 43)) 49 #[.int .i64 0, .int .i64 0, .int .i64 0, .bool false])
  have C1 : Blk (((w.alloc (.cells #[.int .i64 a, .int .i64 b, .int .i64 c, .int .i64 d] 27)).alloc (.cells #[.slice A n cc] 43)).alloc (.cells #[.int .i64 0, .int .i64 0, .int .i64 0, .bool false] 49)) w.heap.size 27 #[.int .i64 a, .int .i64 b, .int .i64 c, .int .i64 d] := ((Blk.new _ _ _).alloc _).alloc _
  have C2 : Blk (((w.alloc (.cells #[.int .i64 a, .int .i64 b, .int .i64 c, .int .i64 d] 27)).alloc (.cells #[.slice A n cc] 43)).alloc (.cells #[.int .i64 0, .int .i64 0, .int .i64 0, .bool false] 49)) (w.heap.size + 1) 43 #[.slice A n cc] := Blk.alloc (by simpa using Blk.new (w.alloc (.cells #[.int .i64 a, .int .i64 b, .int .i64 c, .int .i64 d] 27)) 43 #[.slice A n cc]) _
  have QW : Q w (((w.alloc (.cells #[.int .i64 a, .int .i64 b, .int .i64 c, .int .i64 d] 27)).alloc (.cells #[.slice A n cc] 43)).alloc (.cells #[.int .i64 0, .int .i64 0, .int .i64 0, .bool false] 49)) := ((Q.alloc (Q.refl w) _).alloc _).alloc _
  by_cases h0 : stK a b c d xs n t fl = 0
  · obtain ⟨h1, h2, h3, h4⟩ := stK_00 h0
    have K2 := (fun wv (h : Rd wv A xs) => impl_startOf a b c d A n cc xs t fl wv h hn h2 h1 h3)
    have HE := Lib.hid (show soV a b c d xs n t fl = stA a b c d xs n t fl by unfold soV; rw [if_pos h0])
    rw [h0] at K1 ⊢
    clear h0 h1 h2 h3 h4
    generalize soV a b c d xs n t fl = P at *
    generalize hpq : stA a b c d xs n t fl = P2 at *
    obtain ⟨x, y, z, u⟩ := P2
    have K1 := Lib.hid K1
    have K2 := Lib.hid (show ∀ wv, Rd wv A xs → Calls Tryz.prog 27 #[.agg #[.int .i64 a, .int .i64 b, .int .i64 c, .int .i64 d], .agg #[.slice A n cc], .int .i64 t, .int .i64 fl] wv fun e w' => e = .returned (.agg #[.int .i64 x, .int .i64 y, .int .i64 z, .bool u]) ∧ Q wv w' from K2)
    clear hpq
    go_enter Tryz.func13, Tryz.ntmps13
    go_wp2_with fail
    refine (K1.out _ _ (by simp) (ha.q QW)).mono ?_
    rintro e w1 ⟨rfl, q1⟩
    have D1 := (C1.alloc _).q q1
    have d1 := D1.cell
    have D2 := (C2.alloc _).q q1
    have d2 := D2.cell
    have D8 := (C8.alloc _).q q1
    have d8 := D8.cell
    have f8 := D8.frozen
    have l8 := D8.lt
    have Q1 : Q w w1 := Q.trans (by (repeat (first | assumption | exact Q.refl _ | refine Q.alloc ?_ _ | refine Q.drewN ?_ _ | refine Q.drew ?_))) q1
    go_wp2_with fail
    refine (K2.out _ (ha.q Q1)).mono ?_
    rintro e w2 ⟨rfl, q2⟩
    have E8 := D8.q q2
    have e8 := E8.cell
    have g8 := E8.frozen
    have m8 := E8.lt
    clear d1 d2 d8 f8
    go_wp2_with fail
    have F := (E8.set4 (.int .i64 x) (.int .i64 y) (.int .i64 z) (.bool u)).cell
    rw [HE.out]
    refine bodyPost_ret (v := .tuple #[.agg #[.int .i64 x, .int .i64 y, .int .i64 z, .bool u], .int .i64 0]) (by simp [results, Tryz.results13, go_sem, F]) rfl ⟨rfl, ?_⟩
    exact ((Q1.trans q2).set4 (show w.heap.size ≤ w.heap.size + 1 + 1 from Nat.le_add_right _ 2) _ _ _ _)
  · have HE := Lib.hid (show soV a b c d xs n t fl = (0, 0, 0, false) by unfold soV; rw [if_neg h0])
    generalize stK a b c d xs n t fl = C at *
    generalize soV a b c d xs n t fl = P at *
    have hC : (C == 0) = false := by simpa using h0
    have K1 := Lib.hid K1
    go_enter Tryz.func13, Tryz.ntmps13
    go_wp2_with fail
    refine (K1.out _ _ (by simp) (ha.q QW)).mono ?_
    rintro e w1 ⟨rfl, q1⟩
    have D8 := (C8.alloc _).q q1
    have d8 := D8.cell
    have f8 := D8.frozen
    have l8 := D8.lt
    have Q1 : Q w w1 := Q.trans (by (repeat (first | assumption | exact Q.refl _ | refine Q.alloc ?_ _ | refine Q.drewN ?_ _ | refine Q.drew ?_))) q1
    go_wp2_with fail
    have F := (D8.set4 (.int .i64 0) (.int .i64 0) (.int .i64 0) (.bool false)).cell
    rw [HE.out]
    refine bodyPost_ret (v := .tuple #[.agg #[.int .i64 0, .int .i64 0, .int .i64 0, .bool false], .int .i64 C]) (by simp [results, Tryz.results13, go_sem, F]) rfl ⟨rfl, ?_⟩
    exact (Q1.set4 (show w.heap.size ≤ w.heap.size + 1 + 1 from Nat.le_add_right _ 2) _ _ _ _)
theorem spec_l14Flag (n : Int) (w : World) : Calls Tryz.prog 59 #[.int .i64 n] w fun e w' => e = .returned (.bool (inR n 0 3)) ∧ w = w' := by
  have K := Lib.hid (fun wv => spec_inR n 0 3 wv)
  generalize inR n 0 3 = B at *
  go_enter Tryz.func59, Tryz.ntmps59
  go_wp2_with (go_at_call 58; refine (K.out _).mono ?_; rintro e w' ⟨rfl, rfl⟩)
  go_ret
  exact ⟨rfl, rfl⟩
end Go.Proofs.YteofhfefbphjdaaGreatDoor
