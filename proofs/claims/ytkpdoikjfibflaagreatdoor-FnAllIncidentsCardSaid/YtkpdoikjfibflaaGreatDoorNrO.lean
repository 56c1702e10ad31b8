/- Walks: tracks that are near at a time, as the program and the reference tell it. No condition. -/
import Derived.Test.YtkpdoikjfibflaaGreatDoorNrN
namespace Go.Proofs.YtkpdoikjfibflaaGreatDoor
open Go.RowKit Go.WideShapes Go.ChangeShapes
/-- Two tracks are near at a time. -/
def naR (l D : Int) (xs : List Int) (n : Nat) (ys : List Int) (m : Nat) (t : Int) : Bool :=
  decide (hdC xs n t = 0) && decide (hdC ys m t = 0) && hnR (atX xs n t) (atY xs n t) (hdX xs n t) (hdY xs n t) l (atX ys m t) (atY ys m t) (hdX ys m t) (hdY ys m t) l D
theorem naR_1 {l D : Int} {xs ys : List Int} {n m : Nat} {t : Int} (h : ¬ hdC xs n t = 0) : naR l D xs n ys m t = false := by unfold naR; rw [decide_eq_false h]; rfl
theorem naR_2 {l D : Int} {xs ys : List Int} {n m : Nat} {t : Int} (h : ¬ hdC ys m t = 0) : naR l D xs n ys m t = false := by unfold naR; rw [decide_eq_false h]; simp
theorem naR_0 {l D : Int} {xs ys : List Int} {n m : Nat} {t : Int} (h : hdC xs n t = 0) (h' : hdC ys m t = 0) : naR l D xs n ys m t = hnR (atX xs n t) (atY xs n t) (hdX xs n t) (hdY xs n t) l (atX ys m t) (atY ys m t) (hdX ys m t) (hdY ys m t) l D := by unfold naR; rw [decide_eq_true h, decide_eq_true h']; rfl
theorem hulV_any (xs : List Int) (n : Nat) (t l : Int) : ∃ p1 p2 p3 p4 p5 : Int, hulV xs n t l = .agg #[.int .i64 p1, .int .i64 p2, .int .i64 p3, .int .i64 p4, .int .i64 p5] := by
  by_cases h : hdC xs n t = 0
  · exact ⟨_, _, _, _, _, hulV_0 h⟩
  · exact ⟨_, _, _, _, _, hulV_no h⟩
theorem hd_ok {xs : List Int} {n : Nat} {t : Int} (hT : isTrk xs n = true) (h : hdC xs n t = 0) : pt (atX xs n t) (atY xs n t) ∧ hdOk (hdX xs n t) (hdY xs n t) := by
  have hl := hdC_last hT h
  refine ⟨pos_pt hT hl, hd_bd hT hl, fun e => ?_⟩
  rw [hdC_5 hT hl e] at h
  cases h
theorem isWat_all {a b d s : Int} (h : isWat a b d s = true) : (1 ≤ a ∧ a ≤ 1000) ∧ (0 ≤ b ∧ b ≤ 60000) ∧ (0 ≤ d ∧ d ≤ 10000) ∧ (1 ≤ s ∧ s ≤ 60000) := by
  have := of_decide_eq_true h
  omega
theorem hnK_0 {a b x y l a' b' x' y' l' D : Int} (h : hnR a b x y l a' b' x' y' l' D = true) : hnK a b x y l a' b' x' y' l' = 0 := by
  unfold hnR at h
  unfold hnK
  rw [Bool.and_eq_true] at h
  rw [if_pos h.1]
theorem hnK_2 {a b x y l a' b' x' y' l' : Int} (D : Int) : hnK a b x y l a' b' x' y' l' = 0 ∨ (hnK a b x y l a' b' x' y' l' = 2 ∧ hnR a b x y l a' b' x' y' l' D = false) := by
  unfold hnK hnR
  cases h : (lnB (snV a x l x y) (snV b y l x y) a b && lnB (snV a' x' l' x' y') (snV b' y' l' x' y') a' b')
  · exact .inr ⟨rfl, rfl⟩
  · exact .inl rfl
set_option maxHeartbeats 2000000 in
theorem impl_near (a b d s : Int) (A1 : Option Addr) (n c1 : Nat) (xs : List Int) (A2 : Option Addr) (m c2 : Nat) (ys : List Int) (t : Int) (w : World) (ha : Rd w A1 xs) (hn : xs.length = n * 3) (h1 : isTrk xs n = true) (hb : Rd w A2 ys) (hm : ys.length = m * 3) (h2 : isTrk ys m = true) (hw : isWat a b d s = true) :
    Calls Tryz.prog 39 #[.agg #[.int .i64 a, .int .i64 b, .int .i64 d, .int .i64 s], .agg #[.slice A1 n c1], .agg #[.slice A2 m c2], .int .i64 t] w fun e w' => e = .returned (.bool (naR a d xs n ys m t)) ∧ Q w w' := by
  obtain ⟨hw1, hw2, hw3, hw4⟩ := isWat_all hw
  have hB := fun w1 (q : Q (((w.alloc (.cells #[.int .i64 a, .int .i64 b, .int .i64 d, .int .i64 s] 27)).alloc (.cells #[.slice A1 n c1] 37)).alloc (.cells #[.slice A2 m c2] 37)) w1) => (show Blk w1 w.heap.size 27 #[.int .i64 a, .int .i64 b, .int .i64 d, .int .i64 s] ∧ Blk w1 (w.heap.size + 1) 37 #[.slice A1 n c1] ∧ Blk w1 (w.heap.size + 1 + 1) 37 #[.slice A2 m c2] from ⟨q.boxB3, by simpa using q.boxB2, by simpa using q.boxB⟩)
  have Q0 : Q w (((w.alloc (.cells #[.int .i64 a, .int .i64 b, .int .i64 d, .int .i64 s] 27)).alloc (.cells #[.slice A1 n c1] 37)).alloc (.cells #[.slice A2 m c2] 37)) := by (repeat (first | assumption | exact Q.refl _ | refine Q.alloc ?_ _ | refine Q.drewN ?_ _ | refine Q.drew ?_))
  have k1 := fun wv (h : Rd wv A1 xs) => impl_HullAt A1 n c1 xs t a wv h hn h1 hw1
  have k2 := fun wv (h : Rd wv A2 ys) => impl_HullAt A2 m c2 ys t a wv h hm h2 hw1
  obtain ⟨p1, p2, p3, p4, p5, hp⟩ := hulV_any xs n t a
  obtain ⟨r1, r2, r3, r4, r5, hr⟩ := hulV_any ys m t a
  by_cases z1 : hdC xs n t = 0
  · by_cases z2 : hdC ys m t = 0
    · rw [naR_0 z1 z2]
      rw [hulV_0 z1, z1] at k1
      rw [hulV_0 z2, z2] at k2
      have K1 := Lib.hid k1
      have K2 := Lib.hid k2
      have K3 := Lib.hid (fun wv => impl_HullsNear (atX xs n t) (atY xs n t) (hdX xs n t) (hdY xs n t) a (atX ys m t) (atY ys m t) (hdX ys m t) (hdY ys m t) a d wv (hd_ok h1 z1).1 (hd_ok h1 z1).2 hw1 (hd_ok h2 z2).1 (hd_ok h2 z2).2 hw1 hw3)
      have HC := Lib.hid (hnK_2 (a := atX xs n t) (b := atY xs n t) (x := hdX xs n t) (y := hdY xs n t) (l := a) (a' := atX ys m t) (b' := atY ys m t) (x' := hdX ys m t) (y' := hdY ys m t) (l' := a) d)
      clear k1 k2 z1 z2 hp hr hn hm h1 h2 hw hw1 hw2 hw3 hw4
      generalize hnR (atX xs n t) (atY xs n t) (hdX xs n t) (hdY xs n t) a (atX ys m t) (atY ys m t) (hdX ys m t) (hdY ys m t) a d = R at *
      generalize hnK (atX xs n t) (atY xs n t) (hdX xs n t) (hdY xs n t) a (atX ys m t) (atY ys m t) (hdX ys m t) (hdY ys m t) a = C at *
      generalize atX xs n t = p1 at *
      generalize atY xs n t = p2 at *
      generalize hdX xs n t = p3 at *
      generalize hdY xs n t = p4 at *
      generalize atX ys m t = r1 at *
      generalize atY ys m t = r2 at *
      generalize hdX ys m t = r3 at *
      generalize hdY ys m t = r4 at *
      go_enter Tryz.func39, Tryz.ntmps39
      go_wp2_with fail
      refine (K1.out _ (ha.q Q0)).mono ?_
      rintro e1 w1 ⟨rfl, q1⟩
      have k1 := (hB _ q1).1
      have k2 := (hB _ q1).2.1
      have k3 := (hB _ q1).2.2
      have Q1 := Q0.trans q1
      clear q1
      have c1' := k1.cell
      have c3' := k3.cell
      have l1' := k1.lt
      have l3' := k3.lt
      go_wp2_with fail
      refine (K2.out _ (hb.q (Q1.trans ((Q.refl w1).alloc _)))).mono ?_
      rintro e2 w2 ⟨rfl, q2⟩
      have B1 := q2.boxB
      have Q2 := (Q1.trans ((Q.refl w1).alloc _)).trans q2
      replace k1 := (k1.alloc _).q q2
      clear c1' c3' l1' l3' k2 k3
      have c1' := k1.cell
      have l1' := k1.lt
      have cB := B1.cell
      have lB := B1.lt
      go_wp2_with fail
      refine (K3.out _).mono ?_
      rintro e3 w3 ⟨rfl, q3⟩
      go_wp2_with fail
      go_ret
      exact ⟨rfl, (Q2.alloc _).trans q3⟩
    · rw [naR_2 z2]
      rw [hp, z1] at k1
      rw [hr] at k2
      have K1 := Lib.hid k1
      have K2 := Lib.hid k2
      clear k1 k2 z1 hp hr hn hm h1 h2 hw hw1 hw2 hw3 hw4
      generalize hdC ys m t = C2 at *
      go_enter Tryz.func39, Tryz.ntmps39
      go_wp2_with fail
      refine (K1.out _ (ha.q Q0)).mono ?_
      rintro e1 w1 ⟨rfl, q1⟩
      have k1 := (hB _ q1).1
      have k2 := (hB _ q1).2.1
      have k3 := (hB _ q1).2.2
      have Q1 := Q0.trans q1
      clear q1
      have c1' := k1.cell
      have c3' := k3.cell
      have l1' := k1.lt
      have l3' := k3.lt
      go_wp2_with fail
      refine (K2.out _ (hb.q (Q1.trans ((Q.refl w1).alloc _)))).mono ?_
      rintro e2 w2 ⟨rfl, q2⟩
      have B1 := q2.boxB
      have Q2 := (Q1.trans ((Q.refl w1).alloc _)).trans q2
      replace k1 := (k1.alloc _).q q2
      clear c1' c3' l1' l3' k2 k3
      have c1' := k1.cell
      have l1' := k1.lt
      have cB := B1.cell
      have lB := B1.lt
      go_wp2_with fail
      go_ret
      exact ⟨rfl, Q2.alloc _⟩
  · rw [naR_1 z1]
    rw [hp] at k1
    rw [hr] at k2
    have K1 := Lib.hid k1
    have K2 := Lib.hid k2
    clear k1 k2 hp hr hn hm h1 h2 hw hw1 hw2 hw3 hw4
    generalize hdC xs n t = C1 at *
    generalize hdC ys m t = C2 at *
    go_enter Tryz.func39, Tryz.ntmps39
    go_wp2_with fail
    refine (K1.out _ (ha.q Q0)).mono ?_
    rintro e1 w1 ⟨rfl, q1⟩
    have k1 := (hB _ q1).1
    have k2 := (hB _ q1).2.1
    have k3 := (hB _ q1).2.2
    have Q1 := Q0.trans q1
    clear q1
    have c1' := k1.cell
    have c3' := k3.cell
    have l1' := k1.lt
    have l3' := k3.lt
    go_wp2_with fail
    refine (K2.out _ (hb.q (Q1.trans ((Q.refl w1).alloc _)))).mono ?_
    rintro e2 w2 ⟨rfl, q2⟩
    have B1 := q2.boxB
    have Q2 := (Q1.trans ((Q.refl w1).alloc _)).trans q2
    replace k1 := (k1.alloc _).q q2
    clear c1' c3' l1' l3' k2 k3
    have c1' := k1.cell
    have l1' := k1.lt
    have cB := B1.cell
    have lB := B1.lt
    go_wp2_with fail
    go_ret
    exact ⟨rfl, Q2.alloc _⟩
set_option maxHeartbeats 2000000 in
theorem spec_near (a b d s : Int) (A1 : Option Addr) (n c1 : Nat) (xs : List Int) (A2 : Option Addr) (m c2 : Nat) (ys : List Int) (t : Int) (w : World) (ha : Rd w A1 xs) (hn : xs.length = n * 3) (h1 : isTrk xs n = true) (hb : Rd w A2 ys) (hm : ys.length = m * 3) (h2 : isTrk ys m = true) (hw : isWat a b d s = true) :
    Calls Tryz.prog 45 #[.agg #[.int .i64 a, .int .i64 b, .int .i64 d, .int .i64 s], .agg #[.slice A1 n c1], .agg #[.slice A2 m c2], .int .i64 t] w fun e w' => e = .returned (.bool (naR a d xs n ys m t)) ∧ Q w w' := by
  obtain ⟨hw1, hw2, hw3, hw4⟩ := isWat_all hw
  have hB := fun w1 (q : Q (((w.alloc (.cells #[.int .i64 a, .int .i64 b, .int .i64 d, .int .i64 s] 27)).alloc (.cells #[.slice A1 n c1] 37)).alloc (.cells #[.slice A2 m c2] 37)) w1) => (show Blk w1 w.heap.size 27 #[.int .i64 a, .int .i64 b, .int .i64 d, .int .i64 s] ∧ Blk w1 (w.heap.size + 1) 37 #[.slice A1 n c1] ∧ Blk w1 (w.heap.size + 1 + 1) 37 #[.slice A2 m c2] from ⟨q.boxB3, by simpa using q.boxB2, by simpa using q.boxB⟩)
  have Q0 : Q w (((w.alloc (.cells #[.int .i64 a, .int .i64 b, .int .i64 d, .int .i64 s] 27)).alloc (.cells #[.slice A1 n c1] 37)).alloc (.cells #[.slice A2 m c2] 37)) := by (repeat (first | assumption | exact Q.refl _ | refine Q.alloc ?_ _ | refine Q.drewN ?_ _ | refine Q.drew ?_))
  have k1 := fun wv (h : Rd wv A1 xs) => spec_HullAt A1 n c1 xs t a wv h hn h1 hw1
  have k2 := fun wv (h : Rd wv A2 ys) => spec_HullAt A2 m c2 ys t a wv h hm h2 hw1
  obtain ⟨p1, p2, p3, p4, p5, hp⟩ := hulV_any xs n t a
  obtain ⟨r1, r2, r3, r4, r5, hr⟩ := hulV_any ys m t a
  by_cases z1 : hdC xs n t = 0
  · by_cases z2 : hdC ys m t = 0
    · rw [naR_0 z1 z2]
      rw [hulV_0 z1, z1] at k1
      rw [hulV_0 z2, z2] at k2
      have K1 := Lib.hid k1
      have K2 := Lib.hid k2
      have K3 := Lib.hid (fun wv => spec_HullsNear (atX xs n t) (atY xs n t) (hdX xs n t) (hdY xs n t) a (atX ys m t) (atY ys m t) (hdX ys m t) (hdY ys m t) a d wv (hd_ok h1 z1).1 (hd_ok h1 z1).2 hw1 (hd_ok h2 z2).1 (hd_ok h2 z2).2 hw1 hw3)
      have HC := Lib.hid (hnK_2 (a := atX xs n t) (b := atY xs n t) (x := hdX xs n t) (y := hdY xs n t) (l := a) (a' := atX ys m t) (b' := atY ys m t) (x' := hdX ys m t) (y' := hdY ys m t) (l' := a) d)
      clear k1 k2 z1 z2 hp hr hn hm h1 h2 hw hw1 hw2 hw3 hw4
      generalize hnR (atX xs n t) (atY xs n t) (hdX xs n t) (hdY xs n t) a (atX ys m t) (atY ys m t) (hdX ys m t) (hdY ys m t) a d = R at *
      generalize hnK (atX xs n t) (atY xs n t) (hdX xs n t) (hdY xs n t) a (atX ys m t) (atY ys m t) (hdX ys m t) (hdY ys m t) a = C at *
      generalize atX xs n t = p1 at *
      generalize atY xs n t = p2 at *
      generalize hdX xs n t = p3 at *
      generalize hdY xs n t = p4 at *
      generalize atX ys m t = r1 at *
      generalize atY ys m t = r2 at *
      generalize hdX ys m t = r3 at *
      generalize hdY ys m t = r4 at *
      go_enter Tryz.func45, Tryz.ntmps45
      go_wp2_with fail
      refine (K1.out _ (ha.q Q0)).mono ?_
      rintro e1 w1 ⟨rfl, q1⟩
      have k1 := (hB _ q1).1
      have k2 := (hB _ q1).2.1
      have k3 := (hB _ q1).2.2
      have Q1 := Q0.trans q1
      clear q1
      have c1' := k1.cell
      have c3' := k3.cell
      have l1' := k1.lt
      have l3' := k3.lt
      go_wp2_with fail
      refine (K2.out _ (hb.q (Q1.trans ((Q.refl w1).alloc _)))).mono ?_
      rintro e2 w2 ⟨rfl, q2⟩
      have B1 := q2.boxB
      have Q2 := (Q1.trans ((Q.refl w1).alloc _)).trans q2
      replace k1 := (k1.alloc _).q q2
      clear c1' c3' l1' l3' k2 k3
      have c1' := k1.cell
      have l1' := k1.lt
      have cB := B1.cell
      have lB := B1.lt
      go_wp2_with fail
      refine (K3.out _).mono ?_
      rintro e3 w3 ⟨rfl, q3⟩
      rcases HC.out with hc | ⟨hc, hr⟩
      · have hc' := hc
        subst hc'
        go_wp2_with fail
        go_ret
        exact ⟨by simp, (Q2.alloc _).trans q3⟩
      · subst hc
        subst hr
        go_wp2_with fail
        go_ret
        exact ⟨rfl, (Q2.alloc _).trans q3⟩
    · rw [naR_2 z2]
      rw [hp, z1] at k1
      rw [hr] at k2
      have K1 := Lib.hid k1
      have K2 := Lib.hid k2
      clear k1 k2 z1 hp hr hn hm h1 h2 hw hw1 hw2 hw3 hw4
      generalize hdC ys m t = C2 at *
      go_enter Tryz.func45, Tryz.ntmps45
      go_wp2_with fail
      refine (K1.out _ (ha.q Q0)).mono ?_
      rintro e1 w1 ⟨rfl, q1⟩
      have k1 := (hB _ q1).1
      have k2 := (hB _ q1).2.1
      have k3 := (hB _ q1).2.2
      have Q1 := Q0.trans q1
      clear q1
      have c1' := k1.cell
      have c3' := k3.cell
      have l1' := k1.lt
      have l3' := k3.lt
      go_wp2_with fail
      refine (K2.out _ (hb.q (Q1.trans ((Q.refl w1).alloc _)))).mono ?_
      rintro e2 w2 ⟨rfl, q2⟩
      have B1 := q2.boxB
      have Q2 := (Q1.trans ((Q.refl w1).alloc _)).trans q2
      replace k1 := (k1.alloc _).q q2
      clear c1' c3' l1' l3' k2 k3
      have c1' := k1.cell
      have l1' := k1.lt
      have cB := B1.cell
      have lB := B1.lt
      go_wp2_with fail
      go_ret
      exact ⟨rfl, Q2.alloc _⟩
  · rw [naR_1 z1]
    rw [hp] at k1
    rw [hr] at k2
    have K1 := Lib.hid k1
    have K2 := Lib.hid k2
    clear k1 k2 hp hr hn hm h1 h2 hw hw1 hw2 hw3 hw4
    generalize hdC xs n t = C1 at *
    generalize hdC ys m t = C2 at *
    go_enter Tryz.func45, Tryz.ntmps45
    go_wp2_with fail
    refine (K1.out _ (ha.q Q0)).mono ?_
    rintro e1 w1 ⟨rfl, q1⟩
    have k1 := (hB _ q1).1
    have k2 := (hB _ q1).2.1
    have k3 := (hB _ q1).2.2
    have Q1 := Q0.trans q1
    clear q1
    have c1' := k1.cell
    have c3' := k3.cell
    have l1' := k1.lt
    have l3' := k3.lt
    go_wp2_with fail
    refine (K2.out _ (hb.q (Q1.trans ((Q.refl w1).alloc _)))).mono ?_
    rintro e2 w2 ⟨rfl, q2⟩
    have B1 := q2.boxB
    have Q2 := (Q1.trans ((Q.refl w1).alloc _)).trans q2
    replace k1 := (k1.alloc _).q q2
    clear c1' c3' l1' l3' k2 k3
    have c1' := k1.cell
    have l1' := k1.lt
    have cB := B1.cell
    have lB := B1.lt
    go_wp2_with fail
    go_ret
    exact ⟨rfl, Q2.alloc _⟩
end Go.Proofs.YtkpdoikjfibflaaGreatDoor
