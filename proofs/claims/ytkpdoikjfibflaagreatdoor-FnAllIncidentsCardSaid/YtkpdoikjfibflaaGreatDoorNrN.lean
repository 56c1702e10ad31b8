/- Walks: hulls that are near, as the reference tells it. No condition. -/
import Derived.Test.YtkpdoikjfibflaaGreatDoorNrM
namespace Go.Proofs.YtkpdoikjfibflaaGreatDoor
open Go.RowKit Go.WideShapes Go.ChangeShapes
theorem spec_IsSegment (a b c d : Int) (w : World) : Calls Tryz.prog 84 #[.agg #[.int .i64 a, .int .i64 b, .int .i64 c, .int .i64 d]] w fun e w' => e = .returned (.bool (lnB a b c d)) ∧ Q w w' := by
  have K1 := Lib.hid (spec_IsPoint a b)
  have K2 := Lib.hid (spec_IsPoint c d)
  unfold lnB
  generalize ptB a b = p1 at *
  generalize ptB c d = p2 at *
  cases p1
  · go_enter Tryz.func84, Tryz.ntmps84
    go_wp2_with (go_at_call 43; refine (K1.out _).mono ?_; rintro e w1 ⟨rfl, q1⟩; have bx := q1.box)
    go_ret
    exact ⟨rfl, Q.trans (by (repeat (first | assumption | exact Q.refl _ | refine Q.alloc ?_ _ | refine Q.drewN ?_ _ | refine Q.drew ?_))) q1⟩
  · cases p2
    · go_enter Tryz.func84, Tryz.ntmps84
      go_wp2_with (first | (have q0 := q1; go_at_call 43; refine (K2.out _).mono ?_; rintro e w2 ⟨rfl, q2⟩; have Q2 := q0.trans q2; have bx2 := Q2.box) | (go_at_call 43; refine (K1.out _).mono ?_; rintro e w1 ⟨rfl, q1⟩; have bx := q1.box))
      go_ret
      exact ⟨rfl, Q.trans ((Q.refl w).alloc _) Q2⟩
    · by_cases h1 : a = c
      · by_cases h2 : b = d
        · subst h1 h2
          go_enter Tryz.func84, Tryz.ntmps84
          go_wp2_with (first | (have q0 := q1; go_at_call 43; refine (K2.out _).mono ?_; rintro e w2 ⟨rfl, q2⟩; have Q2 := q0.trans q2; have bx2 := Q2.box) | (go_at_call 43; refine (K1.out _).mono ?_; rintro e w1 ⟨rfl, q1⟩; have bx := q1.box))
          go_ret
          exact ⟨ret_bool (by simp), Q.trans ((Q.refl w).alloc _) Q2⟩
        · subst h1
          have e2 : (b == d) = false := by simpa using h2
          go_enter Tryz.func84, Tryz.ntmps84
          go_wp2_with (first | (have q0 := q1; go_at_call 43; refine (K2.out _).mono ?_; rintro e w2 ⟨rfl, q2⟩; have Q2 := q0.trans q2; have bx2 := Q2.box) | (go_at_call 43; refine (K1.out _).mono ?_; rintro e w1 ⟨rfl, q1⟩; have bx := q1.box))
          go_ret
          exact ⟨ret_bool (by simp [h2]), Q.trans ((Q.refl w).alloc _) Q2⟩
      · have e1 : (a == c) = false := by simpa using h1
        go_enter Tryz.func84, Tryz.ntmps84
        go_wp2_with (first | (have q0 := q1; go_at_call 43; refine (K2.out _).mono ?_; rintro e w2 ⟨rfl, q2⟩; have Q2 := q0.trans q2; have bx2 := Q2.box) | (go_at_call 43; refine (K1.out _).mono ?_; rintro e w1 ⟨rfl, q1⟩; have bx := q1.box))
        go_ret
        exact ⟨ret_bool (by simp [h1]), Q.trans ((Q.refl w).alloc _) Q2⟩
set_option maxRecDepth 100000 in
set_option maxHeartbeats 8000000 in
theorem spec_HullsNear (a b x y l a' b' x' y' l' D : Int) (w : World) (hp : pt a b) (h : hdOk x y) (hl : 1 ≤ l ∧ l ≤ 1000) (hp' : pt a' b') (h' : hdOk x' y') (hl' : 1 ≤ l' ∧ l' ≤ 1000) (hD : 0 ≤ D ∧ D ≤ 10000) :
    Calls Tryz.prog 62 #[.agg #[.int .i64 a, .int .i64 b, .int .i64 x, .int .i64 y, .int .i64 l], .agg #[.int .i64 a', .int .i64 b', .int .i64 x', .int .i64 y', .int .i64 l'], .int .i64 D] w fun e w' => e = .returned (.tuple #[.bool (hnR a b x y l a' b' x' y' l' D), .int .i64 (hnK a b x y l a' b' x' y' l')]) ∧ Q w w' := by
  have K1 := Lib.hid (fun wv => spec_IsHull1 a b x y l wv hp h hl)
  have K1b := Lib.hid (fun wv => spec_IsHull1 a' b' x' y' l' wv hp' h' hl')
  have K2 := Lib.hid (fun wv => spec_l09Stern a b x y l wv hp h hl)
  have K3 := Lib.hid (fun wv => spec_l09Stern a' b' x' y' l' wv hp' h' hl')
  have kd := fun wv => spec_inR D 0 10000 wv
  rw [inR_yes hD] at kd
  have KD := Lib.hid kd
  have kS := fun wv => spec_IsSegment (snV a x l x y) (snV b y l x y) a b wv
  have kT := fun wv => spec_IsSegment (snV a' x' l' x' y') (snV b' y' l' x' y') a' b' wv
  have kM := fun wv (h1 : lnB (snV a x l x y) (snV b y l x y) a b = true) (h2 : lnB (snV a' x' l' x' y') (snV b' y' l' x' y') a' b' = true) => spec_l02Meet (snV a x l x y) (snV b y l x y) a b (snV a' x' l' x' y') (snV b' y' l' x' y') a' b' wv (lnB_pts h1).1 (lnB_pts h1).2 (lnB_pts h2).1 (lnB_pts h2).2
  have k5 := fun wv (h1 : lnB (snV a x l x y) (snV b y l x y) a b = true) (h2 : lnB (snV a' x' l' x' y') (snV b' y' l' x' y') a' b' = true) => spec_l02Within (snV a x l x y) (snV b y l x y) a b (snV a' x' l' x' y') (snV b' y' l' x' y') D wv (lnB_pts h1).1 (lnB_pts h1).2 (lnB_pts h2).1 hD
  have k6 := fun wv (h1 : lnB (snV a x l x y) (snV b y l x y) a b = true) (h2 : lnB (snV a' x' l' x' y') (snV b' y' l' x' y') a' b' = true) => spec_l02Within (snV a x l x y) (snV b y l x y) a b a' b' D wv (lnB_pts h1).1 (lnB_pts h1).2 (lnB_pts h2).2 hD
  have k7 := fun wv (h1 : lnB (snV a x l x y) (snV b y l x y) a b = true) (h2 : lnB (snV a' x' l' x' y') (snV b' y' l' x' y') a' b' = true) => spec_l02Within (snV a' x' l' x' y') (snV b' y' l' x' y') a' b' (snV a x l x y) (snV b y l x y) D wv (lnB_pts h2).1 (lnB_pts h2).2 (lnB_pts h1).1 hD
  have k8 := fun wv (h1 : lnB (snV a x l x y) (snV b y l x y) a b = true) (h2 : lnB (snV a' x' l' x' y') (snV b' y' l' x' y') a' b' = true) => spec_l02Within (snV a' x' l' x' y') (snV b' y' l' x' y') a' b' a b D wv (lnB_pts h2).1 (lnB_pts h2).2 (lnB_pts h1).2 hD
  clear kd hD hp hp'
  have HR := Lib.hid (hn_def a b x y l a' b' x' y' l' D)
  generalize hnR a b x y l a' b' x' y' l' D = R at *
  generalize hnK a b x y l a' b' x' y' l' = C at *
  generalize snV a x l x y = sx at *
  generalize snV b y l x y = sy at *
  generalize snV a' x' l' x' y' = tx at *
  generalize snV b' y' l' x' y' = ty at *
  generalize lnB sx sy a b = L1 at *
  generalize lnB tx ty a' b' = L2 at *
  generalize meetV sx sy a b tx ty a' b' = M at *
  generalize nearB sx sy a b tx ty D = N1 at *
  generalize nearB sx sy a b a' b' D = N2 at *
  generalize nearB tx ty a' b' sx sy D = N3 at *
  generalize nearB tx ty a' b' a b D = N4 at *
  have KS := Lib.hid kS
  have KT := Lib.hid kT
  have HM := Lib.hid kM
  have H5 := Lib.hid k5
  have H6 := Lib.hid k6
  have H7 := Lib.hid k7
  have H8 := Lib.hid k8
  clear k5 k6 k7 k8
  clear kS kT kM
  have B1 := (bx5 w a b x y l).alloc (.cells #[.int .i64 a', .int .i64 b', .int .i64 x', .int .i64 y', .int .i64 l'] 86)
  have B2 := bx5 (w.alloc (.cells #[.int .i64 a, .int .i64 b, .int .i64 x, .int .i64 y, .int .i64 l] 86)) a' b' x' y' l'
  simp only [World.size_alloc] at B2
  have Q0 : Q w ((w.alloc (.cells #[.int .i64 a, .int .i64 b, .int .i64 x, .int .i64 y, .int .i64 l] 86)).alloc (.cells #[.int .i64 a', .int .i64 b', .int .i64 x', .int .i64 y', .int .i64 l'] 86)) := by (repeat (first | assumption | exact Q.refl _ | refine Q.alloc ?_ _ | refine Q.drewN ?_ _ | refine Q.drew ?_))
  clear h hl h' hl'
  have c1 := B1.cell
  have c2 := B2.cell
  go_enter Tryz.func62, Tryz.ntmps62
  go_wp2_with fail
  refine (K1.out _).mono ?_
  rintro e1 w1 ⟨rfl, q1⟩
  replace Q0 := Q0.trans q1
  replace B1 := B1.q q1
  replace B2 := B2.q q1
  clear q1 K1 c1 c2
  have c1 := B1.cell
  have c2 := B2.cell
  have l1 := B1.lt
  have l2 := B2.lt
  go_wp2_with fail
  refine (K1b.out _).mono ?_
  rintro e2 wo ⟨rfl, q1⟩
  replace Q0 := Q0.trans q1
  replace B1 := B1.q q1
  replace B2 := B2.q q1
  clear q1 K1b c1 c2 l1 l2
  go_upto_region 3 with (fail)
  have zo := Q0.size
  have l1 := B1.lt
  have l2 := B2.lt
  go_cut [8, 9] from 19 (fun p q wc => SgsAt wo wc 106 (.int .i64 sx) (.int .i64 sy) (.int .i64 a) (.int .i64 b) (.int .i64 tx) (.int .i64 ty) (.int .i64 a') (.int .i64 b') p q)
  case first =>
    have hS : ∀ w', Q wo w' → (Q wo w' ∧ w'.cell? ⟨w.heap.size, 0, none⟩ = some (.int .i64 a) ∧ w'.cell? ⟨w.heap.size, 1, none⟩ = some (.int .i64 b) ∧ w'.cell? ⟨w.heap.size, 2, none⟩ = some (.int .i64 x) ∧ w'.cell? ⟨w.heap.size, 3, none⟩ = some (.int .i64 y) ∧ w'.cell? ⟨w.heap.size, 4, none⟩ = some (.int .i64 l) ∧ w'.cell? ⟨w.heap.size + 1, 0, none⟩ = some (.int .i64 a') ∧ w'.cell? ⟨w.heap.size + 1, 1, none⟩ = some (.int .i64 b') ∧ w'.cell? ⟨w.heap.size + 1, 2, none⟩ = some (.int .i64 x') ∧ w'.cell? ⟨w.heap.size + 1, 3, none⟩ = some (.int .i64 y') ∧ w'.cell? ⟨w.heap.size + 1, 4, none⟩ = some (.int .i64 l')) := fun w' q => ⟨q, (B1.q q).cell 0, (B1.q q).cell 1, (B1.q q).cell 2, (B1.q q).cell 3, (B1.q q).cell 4, (B2.q q).cell 0, (B2.q q).cell 1, (B2.q q).cell 2, (B2.q q).cell 3, (B2.q q).cell 4⟩
    go_region_held3 (fun w' => Q wo w' ∧ w'.cell? ⟨w.heap.size, 0, none⟩ = some (.int .i64 a) ∧ w'.cell? ⟨w.heap.size, 1, none⟩ = some (.int .i64 b) ∧ w'.cell? ⟨w.heap.size, 2, none⟩ = some (.int .i64 x) ∧ w'.cell? ⟨w.heap.size, 3, none⟩ = some (.int .i64 y) ∧ w'.cell? ⟨w.heap.size, 4, none⟩ = some (.int .i64 l) ∧ w'.cell? ⟨w.heap.size + 1, 0, none⟩ = some (.int .i64 a') ∧ w'.cell? ⟨w.heap.size + 1, 1, none⟩ = some (.int .i64 b') ∧ w'.cell? ⟨w.heap.size + 1, 2, none⟩ = some (.int .i64 x') ∧ w'.cell? ⟨w.heap.size + 1, 3, none⟩ = some (.int .i64 y') ∧ w'.cell? ⟨w.heap.size + 1, 4, none⟩ = some (.int .i64 l')) (first | exact hS _ (by (repeat (first | with_reducible assumption | with_reducible exact Q.refl _ | with_reducible refine Q.alloc ?_ _ | with_reducible refine Q.drewN ?_ _ | with_reducible refine Q.drew ?_ | with_reducible refine Q.setCell ?_ (by first | with_reducible exact Nat.le_refl _ | (simp only; omega) | (simp; done) | (simp; omega)) _))) | (go_split_ands; exact hS _ (by (repeat (first | with_reducible assumption | with_reducible exact Q.refl _ | with_reducible refine Q.alloc ?_ _ | with_reducible refine Q.drewN ?_ _ | with_reducible refine Q.drew ?_ | with_reducible refine Q.setCell ?_ (by first | with_reducible exact Nat.le_refl _ | (simp only; omega) | (simp; done) | (simp; omega)) _))))) (first | (have q50 := q5; go_at_call 83; refine (K3.out _).mono ?_; rintro e w6 ⟨rfl, q6⟩; have QR : Q wo w6 := Q.trans (by (repeat (first | with_reducible assumption | with_reducible exact Q.refl _ | with_reducible refine Q.alloc ?_ _ | with_reducible refine Q.drewN ?_ _ | with_reducible refine Q.drew ?_ | with_reducible refine Q.setCell ?_ (by first | with_reducible exact Nat.le_refl _ | (simp only; omega) | (simp; done) | (simp; omega)) _))) q6; have zr := QR.size; (first | (have X1 := Y1.q q6; have X1c := X1.cell; have X1f := X1.frozen; have X1l := X1.lt) | (have X1 := (Y1.alloc _).q q6; have X1c := X1.cell; have X1f := X1.frozen; have X1l := X1.lt) | (have X1 := ((Y1.alloc _).alloc _).q q6; have X1c := X1.cell; have X1f := X1.frozen; have X1l := X1.lt) | skip); (first | (have X2 := Y2.q q6; have X2c := X2.cell; have X2f := X2.frozen; have X2l := X2.lt) | (have X2 := (Y2.alloc _).q q6; have X2c := X2.cell; have X2f := X2.frozen; have X2l := X2.lt) | (have X2 := ((Y2.alloc _).alloc _).q q6; have X2c := X2.cell; have X2f := X2.frozen; have X2l := X2.lt) | skip); (first | (have X3 := (q6).boxB2; have X40 := (q6).boxB; have X3c := X3.cell; have X3f := X3.frozen; have X3l := X3.lt; simp only [World.size_alloc] at X40; have X4 := X40; have X4c := X4.cell; have X4f := X4.frozen; have X4l := X4.lt) | (have X3 := (q6).boxB; have X3c := X3.cell; have X3f := X3.frozen; have X3l := X3.lt) | (have X3 := (Q.trans ((Q.refl _).drew) q6).boxB2; have X40 := (Q.trans ((Q.refl _).drew) q6).boxB; have X3c := X3.cell; have X3f := X3.frozen; have X3l := X3.lt; simp only [World.size_alloc] at X40; have X4 := X40; have X4c := X4.cell; have X4f := X4.frozen; have X4l := X4.lt) | (have X3 := (Q.trans ((Q.refl _).drew) q6).boxB; have X3c := X3.cell; have X3f := X3.frozen; have X3l := X3.lt) | skip)) | (go_at_call 83; refine (K2.out _).mono ?_; rintro e w5 ⟨rfl, q5⟩; have QR : Q wo w5 := Q.trans (by (repeat (first | with_reducible assumption | with_reducible exact Q.refl _ | with_reducible refine Q.alloc ?_ _ | with_reducible refine Q.drewN ?_ _ | with_reducible refine Q.drew ?_ | with_reducible refine Q.setCell ?_ (by first | with_reducible exact Nat.le_refl _ | (simp only; omega) | (simp; done) | (simp; omega)) _))) q5; have zr := QR.size; (first | (have Y1 := (q5).boxB2; have Y20 := (q5).boxB; have Y1c := Y1.cell; have Y1f := Y1.frozen; have Y1l := Y1.lt; simp only [World.size_alloc] at Y20; have Y2 := Y20; have Y2c := Y2.cell; have Y2f := Y2.frozen; have Y2l := Y2.lt) | (have Y1 := (q5).boxB; have Y1c := Y1.cell; have Y1f := Y1.frozen; have Y1l := Y1.lt) | (have Y1 := (Q.trans ((Q.refl _).drew) q5).boxB2; have Y20 := (Q.trans ((Q.refl _).drew) q5).boxB; have Y1c := Y1.cell; have Y1f := Y1.frozen; have Y1l := Y1.lt; simp only [World.size_alloc] at Y20; have Y2 := Y20; have Y2c := Y2.cell; have Y2f := Y2.frozen; have Y2l := Y2.lt) | (have Y1 := (Q.trans ((Q.refl _).drew) q5).boxB; have Y1c := Y1.cell; have Y1f := Y1.frozen; have Y1l := Y1.lt) | skip)))
    all_goals (go_wp2_with fail; go_meet)
    all_goals clear hS
    all_goals first | with_reducible exact sg_s0a QR | with_reducible exact sg_s0b QR | with_reducible exact sg_s1a X3 QR (by omega) | with_reducible exact sg_s1b X3 QR (by omega) | with_reducible exact sg_s1a X1 QR (by omega) | with_reducible exact sg_s1b X1 QR (by omega) | with_reducible exact sg_s2 X3 X4 QR (by omega) (by omega) (by omega) | with_reducible exact sg_s2 X4 X3 QR (by omega) (by omega) (by omega) | with_reducible exact sg_s2 X1 X3 QR (by omega) (by omega) (by omega) | with_reducible exact sg_s2 X3 X1 QR (by omega) (by omega) (by omega) | with_reducible exact sg_s2 X1 X2 QR (by omega) (by omega) (by omega) | with_reducible exact sg_s2 X2 X1 QR (by omega) (by omega) (by omega)
  case rest =>
    clear l1 l2
    obtain ⟨b8, b9, rfl, rfl, B8, B9, QC⟩ := hcut
    replace Q0 := Q0.trans QC
    clear QC zo B1 B2 K2 K3
    have c8 := B8.cell
    have c9 := B9.cell
    have l8 := B8.lt
    have l9 := B9.lt
    go_wp2_with fail
    refine (KD.out _).mono ?_
    rintro e0 w0 ⟨rfl, rfl⟩
    go_wp2_with fail
    refine (KS.out _).mono ?_
    rintro e11 w11 ⟨rfl, q11⟩
    replace B8 := B8.q q11
    replace B9 := B9.q q11
    replace Q0 := Q0.trans q11
    clear q11
    try clear c8 c9 l8 l9
    have c8 := B8.cell
    have c9 := B9.cell
    have l8 := B8.lt
    have l9 := B9.lt
    cases L1 with
    | false =>
      go_wp2_with fail
      go_ret2
      exact ⟨by rw [HR.out.1, HR.out.2]; simp [*], Q0⟩
    | true =>
      go_wp2_with fail
      refine (KT.out _).mono ?_
      rintro e12 w12 ⟨rfl, q12⟩
      replace B8 := B8.q q12
      replace B9 := B9.q q12
      replace Q0 := Q0.trans q12
      clear q12
      try clear c8 c9 l8 l9
      have c8 := B8.cell
      have c9 := B9.cell
      have l8 := B8.lt
      have l9 := B9.lt
      cases L2 with
      | false =>
        go_wp2_with fail
        go_ret2
        exact ⟨by rw [HR.out.1, HR.out.2]; simp [*], Q0⟩
      | true =>
        have KM := Lib.hid (fun wv => HM.out wv (by trivial) (by trivial))
        have K5 := Lib.hid (fun wv => H5.out wv (by trivial) (by trivial))
        have K6 := Lib.hid (fun wv => H6.out wv (by trivial) (by trivial))
        have K7 := Lib.hid (fun wv => H7.out wv (by trivial) (by trivial))
        have K8 := Lib.hid (fun wv => H8.out wv (by trivial) (by trivial))
        go_wp2_with fail
        refine (KM.out _).mono ?_
        rintro e13 w13 ⟨rfl, q13⟩
        replace B8 := B8.q q13
        replace B9 := B9.q q13
        replace Q0 := Q0.trans q13
        clear q13
        try clear c8 c9 l8 l9
        have c8 := B8.cell
        have c9 := B9.cell
        have l8 := B8.lt
        have l9 := B9.lt
        cases M with
        | true =>
          go_wp2_with fail
          go_ret2
          exact ⟨by rw [HR.out.1, HR.out.2]; simp [*], Q0⟩
        | false =>
          go_wp2_with fail
          refine (K5.out _).mono ?_
          rintro e14 w14 ⟨rfl, q14⟩
          replace B8 := B8.q q14
          replace B9 := B9.q q14
          replace Q0 := Q0.trans q14
          clear q14
          try clear c8 c9 l8 l9
          have c8 := B8.cell
          have c9 := B9.cell
          have l8 := B8.lt
          have l9 := B9.lt
          cases N1 with
          | true =>
            go_wp2_with fail
            go_ret2
            exact ⟨by rw [HR.out.1, HR.out.2]; simp [*], Q0⟩
          | false =>
            go_wp2_with fail
            refine (K6.out _).mono ?_
            rintro e15 w15 ⟨rfl, q15⟩
            replace B8 := B8.q q15
            replace B9 := B9.q q15
            replace Q0 := Q0.trans q15
            clear q15
            try clear c8 c9 l8 l9
            have c8 := B8.cell
            have c9 := B9.cell
            have l8 := B8.lt
            have l9 := B9.lt
            cases N2 with
            | true =>
              go_wp2_with fail
              go_ret2
              exact ⟨by rw [HR.out.1, HR.out.2]; simp [*], Q0⟩
            | false =>
              go_wp2_with fail
              refine (K7.out _).mono ?_
              rintro e16 w16 ⟨rfl, q16⟩
              replace B8 := B8.q q16
              replace B9 := B9.q q16
              replace Q0 := Q0.trans q16
              clear q16
              try clear c8 c9 l8 l9
              have c8 := B8.cell
              have c9 := B9.cell
              have l8 := B8.lt
              have l9 := B9.lt
              cases N3 with
              | true =>
                go_wp2_with fail
                go_ret2
                exact ⟨by rw [HR.out.1, HR.out.2]; simp [*], Q0⟩
              | false =>
                go_wp2_with fail
                refine (K8.out _).mono ?_
                rintro e17 w17 ⟨rfl, q17⟩
                replace B8 := B8.q q17
                replace B9 := B9.q q17
                replace Q0 := Q0.trans q17
                clear q17
                try clear c8 c9 l8 l9
                have c8 := B8.cell
                have c9 := B9.cell
                have l8 := B8.lt
                have l9 := B9.lt
                go_wp2_with fail
                go_ret2
                exact ⟨by rw [HR.out.1, HR.out.2]; simp [*], Q0⟩
end Go.Proofs.YtkpdoikjfibflaaGreatDoor
