/- Walks: the ruling for two boats, as the program and the reference tell it. No condition. Walks: the ruling for two boats, as the reference tells it. No condition. -/
import Derived.Test.YtkpdoikjfibflaaGreatDoorUmF
namespace Go.Proofs.YtkpdoikjfibflaaGreatDoor
open Go.RowKit Go.WideShapes Go.ChangeShapes
theorem bxR (w : World) (wx wy a b x y l : Int) (ta : Bool) (a' b' x' y' l' : Int) (tb : Bool) :
    Blk ((((w.alloc (.cells #[.int .i64 wx, .int .i64 wy] 25)).alloc (.cells #[.int .i64 a, .int .i64 b, .int .i64 x, .int .i64 y, .int .i64 l, .bool ta] 92)).alloc (.cells #[.int .i64 a', .int .i64 b', .int .i64 x', .int .i64 y', .int .i64 l', .bool tb] 92)).alloc (.cells #[.int .i64 0, .int .i64 0] 73)) w.heap.size 25 #[.int .i64 wx, .int .i64 wy] ∧ Blk ((((w.alloc (.cells #[.int .i64 wx, .int .i64 wy] 25)).alloc (.cells #[.int .i64 a, .int .i64 b, .int .i64 x, .int .i64 y, .int .i64 l, .bool ta] 92)).alloc (.cells #[.int .i64 a', .int .i64 b', .int .i64 x', .int .i64 y', .int .i64 l', .bool tb] 92)).alloc (.cells #[.int .i64 0, .int .i64 0] 73)) (w.heap.size + 1) 92 #[.int .i64 a, .int .i64 b, .int .i64 x, .int .i64 y, .int .i64 l, .bool ta] ∧ Blk ((((w.alloc (.cells #[.int .i64 wx, .int .i64 wy] 25)).alloc (.cells #[.int .i64 a, .int .i64 b, .int .i64 x, .int .i64 y, .int .i64 l, .bool ta] 92)).alloc (.cells #[.int .i64 a', .int .i64 b', .int .i64 x', .int .i64 y', .int .i64 l', .bool tb] 92)).alloc (.cells #[.int .i64 0, .int .i64 0] 73)) (w.heap.size + 1 + 1) 92 #[.int .i64 a', .int .i64 b', .int .i64 x', .int .i64 y', .int .i64 l', .bool tb] ∧ Blk ((((w.alloc (.cells #[.int .i64 wx, .int .i64 wy] 25)).alloc (.cells #[.int .i64 a, .int .i64 b, .int .i64 x, .int .i64 y, .int .i64 l, .bool ta] 92)).alloc (.cells #[.int .i64 a', .int .i64 b', .int .i64 x', .int .i64 y', .int .i64 l', .bool tb] 92)).alloc (.cells #[.int .i64 0, .int .i64 0] 73)) (w.heap.size + 1 + 1 + 1) 73 #[.int .i64 0, .int .i64 0] :=
  ⟨(((Blk.new _ _ _).alloc _).alloc _).alloc _, by simpa using ((Blk.new (w.alloc (.cells #[.int .i64 wx, .int .i64 wy] 25)) 92 #[.int .i64 a, .int .i64 b, .int .i64 x, .int .i64 y, .int .i64 l, .bool ta]).alloc (.cells #[.int .i64 a', .int .i64 b', .int .i64 x', .int .i64 y', .int .i64 l', .bool tb] 92)).alloc (.cells #[.int .i64 0, .int .i64 0] 73),
    by simpa using (Blk.new ((w.alloc (.cells #[.int .i64 wx, .int .i64 wy] 25)).alloc (.cells #[.int .i64 a, .int .i64 b, .int .i64 x, .int .i64 y, .int .i64 l, .bool ta] 92)) 92 #[.int .i64 a', .int .i64 b', .int .i64 x', .int .i64 y', .int .i64 l', .bool tb]).alloc (.cells #[.int .i64 0, .int .i64 0] 73), by simpa using Blk.new (((w.alloc (.cells #[.int .i64 wx, .int .i64 wy] 25)).alloc (.cells #[.int .i64 a, .int .i64 b, .int .i64 x, .int .i64 y, .int .i64 l, .bool ta] 92)).alloc (.cells #[.int .i64 a', .int .i64 b', .int .i64 x', .int .i64 y', .int .i64 l', .bool tb] 92)) 73 #[.int .i64 0, .int .i64 0]⟩
section
variable {x y o v : Int}
theorem ruV_tf : ruV true false x y o v = (1, 1) := rfl
theorem ruV_ft : ruV false true x y o v = (2, 1) := rfl
theorem ruV_tt : ruV true true x y o v = (0, 5) := rfl
theorem ruV_x0 : ruV false false 0 y o v = (0, 5) := by simp [ruV]
theorem ruV_y0 : ruV false false x 0 o v = (0, 5) := by simp [ruV]
theorem ruV_ne (hx : x ≠ 0) (hy : y ≠ 0) (h : x ≠ y) : ruV false false x y o v = (x, 2) := by simp [ruV, hx, hy, h]
theorem ruV_1 (hx : x ≠ 0) : ruV false false x x 1 v = (2, 3) := by simp [ruV, hx]
theorem ruV_2 (hx : x ≠ 0) : ruV false false x x 2 v = (1, 3) := by simp [ruV, hx]
theorem ruV_3 (hx : x ≠ 0) : ruV false false x x 3 v = (0, 5) := by simp [ruV, hx]
theorem ruV_00 (hx : x ≠ 0) : ruV false false x x 0 0 = (0, 5) := by simp [ruV, hx]
theorem ruV_01 (hx : x ≠ 0) : ruV false false x x 0 1 = (1, 4) := by simp [ruV, hx]
theorem ruV_02 (hx : x ≠ 0) : ruV false false x x 0 2 = (2, 4) := by simp [ruV, hx]
end
theorem ovV_any (a b x y l a' b' x' y' l' : Int) : ovV a b x y l a' b' x' y' l' = 0 ∨ ovV a b x y l a' b' x' y' l' = 1 ∨ ovV a b x y l a' b' x' y' l' = 2 ∨ ovV a b x y l a' b' x' y' l' = 3 := by
  unfold ovV
  cases clB a b x y l a' b' <;> cases clB a' b' x' y' l' a b <;> simp
theorem spec_Unclear (w : World) : Calls Tryz.prog 88 #[] w fun e w' => e = .returned (.agg #[.int .i64 0, .int .i64 5]) ∧ Q w w' := by
  go_enter Tryz.func88, Tryz.ntmps88
  go_wp2
  exact bodyPost_ret (v := .agg #[.int .i64 0, .int .i64 5]) (by simp [results, Tryz.results88, go_sem]) rfl ⟨rfl, by (repeat (first | assumption | exact Q.refl _ | refine Q.alloc ?_ _ | refine Q.drewN ?_ _ | refine Q.drew ?_))⟩
set_option maxRecDepth 100000 in
set_option maxHeartbeats 4000000 in
theorem impl_rule (wx wy a b x y l : Int) (ta : Bool) (a' b' x' y' l' : Int) (tb : Bool) (w : World) (hw : wnd wx wy) (hp : pt a b) (h : hdOk x y) (hl : 1 ≤ l ∧ l ≤ 1000) (hp' : pt a' b') (h' : hdOk x' y') (hl' : 1 ≤ l' ∧ l' ≤ 1000) (R1 R2 : Int)
    (hR : (R1, R2) = ruV ta tb (tkV wx wy x y) (tkV wx wy x' y') (ovV a b x y l a' b' x' y' l') (wwV wx wy a b a' b')) :
    Calls Tryz.prog 58 #[.agg #[.int .i64 wx, .int .i64 wy], .agg #[.int .i64 a, .int .i64 b, .int .i64 x, .int .i64 y, .int .i64 l, .bool ta], .agg #[.int .i64 a', .int .i64 b', .int .i64 x', .int .i64 y', .int .i64 l', .bool tb]] w fun e w' => e = .returned (.agg #[.int .i64 R1, .int .i64 R2]) ∧ Q w w' := by
  have KT1 := Lib.hid (fun wv => impl_tackOf wx wy x y wv hw h.1)
  have KT2 := Lib.hid (fun wv => impl_tackOf wx wy x' y' wv hw h'.1)
  have KO := Lib.hid (fun wv => impl_over a b x y l a' b' x' y' l' wv hp h hl hp' h' hl')
  have KV := Lib.hid (fun wv => impl_windward wx wy a b x y l a' b' x' y' l' wv hw hp hp')
  have t1 := Lib.hid (tkV_any wx wy x y)
  have t2 := Lib.hid (tkV_any wx wy x' y')
  have o1 := Lib.hid (ovV_any a b x y l a' b' x' y' l')
  have v1 := Lib.hid (wwV_any wx wy a b a' b')
  have HR := Lib.hid hR
  clear hR hw hp h hl hp' h' hl'
  generalize tkV wx wy x y = X at *
  generalize tkV wx wy x' y' = Y at *
  generalize ovV a b x y l a' b' x' y' l' = O at *
  generalize wwV wx wy a b a' b' = V at *
  obtain ⟨B0, B1, B2, B3⟩ := bxR w wx wy a b x y l ta a' b' x' y' l' tb
  have Q0 : Q w ((((w.alloc (.cells #[.int .i64 wx, .int .i64 wy] 25)).alloc (.cells #[.int .i64 a, .int .i64 b, .int .i64 x, .int .i64 y, .int .i64 l, .bool ta] 92)).alloc (.cells #[.int .i64 a', .int .i64 b', .int .i64 x', .int .i64 y', .int .i64 l', .bool tb] 92)).alloc (.cells #[.int .i64 0, .int .i64 0] 73)) := by (repeat (first | assumption | exact Q.refl _ | refine Q.alloc ?_ _ | refine Q.drewN ?_ _ | refine Q.drew ?_))
  cases ta
  · cases tb
    · have B4 := Blk.new ((((w.alloc (.cells #[.int .i64 wx, .int .i64 wy] 25)).alloc (.cells #[.int .i64 a, .int .i64 b, .int .i64 x, .int .i64 y, .int .i64 l, .bool false] 92)).alloc (.cells #[.int .i64 a', .int .i64 b', .int .i64 x', .int .i64 y', .int .i64 l', .bool false] 92)).alloc (.cells #[.int .i64 0, .int .i64 0] 73)) 73 #[.int .i64 0, .int .i64 5]
      simp only [World.size_alloc] at B4
      replace B0 := B0.alloc (.cells #[.int .i64 0, .int .i64 5] 73)
      replace B1 := B1.alloc (.cells #[.int .i64 0, .int .i64 5] 73)
      replace B2 := B2.alloc (.cells #[.int .i64 0, .int .i64 5] 73)
      replace B3 := B3.alloc (.cells #[.int .i64 0, .int .i64 5] 73)
      replace Q0 := Q0.alloc (.cells #[.int .i64 0, .int .i64 5] 73)
      have L0 := later_cells B0.cell B0.lt
      have L1 := later_cells B1.cell B1.lt
      have L2 := later_cells B2.cell B2.lt
      have L3 := later_cells B3.cell B3.lt
      have L4 := later_cells B4.cell B4.lt
      go_enter Tryz.func58, Tryz.ntmps58
      go_wp2_with fail
      refine wp_region_later_lit (by kernel_rfl) (by kernel_rfl) ?_
      repeat (any_goals (first | go_big_quiet_step ((go_at_call 76; first | with_reducible exact later_call (KT1.out _) | with_reducible exact later_call (KT2.out _))) | quiet_step ((go_at_call 76; first | with_reducible exact later_call (KT1.out _) | with_reducible exact later_call (KT2.out _))) | (refine wpQuiet_step (fun K hK => ?_); go_simp; split <;> (refine hK _ ?_; clear hK K))))
      all_goals (refine wpQuiet_nil ?_; rintro _ ⟨⟨w2, q2⟩, rfl⟩; try dsimp only)
      clear L0 L1 L2 L3 L4
      replace B0 := B0.q q2
      replace B1 := B1.q q2
      replace B2 := B2.q q2
      replace B3 := B3.q q2
      replace B4 := B4.q q2
      replace Q0 := Q0.trans q2
      clear q2
      try clear c0
      try clear l0
      try clear c1
      try clear l1
      try clear c2
      try clear l2
      try clear c3
      try clear l3
      try clear c4
      try clear l4
      have c0 := B0.cell
      have l0 := B0.lt
      have c1 := B1.cell
      have l1 := B1.lt
      have c2 := B2.cell
      have l2 := B2.lt
      have c3 := B3.cell
      have l3 := B3.lt
      have c4 := B4.cell
      have l4 := B4.lt
      have f3 := B3.frozen
      have s1 := t1.out
      have s2 := t2.out
      clear t1 t2
      rcases s1 with hx | hx | hx
      all_goals subst hx
      · rcases s2 with hy | hy | hy
        all_goals subst hy
        · go_wp2_with fail
          have hr := HR.out
          rw [ruV_x0] at hr
          injection hr with hr1 hr2
          subst hr1
          subst hr2
          have F := ((B3.set_ 0 (.int .i64 0)).set_ 1 (.int .i64 5)).cell
          exact bodyPost_ret (v := .agg #[.int .i64 0, .int .i64 5]) (by simp [results, Tryz.results58, go_sem, F]) rfl ⟨rfl, (Q0.setCell (by simp; omega) _).setCell (by simp; omega) _⟩
        · go_wp2_with fail
          have hr := HR.out
          rw [ruV_x0] at hr
          injection hr with hr1 hr2
          subst hr1
          subst hr2
          have F := ((B3.set_ 0 (.int .i64 0)).set_ 1 (.int .i64 5)).cell
          exact bodyPost_ret (v := .agg #[.int .i64 0, .int .i64 5]) (by simp [results, Tryz.results58, go_sem, F]) rfl ⟨rfl, (Q0.setCell (by simp; omega) _).setCell (by simp; omega) _⟩
        · go_wp2_with fail
          have hr := HR.out
          rw [ruV_x0] at hr
          injection hr with hr1 hr2
          subst hr1
          subst hr2
          have F := ((B3.set_ 0 (.int .i64 0)).set_ 1 (.int .i64 5)).cell
          exact bodyPost_ret (v := .agg #[.int .i64 0, .int .i64 5]) (by simp [results, Tryz.results58, go_sem, F]) rfl ⟨rfl, (Q0.setCell (by simp; omega) _).setCell (by simp; omega) _⟩
      · rcases s2 with hy | hy | hy
        all_goals subst hy
        · go_wp2_with fail
          have hr := HR.out
          rw [ruV_y0] at hr
          injection hr with hr1 hr2
          subst hr1
          subst hr2
          have F := ((B3.set_ 0 (.int .i64 0)).set_ 1 (.int .i64 5)).cell
          exact bodyPost_ret (v := .agg #[.int .i64 0, .int .i64 5]) (by simp [results, Tryz.results58, go_sem, F]) rfl ⟨rfl, (Q0.setCell (by simp; omega) _).setCell (by simp; omega) _⟩
        · go_wp2_with fail
          refine (KO.out _).mono ?_
          rintro e3 w3 ⟨rfl, q3⟩
          replace B0 := B0.q q3
          replace B1 := B1.q q3
          replace B2 := B2.q q3
          replace B3 := B3.q q3
          replace B4 := B4.q q3
          replace Q0 := Q0.trans q3
          clear q3
          try clear c0
          try clear l0
          try clear c1
          try clear l1
          try clear c2
          try clear l2
          try clear c3
          try clear l3
          try clear c4
          try clear l4
          have c0 := B0.cell
          have l0 := B0.lt
          have c1 := B1.cell
          have l1 := B1.lt
          have c2 := B2.cell
          have l2 := B2.lt
          have c3 := B3.cell
          have l3 := B3.lt
          have c4 := B4.cell
          have l4 := B4.lt
          have f3 := B3.frozen
          have o2 := o1.out
          rcases o2 with ho | ho | ho | ho
          all_goals subst ho
          · go_wp2_with fail
            refine (KV.out _).mono ?_
            rintro e4 w4 ⟨rfl, q4⟩
            replace B0 := B0.q q4
            replace B1 := B1.q q4
            replace B2 := B2.q q4
            replace B3 := B3.q q4
            replace B4 := B4.q q4
            replace Q0 := Q0.trans q4
            clear q4
            try clear c0
            try clear l0
            try clear c1
            try clear l1
            try clear c2
            try clear l2
            try clear c3
            try clear l3
            try clear c4
            try clear l4
            have c0 := B0.cell
            have l0 := B0.lt
            have c1 := B1.cell
            have l1 := B1.lt
            have c2 := B2.cell
            have l2 := B2.lt
            have c3 := B3.cell
            have l3 := B3.lt
            have c4 := B4.cell
            have l4 := B4.lt
            have f3 := B3.frozen
            have v2 := v1.out
            rcases v2 with hv | hv | hv
            all_goals subst hv
            · go_wp2_with fail
              have hr := HR.out
              rw [ruV_00 (by decide)] at hr
              injection hr with hr1 hr2
              subst hr1
              subst hr2
              have F := ((B3.set_ 0 (.int .i64 0)).set_ 1 (.int .i64 5)).cell
              exact bodyPost_ret (v := .agg #[.int .i64 0, .int .i64 5]) (by simp [results, Tryz.results58, go_sem, F]) rfl ⟨rfl, (Q0.setCell (by simp; omega) _).setCell (by simp; omega) _⟩
            · go_wp2_with fail
              have hr := HR.out
              rw [ruV_01 (by decide)] at hr
              injection hr with hr1 hr2
              subst hr1
              subst hr2
              have F := ((B3.set_ 0 (.int .i64 1)).set_ 1 (.int .i64 4)).cell
              exact bodyPost_ret (v := .agg #[.int .i64 1, .int .i64 4]) (by simp [results, Tryz.results58, go_sem, F]) rfl ⟨rfl, (Q0.setCell (by simp; omega) _).setCell (by simp; omega) _⟩
            · go_wp2_with fail
              have hr := HR.out
              rw [ruV_02 (by decide)] at hr
              injection hr with hr1 hr2
              subst hr1
              subst hr2
              have F := ((B3.set_ 0 (.int .i64 2)).set_ 1 (.int .i64 4)).cell
              exact bodyPost_ret (v := .agg #[.int .i64 2, .int .i64 4]) (by simp [results, Tryz.results58, go_sem, F]) rfl ⟨rfl, (Q0.setCell (by simp; omega) _).setCell (by simp; omega) _⟩
          · go_wp2_with fail
            have hr := HR.out
            rw [ruV_1 (by decide)] at hr
            injection hr with hr1 hr2
            subst hr1
            subst hr2
            have F := ((B3.set_ 0 (.int .i64 2)).set_ 1 (.int .i64 3)).cell
            exact bodyPost_ret (v := .agg #[.int .i64 2, .int .i64 3]) (by simp [results, Tryz.results58, go_sem, F]) rfl ⟨rfl, (Q0.setCell (by simp; omega) _).setCell (by simp; omega) _⟩
          · go_wp2_with fail
            have hr := HR.out
            rw [ruV_2 (by decide)] at hr
            injection hr with hr1 hr2
            subst hr1
            subst hr2
            have F := ((B3.set_ 0 (.int .i64 1)).set_ 1 (.int .i64 3)).cell
            exact bodyPost_ret (v := .agg #[.int .i64 1, .int .i64 3]) (by simp [results, Tryz.results58, go_sem, F]) rfl ⟨rfl, (Q0.setCell (by simp; omega) _).setCell (by simp; omega) _⟩
          · go_wp2_with fail
            have hr := HR.out
            rw [ruV_3 (by decide)] at hr
            injection hr with hr1 hr2
            subst hr1
            subst hr2
            have F := ((B3.set_ 0 (.int .i64 0)).set_ 1 (.int .i64 5)).cell
            exact bodyPost_ret (v := .agg #[.int .i64 0, .int .i64 5]) (by simp [results, Tryz.results58, go_sem, F]) rfl ⟨rfl, (Q0.setCell (by simp; omega) _).setCell (by simp; omega) _⟩
        · go_wp2_with fail
          have hr := HR.out
          rw [ruV_ne (by decide) (by decide) (by decide)] at hr
          injection hr with hr1 hr2
          subst hr1
          subst hr2
          have F := ((B3.set_ 0 (.int .i64 1)).set_ 1 (.int .i64 2)).cell
          exact bodyPost_ret (v := .agg #[.int .i64 1, .int .i64 2]) (by simp [results, Tryz.results58, go_sem, F]) rfl ⟨rfl, (Q0.setCell (by simp; omega) _).setCell (by simp; omega) _⟩
      · rcases s2 with hy | hy | hy
        all_goals subst hy
        · go_wp2_with fail
          have hr := HR.out
          rw [ruV_y0] at hr
          injection hr with hr1 hr2
          subst hr1
          subst hr2
          have F := ((B3.set_ 0 (.int .i64 0)).set_ 1 (.int .i64 5)).cell
          exact bodyPost_ret (v := .agg #[.int .i64 0, .int .i64 5]) (by simp [results, Tryz.results58, go_sem, F]) rfl ⟨rfl, (Q0.setCell (by simp; omega) _).setCell (by simp; omega) _⟩
        · go_wp2_with fail
          have hr := HR.out
          rw [ruV_ne (by decide) (by decide) (by decide)] at hr
          injection hr with hr1 hr2
          subst hr1
          subst hr2
          have F := ((B3.set_ 0 (.int .i64 2)).set_ 1 (.int .i64 2)).cell
          exact bodyPost_ret (v := .agg #[.int .i64 2, .int .i64 2]) (by simp [results, Tryz.results58, go_sem, F]) rfl ⟨rfl, (Q0.setCell (by simp; omega) _).setCell (by simp; omega) _⟩
        · go_wp2_with fail
          refine (KO.out _).mono ?_
          rintro e3 w3 ⟨rfl, q3⟩
          replace B0 := B0.q q3
          replace B1 := B1.q q3
          replace B2 := B2.q q3
          replace B3 := B3.q q3
          replace B4 := B4.q q3
          replace Q0 := Q0.trans q3
          clear q3
          try clear c0
          try clear l0
          try clear c1
          try clear l1
          try clear c2
          try clear l2
          try clear c3
          try clear l3
          try clear c4
          try clear l4
          have c0 := B0.cell
          have l0 := B0.lt
          have c1 := B1.cell
          have l1 := B1.lt
          have c2 := B2.cell
          have l2 := B2.lt
          have c3 := B3.cell
          have l3 := B3.lt
          have c4 := B4.cell
          have l4 := B4.lt
          have f3 := B3.frozen
          have o2 := o1.out
          rcases o2 with ho | ho | ho | ho
          all_goals subst ho
          · go_wp2_with fail
            refine (KV.out _).mono ?_
            rintro e4 w4 ⟨rfl, q4⟩
            replace B0 := B0.q q4
            replace B1 := B1.q q4
            replace B2 := B2.q q4
            replace B3 := B3.q q4
            replace B4 := B4.q q4
            replace Q0 := Q0.trans q4
            clear q4
            try clear c0
            try clear l0
            try clear c1
            try clear l1
            try clear c2
            try clear l2
            try clear c3
            try clear l3
            try clear c4
            try clear l4
            have c0 := B0.cell
            have l0 := B0.lt
            have c1 := B1.cell
            have l1 := B1.lt
            have c2 := B2.cell
            have l2 := B2.lt
            have c3 := B3.cell
            have l3 := B3.lt
            have c4 := B4.cell
            have l4 := B4.lt
            have f3 := B3.frozen
            have v2 := v1.out
            rcases v2 with hv | hv | hv
            all_goals subst hv
            · go_wp2_with fail
              have hr := HR.out
              rw [ruV_00 (by decide)] at hr
              injection hr with hr1 hr2
              subst hr1
              subst hr2
              have F := ((B3.set_ 0 (.int .i64 0)).set_ 1 (.int .i64 5)).cell
              exact bodyPost_ret (v := .agg #[.int .i64 0, .int .i64 5]) (by simp [results, Tryz.results58, go_sem, F]) rfl ⟨rfl, (Q0.setCell (by simp; omega) _).setCell (by simp; omega) _⟩
            · go_wp2_with fail
              have hr := HR.out
              rw [ruV_01 (by decide)] at hr
              injection hr with hr1 hr2
              subst hr1
              subst hr2
              have F := ((B3.set_ 0 (.int .i64 1)).set_ 1 (.int .i64 4)).cell
              exact bodyPost_ret (v := .agg #[.int .i64 1, .int .i64 4]) (by simp [results, Tryz.results58, go_sem, F]) rfl ⟨rfl, (Q0.setCell (by simp; omega) _).setCell (by simp; omega) _⟩
            · go_wp2_with fail
              have hr := HR.out
              rw [ruV_02 (by decide)] at hr
              injection hr with hr1 hr2
              subst hr1
              subst hr2
              have F := ((B3.set_ 0 (.int .i64 2)).set_ 1 (.int .i64 4)).cell
              exact bodyPost_ret (v := .agg #[.int .i64 2, .int .i64 4]) (by simp [results, Tryz.results58, go_sem, F]) rfl ⟨rfl, (Q0.setCell (by simp; omega) _).setCell (by simp; omega) _⟩
          · go_wp2_with fail
            have hr := HR.out
            rw [ruV_1 (by decide)] at hr
            injection hr with hr1 hr2
            subst hr1
            subst hr2
            have F := ((B3.set_ 0 (.int .i64 2)).set_ 1 (.int .i64 3)).cell
            exact bodyPost_ret (v := .agg #[.int .i64 2, .int .i64 3]) (by simp [results, Tryz.results58, go_sem, F]) rfl ⟨rfl, (Q0.setCell (by simp; omega) _).setCell (by simp; omega) _⟩
          · go_wp2_with fail
            have hr := HR.out
            rw [ruV_2 (by decide)] at hr
            injection hr with hr1 hr2
            subst hr1
            subst hr2
            have F := ((B3.set_ 0 (.int .i64 1)).set_ 1 (.int .i64 3)).cell
            exact bodyPost_ret (v := .agg #[.int .i64 1, .int .i64 3]) (by simp [results, Tryz.results58, go_sem, F]) rfl ⟨rfl, (Q0.setCell (by simp; omega) _).setCell (by simp; omega) _⟩
          · go_wp2_with fail
            have hr := HR.out
            rw [ruV_3 (by decide)] at hr
            injection hr with hr1 hr2
            subst hr1
            subst hr2
            have F := ((B3.set_ 0 (.int .i64 0)).set_ 1 (.int .i64 5)).cell
            exact bodyPost_ret (v := .agg #[.int .i64 0, .int .i64 5]) (by simp [results, Tryz.results58, go_sem, F]) rfl ⟨rfl, (Q0.setCell (by simp; omega) _).setCell (by simp; omega) _⟩
    · go_enter Tryz.func58, Tryz.ntmps58
      go_wp2_with fail
      have hr := HR.out
      rw [ruV_ft] at hr
      injection hr with hr1 hr2
      subst hr1
      subst hr2
      exact bodyPost_ret (v := .agg #[.int .i64 2, .int .i64 1]) (by simp [results, Tryz.results58, go_sem]) rfl ⟨rfl, by (repeat (first | assumption | exact Q.refl _ | refine Q.alloc ?_ _ | refine Q.drewN ?_ _ | refine Q.drew ?_))⟩
  · cases tb
    · go_enter Tryz.func58, Tryz.ntmps58
      go_wp2_with fail
      have hr := HR.out
      rw [ruV_tf] at hr
      injection hr with hr1 hr2
      subst hr1
      subst hr2
      exact bodyPost_ret (v := .agg #[.int .i64 1, .int .i64 1]) (by simp [results, Tryz.results58, go_sem]) rfl ⟨rfl, by (repeat (first | assumption | exact Q.refl _ | refine Q.alloc ?_ _ | refine Q.drewN ?_ _ | refine Q.drew ?_))⟩
    · have B4 := Blk.new ((((w.alloc (.cells #[.int .i64 wx, .int .i64 wy] 25)).alloc (.cells #[.int .i64 a, .int .i64 b, .int .i64 x, .int .i64 y, .int .i64 l, .bool true] 92)).alloc (.cells #[.int .i64 a', .int .i64 b', .int .i64 x', .int .i64 y', .int .i64 l', .bool true] 92)).alloc (.cells #[.int .i64 0, .int .i64 0] 73)) 73 #[.int .i64 0, .int .i64 5]
      simp only [World.size_alloc] at B4
      replace B0 := B0.alloc (.cells #[.int .i64 0, .int .i64 5] 73)
      replace B1 := B1.alloc (.cells #[.int .i64 0, .int .i64 5] 73)
      replace B2 := B2.alloc (.cells #[.int .i64 0, .int .i64 5] 73)
      replace B3 := B3.alloc (.cells #[.int .i64 0, .int .i64 5] 73)
      replace Q0 := Q0.alloc (.cells #[.int .i64 0, .int .i64 5] 73)
      have L0 := later_cells B0.cell B0.lt
      have L1 := later_cells B1.cell B1.lt
      have L2 := later_cells B2.cell B2.lt
      have L3 := later_cells B3.cell B3.lt
      have L4 := later_cells B4.cell B4.lt
      go_enter Tryz.func58, Tryz.ntmps58
      go_wp2_with fail
      refine wp_region_later_lit (by kernel_rfl) (by kernel_rfl) ?_
      repeat (any_goals (first | go_big_quiet_step ((go_at_call 76; first | with_reducible exact later_call (KT1.out _) | with_reducible exact later_call (KT2.out _))) | quiet_step ((go_at_call 76; first | with_reducible exact later_call (KT1.out _) | with_reducible exact later_call (KT2.out _))) | (refine wpQuiet_step (fun K hK => ?_); go_simp; split <;> (refine hK _ ?_; clear hK K))))
      all_goals (refine wpQuiet_nil ?_; rintro _ ⟨⟨w2, q2⟩, rfl⟩; try dsimp only)
      clear L0 L1 L2 L3 L4
      replace B0 := B0.q q2
      replace B1 := B1.q q2
      replace B2 := B2.q q2
      replace B3 := B3.q q2
      replace B4 := B4.q q2
      replace Q0 := Q0.trans q2
      clear q2
      try clear c0
      try clear l0
      try clear c1
      try clear l1
      try clear c2
      try clear l2
      try clear c3
      try clear l3
      try clear c4
      try clear l4
      have c0 := B0.cell
      have l0 := B0.lt
      have c1 := B1.cell
      have l1 := B1.lt
      have c2 := B2.cell
      have l2 := B2.lt
      have c3 := B3.cell
      have l3 := B3.lt
      have c4 := B4.cell
      have l4 := B4.lt
      have f3 := B3.frozen
      go_wp2_with fail
      have hr := HR.out
      rw [ruV_tt] at hr
      injection hr with hr1 hr2
      subst hr1
      subst hr2
      have F := ((B3.set_ 0 (.int .i64 0)).set_ 1 (.int .i64 5)).cell
      exact bodyPost_ret (v := .agg #[.int .i64 0, .int .i64 5]) (by simp [results, Tryz.results58, go_sem, F]) rfl ⟨rfl, (Q0.setCell (by simp; omega) _).setCell (by simp; omega) _⟩
end Go.Proofs.YtkpdoikjfibflaaGreatDoor
namespace Go.Proofs.YtkpdoikjfibflaaGreatDoor
open Go.RowKit Go.WideShapes Go.ChangeShapes
set_option maxRecDepth 100000 in
set_option maxHeartbeats 4000000 in
theorem spec_rule (wx wy a b x y l : Int) (ta : Bool) (a' b' x' y' l' : Int) (tb : Bool) (w : World) (hw : wnd wx wy) (hp : pt a b) (h : hdOk x y) (hl : 1 ≤ l ∧ l ≤ 1000) (hp' : pt a' b') (h' : hdOk x' y') (hl' : 1 ≤ l' ∧ l' ≤ 1000) (R1 R2 : Int)
    (hR : (R1, R2) = ruV ta tb (tkV wx wy x y) (tkV wx wy x' y') (ovV a b x y l a' b' x' y' l') (wwV wx wy a b a' b')) :
    Calls Tryz.prog 64 #[.agg #[.int .i64 wx, .int .i64 wy], .agg #[.int .i64 a, .int .i64 b, .int .i64 x, .int .i64 y, .int .i64 l, .bool ta], .agg #[.int .i64 a', .int .i64 b', .int .i64 x', .int .i64 y', .int .i64 l', .bool tb]] w fun e w' => e = .returned (.agg #[.int .i64 R1, .int .i64 R2]) ∧ Q w w' := by
  have KT1 := Lib.hid (fun wv => spec_l08Tack wx wy x y wv hw h.1)
  have KT2 := Lib.hid (fun wv => spec_l08Tack wx wy x' y' wv hw h'.1)
  have KO := Lib.hid (fun wv => spec_over a b x y l a' b' x' y' l' wv hp h hl hp' h' hl')
  have KV := Lib.hid (fun wv => spec_windward wx wy a b x y l a' b' x' y' l' wv hw hp hp')
  have t1 := Lib.hid (tkV_any wx wy x y)
  have t2 := Lib.hid (tkV_any wx wy x' y')
  have o1 := Lib.hid (ovV_any a b x y l a' b' x' y' l')
  have v1 := Lib.hid (wwV_any wx wy a b a' b')
  have HR := Lib.hid hR
  clear hR hw hp h hl hp' h' hl'
  generalize tkV wx wy x y = X at *
  generalize tkV wx wy x' y' = Y at *
  generalize ovV a b x y l a' b' x' y' l' = O at *
  generalize wwV wx wy a b a' b' = V at *
  obtain ⟨B0, B1, B2, B3⟩ := bxR w wx wy a b x y l ta a' b' x' y' l' tb
  have Q0 : Q w ((((w.alloc (.cells #[.int .i64 wx, .int .i64 wy] 25)).alloc (.cells #[.int .i64 a, .int .i64 b, .int .i64 x, .int .i64 y, .int .i64 l, .bool ta] 92)).alloc (.cells #[.int .i64 a', .int .i64 b', .int .i64 x', .int .i64 y', .int .i64 l', .bool tb] 92)).alloc (.cells #[.int .i64 0, .int .i64 0] 73)) := by (repeat (first | assumption | exact Q.refl _ | refine Q.alloc ?_ _ | refine Q.drewN ?_ _ | refine Q.drew ?_))
  have KU := Lib.hid (fun wv => spec_Unclear wv)
  cases ta
  · cases tb
    · have L0 := later_cells B0.cell B0.lt
      have L1 := later_cells B1.cell B1.lt
      have L2 := later_cells B2.cell B2.lt
      have L3 := later_cells B3.cell B3.lt
      go_enter Tryz.func64, Tryz.ntmps64
      go_wp2_with fail
      refine wp_region_later_lit (by kernel_rfl) (by kernel_rfl) ?_
      repeat (any_goals (first | go_big_quiet_step ((go_at_call 89; first | with_reducible exact later_call (KT1.out _) | with_reducible exact later_call (KT2.out _))) | quiet_step ((go_at_call 89; first | with_reducible exact later_call (KT1.out _) | with_reducible exact later_call (KT2.out _))) | (refine wpQuiet_step (fun K hK => ?_); go_simp; split <;> (refine hK _ ?_; clear hK K))))
      all_goals (refine wpQuiet_nil ?_; rintro _ ⟨⟨w2, q2⟩, rfl⟩; try dsimp only)
      clear L0 L1 L2 L3
      replace B0 := B0.q q2
      replace B1 := B1.q q2
      replace B2 := B2.q q2
      replace B3 := B3.q q2
      replace Q0 := Q0.trans q2
      clear q2
      try clear c0
      try clear l0
      try clear c1
      try clear l1
      try clear c2
      try clear l2
      try clear c3
      try clear l3
      have c0 := B0.cell
      have l0 := B0.lt
      have c1 := B1.cell
      have l1 := B1.lt
      have c2 := B2.cell
      have l2 := B2.lt
      have c3 := B3.cell
      have l3 := B3.lt
      have f3 := B3.frozen
      have s1 := t1.out
      have s2 := t2.out
      clear t1 t2
      rcases s1 with hx | hx | hx
      all_goals subst hx
      · rcases s2 with hy | hy | hy
        all_goals subst hy
        · go_wp2_with fail
          refine (KU.out _).mono ?_
          rintro eu wu ⟨rfl, qu⟩
          replace B0 := B0.q qu
          replace B1 := B1.q qu
          replace B2 := B2.q qu
          replace B3 := B3.q qu
          replace Q0 := Q0.trans qu
          clear qu
          try clear c0
          try clear l0
          try clear c1
          try clear l1
          try clear c2
          try clear l2
          try clear c3
          try clear l3
          have c0 := B0.cell
          have l0 := B0.lt
          have c1 := B1.cell
          have l1 := B1.lt
          have c2 := B2.cell
          have l2 := B2.lt
          have c3 := B3.cell
          have l3 := B3.lt
          have f3 := B3.frozen
          go_wp2_with fail
          have hr := HR.out
          rw [ruV_x0] at hr
          injection hr with hr1 hr2
          subst hr1
          subst hr2
          have F := ((B3.set_ 0 (.int .i64 0)).set_ 1 (.int .i64 5)).cell
          exact bodyPost_ret (v := .agg #[.int .i64 0, .int .i64 5]) (by simp [results, Tryz.results64, go_sem, F]) rfl ⟨rfl, (Q0.setCell (by simp; omega) _).setCell (by simp; omega) _⟩
        · go_wp2_with fail
          refine (KU.out _).mono ?_
          rintro eu wu ⟨rfl, qu⟩
          replace B0 := B0.q qu
          replace B1 := B1.q qu
          replace B2 := B2.q qu
          replace B3 := B3.q qu
          replace Q0 := Q0.trans qu
          clear qu
          try clear c0
          try clear l0
          try clear c1
          try clear l1
          try clear c2
          try clear l2
          try clear c3
          try clear l3
          have c0 := B0.cell
          have l0 := B0.lt
          have c1 := B1.cell
          have l1 := B1.lt
          have c2 := B2.cell
          have l2 := B2.lt
          have c3 := B3.cell
          have l3 := B3.lt
          have f3 := B3.frozen
          go_wp2_with fail
          have hr := HR.out
          rw [ruV_x0] at hr
          injection hr with hr1 hr2
          subst hr1
          subst hr2
          have F := ((B3.set_ 0 (.int .i64 0)).set_ 1 (.int .i64 5)).cell
          exact bodyPost_ret (v := .agg #[.int .i64 0, .int .i64 5]) (by simp [results, Tryz.results64, go_sem, F]) rfl ⟨rfl, (Q0.setCell (by simp; omega) _).setCell (by simp; omega) _⟩
        · go_wp2_with fail
          refine (KU.out _).mono ?_
          rintro eu wu ⟨rfl, qu⟩
          replace B0 := B0.q qu
          replace B1 := B1.q qu
          replace B2 := B2.q qu
          replace B3 := B3.q qu
          replace Q0 := Q0.trans qu
          clear qu
          try clear c0
          try clear l0
          try clear c1
          try clear l1
          try clear c2
          try clear l2
          try clear c3
          try clear l3
          have c0 := B0.cell
          have l0 := B0.lt
          have c1 := B1.cell
          have l1 := B1.lt
          have c2 := B2.cell
          have l2 := B2.lt
          have c3 := B3.cell
          have l3 := B3.lt
          have f3 := B3.frozen
          go_wp2_with fail
          have hr := HR.out
          rw [ruV_x0] at hr
          injection hr with hr1 hr2
          subst hr1
          subst hr2
          have F := ((B3.set_ 0 (.int .i64 0)).set_ 1 (.int .i64 5)).cell
          exact bodyPost_ret (v := .agg #[.int .i64 0, .int .i64 5]) (by simp [results, Tryz.results64, go_sem, F]) rfl ⟨rfl, (Q0.setCell (by simp; omega) _).setCell (by simp; omega) _⟩
      · rcases s2 with hy | hy | hy
        all_goals subst hy
        · go_wp2_with fail
          refine (KU.out _).mono ?_
          rintro eu wu ⟨rfl, qu⟩
          replace B0 := B0.q qu
          replace B1 := B1.q qu
          replace B2 := B2.q qu
          replace B3 := B3.q qu
          replace Q0 := Q0.trans qu
          clear qu
          try clear c0
          try clear l0
          try clear c1
          try clear l1
          try clear c2
          try clear l2
          try clear c3
          try clear l3
          have c0 := B0.cell
          have l0 := B0.lt
          have c1 := B1.cell
          have l1 := B1.lt
          have c2 := B2.cell
          have l2 := B2.lt
          have c3 := B3.cell
          have l3 := B3.lt
          have f3 := B3.frozen
          go_wp2_with fail
          have hr := HR.out
          rw [ruV_y0] at hr
          injection hr with hr1 hr2
          subst hr1
          subst hr2
          have F := ((B3.set_ 0 (.int .i64 0)).set_ 1 (.int .i64 5)).cell
          exact bodyPost_ret (v := .agg #[.int .i64 0, .int .i64 5]) (by simp [results, Tryz.results64, go_sem, F]) rfl ⟨rfl, (Q0.setCell (by simp; omega) _).setCell (by simp; omega) _⟩
        · go_wp2_with fail
          refine (KO.out _).mono ?_
          rintro e3 w3 ⟨rfl, q3⟩
          replace B0 := B0.q q3
          replace B1 := B1.q q3
          replace B2 := B2.q q3
          replace B3 := B3.q q3
          replace Q0 := Q0.trans q3
          clear q3
          try clear c0
          try clear l0
          try clear c1
          try clear l1
          try clear c2
          try clear l2
          try clear c3
          try clear l3
          have c0 := B0.cell
          have l0 := B0.lt
          have c1 := B1.cell
          have l1 := B1.lt
          have c2 := B2.cell
          have l2 := B2.lt
          have c3 := B3.cell
          have l3 := B3.lt
          have f3 := B3.frozen
          have o2 := o1.out
          rcases o2 with ho | ho | ho | ho
          all_goals subst ho
          · go_wp2_with fail
            refine (KV.out _).mono ?_
            rintro e4 w4 ⟨rfl, q4⟩
            replace B0 := B0.q q4
            replace B1 := B1.q q4
            replace B2 := B2.q q4
            replace B3 := B3.q q4
            replace Q0 := Q0.trans q4
            clear q4
            try clear c0
            try clear l0
            try clear c1
            try clear l1
            try clear c2
            try clear l2
            try clear c3
            try clear l3
            have c0 := B0.cell
            have l0 := B0.lt
            have c1 := B1.cell
            have l1 := B1.lt
            have c2 := B2.cell
            have l2 := B2.lt
            have c3 := B3.cell
            have l3 := B3.lt
            have f3 := B3.frozen
            have v2 := v1.out
            rcases v2 with hv | hv | hv
            all_goals subst hv
            · go_wp2_with fail
              refine (KU.out _).mono ?_
              rintro eu wu ⟨rfl, qu⟩
              replace B0 := B0.q qu
              replace B1 := B1.q qu
              replace B2 := B2.q qu
              replace B3 := B3.q qu
              replace Q0 := Q0.trans qu
              clear qu
              try clear c0
              try clear l0
              try clear c1
              try clear l1
              try clear c2
              try clear l2
              try clear c3
              try clear l3
              have c0 := B0.cell
              have l0 := B0.lt
              have c1 := B1.cell
              have l1 := B1.lt
              have c2 := B2.cell
              have l2 := B2.lt
              have c3 := B3.cell
              have l3 := B3.lt
              have f3 := B3.frozen
              go_wp2_with fail
              have hr := HR.out
              rw [ruV_00 (by decide)] at hr
              injection hr with hr1 hr2
              subst hr1
              subst hr2
              have F := ((B3.set_ 0 (.int .i64 0)).set_ 1 (.int .i64 5)).cell
              exact bodyPost_ret (v := .agg #[.int .i64 0, .int .i64 5]) (by simp [results, Tryz.results64, go_sem, F]) rfl ⟨rfl, (Q0.setCell (by simp; omega) _).setCell (by simp; omega) _⟩
            · go_wp2_with fail
              have hr := HR.out
              rw [ruV_01 (by decide)] at hr
              injection hr with hr1 hr2
              subst hr1
              subst hr2
              have F := ((B3.set_ 0 (.int .i64 1)).set_ 1 (.int .i64 4)).cell
              exact bodyPost_ret (v := .agg #[.int .i64 1, .int .i64 4]) (by simp [results, Tryz.results64, go_sem, F]) rfl ⟨rfl, (Q0.setCell (by simp; omega) _).setCell (by simp; omega) _⟩
            · go_wp2_with fail
              have hr := HR.out
              rw [ruV_02 (by decide)] at hr
              injection hr with hr1 hr2
              subst hr1
              subst hr2
              have F := ((B3.set_ 0 (.int .i64 2)).set_ 1 (.int .i64 4)).cell
              exact bodyPost_ret (v := .agg #[.int .i64 2, .int .i64 4]) (by simp [results, Tryz.results64, go_sem, F]) rfl ⟨rfl, (Q0.setCell (by simp; omega) _).setCell (by simp; omega) _⟩
          · go_wp2_with fail
            have hr := HR.out
            rw [ruV_1 (by decide)] at hr
            injection hr with hr1 hr2
            subst hr1
            subst hr2
            have F := ((B3.set_ 0 (.int .i64 2)).set_ 1 (.int .i64 3)).cell
            exact bodyPost_ret (v := .agg #[.int .i64 2, .int .i64 3]) (by simp [results, Tryz.results64, go_sem, F]) rfl ⟨rfl, (Q0.setCell (by simp; omega) _).setCell (by simp; omega) _⟩
          · go_wp2_with fail
            have hr := HR.out
            rw [ruV_2 (by decide)] at hr
            injection hr with hr1 hr2
            subst hr1
            subst hr2
            have F := ((B3.set_ 0 (.int .i64 1)).set_ 1 (.int .i64 3)).cell
            exact bodyPost_ret (v := .agg #[.int .i64 1, .int .i64 3]) (by simp [results, Tryz.results64, go_sem, F]) rfl ⟨rfl, (Q0.setCell (by simp; omega) _).setCell (by simp; omega) _⟩
          · go_wp2_with fail
            refine (KU.out _).mono ?_
            rintro eu wu ⟨rfl, qu⟩
            replace B0 := B0.q qu
            replace B1 := B1.q qu
            replace B2 := B2.q qu
            replace B3 := B3.q qu
            replace Q0 := Q0.trans qu
            clear qu
            try clear c0
            try clear l0
            try clear c1
            try clear l1
            try clear c2
            try clear l2
            try clear c3
            try clear l3
            have c0 := B0.cell
            have l0 := B0.lt
            have c1 := B1.cell
            have l1 := B1.lt
            have c2 := B2.cell
            have l2 := B2.lt
            have c3 := B3.cell
            have l3 := B3.lt
            have f3 := B3.frozen
            go_wp2_with fail
            have hr := HR.out
            rw [ruV_3 (by decide)] at hr
            injection hr with hr1 hr2
            subst hr1
            subst hr2
            have F := ((B3.set_ 0 (.int .i64 0)).set_ 1 (.int .i64 5)).cell
            exact bodyPost_ret (v := .agg #[.int .i64 0, .int .i64 5]) (by simp [results, Tryz.results64, go_sem, F]) rfl ⟨rfl, (Q0.setCell (by simp; omega) _).setCell (by simp; omega) _⟩
        · go_wp2_with fail
          have hr := HR.out
          rw [ruV_ne (by decide) (by decide) (by decide)] at hr
          injection hr with hr1 hr2
          subst hr1
          subst hr2
          have F := ((B3.set_ 0 (.int .i64 1)).set_ 1 (.int .i64 2)).cell
          exact bodyPost_ret (v := .agg #[.int .i64 1, .int .i64 2]) (by simp [results, Tryz.results64, go_sem, F]) rfl ⟨rfl, (Q0.setCell (by simp; omega) _).setCell (by simp; omega) _⟩
      · rcases s2 with hy | hy | hy
        all_goals subst hy
        · go_wp2_with fail
          refine (KU.out _).mono ?_
          rintro eu wu ⟨rfl, qu⟩
          replace B0 := B0.q qu
          replace B1 := B1.q qu
          replace B2 := B2.q qu
          replace B3 := B3.q qu
          replace Q0 := Q0.trans qu
          clear qu
          try clear c0
          try clear l0
          try clear c1
          try clear l1
          try clear c2
          try clear l2
          try clear c3
          try clear l3
          have c0 := B0.cell
          have l0 := B0.lt
          have c1 := B1.cell
          have l1 := B1.lt
          have c2 := B2.cell
          have l2 := B2.lt
          have c3 := B3.cell
          have l3 := B3.lt
          have f3 := B3.frozen
          go_wp2_with fail
          have hr := HR.out
          rw [ruV_y0] at hr
          injection hr with hr1 hr2
          subst hr1
          subst hr2
          have F := ((B3.set_ 0 (.int .i64 0)).set_ 1 (.int .i64 5)).cell
          exact bodyPost_ret (v := .agg #[.int .i64 0, .int .i64 5]) (by simp [results, Tryz.results64, go_sem, F]) rfl ⟨rfl, (Q0.setCell (by simp; omega) _).setCell (by simp; omega) _⟩
        · go_wp2_with fail
          have hr := HR.out
          rw [ruV_ne (by decide) (by decide) (by decide)] at hr
          injection hr with hr1 hr2
          subst hr1
          subst hr2
          have F := ((B3.set_ 0 (.int .i64 2)).set_ 1 (.int .i64 2)).cell
          exact bodyPost_ret (v := .agg #[.int .i64 2, .int .i64 2]) (by simp [results, Tryz.results64, go_sem, F]) rfl ⟨rfl, (Q0.setCell (by simp; omega) _).setCell (by simp; omega) _⟩
        · go_wp2_with fail
          refine (KO.out _).mono ?_
          rintro e3 w3 ⟨rfl, q3⟩
          replace B0 := B0.q q3
          replace B1 := B1.q q3
          replace B2 := B2.q q3
          replace B3 := B3.q q3
          replace Q0 := Q0.trans q3
          clear q3
          try clear c0
          try clear l0
          try clear c1
          try clear l1
          try clear c2
          try clear l2
          try clear c3
          try clear l3
          have c0 := B0.cell
          have l0 := B0.lt
          have c1 := B1.cell
          have l1 := B1.lt
          have c2 := B2.cell
          have l2 := B2.lt
          have c3 := B3.cell
          have l3 := B3.lt
          have f3 := B3.frozen
          have o2 := o1.out
          rcases o2 with ho | ho | ho | ho
          all_goals subst ho
          · go_wp2_with fail
            refine (KV.out _).mono ?_
            rintro e4 w4 ⟨rfl, q4⟩
            replace B0 := B0.q q4
            replace B1 := B1.q q4
            replace B2 := B2.q q4
            replace B3 := B3.q q4
            replace Q0 := Q0.trans q4
            clear q4
            try clear c0
            try clear l0
            try clear c1
            try clear l1
            try clear c2
            try clear l2
            try clear c3
            try clear l3
            have c0 := B0.cell
            have l0 := B0.lt
            have c1 := B1.cell
            have l1 := B1.lt
            have c2 := B2.cell
            have l2 := B2.lt
            have c3 := B3.cell
            have l3 := B3.lt
            have f3 := B3.frozen
            have v2 := v1.out
            rcases v2 with hv | hv | hv
            all_goals subst hv
            · go_wp2_with fail
              refine (KU.out _).mono ?_
              rintro eu wu ⟨rfl, qu⟩
              replace B0 := B0.q qu
              replace B1 := B1.q qu
              replace B2 := B2.q qu
              replace B3 := B3.q qu
              replace Q0 := Q0.trans qu
              clear qu
              try clear c0
              try clear l0
              try clear c1
              try clear l1
              try clear c2
              try clear l2
              try clear c3
              try clear l3
              have c0 := B0.cell
              have l0 := B0.lt
              have c1 := B1.cell
              have l1 := B1.lt
              have c2 := B2.cell
              have l2 := B2.lt
              have c3 := B3.cell
              have l3 := B3.lt
              have f3 := B3.frozen
              go_wp2_with fail
              have hr := HR.out
              rw [ruV_00 (by decide)] at hr
              injection hr with hr1 hr2
              subst hr1
              subst hr2
              have F := ((B3.set_ 0 (.int .i64 0)).set_ 1 (.int .i64 5)).cell
              exact bodyPost_ret (v := .agg #[.int .i64 0, .int .i64 5]) (by simp [results, Tryz.results64, go_sem, F]) rfl ⟨rfl, (Q0.setCell (by simp; omega) _).setCell (by simp; omega) _⟩
            · go_wp2_with fail
              have hr := HR.out
              rw [ruV_01 (by decide)] at hr
              injection hr with hr1 hr2
              subst hr1
              subst hr2
              have F := ((B3.set_ 0 (.int .i64 1)).set_ 1 (.int .i64 4)).cell
              exact bodyPost_ret (v := .agg #[.int .i64 1, .int .i64 4]) (by simp [results, Tryz.results64, go_sem, F]) rfl ⟨rfl, (Q0.setCell (by simp; omega) _).setCell (by simp; omega) _⟩
            · go_wp2_with fail
              have hr := HR.out
              rw [ruV_02 (by decide)] at hr
              injection hr with hr1 hr2
              subst hr1
              subst hr2
              have F := ((B3.set_ 0 (.int .i64 2)).set_ 1 (.int .i64 4)).cell
              exact bodyPost_ret (v := .agg #[.int .i64 2, .int .i64 4]) (by simp [results, Tryz.results64, go_sem, F]) rfl ⟨rfl, (Q0.setCell (by simp; omega) _).setCell (by simp; omega) _⟩
          · go_wp2_with fail
            have hr := HR.out
            rw [ruV_1 (by decide)] at hr
            injection hr with hr1 hr2
            subst hr1
            subst hr2
            have F := ((B3.set_ 0 (.int .i64 2)).set_ 1 (.int .i64 3)).cell
            exact bodyPost_ret (v := .agg #[.int .i64 2, .int .i64 3]) (by simp [results, Tryz.results64, go_sem, F]) rfl ⟨rfl, (Q0.setCell (by simp; omega) _).setCell (by simp; omega) _⟩
          · go_wp2_with fail
            have hr := HR.out
            rw [ruV_2 (by decide)] at hr
            injection hr with hr1 hr2
            subst hr1
            subst hr2
            have F := ((B3.set_ 0 (.int .i64 1)).set_ 1 (.int .i64 3)).cell
            exact bodyPost_ret (v := .agg #[.int .i64 1, .int .i64 3]) (by simp [results, Tryz.results64, go_sem, F]) rfl ⟨rfl, (Q0.setCell (by simp; omega) _).setCell (by simp; omega) _⟩
          · go_wp2_with fail
            refine (KU.out _).mono ?_
            rintro eu wu ⟨rfl, qu⟩
            replace B0 := B0.q qu
            replace B1 := B1.q qu
            replace B2 := B2.q qu
            replace B3 := B3.q qu
            replace Q0 := Q0.trans qu
            clear qu
            try clear c0
            try clear l0
            try clear c1
            try clear l1
            try clear c2
            try clear l2
            try clear c3
            try clear l3
            have c0 := B0.cell
            have l0 := B0.lt
            have c1 := B1.cell
            have l1 := B1.lt
            have c2 := B2.cell
            have l2 := B2.lt
            have c3 := B3.cell
            have l3 := B3.lt
            have f3 := B3.frozen
            go_wp2_with fail
            have hr := HR.out
            rw [ruV_3 (by decide)] at hr
            injection hr with hr1 hr2
            subst hr1
            subst hr2
            have F := ((B3.set_ 0 (.int .i64 0)).set_ 1 (.int .i64 5)).cell
            exact bodyPost_ret (v := .agg #[.int .i64 0, .int .i64 5]) (by simp [results, Tryz.results64, go_sem, F]) rfl ⟨rfl, (Q0.setCell (by simp; omega) _).setCell (by simp; omega) _⟩
    · go_enter Tryz.func64, Tryz.ntmps64
      go_wp2_with fail
      have hr := HR.out
      rw [ruV_ft] at hr
      injection hr with hr1 hr2
      subst hr1
      subst hr2
      exact bodyPost_ret (v := .agg #[.int .i64 2, .int .i64 1]) (by simp [results, Tryz.results64, go_sem]) rfl ⟨rfl, by (repeat (first | assumption | exact Q.refl _ | refine Q.alloc ?_ _ | refine Q.drewN ?_ _ | refine Q.drew ?_))⟩
  · cases tb
    · go_enter Tryz.func64, Tryz.ntmps64
      go_wp2_with fail
      have hr := HR.out
      rw [ruV_tf] at hr
      injection hr with hr1 hr2
      subst hr1
      subst hr2
      exact bodyPost_ret (v := .agg #[.int .i64 1, .int .i64 1]) (by simp [results, Tryz.results64, go_sem]) rfl ⟨rfl, by (repeat (first | assumption | exact Q.refl _ | refine Q.alloc ?_ _ | refine Q.drewN ?_ _ | refine Q.drew ?_))⟩
    · have c0 := B0.cell
      go_enter Tryz.func64, Tryz.ntmps64
      go_wp2_with fail
      refine (KU.out _).mono ?_
      rintro eu wu ⟨rfl, qu⟩
      replace B0 := B0.q qu
      replace B1 := B1.q qu
      replace B2 := B2.q qu
      replace B3 := B3.q qu
      replace Q0 := Q0.trans qu
      clear qu
      try clear c0
      try clear l0
      try clear c1
      try clear l1
      try clear c2
      try clear l2
      try clear c3
      try clear l3
      have c0 := B0.cell
      have l0 := B0.lt
      have c1 := B1.cell
      have l1 := B1.lt
      have c2 := B2.cell
      have l2 := B2.lt
      have c3 := B3.cell
      have l3 := B3.lt
      have f3 := B3.frozen
      go_wp2_with fail
      have hr := HR.out
      rw [ruV_tt] at hr
      injection hr with hr1 hr2
      subst hr1
      subst hr2
      have F := ((B3.set_ 0 (.int .i64 0)).set_ 1 (.int .i64 5)).cell
      exact bodyPost_ret (v := .agg #[.int .i64 0, .int .i64 5]) (by simp [results, Tryz.results64, go_sem, F]) rfl ⟨rfl, (Q0.setCell (by simp; omega) _).setCell (by simp; omega) _⟩
end Go.Proofs.YtkpdoikjfibflaaGreatDoor
