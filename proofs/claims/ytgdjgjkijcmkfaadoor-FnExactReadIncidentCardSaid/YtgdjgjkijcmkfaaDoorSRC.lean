/- Walks: the reading of an incident, as the reference does it; the law on it. Condition of the law: what the library's variables hold (Env). -/
import Derived.Test.YtgdjgjkijcmkfaaDoorSRL
import Derived.Test.YtgdjgjkijcmkfaaDoorRcQ
import Derived.Test.YtgdjgjkijcmkfaaDoorRcI
import Derived.Test.YtgdjgjkijcmkfaaDoorIncS
import Derived.Test.YtgdjgjkijcmkfaaDoorEqIncident
namespace Go.Proofs.YtgdjgjkijcmkfaaDoor
open Go.RowKit Go.WideShapes Go.ChangeShapes Go.Deep
set_option maxRecDepth 100000 in
set_option maxHeartbeats 4000000 in
theorem spec_RI4 (s x y z u : ByteArray) (hP : pcs 32 s = [x, y, z, u]) (t a b q r : Int) (k : Bool) (h : IncR s t a b q r k) (hs : s.size ≤ 1048576) (w : World) :
    Calls Tryd.prog 47 #[.string s] w fun e w' => e = .returned (.tuple #[.agg #[.int .i64 t, .int .i64 a, .int .i64 b, .int .i64 q, .int .i64 r], .bool k]) ∧ Q w w' := by
  have R0 := Blk.new w 38 #[.int .i64 0, .int .i64 0, .int .i64 0, .int .i64 0, .int .i64 0]
  have Q0 : Q w (w.alloc (.cells #[.int .i64 0, .int .i64 0, .int .i64 0, .int .i64 0, .int .i64 0] 38)) := by (repeat (first | assumption | exact Q.refl _ | refine Q.alloc ?_ _ | refine Q.drewN ?_ _ | refine Q.drew ?_))
  have K0 := Lib.hid (fun wv => words_own s hs _ hP wv)
  have hall : ∀ pp ∈ [x, y, z, u], pp.size ≤ 1048576 := fun pp hz => Nat.le_trans (pcs_le (by rw [hP]; exact hz)) hs
  obtain ⟨t1, k1, r1⟩ := TimR.ex x
  obtain ⟨v1, k2, r2⟩ := NumR.ex pS y
  obtain ⟨v2, k3, r3⟩ := NumR.ex pS z
  have K1 := Lib.hid (fun wv => spec_ReadTime x t1 k1 r1 (hall x (by simp)) wv)
  have K2 := Lib.hid (fun wv => spec_Value y v1 k2 r2 (hall y (by simp)) wv)
  have K3 := Lib.hid (fun wv => spec_Value z v2 k3 r3 (hall z (by simp)) wv)
  have HO := Lib.hid (h.out4 hP r1 r2 r3)
  clear h r1 r2 r3 hall hs hP
  go_enter Tryd.func47, Tryd.ntmps47
  go_wp2_with fail
  refine (K0.out _).mono ?_
  rintro e w1 ⟨g, d, rfl, cj, hd, l1, q1⟩
  simp only [List.length_cons, List.length_nil, Nat.zero_add, Nat.reduceAdd] at hd ⊢
  have Q1 := Q0.trans q1
  replace R0 := R0.q q1
  have c0 := cj 0 x rfl
  have c1 := cj 1 y rfl
  have c2 := cj 2 z rfl
  clear Q0 q1 K0 cj
  go_wp2_with fail
  refine (K1.out _).mono ?_
  rintro e w2 ⟨rfl, q2⟩
  have Q2 := Q1.trans q2
  replace R0 := R0.q q2
  replace l1 := Nat.lt_of_lt_of_le l1 q2.size
  replace c1 := q2.cell c1
  replace c2 := q2.cell c2
  clear Q1 q2 c0
  go_wp2_with fail
  refine (K2.out _).mono ?_
  rintro e w3 ⟨rfl, q3⟩
  have Q3 := Q2.trans q3
  replace R0 := R0.q q3
  replace l1 := Nat.lt_of_lt_of_le l1 q3.size
  replace c2 := q3.cell c2
  clear Q2 q3 c1
  go_wp2_with fail
  refine (K3.out _).mono ?_
  rintro e w4 ⟨rfl, q4⟩
  have Q4 := Q3.trans q4
  replace R0 := R0.q q4
  replace l1 := Nat.lt_of_lt_of_le l1 q4.size
  clear Q3 q4 c2
  have hwb : w.heap.size < w4.heap.size := R0.lt
  go_upto_region 15 with (fail)
  have BX := Blk.new w4 38 #[.int .i64 t1, .int .i64 v1, .int .i64 v2, .int .i64 (-1), .int .i64 5]
  have Q5 := Q4.alloc (.cells #[.int .i64 t1, .int .i64 v1, .int .i64 v2, .int .i64 (-1), .int .i64 5] 38)
  replace R0 := R0.alloc (.cells #[.int .i64 t1, .int .i64 v1, .int .i64 v2, .int .i64 (-1), .int .i64 5] 38)
  obtain ⟨bx, hbx⟩ : ∃ bx, bx = w4.heap.size := ⟨_, rfl⟩
  rw [← hbx] at BX hwb ⊢
  generalize w4.alloc (.cells #[.int .i64 t1, .int .i64 v1, .int .i64 v2, .int .i64 (-1), .int .i64 5] 38) = w5 at *
  clear hbx Q4 l1
  have HO' := HO.out
  have K5 := Lib.hid (fun wv => spec_IncidentText t1 v1 v2 (-1) 5 wv)
  clear HO
  have cX := BX.cell
  have lX := BX.lt
  have cR := R0.cell
  have fR := R0.frozen
  have lR := R0.lt
  rcases HO' with ⟨rfl, rfl, rfl, hT, rfl, rfl, rfl, rfl, rfl, rfl⟩ | ⟨hT, rfl, rfl, rfl, rfl, rfl, rfl⟩
  · rw [hT] at K5
    clear hT
    go_wp2_with fail
    refine (K5.out _).mono ?_
    rintro e w8 ⟨rfl, q8⟩
    replace BX := BX.q q8
    replace R0 := R0.q q8
    have Q8 := Q5.trans q8
    clear Q5 q8 cX lX cR fR lR
    have cX := BX.cell
    have lX := BX.lt
    have cR := R0.cell
    have fR := R0.frozen
    have lR := R0.lt
    go_wp2_with fail
    have F := (((((R0.s5_0 (.int .i64 t)).s5_1 (.int .i64 a)).s5_2 (.int .i64 b)).s5_3 (.int .i64 (-1))).s5_4 (.int .i64 5)).cell
    refine bodyPost_ret (v := .tuple #[.agg #[.int .i64 t, .int .i64 a, .int .i64 b, .int .i64 (-1), .int .i64 5], .bool true]) (by simp [results, Tryd.results47, go_sem, F]) rfl ⟨rfl, ?_⟩
    exact (((((Q8.setCell (Nat.le_refl _) _).setCell (Nat.le_refl _) _).setCell (Nat.le_refl _) _).setCell (Nat.le_refl _) _).setCell (Nat.le_refl _) _)
  · have hT' := str_ne hT
    clear hT
    cases k1
    · go_wp2_with fail
      have F := (((((R0.s5_0 (.int .i64 0)).s5_1 (.int .i64 0)).s5_2 (.int .i64 0)).s5_3 (.int .i64 0)).s5_4 (.int .i64 0)).cell
      refine bodyPost_ret (v := .tuple #[.agg #[.int .i64 0, .int .i64 0, .int .i64 0, .int .i64 0, .int .i64 0], .bool false]) (by simp [results, Tryd.results47, go_sem, F]) rfl ⟨rfl, ?_⟩
      exact (((((Q5.setCell (Nat.le_refl _) _).setCell (Nat.le_refl _) _).setCell (Nat.le_refl _) _).setCell (Nat.le_refl _) _).setCell (Nat.le_refl _) _)
    · cases k2
      · go_wp2_with fail
        have F := (((((R0.s5_0 (.int .i64 0)).s5_1 (.int .i64 0)).s5_2 (.int .i64 0)).s5_3 (.int .i64 0)).s5_4 (.int .i64 0)).cell
        refine bodyPost_ret (v := .tuple #[.agg #[.int .i64 0, .int .i64 0, .int .i64 0, .int .i64 0, .int .i64 0], .bool false]) (by simp [results, Tryd.results47, go_sem, F]) rfl ⟨rfl, ?_⟩
        exact (((((Q5.setCell (Nat.le_refl _) _).setCell (Nat.le_refl _) _).setCell (Nat.le_refl _) _).setCell (Nat.le_refl _) _).setCell (Nat.le_refl _) _)
      · cases k3
        · go_wp2_with fail
          have F := (((((R0.s5_0 (.int .i64 0)).s5_1 (.int .i64 0)).s5_2 (.int .i64 0)).s5_3 (.int .i64 0)).s5_4 (.int .i64 0)).cell
          refine bodyPost_ret (v := .tuple #[.agg #[.int .i64 0, .int .i64 0, .int .i64 0, .int .i64 0, .int .i64 0], .bool false]) (by simp [results, Tryd.results47, go_sem, F]) rfl ⟨rfl, ?_⟩
          exact (((((Q5.setCell (Nat.le_refl _) _).setCell (Nat.le_refl _) _).setCell (Nat.le_refl _) _).setCell (Nat.le_refl _) _).setCell (Nat.le_refl _) _)
        · generalize incT t1 v1 v2 (-1) 5 = S at *
          go_wp2_with fail
          refine (K5.out _).mono ?_
          rintro e w8 ⟨rfl, q8⟩
          replace R0 := R0.q q8
          have Q8 := Q5.trans q8
          clear Q5 q8 cX lX cR fR lR BX
          have cR := R0.cell
          have fR := R0.frozen
          have lR := R0.lt
          go_wp2_with fail
          have F := (((((R0.s5_0 (.int .i64 0)).s5_1 (.int .i64 0)).s5_2 (.int .i64 0)).s5_3 (.int .i64 0)).s5_4 (.int .i64 0)).cell
          refine bodyPost_ret (v := .tuple #[.agg #[.int .i64 0, .int .i64 0, .int .i64 0, .int .i64 0, .int .i64 0], .bool false]) (by simp [results, Tryd.results47, go_sem, F]) rfl ⟨rfl, ?_⟩
          exact (((((Q8.setCell (Nat.le_refl _) _).setCell (Nat.le_refl _) _).setCell (Nat.le_refl _) _).setCell (Nat.le_refl _) _).setCell (Nat.le_refl _) _)
set_option maxRecDepth 100000 in
set_option maxHeartbeats 4000000 in
theorem spec_RI5 (s x y z u v : ByteArray) (hP : pcs 32 s = [x, y, z, u, v]) (t a b q r : Int) (k : Bool) (h : IncR s t a b q r k) (hs : s.size ≤ 1048576) (w : World) :
    Calls Tryd.prog 47 #[.string s] w fun e w' => e = .returned (.tuple #[.agg #[.int .i64 t, .int .i64 a, .int .i64 b, .int .i64 q, .int .i64 r], .bool k]) ∧ Q w w' := by
  have R0 := Blk.new w 38 #[.int .i64 0, .int .i64 0, .int .i64 0, .int .i64 0, .int .i64 0]
  have Q0 : Q w (w.alloc (.cells #[.int .i64 0, .int .i64 0, .int .i64 0, .int .i64 0, .int .i64 0] 38)) := by (repeat (first | assumption | exact Q.refl _ | refine Q.alloc ?_ _ | refine Q.drewN ?_ _ | refine Q.drew ?_))
  have K0 := Lib.hid (fun wv => words_own s hs _ hP wv)
  have hall : ∀ pp ∈ [x, y, z, u, v], pp.size ≤ 1048576 := fun pp hz => Nat.le_trans (pcs_le (by rw [hP]; exact hz)) hs
  obtain ⟨t1, k1, r1⟩ := TimR.ex x
  obtain ⟨v1, k2, r2⟩ := NumR.ex pS y
  obtain ⟨v2, k3, r3⟩ := NumR.ex pS z
  have K1 := Lib.hid (fun wv => spec_ReadTime x t1 k1 r1 (hall x (by simp)) wv)
  have K2 := Lib.hid (fun wv => spec_Value y v1 k2 r2 (hall y (by simp)) wv)
  have K3 := Lib.hid (fun wv => spec_Value z v2 k3 r3 (hall z (by simp)) wv)
  obtain ⟨v3, k4, r4⟩ := NumR.ex pS u
  have K4 := Lib.hid (fun wv => spec_Value u v3 k4 r4 (hall u (by simp)) wv)
  have HO := Lib.hid (fun rv r5 => h.out5 (rv := rv) hP r1 r2 r3 r4 r5)
  clear h r1 r2 r3 r4 hall hs hP
  go_enter Tryd.func47, Tryd.ntmps47
  go_wp2_with fail
  refine (K0.out _).mono ?_
  rintro e w1 ⟨g, d, rfl, cj, hd, l1, q1⟩
  simp only [List.length_cons, List.length_nil, Nat.zero_add, Nat.reduceAdd] at hd ⊢
  have Q1 := Q0.trans q1
  replace R0 := R0.q q1
  have c0 := cj 0 x rfl
  have c1 := cj 1 y rfl
  have c2 := cj 2 z rfl
  have c3 := cj 3 u rfl
  have c4 := cj 4 v rfl
  clear Q0 q1 K0 cj
  go_wp2_with fail
  refine (K1.out _).mono ?_
  rintro e w2 ⟨rfl, q2⟩
  have Q2 := Q1.trans q2
  replace R0 := R0.q q2
  replace l1 := Nat.lt_of_lt_of_le l1 q2.size
  replace c1 := q2.cell c1
  replace c2 := q2.cell c2
  replace c3 := q2.cell c3
  replace c4 := q2.cell c4
  clear Q1 q2 c0
  go_wp2_with fail
  refine (K2.out _).mono ?_
  rintro e w3 ⟨rfl, q3⟩
  have Q3 := Q2.trans q3
  replace R0 := R0.q q3
  replace l1 := Nat.lt_of_lt_of_le l1 q3.size
  replace c2 := q3.cell c2
  replace c3 := q3.cell c3
  replace c4 := q3.cell c4
  clear Q2 q3 c1
  go_wp2_with fail
  refine (K3.out _).mono ?_
  rintro e w4 ⟨rfl, q4⟩
  have Q4 := Q3.trans q4
  replace R0 := R0.q q4
  replace l1 := Nat.lt_of_lt_of_le l1 q4.size
  replace c3 := q4.cell c3
  replace c4 := q4.cell c4
  clear Q3 q4 c2
  have hwb : w.heap.size < w4.heap.size := R0.lt
  go_wp2_with fail
  refine (K4.out _).mono ?_
  rintro e w5 ⟨rfl, q5⟩
  have BX := q5.boxB
  have Q5 := (Q4.alloc (.cells #[.int .i64 t1, .int .i64 v1, .int .i64 v2, .int .i64 (-1), .int .i64 5] 38)).trans q5
  replace R0 := (R0.alloc (.cells #[.int .i64 t1, .int .i64 v1, .int .i64 v2, .int .i64 (-1), .int .i64 5] 38)).q q5
  replace c4 := q5.cell (((Q.refl w4).alloc (.cells #[.int .i64 t1, .int .i64 v1, .int .i64 v2, .int .i64 (-1), .int .i64 5] 38)).cell c4)
  have hsz := q5.size
  have l5 : g < w5.heap.size := Nat.lt_of_lt_of_le (by simp; omega) hsz
  obtain ⟨bx, hbx⟩ : ∃ bx, bx = w4.heap.size := ⟨_, rfl⟩
  rw [← hbx] at BX hwb ⊢
  have hgx : g ≠ bx := by omega
  clear hbx Q4 q5 hsz l1 c3 K1 K2 K3 K4
  have fX := BX.frozen
  have lX := BX.lt
  have cX := BX.cell
  go_upto_region 10 with (fail)
  have c4' : (w5.setCell ⟨bx, 3, none⟩ (.int .i64 v3)).cell? ⟨g, 4, none⟩ = some (.string v) := (World.cell?_setCell_other _ _ _ _ (by intro h; injection h with h; exact hgx h.symm)).trans c4
  replace Q5 := Q.setCell (p := ⟨bx, 3, none⟩) Q5 (Nat.le_of_lt hwb) (.int .i64 v3)
  replace BX := BX.s5_3 (.int .i64 v3)
  replace R0 := R0.far (p := ⟨bx, 3, none⟩) (by simp; omega) (.int .i64 v3)
  have l5' : g < (w5.setCell ⟨bx, 3, none⟩ (.int .i64 v3)).heap.size := by simp [World.setCell]; omega
  clear fX lX cX c4 l5
  generalize w5.setCell ⟨bx, 3, none⟩ (.int .i64 v3) = w6 at *
  go_wp2_with fail
  go_loopw [12] (fun i wr => ∃ j : Nat, j ≤ 4 ∧ i = .int .i64 j ∧ ∃ rv, Hid (Rsn v j rv) ∧ Blk wr bx 38 #[.int .i64 t1, .int .i64 v1, .int .i64 v2, .int .i64 v3, .int .i64 rv] ∧ Blk wr w.heap.size 38 #[.int .i64 0, .int .i64 0, .int .i64 0, .int .i64 0, .int .i64 0] ∧ wr.cell? ⟨g, 4, none⟩ = some (.string v) ∧ g < wr.heap.size ∧ Q w wr) (fun i _ => 4 - (intOf i).toNat)
  case atStart => exact ⟨0, by omega, rfl, 5, Lib.hid (Rsn.zero v), BX, R0, c4', l5', Q5⟩
  case round =>
    clear BX R0 c4' l5' Q5
    obtain ⟨j, hj, rfl, rv, HR, BX, R0, c4, lg, hq⟩ := hrel
    by_cases hlt : j < 4
    · have hltI : (j : Int) < 4 := by omega
      have hj0 : (0 : Int) ≤ (j : Int) := by omega
      have hj5 : (j : Int) < 5 := by omega
      have KW := Lib.hid (fun wv => words_cell wv j (rsn ((j : Int) + 1)) (by
        rcases (show j = 0 ∨ j = 1 ∨ j = 2 ∨ j = 3 by omega) with rfl | rfl | rfl | rfl <;> rfl))
      have HR1 := Lib.hid (fun h => Rsn.hit (v := v) (j := j) h)
      have HR2 := Lib.hid (fun h => HR.out.miss h)
      generalize rsn ((j : Int) + 1) = W at *
      by_cases hW : W = v
      · have hW2 : (W.toList == v.toList) = true := by rw [hW]; simp
        have HR' := Lib.hid (HR1.out hW)
        clear hW HR1 HR2 HR
        go_wp2_with fail
        go_region_with (go_at_call 64; refine (KW.out _).mono ?_; rintro e w7 ⟨g7, rfl, c7, q7⟩; have QW : Q wr w7 := Q.trans (by with_reducible first | exact (Q.refl _).drew | exact Q.refl _) q7; have c44 := QW.cell c4)
        all_goals
          replace BX := BX.q QW
          replace R0 := R0.q QW
          replace hq := hq.trans QW
          replace lg := Nat.lt_of_lt_of_le lg QW.size
          have fX := BX.frozen
          have lX := BX.lt
          have cX := BX.cell
          have hne : g ≠ bx := hgx
          go_wp2_with fail
          go_roundw
          case rel => exact ⟨j + 1, by omega, by go_num, _, HR', by first | exact BX.s5_4 _ | exact (BX.s5_4 _).drew, by first | exact R0.far (p := ⟨bx, 4, none⟩) (by simp; omega) _ | exact (R0.far (p := ⟨bx, 4, none⟩) (by simp; omega) _).drew, by first | exact (World.cell?_setCell_other _ _ _ _ (by intro h; injection h with h; exact hne h.symm)).trans c44 | (simp; exact (World.cell?_setCell_other _ _ _ _ (by intro h; injection h with h; exact hne h.symm)).trans c44), by (simp [World.setCell]; omega), by first | exact Q.setCell (p := ⟨bx, 4, none⟩) hq (Nat.le_of_lt hwb) _ | exact (Q.setCell (p := ⟨bx, 4, none⟩) hq (Nat.le_of_lt hwb) _).drew⟩
          case measure => simp [intOf]; omega
      · have hW2 := str_ne hW
        have HR' := Lib.hid (HR2.out hW)
        clear hW HR1 HR2 HR
        go_wp2_with fail
        go_region_with (go_at_call 64; refine (KW.out _).mono ?_; rintro e w7 ⟨g7, rfl, c7, q7⟩; have QW : Q wr w7 := Q.trans (by with_reducible first | exact (Q.refl _).drew | exact Q.refl _) q7; have c44 := QW.cell c4)
        all_goals
          replace BX := BX.q QW
          replace R0 := R0.q QW
          replace hq := hq.trans QW
          replace lg := Nat.lt_of_lt_of_le lg QW.size
          go_wp2_with fail
          go_roundw
          case rel => exact ⟨j + 1, by omega, by go_num, _, HR', by first | exact BX | exact BX.drew, by first | exact R0 | exact R0.drew, by first | exact c44 | (simp; exact c44), by first | exact lg | (simp; omega), by first | exact hq | exact hq.drew⟩
          case measure => simp [intOf]; omega
    · obtain rfl : j = 4 := by omega
      have HO' := HO.out rv HR.out
      have K5 := Lib.hid (fun wv => spec_IncidentText t1 v1 v2 v3 rv wv)
      clear HO HR c4 lg
      have cX := BX.cell
      have lX := BX.lt
      have cR := R0.cell
      have fR := R0.frozen
      have lR := R0.lt
      rcases HO' with ⟨rfl, rfl, rfl, hT, rfl, rfl, rfl, rfl, rfl, rfl⟩ | ⟨hT, rfl, rfl, rfl, rfl, rfl, rfl⟩
      · rw [hT] at K5
        clear hT
        go_wp2_with fail
        refine (K5.out _).mono ?_
        rintro e w8 ⟨rfl, q8⟩
        replace BX := BX.q q8
        replace R0 := R0.q q8
        have Q8 := hq.trans q8
        clear hq q8 cX lX cR fR lR
        have cX := BX.cell
        have lX := BX.lt
        have cR := R0.cell
        have fR := R0.frozen
        have lR := R0.lt
        go_wp2_with fail
        have F := (((((R0.s5_0 (.int .i64 t)).s5_1 (.int .i64 a)).s5_2 (.int .i64 b)).s5_3 (.int .i64 q)).s5_4 (.int .i64 r)).cell
        refine bodyPost_ret (v := .tuple #[.agg #[.int .i64 t, .int .i64 a, .int .i64 b, .int .i64 q, .int .i64 r], .bool true]) (by simp [results, Tryd.results47, go_sem, F]) rfl ⟨rfl, ?_⟩
        exact (((((Q8.setCell (Nat.le_refl _) _).setCell (Nat.le_refl _) _).setCell (Nat.le_refl _) _).setCell (Nat.le_refl _) _).setCell (Nat.le_refl _) _)
      · have hT' := str_ne hT
        clear hT
        cases k1
        · go_wp2_with fail
          have F := (((((R0.s5_0 (.int .i64 0)).s5_1 (.int .i64 0)).s5_2 (.int .i64 0)).s5_3 (.int .i64 0)).s5_4 (.int .i64 0)).cell
          refine bodyPost_ret (v := .tuple #[.agg #[.int .i64 0, .int .i64 0, .int .i64 0, .int .i64 0, .int .i64 0], .bool false]) (by simp [results, Tryd.results47, go_sem, F]) rfl ⟨rfl, ?_⟩
          exact (((((hq.setCell (Nat.le_refl _) _).setCell (Nat.le_refl _) _).setCell (Nat.le_refl _) _).setCell (Nat.le_refl _) _).setCell (Nat.le_refl _) _)
        · cases k2
          · go_wp2_with fail
            have F := (((((R0.s5_0 (.int .i64 0)).s5_1 (.int .i64 0)).s5_2 (.int .i64 0)).s5_3 (.int .i64 0)).s5_4 (.int .i64 0)).cell
            refine bodyPost_ret (v := .tuple #[.agg #[.int .i64 0, .int .i64 0, .int .i64 0, .int .i64 0, .int .i64 0], .bool false]) (by simp [results, Tryd.results47, go_sem, F]) rfl ⟨rfl, ?_⟩
            exact (((((hq.setCell (Nat.le_refl _) _).setCell (Nat.le_refl _) _).setCell (Nat.le_refl _) _).setCell (Nat.le_refl _) _).setCell (Nat.le_refl _) _)
          · cases k3
            · go_wp2_with fail
              have F := (((((R0.s5_0 (.int .i64 0)).s5_1 (.int .i64 0)).s5_2 (.int .i64 0)).s5_3 (.int .i64 0)).s5_4 (.int .i64 0)).cell
              refine bodyPost_ret (v := .tuple #[.agg #[.int .i64 0, .int .i64 0, .int .i64 0, .int .i64 0, .int .i64 0], .bool false]) (by simp [results, Tryd.results47, go_sem, F]) rfl ⟨rfl, ?_⟩
              exact (((((hq.setCell (Nat.le_refl _) _).setCell (Nat.le_refl _) _).setCell (Nat.le_refl _) _).setCell (Nat.le_refl _) _).setCell (Nat.le_refl _) _)
            · generalize incT t1 v1 v2 v3 rv = S at *
              go_wp2_with fail
              refine (K5.out _).mono ?_
              rintro e w8 ⟨rfl, q8⟩
              replace R0 := R0.q q8
              have Q8 := hq.trans q8
              clear hq q8 cX lX cR fR lR BX
              have cR := R0.cell
              have fR := R0.frozen
              have lR := R0.lt
              go_wp2_with fail
              have F := (((((R0.s5_0 (.int .i64 0)).s5_1 (.int .i64 0)).s5_2 (.int .i64 0)).s5_3 (.int .i64 0)).s5_4 (.int .i64 0)).cell
              refine bodyPost_ret (v := .tuple #[.agg #[.int .i64 0, .int .i64 0, .int .i64 0, .int .i64 0, .int .i64 0], .bool false]) (by simp [results, Tryd.results47, go_sem, F]) rfl ⟨rfl, ?_⟩
              exact (((((Q8.setCell (Nat.le_refl _) _).setCell (Nat.le_refl _) _).setCell (Nat.le_refl _) _).setCell (Nat.le_refl _) _).setCell (Nat.le_refl _) _)
set_option maxRecDepth 100000 in
set_option maxHeartbeats 1000000 in
theorem spec_ReadIncident (s : ByteArray) (t a b q r : Int) (k : Bool) (h : IncR s t a b q r k) (hs : s.size ≤ 1048576) (w : World) :
    Calls Tryd.prog 47 #[.string s] w fun e w' => e = .returned (.tuple #[.agg #[.int .i64 t, .int .i64 a, .int .i64 b, .int .i64 q, .int .i64 r], .bool k]) ∧ Q w w' := by
  obtain ⟨P, hP⟩ : ∃ P, pcs 32 s = P := ⟨_, rfl⟩
  by_cases hl : 4 ≤ P.length ∧ P.length ≤ 5
  · match P, hP, hl with
    | [x, y, z, u], hP, _ => exact spec_RI4 s x y z u hP t a b q r k h hs w
    | [x, y, z, u, v], hP, _ => exact spec_RI5 s x y z u v hP t a b q r k h hs w
  · have R0 := Blk.new w 38 #[.int .i64 0, .int .i64 0, .int .i64 0, .int .i64 0, .int .i64 0]
    have Q0 : Q w (w.alloc (.cells #[.int .i64 0, .int .i64 0, .int .i64 0, .int .i64 0, .int .i64 0] 38)) := by (repeat (first | assumption | exact Q.refl _ | refine Q.alloc ?_ _ | refine Q.drewN ?_ _ | refine Q.drew ?_))
    have K0 := Lib.hid (fun wv => words_own s hs _ hP wv)
    obtain ⟨rfl, rfl, rfl, rfl, rfl, rfl⟩ := h.len (by rw [hP]; omega)
    obtain ⟨N, hN⟩ : ∃ N, N = P.length := ⟨_, rfl⟩
    rw [← hN] at hl K0
    have hNI : ¬ (N : Int) = 4 := by omega
    have hNJ : ¬ (N : Int) = 5 := by omega
    have hNI2 : ((N : Int) == 4) = false := by simpa using hNI
    have hNJ2 : ((N : Int) == 5) = false := by simpa using hNJ
    have hNI3 : ((N : Int) != 4) = true := by simp [hNI]
    have hNJ3 : ((N : Int) != 5) = true := by simp [hNJ]
    clear h hs hP hN hl
    go_enter Tryd.func47, Tryd.ntmps47
    go_wp2_with fail
    refine (K0.out _).mono ?_
    rintro e w1 ⟨g, d, rfl, cj, hd, l1, q1⟩
    replace R0 := R0.q q1
    have cR := R0.cell
    have fR := R0.frozen
    have lR := R0.lt
    have Q4 := Q0.trans q1
    clear cj
    go_wp2_with fail
    have F := (((((R0.s5_0 (.int .i64 0)).s5_1 (.int .i64 0)).s5_2 (.int .i64 0)).s5_3 (.int .i64 0)).s5_4 (.int .i64 0)).cell
    refine bodyPost_ret (v := .tuple #[.agg #[.int .i64 0, .int .i64 0, .int .i64 0, .int .i64 0, .int .i64 0], .bool false]) (by simp [results, Tryd.results47, go_sem, F]) rfl ⟨rfl, ?_⟩
    exact (((((Q4.setCell (Nat.le_refl _) _).setCell (Nat.le_refl _) _).setCell (Nat.le_refl _) _).setCell (Nat.le_refl _) _).setCell (Nat.le_refl _) _)
set_option maxRecDepth 100000 in
set_option maxHeartbeats 1000000 in
theorem law_FnExactReadIncident (s : ByteArray) (hs : s.size ≤ maxLen) (w : World) (hE : Env w) : Calls Tryd.prog 13 #[.string s] w fun e w' => e = .returned (.bool true) ∧ Below w.heap.size w w' := by
  unfold maxLen at hs
  by_cases hb : (s.size : Int) ≤ 1048576
  · obtain ⟨t, a, b, q, r, k, h⟩ := IncR.ex s
    have K1 := Lib.hid (fun wv => spec_ReadIncident s t a b q r k h (by omega) wv)
    have K2 := Lib.hid (fun wv (hv : Env wv) => impl_ReadIncident s t a b q r k h (by omega) wv hv)
    have K3 := Lib.hid (fun wv => eqIncident_any t a b q r t a b q r wv)
    clear h
    go_enter Tryd.func13, Tryd.ntmps13
    go_wp2_with fail
    refine (K1.out _).mono ?_
    rintro e w1 ⟨rfl, q1⟩
    have B1 := Blk.new w1 38 #[.int .i64 t, .int .i64 a, .int .i64 b, .int .i64 q, .int .i64 r]
    have Q1 := q1.alloc (.cells #[.int .i64 t, .int .i64 a, .int .i64 b, .int .i64 q, .int .i64 r] 38)
    have E1 := hE.q Q1
    go_wp2_with fail
    refine (K2.out _ E1).mono ?_
    rintro e w2 ⟨rfl, q2⟩
    replace B1 := B1.q q2
    have Q2 := Q1.trans q2
    have cB := B1.cell
    have lB := B1.lt
    clear E1 Q1 q2
    go_wp2_with fail
    refine (K3.out _).mono ?_
    rintro e w3 ⟨rfl, q3⟩
    go_wp2_with fail
    go_ret
    exact ⟨rfl, (Q2.alloc _).trans q3⟩
  · go_enter Tryd.func13, Tryd.ntmps13
    go_wp2_with fail
    go_ret
    exact ⟨rfl, Q.refl _⟩
end Go.Proofs.YtgdjgjkijcmkfaaDoor
