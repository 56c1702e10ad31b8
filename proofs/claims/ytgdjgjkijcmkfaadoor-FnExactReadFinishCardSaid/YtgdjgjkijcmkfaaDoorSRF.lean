/- Walks: the reading of a finish, as the reference does it; the law on it. Condition of the law: what the library's variables hold (Env). -/
import Derived.Test.YtgdjgjkijcmkfaaDoorSRL
import Derived.Test.YtgdjgjkijcmkfaaDoorEqFinish
namespace Go.Proofs.YtgdjgjkijcmkfaaDoor
open Go.RowKit Go.WideShapes Go.ChangeShapes Go.Deep
set_option maxRecDepth 100000 in
set_option maxHeartbeats 2000000 in
theorem spec_RF2 (s x y : ByteArray) (hP : pcs 32 s = [x, y]) (a b c : Int) (k : Bool) (h : FinR s a b c k) (hs : s.size ≤ 1048576) (w : World) :
    Calls Tryd.prog 49 #[.string s] w fun e w' => e = .returned (.tuple #[.agg #[.int .i64 a, .int .i64 b, .int .i64 c], .bool k]) ∧ Q w w' := by
  have R0 := Blk.new w 44 #[.int .i64 0, .int .i64 0, .int .i64 0]
  have Q0 : Q w (w.alloc (.cells #[.int .i64 0, .int .i64 0, .int .i64 0] 44)) := by (repeat (first | assumption | exact Q.refl _ | refine Q.alloc ?_ _ | refine Q.drewN ?_ _ | refine Q.drew ?_))
  have K0 := Lib.hid (fun wv => words_own s hs _ hP wv)
  have hall : ∀ pp ∈ [x, y], pp.size ≤ 1048576 := fun pp hz => Nat.le_trans (pcs_le (by rw [hP]; exact hz)) hs
  obtain ⟨v1, k1, r1⟩ := NumR.ex pS x
  obtain ⟨v2, k2, r2⟩ : ∃ v k, codeOf y = (v, k) := ⟨_, _, rfl⟩
  have K1 := Lib.hid (fun wv => spec_Value x v1 k1 r1 (hall x (by simp)) wv)
  have K2 := Lib.hid (fun wv => spec_ReadCode y wv)
  rw [r2] at K2
  obtain ⟨t, ht⟩ : ∃ t : Int, t = 0 := ⟨_, rfl⟩
  have HO := Lib.hid (h.out (t := t) readsS hP r1 r2 (Or.inl ⟨rfl, ht⟩))
  have K5 := Lib.hid (fun wv => spec_FinishText v1 v2 t wv)
  clear h r1 r2 hall hs hP
  go_enter Tryd.func49, Tryd.ntmps49
  go_wp2_with fail
  refine (K0.out _).mono ?_
  rintro e w1 ⟨g, d, rfl, cj, hd, l1, q1⟩
  simp only [List.length_cons, List.length_nil, Nat.zero_add, Nat.reduceAdd] at hd ⊢
  have Q1 := Q0.trans q1
  replace R0 := R0.q q1
  have c0 := cj 0 x rfl
  have c1 := cj 1 y rfl
  clear Q0 q1 K0 cj
  go_wp2_with fail
  refine (K1.out _).mono ?_
  rintro e w2 ⟨rfl, q2⟩
  have Q2 := Q1.trans q2
  replace R0 := R0.q q2
  replace c1 := q2.cell c1
  clear Q1 q2 c0
  go_wp2_with fail
  refine (K2.out _).mono ?_
  rintro e w3 ⟨rfl, q3⟩
  have Q3 := Q2.trans q3
  replace R0 := R0.q q3
  clear Q2 q3 c1
  have hwb : w.heap.size < w3.heap.size := R0.lt
  go_upto_region 9 with (fail)
  have BF := Blk.new w3 44 #[.int .i64 v1, .int .i64 v2, .int .i64 0]
  have Q5 := Q3.alloc (.cells #[.int .i64 v1, .int .i64 v2, .int .i64 0] 44)
  replace R0 := R0.alloc (.cells #[.int .i64 v1, .int .i64 v2, .int .i64 0] 44)
  obtain ⟨bf, hbf⟩ : ∃ bf, bf = w3.heap.size := ⟨_, rfl⟩
  rw [← hbf] at BF hwb ⊢
  generalize w3.alloc (.cells #[.int .i64 v1, .int .i64 v2, .int .i64 0] 44) = w5 at *
  rw [← ht] at BF
  clear hbf Q3 ht
  have HO' := HO.out
  clear HO
  have cF := BF.cell
  have lF := BF.lt
  have cR := R0.cell
  have fR := R0.frozen
  have lR := R0.lt
  rcases HO' with ⟨rfl, rfl, _, hT, rfl, rfl, rfl, rfl⟩ | ⟨hT, rfl, rfl, rfl, rfl⟩
  · rw [hT] at K5
    clear hT
    go_wp2_with fail
    refine (K5.out _).mono ?_
    rintro e w7 ⟨rfl, q7⟩
    replace BF := BF.q q7
    replace R0 := R0.q q7
    have Q7 := Q5.trans q7
    clear Q5 q7 cF lF cR fR lR
    have cF := BF.cell
    have lF := BF.lt
    have cR := R0.cell
    have fR := R0.frozen
    have lR := R0.lt
    go_wp2_with fail
    have F := (((R0.set3_0 (.int .i64 a)).set3_1 (.int .i64 b)).set3_2 (.int .i64 c)).cell
    refine bodyPost_ret (v := .tuple #[.agg #[.int .i64 a, .int .i64 b, .int .i64 c], .bool true]) (by simp [results, Tryd.results49, go_sem, F]) rfl ⟨rfl, ?_⟩
    exact ((Q7.setCell (Nat.le_refl _) _).setCell (Nat.le_refl _) _).setCell (Nat.le_refl _) _
  · have hT' := str_ne hT
    clear hT
    cases k1
    · go_wp2_with fail
      have F := (((R0.set3_0 (.int .i64 0)).set3_1 (.int .i64 0)).set3_2 (.int .i64 0)).cell
      refine bodyPost_ret (v := .tuple #[.agg #[.int .i64 0, .int .i64 0, .int .i64 0], .bool false]) (by simp [results, Tryd.results49, go_sem, F]) rfl ⟨rfl, ?_⟩
      exact ((Q5.setCell (Nat.le_refl _) _).setCell (Nat.le_refl _) _).setCell (Nat.le_refl _) _
    · cases k2
      · go_wp2_with fail
        have F := (((R0.set3_0 (.int .i64 0)).set3_1 (.int .i64 0)).set3_2 (.int .i64 0)).cell
        refine bodyPost_ret (v := .tuple #[.agg #[.int .i64 0, .int .i64 0, .int .i64 0], .bool false]) (by simp [results, Tryd.results49, go_sem, F]) rfl ⟨rfl, ?_⟩
        exact ((Q5.setCell (Nat.le_refl _) _).setCell (Nat.le_refl _) _).setCell (Nat.le_refl _) _
      · generalize finT v1 v2 t = S at *
        go_wp2_with fail
        refine (K5.out _).mono ?_
        rintro e w7 ⟨rfl, q7⟩
        replace BF := BF.q q7
        replace R0 := R0.q q7
        have Q7 := Q5.trans q7
        clear Q5 q7 cF lF cR fR lR
        have cR := R0.cell
        have fR := R0.frozen
        have lR := R0.lt
        go_wp2_with fail
        have F := (((R0.set3_0 (.int .i64 0)).set3_1 (.int .i64 0)).set3_2 (.int .i64 0)).cell
        refine bodyPost_ret (v := .tuple #[.agg #[.int .i64 0, .int .i64 0, .int .i64 0], .bool false]) (by simp [results, Tryd.results49, go_sem, F]) rfl ⟨rfl, ?_⟩
        exact ((Q7.setCell (Nat.le_refl _) _).setCell (Nat.le_refl _) _).setCell (Nat.le_refl _) _
set_option maxRecDepth 100000 in
set_option maxHeartbeats 2000000 in
theorem spec_RF3 (s x y z : ByteArray) (hP : pcs 32 s = [x, y, z]) (a b c : Int) (k : Bool) (h : FinR s a b c k) (hs : s.size ≤ 1048576) (w : World) :
    Calls Tryd.prog 49 #[.string s] w fun e w' => e = .returned (.tuple #[.agg #[.int .i64 a, .int .i64 b, .int .i64 c], .bool k]) ∧ Q w w' := by
  have R0 := Blk.new w 44 #[.int .i64 0, .int .i64 0, .int .i64 0]
  have Q0 : Q w (w.alloc (.cells #[.int .i64 0, .int .i64 0, .int .i64 0] 44)) := by (repeat (first | assumption | exact Q.refl _ | refine Q.alloc ?_ _ | refine Q.drewN ?_ _ | refine Q.drew ?_))
  have K0 := Lib.hid (fun wv => words_own s hs _ hP wv)
  have hall : ∀ pp ∈ [x, y, z], pp.size ≤ 1048576 := fun pp hz => Nat.le_trans (pcs_le (by rw [hP]; exact hz)) hs
  obtain ⟨v1, k1, r1⟩ := NumR.ex pS x
  obtain ⟨v2, k2, r2⟩ : ∃ v k, codeOf y = (v, k) := ⟨_, _, rfl⟩
  have K1 := Lib.hid (fun wv => spec_Value x v1 k1 r1 (hall x (by simp)) wv)
  have K2 := Lib.hid (fun wv => spec_ReadCode y wv)
  rw [r2] at K2
  obtain ⟨t, kk, r3⟩ := TimR.ex z
  have K3 := Lib.hid (fun wv => spec_ReadTime z t kk r3 (hall z (by simp)) wv)
  have HO := Lib.hid (h.out (t := t) readsS hP r1 r2 (Or.inr ⟨z, [], kk, rfl, r3⟩))
  have K5 := Lib.hid (fun wv => spec_FinishText v1 v2 t wv)
  clear h r1 r2 hall hs hP
  go_enter Tryd.func49, Tryd.ntmps49
  go_wp2_with fail
  refine (K0.out _).mono ?_
  rintro e w1 ⟨g, d, rfl, cj, hd, l1, q1⟩
  simp only [List.length_cons, List.length_nil, Nat.zero_add, Nat.reduceAdd] at hd ⊢
  have Q1 := Q0.trans q1
  replace R0 := R0.q q1
  have c0 := cj 0 x rfl
  have c1 := cj 1 y rfl
  have c2 := cj 2 z rfl
  clear Q0 q1 K0 cj
  go_wp2_with fail
  refine (K1.out _).mono ?_
  rintro e w2 ⟨rfl, q2⟩
  have Q2 := Q1.trans q2
  replace R0 := R0.q q2
  replace c1 := q2.cell c1
  replace c2 := q2.cell c2
  replace l1 := Nat.lt_of_lt_of_le l1 q2.size
  clear Q1 q2 c0
  go_wp2_with fail
  refine (K2.out _).mono ?_
  rintro e w3 ⟨rfl, q3⟩
  have Q3 := Q2.trans q3
  replace R0 := R0.q q3
  replace c2 := q3.cell c2
  replace l1 := Nat.lt_of_lt_of_le l1 q3.size
  clear Q2 q3 c1
  have hwb : w.heap.size < w3.heap.size := R0.lt
  go_wp2_with fail
  refine (K3.out _).mono ?_
  rintro e w4 ⟨rfl, q4⟩
  have BF := q4.boxB
  have Q4 := (Q3.alloc (.cells #[.int .i64 v1, .int .i64 v2, .int .i64 0] 44)).trans q4
  replace R0 := (R0.alloc (.cells #[.int .i64 v1, .int .i64 v2, .int .i64 0] 44)).q q4
  obtain ⟨bf, hbf⟩ : ∃ bf, bf = w3.heap.size := ⟨_, rfl⟩
  rw [← hbf] at BF hwb ⊢
  clear hbf Q3 c2 q4
  have fF := BF.frozen
  have lF := BF.lt
  have cF := BF.cell
  go_upto_region 9 with (fail)
  have Q5 := Q.setCell (p := ⟨bf, 2, none⟩) Q4 (Nat.le_of_lt hwb) (.int .i64 t)
  replace BF := BF.set3_2 (.int .i64 t)
  replace R0 := R0.far (p := ⟨bf, 2, none⟩) (by simp; omega) (.int .i64 t)
  clear fF lF cF Q4
  generalize w4.setCell ⟨bf, 2, none⟩ (.int .i64 t) = w5 at *
  have HO' := HO.out
  clear HO
  have cF := BF.cell
  have lF := BF.lt
  have cR := R0.cell
  have fR := R0.frozen
  have lR := R0.lt
  rcases HO' with ⟨rfl, rfl, _, hT, rfl, rfl, rfl, rfl⟩ | ⟨hT, rfl, rfl, rfl, rfl⟩
  · rw [hT] at K5
    clear hT
    go_wp2_with fail
    refine (K5.out _).mono ?_
    rintro e w7 ⟨rfl, q7⟩
    replace BF := BF.q q7
    replace R0 := R0.q q7
    have Q7 := Q5.trans q7
    clear Q5 q7 cF lF cR fR lR
    have cF := BF.cell
    have lF := BF.lt
    have cR := R0.cell
    have fR := R0.frozen
    have lR := R0.lt
    go_wp2_with fail
    have F := (((R0.set3_0 (.int .i64 a)).set3_1 (.int .i64 b)).set3_2 (.int .i64 c)).cell
    refine bodyPost_ret (v := .tuple #[.agg #[.int .i64 a, .int .i64 b, .int .i64 c], .bool true]) (by simp [results, Tryd.results49, go_sem, F]) rfl ⟨rfl, ?_⟩
    exact ((Q7.setCell (Nat.le_refl _) _).setCell (Nat.le_refl _) _).setCell (Nat.le_refl _) _
  · have hT' := str_ne hT
    clear hT
    cases k1
    · go_wp2_with fail
      have F := (((R0.set3_0 (.int .i64 0)).set3_1 (.int .i64 0)).set3_2 (.int .i64 0)).cell
      refine bodyPost_ret (v := .tuple #[.agg #[.int .i64 0, .int .i64 0, .int .i64 0], .bool false]) (by simp [results, Tryd.results49, go_sem, F]) rfl ⟨rfl, ?_⟩
      exact ((Q5.setCell (Nat.le_refl _) _).setCell (Nat.le_refl _) _).setCell (Nat.le_refl _) _
    · cases k2
      · go_wp2_with fail
        have F := (((R0.set3_0 (.int .i64 0)).set3_1 (.int .i64 0)).set3_2 (.int .i64 0)).cell
        refine bodyPost_ret (v := .tuple #[.agg #[.int .i64 0, .int .i64 0, .int .i64 0], .bool false]) (by simp [results, Tryd.results49, go_sem, F]) rfl ⟨rfl, ?_⟩
        exact ((Q5.setCell (Nat.le_refl _) _).setCell (Nat.le_refl _) _).setCell (Nat.le_refl _) _
      · generalize finT v1 v2 t = S at *
        go_wp2_with fail
        refine (K5.out _).mono ?_
        rintro e w7 ⟨rfl, q7⟩
        replace BF := BF.q q7
        replace R0 := R0.q q7
        have Q7 := Q5.trans q7
        clear Q5 q7 cF lF cR fR lR
        have cR := R0.cell
        have fR := R0.frozen
        have lR := R0.lt
        go_wp2_with fail
        have F := (((R0.set3_0 (.int .i64 0)).set3_1 (.int .i64 0)).set3_2 (.int .i64 0)).cell
        refine bodyPost_ret (v := .tuple #[.agg #[.int .i64 0, .int .i64 0, .int .i64 0], .bool false]) (by simp [results, Tryd.results49, go_sem, F]) rfl ⟨rfl, ?_⟩
        exact ((Q7.setCell (Nat.le_refl _) _).setCell (Nat.le_refl _) _).setCell (Nat.le_refl _) _
set_option maxRecDepth 100000 in
set_option maxHeartbeats 1000000 in
theorem spec_ReadFinish (s : ByteArray) (a b c : Int) (k : Bool) (h : FinR s a b c k) (hs : s.size ≤ 1048576) (w : World) :
    Calls Tryd.prog 49 #[.string s] w fun e w' => e = .returned (.tuple #[.agg #[.int .i64 a, .int .i64 b, .int .i64 c], .bool k]) ∧ Q w w' := by
  obtain ⟨P, hP⟩ : ∃ P, pcs 32 s = P := ⟨_, rfl⟩
  by_cases hl : 2 ≤ P.length ∧ P.length ≤ 3
  · match P, hP, hl with
    | [x, y], hP, _ => exact spec_RF2 s x y hP a b c k h hs w
    | [x, y, z], hP, _ => exact spec_RF3 s x y z hP a b c k h hs w
  · have R0 := Blk.new w 44 #[.int .i64 0, .int .i64 0, .int .i64 0]
    have Q0 : Q w (w.alloc (.cells #[.int .i64 0, .int .i64 0, .int .i64 0] 44)) := by (repeat (first | assumption | exact Q.refl _ | refine Q.alloc ?_ _ | refine Q.drewN ?_ _ | refine Q.drew ?_))
    have K0 := Lib.hid (fun wv => words_own s hs _ hP wv)
    obtain ⟨rfl, rfl, rfl, rfl⟩ := h.len (by rw [hP]; omega)
    obtain ⟨N, hN⟩ : ∃ N, N = P.length := ⟨_, rfl⟩
    rw [← hN] at hl K0
    have hNI : ¬ (N : Int) = 2 := by omega
    have hNJ : ¬ (N : Int) = 3 := by omega
    have hNI2 : ((N : Int) == 2) = false := by simpa using hNI
    have hNJ2 : ((N : Int) == 3) = false := by simpa using hNJ
    have hNI3 : ((N : Int) != 2) = true := by simp [hNI]
    have hNJ3 : ((N : Int) != 3) = true := by simp [hNJ]
    clear h hs hP hN hl
    go_enter Tryd.func49, Tryd.ntmps49
    go_wp2_with fail
    refine (K0.out _).mono ?_
    rintro e w1 ⟨g, d, rfl, cj, hd, l1, q1⟩
    replace R0 := R0.q q1
    have cR := R0.cell
    have fR := R0.frozen
    have lR := R0.lt
    have Q4 := Q0.trans q1
    clear cj
    go_wp2_with fail
    have F := (((R0.set3_0 (.int .i64 0)).set3_1 (.int .i64 0)).set3_2 (.int .i64 0)).cell
    refine bodyPost_ret (v := .tuple #[.agg #[.int .i64 0, .int .i64 0, .int .i64 0], .bool false]) (by simp [results, Tryd.results49, go_sem, F]) rfl ⟨rfl, ?_⟩
    exact ((Q4.setCell (Nat.le_refl _) _).setCell (Nat.le_refl _) _).setCell (Nat.le_refl _) _
set_option maxRecDepth 100000 in
set_option maxHeartbeats 1000000 in
theorem law_FnExactReadFinish (s : ByteArray) (hs : s.size ≤ maxLen) (w : World) (hE : Env w) : Calls Tryd.prog 14 #[.string s] w fun e w' => e = .returned (.bool true) ∧ Below w.heap.size w w' := by
  unfold maxLen at hs
  by_cases hb : (s.size : Int) ≤ 1048576
  · obtain ⟨a, b, c, k, h⟩ := FinR.ex s
    have K1 := Lib.hid (fun wv => spec_ReadFinish s a b c k h (by omega) wv)
    have K2 := Lib.hid (fun wv (hv : Env wv) => impl_ReadFinish s a b c k h (by omega) wv hv)
    have K3 := Lib.hid (fun wv => eqFinish_any a b c a b c wv)
    clear h
    go_enter Tryd.func14, Tryd.ntmps14
    go_wp2_with fail
    refine (K1.out _).mono ?_
    rintro e w1 ⟨rfl, q1⟩
    have B1 := Blk.new w1 44 #[.int .i64 a, .int .i64 b, .int .i64 c]
    have Q1 := q1.alloc (.cells #[.int .i64 a, .int .i64 b, .int .i64 c] 44)
    have E1 := hE.q Q1
    go_wp2_with fail
    refine (K2.out _ E1).mono ?_
    rintro e w2 ⟨rfl, q2⟩
    replace B1 := B1.q q2
    have Q2 := Q1.trans q2
    have cB := B1.cell
    have lB := B1.lt
    clear E1 Q1 q2
    go_wp2_with fail
    refine (K3.out _).mono ?_
    rintro e w3 ⟨rfl, q3⟩
    go_wp2_with fail
    go_ret
    exact ⟨rfl, (Q2.alloc _).trans q3⟩
  · go_enter Tryd.func14, Tryd.ntmps14
    go_wp2_with fail
    go_ret
    exact ⟨rfl, Q.refl _⟩
end Go.Proofs.YtgdjgjkijcmkfaaDoor
