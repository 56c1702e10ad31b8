/- Walks: the reading of limits, as the program does it. Condition: what the library's variables hold (Env). -/
import Derived.Test.YtgdjgjkijcmkfaaDoorRdT
import Derived.Test.YtgdjgjkijcmkfaaDoorTxtC
import Derived.Test.YtgdjgjkijcmkfaaDoorDraw
namespace Go.Proofs.YtgdjgjkijcmkfaaDoor
open Go.RowKit Go.WideShapes Go.ChangeShapes
theorem len3_of {α : Type} {l : List α} (h : l.length = 3) : ∃ x y z, l = [x, y, z] := by
  match l, h with
  | [x, y, z], _ => exact ⟨x, y, z, rfl⟩
theorem ba_len (a b : ByteArray) : (a ++ b).size = a.size + b.size := by
  rw [← bs_eta a, ← bs_eta b, bs_app, bs_size, bs_size, bs_size, List.length_append]
/-- The words of a string, in a block of their own. -/
theorem words_blk (s : ByteArray) (hs : s.size ≤ 1048576) (P : List ByteArray) (hP : pcs 32 s = P) (w : World) (hE : Env w) :
    Calls Tryd.prog 71 #[.string s] w fun e w' => ∃ g, e = .returned (.slice (some ⟨g, 0, none⟩) P.length P.length) ∧ Blk w' g 9 (P.map Value.string).toArray ∧ w.heap.size ≤ g ∧ Q w w' := by
  refine (impl_wordsOf s hs w hE).mono ?_
  rintro e w' ⟨rfl, rfl⟩
  rw [hP]
  exact ⟨_, rfl, Blk.new w _ _, Nat.le_refl _, (Q.refl w).alloc _⟩
set_option maxRecDepth 100000 in
set_option maxHeartbeats 1000000 in
theorem impl_ReadLimits (s : ByteArray) (a b c : Int) (k : Bool) (h : LimR s a b c k) (hs : s.size ≤ 1048576) (w : World) (hE : Env w) :
    Calls Tryd.prog 37 #[.string s] w fun e w' => e = .returned (.tuple #[.agg #[.int .i64 a, .int .i64 b, .int .i64 c], .bool k]) ∧ Q w w' := by
  have R0 := Blk.new w 32 #[.int .i64 0, .int .i64 0, .int .i64 0]
  have Q0 : Q w (w.alloc (.cells #[.int .i64 0, .int .i64 0, .int .i64 0] 32)) := by (repeat (first | assumption | exact Q.refl _ | refine Q.alloc ?_ _ | refine Q.drewN ?_ _ | refine Q.drew ?_))
  have E0 := hE.q Q0
  by_cases hl : (pcs 32 s).length = 3
  · obtain ⟨x, y, z, hw⟩ := len3_of hl
    have K0 := Lib.hid (fun wv (hv : Env wv) => words_blk s hs _ hw wv hv)
    obtain ⟨t1, k1, r1⟩ := TimR.ex x
    obtain ⟨t2, k2, r2⟩ := TimR.ex y
    obtain ⟨t3, k3, r3⟩ := TimR.ex z
    have hsz := congrArg ByteArray.size (pcs_3 hw)
    simp only [ba_len, bs_size] at hsz
    have K1 := Lib.hid (fun wv (hv : Env wv) => impl_ReadTime x t1 k1 r1 (by omega) wv hv)
    have K2 := Lib.hid (fun wv (hv : Env wv) => impl_ReadTime y t2 k2 r2 (by omega) wv hv)
    have K3 := Lib.hid (fun wv (hv : Env wv) => impl_ReadTime z t3 k3 r3 (by omega) wv hv)
    have HO := Lib.hid (h.out hw r1 r2 r3)
    clear h r1 r2 r3 hsz hs hw hl
    go_enter Tryd.func37, Tryd.ntmps37
    go_wp2_with fail
    refine (K0.out _ E0).mono ?_
    rintro e w1 ⟨g, rfl, B1, hg, q1⟩
    simp only [List.map_cons, List.map_nil, List.length_cons, List.length_nil, Nat.zero_add, Nat.reduceAdd] at B1 ⊢
    have E1 := E0.q q1
    have Q1 := Q0.trans q1
    replace R0 := R0.q q1
    clear E0 Q0 q1
    have c0 := B1.cell 0
    have c1 := B1.cell 1
    have c2 := B1.cell 2
    have l1 := B1.lt
    go_wp2_with fail
    refine (K1.out _ E1).mono ?_
    rintro e w2 ⟨rfl, q2⟩
    have E2 := E1.q q2
    have Q2 := Q1.trans q2
    replace R0 := R0.q q2
    replace c1 := q2.cell c1
    replace c2 := q2.cell c2
    clear E1 Q1 q2 c0
    go_wp2_with fail
    refine (K2.out _ E2).mono ?_
    rintro e w3 ⟨rfl, q3⟩
    have E3 := E2.q q3
    have Q3 := Q2.trans q3
    replace R0 := R0.q q3
    replace c2 := q3.cell c2
    clear E2 Q2 q3 c1
    go_wp2_with fail
    refine (K3.out _ E3).mono ?_
    rintro e w4 ⟨rfl, q4⟩
    have Q4 := Q3.trans q4
    replace R0 := R0.q q4
    clear E3 Q3 q4 c2
    have cR := R0.cell
    have fR := R0.frozen
    have lR := R0.lt
    have HO' := HO.out
    clear HO
    rcases HO' with ⟨rfl, rfl, rfl, h4, _, rfl, rfl, rfl, rfl⟩ | ⟨h4, rfl, rfl, rfl, rfl⟩
    · go_wp2_with (go_at_call 61; refine (impl_IsLimits _ _ _ _).mono ?_; rw [h4]; rintro e w5 ⟨rfl, q5⟩; have BX := q5.boxB; have cX := BX.cell; have lX := BX.lt; replace R0 := R0.q ((Q.alloc (Q.refl w4) _).trans q5); have cR := R0.cell; have fR := R0.frozen; have lR := R0.lt)
      have F := (((R0.set3_0 (.int .i64 a)).set3_1 (.int .i64 b)).set3_2 (.int .i64 c)).cell
      refine bodyPost_ret (v := .tuple #[.agg #[.int .i64 a, .int .i64 b, .int .i64 c], .bool true]) (by simp [results, Tryd.results37, go_sem, F]) rfl ⟨rfl, ?_⟩
      exact ((((Q4.alloc _).trans q5).setCell (Nat.le_refl _) _).setCell (Nat.le_refl _) _).setCell (Nat.le_refl _) _
    · cases k1
      · go_wp2_with fail
        have F := ((((R0.set3_0 (.int .i64 0)).set3_1 (.int .i64 0)).set3_2 (.int .i64 0)).alloc (.cells #[.int .i64 t1, .int .i64 t2, .int .i64 t3] 32)).cell
        refine bodyPost_ret (v := .tuple #[.agg #[.int .i64 0, .int .i64 0, .int .i64 0], .bool false]) (by simp [results, Tryd.results37, go_sem, F]) rfl ⟨rfl, ?_⟩
        exact (((Q4.setCell (Nat.le_refl _) _).setCell (Nat.le_refl _) _).setCell (Nat.le_refl _) _).alloc _
      · cases k2
        · go_wp2_with fail
          have F := ((((R0.set3_0 (.int .i64 0)).set3_1 (.int .i64 0)).set3_2 (.int .i64 0)).alloc (.cells #[.int .i64 t1, .int .i64 t2, .int .i64 t3] 32)).cell
          refine bodyPost_ret (v := .tuple #[.agg #[.int .i64 0, .int .i64 0, .int .i64 0], .bool false]) (by simp [results, Tryd.results37, go_sem, F]) rfl ⟨rfl, ?_⟩
          exact (((Q4.setCell (Nat.le_refl _) _).setCell (Nat.le_refl _) _).setCell (Nat.le_refl _) _).alloc _
        · cases k3
          · go_wp2_with fail
            have F := ((((R0.set3_0 (.int .i64 0)).set3_1 (.int .i64 0)).set3_2 (.int .i64 0)).alloc (.cells #[.int .i64 t1, .int .i64 t2, .int .i64 t3] 32)).cell
            refine bodyPost_ret (v := .tuple #[.agg #[.int .i64 0, .int .i64 0, .int .i64 0], .bool false]) (by simp [results, Tryd.results37, go_sem, F]) rfl ⟨rfl, ?_⟩
            exact (((Q4.setCell (Nat.le_refl _) _).setCell (Nat.le_refl _) _).setCell (Nat.le_refl _) _).alloc _
          · have h4 : isLim t1 t2 t3 = false := by simpa using (show isLim t1 t2 t3 = false ∧ limT t1 t2 t3 ≠ s by simpa using h4).1
            go_wp2_with (go_at_call 61; refine (impl_IsLimits _ _ _ _).mono ?_; rw [h4]; rintro e w5 ⟨rfl, q5⟩; have BX := q5.boxB; have cX := BX.cell; have lX := BX.lt; replace R0 := R0.q ((Q.alloc (Q.refl w4) _).trans q5); have cR := R0.cell; have fR := R0.frozen; have lR := R0.lt)
            have F := (((R0.set3_0 (.int .i64 0)).set3_1 (.int .i64 0)).set3_2 (.int .i64 0)).cell
            refine bodyPost_ret (v := .tuple #[.agg #[.int .i64 0, .int .i64 0, .int .i64 0], .bool false]) (by simp [results, Tryd.results37, go_sem, F]) rfl ⟨rfl, ?_⟩
            exact ((((Q4.alloc _).trans q5).setCell (Nat.le_refl _) _).setCell (Nat.le_refl _) _).setCell (Nat.le_refl _) _
  · obtain ⟨rfl, rfl, rfl, rfl⟩ := h.len hl
    obtain ⟨P, hP⟩ : ∃ P, pcs 32 s = P := ⟨_, rfl⟩
    have K0 := Lib.hid (fun wv (hv : Env wv) => words_blk s hs _ hP wv hv)
    rw [hP] at hl
    obtain ⟨N, hN⟩ : ∃ N, N = P.length := ⟨_, rfl⟩
    rw [← hN] at hl K0
    have hNI : ¬ (N : Int) = 3 := by omega
    clear h hs hP hN hl
    go_enter Tryd.func37, Tryd.ntmps37
    go_wp2_with fail
    refine (K0.out _ E0).mono ?_
    rintro e w1 ⟨g, rfl, B1, hg, q1⟩
    replace R0 := R0.q q1
    have cR := R0.cell
    have fR := R0.frozen
    have lR := R0.lt
    have Q4 := Q0.trans q1
    clear B1
    go_wp2_with fail
    have F := (((R0.set3_0 (.int .i64 0)).set3_1 (.int .i64 0)).set3_2 (.int .i64 0)).cell
    refine bodyPost_ret (v := .tuple #[.agg #[.int .i64 0, .int .i64 0, .int .i64 0], .bool false]) (by simp [results, Tryd.results37, go_sem, F]) rfl ⟨rfl, ?_⟩
    exact (((Q4.setCell (Nat.le_refl _) _).setCell (Nat.le_refl _) _).setCell (Nat.le_refl _) _)
end Go.Proofs.YtgdjgjkijcmkfaaDoor
