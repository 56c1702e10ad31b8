/- Walks: the reading of limits, as the reference does it. No condition. -/
import Derived.Test.YtgdjgjkijcmkfaaDoorSRT
import Derived.Test.YtgdjgjkijcmkfaaDoorSpW
import Derived.Test.YtgdjgjkijcmkfaaDoorRfI
import Derived.Test.YtgdjgjkijcmkfaaDoorEqLimits
namespace Go.Proofs.YtgdjgjkijcmkfaaDoor
open Go.RowKit Go.WideShapes Go.ChangeShapes Go.Deep
/-- The words of a string, as the reference parts them. -/
theorem words_own (s : ByteArray) (hs : s.size ≤ 1048576) (P : List ByteArray) (hP : pcs 32 s = P) (w : World) :
    Calls Tryd.prog 69 #[.string s, .int .u8 32] w fun e w' => ∃ g d, e = .returned (.slice (some ⟨g, 0, none⟩) P.length d) ∧ (∀ j x, P[j]? = some x → w'.cell? ⟨g, j, none⟩ = some (.string x)) ∧ P.length ≤ d ∧ g < w'.heap.size ∧ Q w w' := by
  have h := spec_Split 32 s hs w
  rw [show (((32 : UInt8).toNat : Nat) : Int) = 32 from rfl, hP] at h
  refine h.mono ?_
  rintro e w' ⟨A, d, rfl, o, q⟩
  have hp := pcs_pos 32 s
  rw [hP] at hp
  obtain ⟨g, rfl, _⟩ := o.split hp
  exact ⟨g, d, rfl, fun j x hx => o.cell rfl hx, o.cap, (o.from _ rfl).2, q⟩
set_option maxRecDepth 100000 in
set_option maxHeartbeats 1000000 in
theorem spec_ReadLimits (s : ByteArray) (a b c : Int) (k : Bool) (h : LimR s a b c k) (hs : s.size ≤ 1048576) (w : World) :
    Calls Tryd.prog 45 #[.string s] w fun e w' => e = .returned (.tuple #[.agg #[.int .i64 a, .int .i64 b, .int .i64 c], .bool k]) ∧ Q w w' := by
  have R0 := Blk.new w 32 #[.int .i64 0, .int .i64 0, .int .i64 0]
  have Q0 : Q w (w.alloc (.cells #[.int .i64 0, .int .i64 0, .int .i64 0] 32)) := by (repeat (first | assumption | exact Q.refl _ | refine Q.alloc ?_ _ | refine Q.drewN ?_ _ | refine Q.drew ?_))
  by_cases hl : (pcs 32 s).length = 3
  · obtain ⟨x, y, z, hw⟩ := len3_of hl
    have K0 := Lib.hid (fun wv => words_own s hs _ hw wv)
    obtain ⟨t1, k1, r1⟩ := TimR.ex x
    obtain ⟨t2, k2, r2⟩ := TimR.ex y
    obtain ⟨t3, k3, r3⟩ := TimR.ex z
    have hsz := congrArg ByteArray.size (pcs_3 hw)
    simp only [ba_len, bs_size] at hsz
    have K1 := Lib.hid (fun wv => spec_ReadTime x t1 k1 r1 (by omega) wv)
    have K2 := Lib.hid (fun wv => spec_ReadTime y t2 k2 r2 (by omega) wv)
    have K3 := Lib.hid (fun wv => spec_ReadTime z t3 k3 r3 (by omega) wv)
    have HO := Lib.hid (h.out hw r1 r2 r3)
    have K4 := Lib.hid (fun wv => spec_LimitsText t1 t2 t3 wv)
    clear h r1 r2 r3 hsz hs hw hl
    go_enter Tryd.func45, Tryd.ntmps45
    go_wp2_with fail
    refine (K0.out _).mono ?_
    rintro e w1 ⟨g, d, rfl, cj, hd, l1, q1⟩
    simp only [List.length_cons, List.length_nil, Nat.zero_add, Nat.reduceAdd] at hd ⊢
    have Q1 := Q0.trans q1
    replace R0 := R0.q q1
    have c0 := cj 0 x rfl
    have c1 := cj 1 y rfl
    have c2 := cj 2 z rfl
    clear Q0 q1 cj
    go_wp2_with fail
    refine (K1.out _).mono ?_
    rintro e w2 ⟨rfl, q2⟩
    have Q2 := Q1.trans q2
    replace R0 := R0.q q2
    replace c1 := q2.cell c1
    replace c2 := q2.cell c2
    clear Q1 q2 c0
    go_wp2_with fail
    refine (K2.out _).mono ?_
    rintro e w3 ⟨rfl, q3⟩
    have Q3 := Q2.trans q3
    replace R0 := R0.q q3
    replace c2 := q3.cell c2
    clear Q2 q3 c1
    go_wp2_with fail
    refine (K3.out _).mono ?_
    rintro e w4 ⟨rfl, q4⟩
    have Q4 := Q3.trans q4
    replace R0 := R0.q q4
    clear Q3 q4 c2
    have cR := R0.cell
    have fR := R0.frozen
    have lR := R0.lt
    have HO' := HO.out
    clear HO
    rcases HO' with ⟨rfl, rfl, rfl, h4, hT, rfl, rfl, rfl, rfl⟩ | ⟨h4, rfl, rfl, rfl, rfl⟩
    · rw [hT] at K4
      clear hT h4
      go_wp2_with (go_at_call 20; refine (K4.out _).mono ?_; rintro e w5 ⟨rfl, q5⟩; have BX := q5.boxB; have cX := BX.cell; have lX := BX.lt; replace R0 := R0.q ((Q.alloc (Q.refl w4) _).trans q5); have cR := R0.cell; have fR := R0.frozen; have lR := R0.lt)
      have F := (((R0.set3_0 (.int .i64 a)).set3_1 (.int .i64 b)).set3_2 (.int .i64 c)).cell
      refine bodyPost_ret (v := .tuple #[.agg #[.int .i64 a, .int .i64 b, .int .i64 c], .bool true]) (by simp [results, Tryd.results45, go_sem, F]) rfl ⟨rfl, ?_⟩
      exact ((((Q4.alloc _).trans q5).setCell (Nat.le_refl _) _).setCell (Nat.le_refl _) _).setCell (Nat.le_refl _) _
    · cases k1
      · go_wp2_with fail
        have F := ((((R0.set3_0 (.int .i64 0)).set3_1 (.int .i64 0)).set3_2 (.int .i64 0)).alloc (.cells #[.int .i64 t1, .int .i64 t2, .int .i64 t3] 32)).cell
        refine bodyPost_ret (v := .tuple #[.agg #[.int .i64 0, .int .i64 0, .int .i64 0], .bool false]) (by simp [results, Tryd.results45, go_sem, F]) rfl ⟨rfl, ?_⟩
        exact (((Q4.setCell (Nat.le_refl _) _).setCell (Nat.le_refl _) _).setCell (Nat.le_refl _) _).alloc _
      · cases k2
        · go_wp2_with fail
          have F := ((((R0.set3_0 (.int .i64 0)).set3_1 (.int .i64 0)).set3_2 (.int .i64 0)).alloc (.cells #[.int .i64 t1, .int .i64 t2, .int .i64 t3] 32)).cell
          refine bodyPost_ret (v := .tuple #[.agg #[.int .i64 0, .int .i64 0, .int .i64 0], .bool false]) (by simp [results, Tryd.results45, go_sem, F]) rfl ⟨rfl, ?_⟩
          exact (((Q4.setCell (Nat.le_refl _) _).setCell (Nat.le_refl _) _).setCell (Nat.le_refl _) _).alloc _
        · cases k3
          · go_wp2_with fail
            have F := ((((R0.set3_0 (.int .i64 0)).set3_1 (.int .i64 0)).set3_2 (.int .i64 0)).alloc (.cells #[.int .i64 t1, .int .i64 t2, .int .i64 t3] 32)).cell
            refine bodyPost_ret (v := .tuple #[.agg #[.int .i64 0, .int .i64 0, .int .i64 0], .bool false]) (by simp [results, Tryd.results45, go_sem, F]) rfl ⟨rfl, ?_⟩
            exact (((Q4.setCell (Nat.le_refl _) _).setCell (Nat.le_refl _) _).setCell (Nat.le_refl _) _).alloc _
          · have hT := str_ne (show isLim t1 t2 t3 = false ∧ limT t1 t2 t3 ≠ s by simpa using h4).2
            clear h4
            generalize limT t1 t2 t3 = S at *
            go_wp2_with (go_at_call 20; refine (K4.out _).mono ?_; rintro e w5 ⟨rfl, q5⟩; have BX := q5.boxB; have cX := BX.cell; have lX := BX.lt; replace R0 := R0.q ((Q.alloc (Q.refl w4) _).trans q5); have cR := R0.cell; have fR := R0.frozen; have lR := R0.lt)
            have F := (((R0.set3_0 (.int .i64 0)).set3_1 (.int .i64 0)).set3_2 (.int .i64 0)).cell
            refine bodyPost_ret (v := .tuple #[.agg #[.int .i64 0, .int .i64 0, .int .i64 0], .bool false]) (by simp [results, Tryd.results45, go_sem, F]) rfl ⟨rfl, ?_⟩
            exact ((((Q4.alloc _).trans q5).setCell (Nat.le_refl _) _).setCell (Nat.le_refl _) _).setCell (Nat.le_refl _) _
  · obtain ⟨rfl, rfl, rfl, rfl⟩ := h.len hl
    obtain ⟨P, hP⟩ : ∃ P, pcs 32 s = P := ⟨_, rfl⟩
    have K0 := Lib.hid (fun wv => words_own s hs _ hP wv)
    rw [hP] at hl
    obtain ⟨N, hN⟩ : ∃ N, N = P.length := ⟨_, rfl⟩
    rw [← hN] at hl K0
    have hNI : ¬ (N : Int) = 3 := by omega
    clear h hs hP hN hl
    go_enter Tryd.func45, Tryd.ntmps45
    go_wp2_with fail
    refine (K0.out _).mono ?_
    rintro e w1 ⟨g, d, rfl, cj, hd, l1, q1⟩
    replace R0 := R0.q q1
    have cR := R0.cell
    have fR := R0.frozen
    have lR := R0.lt
    have Q4 := Q0.trans q1
    clear cj
    go_wp2_with fail
    have F := (((R0.set3_0 (.int .i64 0)).set3_1 (.int .i64 0)).set3_2 (.int .i64 0)).cell
    refine bodyPost_ret (v := .tuple #[.agg #[.int .i64 0, .int .i64 0, .int .i64 0], .bool false]) (by simp [results, Tryd.results45, go_sem, F]) rfl ⟨rfl, ?_⟩
    exact ((Q4.setCell (Nat.le_refl _) _).setCell (Nat.le_refl _) _).setCell (Nat.le_refl _) _
set_option maxRecDepth 100000 in
set_option maxHeartbeats 1000000 in
theorem law_FnExactReadLimits (s : ByteArray) (hs : s.size ≤ maxLen) (w : World) (hE : Env w) : Calls Tryd.prog 12 #[.string s] w fun e w' => e = .returned (.bool true) ∧ Below w.heap.size w w' := by
  unfold maxLen at hs
  by_cases hb : (s.size : Int) ≤ 1048576
  · obtain ⟨a, b, c, k, h⟩ := LimR.ex s
    have K1 := Lib.hid (fun wv => spec_ReadLimits s a b c k h (by omega) wv)
    have K2 := Lib.hid (fun wv (hv : Env wv) => impl_ReadLimits s a b c k h (by omega) wv hv)
    have K3 := Lib.hid (fun wv => eqLimits_any a b c a b c wv)
    clear h
    go_enter Tryd.func12, Tryd.ntmps12
    go_wp2_with fail
    refine (K1.out _).mono ?_
    rintro e w1 ⟨rfl, q1⟩
    have B1 := Blk.new w1 32 #[.int .i64 a, .int .i64 b, .int .i64 c]
    have Q1 := q1.alloc (.cells #[.int .i64 a, .int .i64 b, .int .i64 c] 32)
    have E1 := hE.q Q1
    go_wp2_with fail
    refine (K2.out _ E1).mono ?_
    rintro e w2 ⟨rfl, q2⟩
    replace B1 := B1.q q2
    have Q2 := Q1.trans q2
    have cB := B1.cell
    have lB := B1.lt
    clear E1 Q1 q2
    go_wp2_with fail
    refine (K3.out _).mono ?_
    rintro e w3 ⟨rfl, q3⟩
    go_wp2_with fail
    go_ret
    exact ⟨rfl, (Q2.alloc _).trans q3⟩
  · go_enter Tryd.func12, Tryd.ntmps12
    go_wp2_with fail
    go_ret
    exact ⟨rfl, Q.refl _⟩
end Go.Proofs.YtgdjgjkijcmkfaaDoor
