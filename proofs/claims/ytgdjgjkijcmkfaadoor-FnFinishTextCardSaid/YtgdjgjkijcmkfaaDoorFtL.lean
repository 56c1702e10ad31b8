/- Walks: the law that finishes are recovered from their text. Condition: what the library's variables hold (Env). -/
import Derived.Test.YtgdjgjkijcmkfaaDoorRfI
import Derived.Test.YtgdjgjkijcmkfaaDoorDrFT
import Derived.Test.YtgdjgjkijcmkfaaDoorLk
namespace Go.Proofs.YtgdjgjkijcmkfaaDoor
open Go.RowKit Go.WideShapes Go.ChangeShapes
set_option maxRecDepth 100000 in
set_option maxHeartbeats 4000000 in
theorem law_FnFinishText (A : Option Addr) (n c : Nat) (hc : n ≤ c ∧ c ≤ maxLen) (w : World) (ha : Rd8 w A n) (hE : Env w) :
    Calls Tryd.prog 11 #[.slice A n c] w fun e w' => e = .returned (.bool true) ∧ Below w.heap.size w w' := by
  have hn : n ≤ 9223372036854775807 := by unfold maxLen at hc; omega
  clear hc
  have K0 := Lib.hid (fun wv => big_any A n c wv hn)
  by_cases h4 : 4096 < n
  · rw [decide_eq_true h4] at K0
    go_enter Tryd.func11, Tryd.ntmps11
    go_wp2_with (go_at_call 33; refine (K0.out _).mono ?_; rintro e w' ⟨rfl, rfl⟩)
    go_ret
    exact ⟨rfl, Q.refl _⟩
  · rw [decide_eq_false h4] at K0
    replace hn : n ≤ 140737488355327 := by omega
    have K1 := Lib.hid (fun wv (h : Rd8 wv A n) => spec_DrawFinishText A n c wv h hn)
    clear h4
    go_enter Tryd.func11, Tryd.ntmps11
    go_wp2_with (go_at_call 33; refine (K0.out _).mono ?_; rintro e w' ⟨rfl, rfl⟩)
    refine (K1.out _ ha).mono ?_
    rintro e w1 ⟨x, y, z, rfl, q1⟩
    have B0 := Blk.new w1 44 #[.int .i64 x, .int .i64 y, .int .i64 z]
    have Q1 : Q w (w1.alloc (.cells #[.int .i64 x, .int .i64 y, .int .i64 z] 44)) := q1.alloc _
    have E1 := hE.q Q1
    clear K0 K1 q1
    have hT := FinR.text x y z
    have hsz : (finT x y z).size ≤ 1048576 := by
      cases hl : isFin x y z
      · rw [finT_no hl]; decide
      · have h0 := fin_bd hl
        have h1 := nmS_le (n := x) (by omega)
        have h2 := codeName_le y
        have h3 := tmS_le z
        unfold finT
        rw [if_pos hl]
        split
        · rw [ba_len, ba_len, ba_len, ba_len, bs_size]
          simp only [List.length_cons, List.length_nil]
          omega
        · rw [ba_len, ba_len, bs_size]
          simp only [List.length_cons, List.length_nil]
          omega
    have K2 := Lib.hid (fun wv (h : Env wv) => impl_FinishText x y z wv h.tbl)
    have K3 := Lib.hid (fun wv (h : Env wv) => impl_ReadFinish _ _ _ _ _ hT hsz wv h)
    have K4 := Lib.hid (fun wv => spec_FinishText x y z wv)
    have K5 := Lib.hid (fun wv => impl_CodeText y wv)
    have K6 := Lib.hid (fun wv => impl_ReadCode (codeName y) wv)
    have K7 := Lib.hid (fun wv => impl_IsFinish x y z wv)
    have hne : isFin x y z = true → (finT x y z).toList ≠ [] := by
      intro hl hh
      have he : finT x y z = ⟨#[]⟩ := bytes_eq (a := finT x y z) (b := ⟨#[]⟩) (by rw [hh]; simp)
      have h9 := FinR.text x y z
      rw [hl, he] at h9
      have := h9.len (Or.inl (by rw [pcs_nil]; decide))
      simp at this
    have hno : isFin x y z = false → finT x y z = ⟨#[]⟩ := finT_no
    have hcd : isFin x y z = true → codeOf (codeName y) = (y, true) := fun hl => codeOf_name (fin_bd hl).2.1
    clear hT hsz
    generalize finT x y z = S at *
    generalize codeOf (codeName y) = CC at *
    generalize codeName y = CN at *
    obtain ⟨FB, hFB⟩ : ∃ FB, FB = isFin x y z := ⟨_, rfl⟩
    rw [← hFB] at K7 K3 hne hno hcd
    clear hFB
    cases FB
    · obtain rfl := hno rfl
      clear hne hno hcd
      simp only [Bool.false_eq_true, if_false] at K3
      obtain ⟨cv, ck⟩ := CC
      have cB := B0.cell
      have lB := B0.lt
      go_wp2_with fail
      refine (K2.out _ E1).mono ?_
      rintro e w2 ⟨rfl, q2⟩
      have E2 := E1.q q2
      have Q2 := Q1.trans q2
      replace B0 := B0.q q2
      clear E1 Q1 q2 cB lB
      go_wp2_with fail
      refine (K3.out _ E2).mono ?_
      rintro e w3 ⟨rfl, q3⟩
      have Q3 := Q2.trans q3
      replace B0 := B0.q q3
      have cB := B0.cell
      have lB := B0.lt
      clear E2 Q2 q3
      go_wp2_with fail
      refine (K5.out _).mono ?_
      rintro e w4 ⟨rfl, q4⟩
      have q4 : Q _ w4 := q4
      have BX := q4.boxB
      replace B0 := B0.q ((Q.alloc (Q.refl w3) _).trans q4)
      have Q4 := (Q3.alloc _).trans q4
      clear cB lB q4 Q3
      go_wp2_with fail
      refine (K6.out _).mono ?_
      rintro e w5 ⟨rfl, q5⟩
      replace BX := BX.q q5
      replace B0 := B0.q q5
      have Q5 := Q4.trans q5
      have cB := B0.cell
      have lB := B0.lt
      clear Q4 q5
      go_wp2_with fail
      refine (K4.out _).mono ?_
      rintro e w6 ⟨rfl, q6⟩
      replace BX := BX.q q6
      replace B0 := B0.q q6
      have Q6 := Q5.trans q6
      have cX := BX.cell
      have lX := BX.lt
      clear cB lB
      have cB := B0.cell
      have lB := B0.lt
      go_wp2_with fail
      refine (K7.out _).mono ?_
      rintro e w7 ⟨rfl, q7⟩
      replace B0 := B0.q q7
      have Q7 := Q6.trans q7
      clear cB lB cX lX
      have cB := B0.cell
      have lB := B0.lt
      go_wp2_with fail
      go_ret
      exact ⟨rfl, Q7⟩
    · have hne2 := hne rfl
      have hcd2 := hcd rfl
      subst hcd2
      clear hno hne hcd
      simp only [if_true] at K3
      have cB := B0.cell
      have lB := B0.lt
      go_wp2_with fail
      refine (K2.out _ E1).mono ?_
      rintro e w2 ⟨rfl, q2⟩
      have E2 := E1.q q2
      have Q2 := Q1.trans q2
      replace B0 := B0.q q2
      clear E1 Q1 q2 cB lB
      go_wp2_with fail
      refine (K3.out _ E2).mono ?_
      rintro e w3 ⟨rfl, q3⟩
      have Q3 := Q2.trans q3
      replace B0 := B0.q q3
      have cB := B0.cell
      have lB := B0.lt
      clear E2 Q2 q3
      go_wp2_with fail
      refine (K5.out _).mono ?_
      rintro e w4 ⟨rfl, q4⟩
      have q4 : Q _ w4 := q4
      have BX := q4.boxB
      replace B0 := B0.q ((Q.alloc (Q.refl w3) _).trans q4)
      have Q4 := (Q3.alloc _).trans q4
      clear cB lB q4 Q3
      go_wp2_with fail
      refine (K6.out _).mono ?_
      rintro e w5 ⟨rfl, q5⟩
      replace BX := BX.q q5
      replace B0 := B0.q q5
      have Q5 := Q4.trans q5
      have cB := B0.cell
      have lB := B0.lt
      clear Q4 q5
      go_wp2_with fail
      refine (K4.out _).mono ?_
      rintro e w6 ⟨rfl, q6⟩
      replace BX := BX.q q6
      replace B0 := B0.q q6
      have Q6 := Q5.trans q6
      have cX := BX.cell
      have lX := BX.lt
      clear cB lB
      have cB := B0.cell
      have lB := B0.lt
      go_wp2_with fail
      refine (K7.out _).mono ?_
      rintro e w7 ⟨rfl, q7⟩
      replace B0 := B0.q q7
      have Q7 := Q6.trans q7
      clear cB lB cX lX
      have cB := B0.cell
      have lB := B0.lt
      go_wp2_with fail
      go_ret
      exact ⟨by simp [hne2], Q7⟩
end Go.Proofs.YtgdjgjkijcmkfaaDoor
