/- Walks: the law that incidents are recovered from their text. Condition: what the library's variables hold (Env). -/
import Derived.Test.YtgdjgjkijcmkfaaDoorRcI
import Derived.Test.YtgdjgjkijcmkfaaDoorDrIT
import Derived.Test.YtgdjgjkijcmkfaaDoorIncS
import Derived.Test.YtgdjgjkijcmkfaaDoorLk
namespace Go.Proofs.YtgdjgjkijcmkfaaDoor
open Go.RowKit Go.WideShapes Go.ChangeShapes
set_option maxRecDepth 100000 in
set_option maxHeartbeats 4000000 in
theorem law_FnIncidentText (A : Option Addr) (n c : Nat) (hc : n ≤ c ∧ c ≤ maxLen) (w : World) (ha : Rd8 w A n) (hE : Env w) :
    Calls Tryd.prog 10 #[.slice A n c] w fun e w' => e = .returned (.bool true) ∧ Below w.heap.size w w' := by
  have hn : n ≤ 9223372036854775807 := by unfold maxLen at hc; omega
  clear hc
  have K0 := Lib.hid (fun wv => big_any A n c wv hn)
  by_cases h4 : 4096 < n
  · rw [decide_eq_true h4] at K0
    go_enter Tryd.func10, Tryd.ntmps10
    go_wp2_with (go_at_call 33; refine (K0.out _).mono ?_; rintro e w' ⟨rfl, rfl⟩)
    go_ret
    exact ⟨rfl, Q.refl _⟩
  · rw [decide_eq_false h4] at K0
    replace hn : n ≤ 140737488355327 := by omega
    have K1 := Lib.hid (fun wv (h : Rd8 wv A n) => spec_DrawIncidentText A n c wv h hn)
    clear h4
    go_enter Tryd.func10, Tryd.ntmps10
    go_wp2_with (go_at_call 33; refine (K0.out _).mono ?_; rintro e w' ⟨rfl, rfl⟩)
    refine (K1.out _ ha).mono ?_
    rintro e w1 ⟨x, y, z, u, v, rfl, q1⟩
    have B0 := Blk.new w1 38 #[.int .i64 x, .int .i64 y, .int .i64 z, .int .i64 u, .int .i64 v]
    have Q1 : Q w (w1.alloc (.cells #[.int .i64 x, .int .i64 y, .int .i64 z, .int .i64 u, .int .i64 v] 38)) := q1.alloc _
    have E1 := hE.q Q1
    clear K0 K1 q1
    have hT := IncR.text x y z u v
    have hsz : (incT x y z u v).size ≤ 1048576 := by
      cases hl : isInc x y z u v
      · rw [incT_no hl]; decide
      · have hb := inc_bd hl
        have h1 := tmS_le x
        have h2 := nmS_le (n := y) (by omega)
        have h3 := nmS_le (n := z) (by omega)
        have h4 := rsn_le v
        unfold incT
        rw [if_pos hl]
        split
        · simp only [ba_len, bs_size, List.length_cons, List.length_nil]
          omega
        · have h5 := nmS_le (n := u) (by omega)
          simp only [ba_len, bs_size, List.length_cons, List.length_nil]
          omega
    have K2 := Lib.hid (fun wv (h : Env wv) => impl_IncidentText x y z u v wv h.tbl)
    have K3 := Lib.hid (fun wv (h : Env wv) => impl_ReadIncident _ _ _ _ _ _ _ hT hsz wv h)
    have K4 := Lib.hid (fun wv => spec_IncidentText x y z u v wv)
    have hne : isInc x y z u v = true → ((incT x y z u v).toList == (⟨#[]⟩ : ByteArray).toList) = false := by
      intro hl
      rw [beq_eq_false_iff_ne]
      intro hh
      have he := bytes_eq (a := incT x y z u v) (b := ⟨#[]⟩) (by simpa using hh)
      exact incT_ne hl he
    have hno : isInc x y z u v = false → incT x y z u v = ⟨#[]⟩ := incT_no
    clear hT hsz
    generalize incT x y z u v = S at *
    cases hl : isInc x y z u v
    · obtain rfl := hno hl
      clear hne hno
      rw [hl] at K3
      simp only [Bool.false_eq_true, if_false] at K3
      have cB := B0.cell
      have lB := B0.lt
      go_wp2_with fail
      refine (K2.out _ E1).mono ?_
      rintro e w2 ⟨rfl, q2⟩
      have E2 := E1.q q2
      have Q2 := Q1.trans q2
      replace B0 := B0.q q2
      clear E1 Q1 q2 cB lB
      go_wp2_with fail
      refine (K3.out _ E2).mono ?_
      rintro e w3 ⟨rfl, q3⟩
      have Q3 := Q2.trans q3
      replace B0 := B0.q q3
      have cB := B0.cell
      have lB := B0.lt
      clear E2 Q2 q3
      go_wp2_with fail
      refine (K4.out _).mono ?_
      rintro e w4 ⟨rfl, q4⟩
      go_wp2_with fail
      go_ret
      exact ⟨rfl, (Q3.alloc _).trans q4⟩
    · have hne := hne hl
      have hne2 : S.toList ≠ [] := by
        intro hh
        rw [hh] at hne
        simp at hne
      clear hno
      rw [hl] at K3
      simp only [if_true] at K3
      have cB := B0.cell
      have lB := B0.lt
      go_wp2_with fail
      refine (K2.out _ E1).mono ?_
      rintro e w2 ⟨rfl, q2⟩
      have E2 := E1.q q2
      have Q2 := Q1.trans q2
      replace B0 := B0.q q2
      clear E1 Q1 q2 cB lB
      go_wp2_with fail
      refine (K3.out _ E2).mono ?_
      rintro e w3 ⟨rfl, q3⟩
      have Q3 := Q2.trans q3
      replace B0 := B0.q q3
      have cB := B0.cell
      have lB := B0.lt
      clear E2 Q2 q3
      go_wp2_with fail
      refine (K4.out _).mono ?_
      rintro e w4 ⟨rfl, q4⟩
      have BX := q4.boxB
      replace B0 := B0.q ((Q.alloc (Q.refl w3) _).trans q4)
      have cX := BX.cell
      have lX := BX.lt
      have cB := B0.cell
      have lB := B0.lt
      go_wp2_with fail
      go_ret
      exact ⟨by simp [hne2], (Q3.alloc _).trans q4⟩
end Go.Proofs.YtgdjgjkijcmkfaaDoor
