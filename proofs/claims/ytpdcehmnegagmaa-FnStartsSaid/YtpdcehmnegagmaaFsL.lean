/- Walks: the law on starts. No condition. -/
import Derived.Test.YtpdcehmnegagmaaFsF
import Derived.Test.YtpdcehmnegagmaaDrV
import Derived.Test.YtpdcehmnegagmaaLk
namespace Go.Proofs.Ytpdcehmnegagmaa
open Go.RowKit Go.WideShapes Go.ChangeShapes
set_option maxRecDepth 100000 in
set_option maxHeartbeats 4000000 in
theorem law_FnStarts (A : Option Addr) (n c : Nat) (hc : n ≤ c ∧ c ≤ maxLen) (w : World) (ha : Rd8 w A n) :
    Calls Try.prog 3 #[.slice A n c] w fun e w' => e = .returned (.bool true) ∧ Below w.heap.size w w' := by
  have hn : n ≤ 9223372036854775807 := by unfold maxLen at hc; omega
  clear hc
  have K0 := Lib.hid (fun wv => big_any A n c wv hn)
  by_cases h4 : 4096 < n
  · rw [decide_eq_true h4] at K0
    go_enter Try.func3, Try.ntmps3
    go_wp2_with (go_at_call 5; refine (K0.out _).mono ?_; rintro e w' ⟨rfl, rfl⟩)
    go_ret
    exact ⟨rfl, Q.refl _⟩
  · rw [decide_eq_false h4] at K0
    replace hn : n ≤ 140737488355327 := by omega
    have K1 := Lib.hid (fun wv (h : Rd8 wv A n) => spec_DrawStartOf A n c wv h hn)
    clear h4
    go_enter Try.func3, Try.ntmps3
    go_wp2_with (go_at_call 5; refine (K0.out _).mono ?_; rintro e w' ⟨rfl, rfl⟩)
    refine (K1.out _ ha).mono ?_
    rintro e w1 ⟨x, y, z, u, B, m, d, xs, t, fl, rfl, hx, hl, hm, q1⟩
    clear K0 K1 ha
    have BL : Blk ((w1.alloc (.cells #[.int .i64 x, .int .i64 y, .int .i64 z, .int .i64 u] 27)).alloc (.cells #[.slice B m d] 30)) w1.heap.size 27 #[.int .i64 x, .int .i64 y, .int .i64 z, .int .i64 u] := (Blk.new _ _ _).alloc _
    have BT : Blk ((w1.alloc (.cells #[.int .i64 x, .int .i64 y, .int .i64 z, .int .i64 u] 27)).alloc (.cells #[.slice B m d] 30)) (w1.heap.size + 1) 30 #[.slice B m d] := by simpa using Blk.new (w1.alloc (.cells #[.int .i64 x, .int .i64 y, .int .i64 z, .int .i64 u] 27)) 30 #[.slice B m d]
    have QW : Q w ((w1.alloc (.cells #[.int .i64 x, .int .i64 y, .int .i64 z, .int .i64 u] 27)).alloc (.cells #[.slice B m d] 30)) := (q1.alloc _).alloc _
    replace hx := hx.q (((Q.refl w1).alloc (.cells #[.int .i64 x, .int .i64 y, .int .i64 z, .int .i64 u] 27)).alloc (.cells #[.slice B m d] 30))
    clear q1
    have hm2 : m ≤ 9223372036854775807 := by omega
    have k1 := fun wv (h : Rd wv B xs) => impl_StartOf x y z u B m d xs t fl wv h hl hm2
    have k2 := fun wv (h : Rd wv B xs) => spec_StartOf x y z u B m d xs t fl wv h hl hm2
    by_cases h0 : stK x y z u xs m t fl = 0
    · have k3 := fun wv (h : Rd wv B xs) => impl_IsEarly x y z u B m d xs t wv h hl hm2
      have k4 := fun wv (h : Rd wv B xs) => impl_IsHasty x y z u B m d xs t wv h hl hm2
      obtain ⟨hL, hT, ht, _⟩ := stK_00 h0
      have hst : stC x y z u xs m t = 0 := by unfold stC; rw [if_pos ⟨hL, hT⟩, if_pos ht]
      have hso : soV x y z u xs m t fl = stA x y z u xs m t fl := by unfold soV; rw [if_pos h0]
      have hO : (stA x y z u xs m t fl).1 = 3 → earB x y z u xs m t = true := fun h => by unfold earB; rw [hst, st_ocs h]; rfl
      have hE := @ear_has x y z u xs m t
      rw [hso, h0] at k1 k2
      rw [hst] at k3 k4
      have hY := @st_first x y z u xs m t fl
      have hN := @st_none x y z u xs m t fl
      have k5 : (stA x y z u xs m t fl).1 = 0 → ∀ wv, Rd wv B xs → Calls Try.prog 11 #[.agg #[.slice B m d], .agg #[.int .i64 x, .int .i64 y, .int .i64 z, .int .i64 u], .int .i64 1, .int .i64 (stA x y z u xs m t fl).2.1] wv fun e w' => ∃ o1 o2 o3 o4 : Int, e = .returned (.tuple #[.agg #[.int .i64 (stA x y z u xs m t fl).2.2.1, .int .i64 o1, .int .i64 o2, .int .i64 o3, .int .i64 o4], .int .i64 0]) ∧ Q wv w' := fun h0 wv h => by
        obtain ⟨v0, v1, _⟩ := hY h0
        have := impl_FirstCrossing0 B m d xs x y z u (stA x y z u xs m t fl).2.1 wv h hl hT hL hm2 v0
        rwa [v1] at this
      replace hY : (stA x y z u xs m t fl).1 = 0 → t ≤ (stA x y z u xs m t fl).2.1 := fun h => (hY h).2.2
      clear hso hst h0 hL hT ht
      generalize earB x y z u xs m t = E at *
      generalize hasB x y z u xs m t = H at *
      generalize stA x y z u xs m t fl = p at *
      obtain ⟨p1, p2, p3, p4⟩ := p
      simp only at hO hY hN k5
      unfold stVal at k1 k2
      simp only at k1 k2
      by_cases hc : p1 = 0
      · subst hc
        have K5 := Lib.hid (k5 rfl)
        have hY := hY rfl
        have K1 := Lib.hid k1
        have K2 := Lib.hid k2
        have K3 := Lib.hid k3
        have K4 := Lib.hid k4
        clear k1 k2 k3 k4 k5 hN hO
        have hHE : E = false ∨ (E = true ∧ H = true) := by
          cases hE2 : E
          · exact .inl rfl
          · exact .inr ⟨rfl, hE hE2⟩
        clear hE
        go_wp2_with fail
        refine (K1.out _ hx).mono ?_
        rintro e w2 ⟨rfl, q2⟩
        replace BL := (BL.q q2).alloc (.cells #[.int .i64 0, .int .i64 p2, .int .i64 p3, .bool p4] 34)
        replace BT := (BT.q q2).alloc (.cells #[.int .i64 0, .int .i64 p2, .int .i64 p3, .bool p4] 34)
        have BS := Blk.new w2 34 #[.int .i64 0, .int .i64 p2, .int .i64 p3, .bool p4]
        replace hx := (hx.q q2).q ((Q.refl w2).alloc (.cells #[.int .i64 0, .int .i64 p2, .int .i64 p3, .bool p4] 34))
        replace QW := (QW.trans q2).alloc (.cells #[.int .i64 0, .int .i64 p2, .int .i64 p3, .bool p4] 34)
        have cL := BL.cell
        have cT := BT.cell
        go_wp2_with fail
        refine (K2.out _ hx).mono ?_
        rintro e w3 ⟨rfl, q3⟩
        replace BL := BL.q q3
        replace BT := BT.q q3
        replace BS := BS.q q3
        replace hx := hx.q q3
        replace QW := QW.trans q3
        replace cL := BL.cell
        replace cT := BT.cell
        have cS := BS.cell
        have lL := BL.lt
        have lT := BT.lt
        have lS := BS.lt
        clear q2 q3
        go_wp2_with fail
        refine (K3.out _ (hx.q (by (repeat (first | assumption | exact Q.refl _ | refine Q.alloc ?_ _ | refine Q.drewN ?_ _ | refine Q.drew ?_))))).mono ?_
        rintro e w4 ⟨rfl, q4⟩
        replace QW := (QW.alloc _).trans q4
        replace BL := (BL.alloc _).q q4
        replace BT := (BT.alloc _).q q4
        replace BS := (BS.alloc _).q q4
        replace hx := (hx.q ((Q.refl _).alloc _)).q q4
        replace cL := BL.cell
        replace cT := BT.cell
        replace cS := BS.cell
        replace lL := BL.lt
        replace lT := BT.lt
        replace lS := BS.lt
        clear q4
        go_wp2_with fail
        refine (K4.out _ hx).mono ?_
        rintro e w5 ⟨rfl, q5⟩
        replace QW := QW.trans q5
        replace BL := BL.q q5
        replace BT := BT.q q5
        replace BS := BS.q q5
        replace hx := hx.q q5
        replace cL := BL.cell
        replace cT := BT.cell
        replace cS := BS.cell
        replace lL := BL.lt
        replace lT := BT.lt
        replace lS := BS.lt
        clear q5
        have hYb : decide (t ≤ p2) = true := by simpa using hY
        rcases hHE with rfl | ⟨rfl, rfl⟩
        all_goals
          go_wp2_with fail
          refine (K5.out _ hx).mono ?_
          rintro e w6 ⟨a1, a2, a3, a4, rfl, q6⟩
          have cS6 := (BS.q q6).cell
          have lS6 := (BS.q q6).lt
          go_wp2_with fail
          go_ret
          exact ⟨by first | rfl | simp, (QW.trans q6).alloc _⟩
      · obtain ⟨rfl, rfl, rfl⟩ := hN hc
        have hcb : (p1 == 0) = false := by simpa using hc
        have hcn : (p1 != 0) = true := by simpa using hc
        have K1 := Lib.hid k1
        have K2 := Lib.hid k2
        have K3 := Lib.hid k3
        have K4 := Lib.hid k4
        clear k1 k2 k3 k4 k5 hN hY
        have hHE : (E = false ∧ p1 ≠ 3) ∨ (E = true ∧ H = true) := by
          cases hE2 : E
          · exact .inl ⟨rfl, fun e => by have := hO e; rw [hE2] at this; cases this⟩
          · exact .inr ⟨rfl, hE hE2⟩
        clear hE hO hc
        go_wp2_with fail
        refine (K1.out _ hx).mono ?_
        rintro e w2 ⟨rfl, q2⟩
        replace BL := (BL.q q2).alloc (.cells #[.int .i64 p1, .int .i64 0, .int .i64 0, .bool false] 34)
        replace BT := (BT.q q2).alloc (.cells #[.int .i64 p1, .int .i64 0, .int .i64 0, .bool false] 34)
        have BS := Blk.new w2 34 #[.int .i64 p1, .int .i64 0, .int .i64 0, .bool false]
        replace hx := (hx.q q2).q ((Q.refl w2).alloc (.cells #[.int .i64 p1, .int .i64 0, .int .i64 0, .bool false] 34))
        replace QW := (QW.trans q2).alloc (.cells #[.int .i64 p1, .int .i64 0, .int .i64 0, .bool false] 34)
        have cL := BL.cell
        have cT := BT.cell
        go_wp2_with fail
        refine (K2.out _ hx).mono ?_
        rintro e w3 ⟨rfl, q3⟩
        replace BL := BL.q q3
        replace BT := BT.q q3
        replace BS := BS.q q3
        replace hx := hx.q q3
        replace QW := QW.trans q3
        replace cL := BL.cell
        replace cT := BT.cell
        have cS := BS.cell
        have lL := BL.lt
        have lT := BT.lt
        have lS := BS.lt
        clear q2 q3
        go_wp2_with fail
        refine (K3.out _ (hx.q (by (repeat (first | assumption | exact Q.refl _ | refine Q.alloc ?_ _ | refine Q.drewN ?_ _ | refine Q.drew ?_))))).mono ?_
        rintro e w4 ⟨rfl, q4⟩
        replace QW := (QW.alloc _).trans q4
        replace BL := (BL.alloc _).q q4
        replace BT := (BT.alloc _).q q4
        replace BS := (BS.alloc _).q q4
        replace hx := (hx.q ((Q.refl _).alloc _)).q q4
        replace cL := BL.cell
        replace cT := BT.cell
        replace cS := BS.cell
        replace lL := BL.lt
        replace lT := BT.lt
        replace lS := BS.lt
        clear q4
        go_wp2_with fail
        refine (K4.out _ hx).mono ?_
        rintro e w5 ⟨rfl, q5⟩
        replace QW := QW.trans q5
        replace BL := BL.q q5
        replace BT := BT.q q5
        replace BS := BS.q q5
        replace hx := hx.q q5
        replace cL := BL.cell
        replace cT := BT.cell
        replace cS := BS.cell
        replace lL := BL.lt
        replace lT := BT.lt
        replace lS := BS.lt
        clear q5
        rcases hHE with ⟨rfl, h3⟩ | ⟨rfl, rfl⟩
        · have h3b : (p1 == 3) = false := by simpa using h3
          go_wp2_with fail
          go_ret
          exact ⟨by first | rfl | simp, QW⟩
        · go_wp2_with fail
          all_goals
            go_ret
            exact ⟨by first | rfl | simp, QW⟩
    · have hcn : (stK x y z u xs m t fl != 0) = true := by simpa using h0
      generalize soV x y z u xs m t fl = p at *
      generalize stK x y z u xs m t fl = C at *
      obtain ⟨p1, p2, p3, p4⟩ := p
      unfold stVal at k1 k2
      simp only at k1 k2
      have K1 := Lib.hid k1
      have K2 := Lib.hid k2
      clear k1 k2 h0
      go_wp2_with fail
      refine (K1.out _ hx).mono ?_
      rintro e w2 ⟨rfl, q2⟩
      replace BL := (BL.q q2).alloc (.cells #[.int .i64 p1, .int .i64 p2, .int .i64 p3, .bool p4] 34)
      replace BT := (BT.q q2).alloc (.cells #[.int .i64 p1, .int .i64 p2, .int .i64 p3, .bool p4] 34)
      have BS := Blk.new w2 34 #[.int .i64 p1, .int .i64 p2, .int .i64 p3, .bool p4]
      replace hx := (hx.q q2).q ((Q.refl w2).alloc (.cells #[.int .i64 p1, .int .i64 p2, .int .i64 p3, .bool p4] 34))
      replace QW := (QW.trans q2).alloc (.cells #[.int .i64 p1, .int .i64 p2, .int .i64 p3, .bool p4] 34)
      have cL := BL.cell
      have cT := BT.cell
      go_wp2_with fail
      refine (K2.out _ hx).mono ?_
      rintro e w3 ⟨rfl, q3⟩
      have cS := (BS.q q3).cell
      have lS := (BS.q q3).lt
      go_wp2_with fail
      go_ret
      exact ⟨rfl, (QW.trans q3).alloc _⟩
end Go.Proofs.Ytpdcehmnegagmaa
