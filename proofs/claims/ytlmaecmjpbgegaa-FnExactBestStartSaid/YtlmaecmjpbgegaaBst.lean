/- Walks: the best start, as the program and the reference find it, for all arguments. -/
import Derived.Test.YtlmaecmjpbgegaaSts
namespace Go.Proofs.Ytlmaecmjpbgegaa
open Go.RowKit Go.WideShapes Go.ChangeShapes
/-- The best of the first k starts. -/
def bsTo (L : List St4) : Nat → Int
  | 0 => -1
  | k + 1 => if (sx L k).1 = 0 ∧ (bsTo L k < 0 ∨ (sx L k).2.2.1 < (sx L (bsTo L k).toNat).2.2.1) then (k : Int) else bsTo L k
theorem bsTo_bd (L : List St4) : ∀ k, -1 ≤ bsTo L k ∧ bsTo L k < (k : Int) := by
  intro k
  induction k with
  | zero => simp [bsTo]
  | succ k ih =>
    unfold bsTo
    split
    · omega
    · omega
theorem bsTo_yes {L : List St4} {k : Nat} (h0 : (sx L k).1 = 0) (h : bsTo L k < 0 ∨ (sx L k).2.2.1 < (sx L (bsTo L k).toNat).2.2.1) : bsTo L (k + 1) = (k : Int) := by
  rw [bsTo, if_pos ⟨h0, h⟩]
theorem bsTo_no {L : List St4} {k : Nat} (h : ¬ ((sx L k).1 = 0 ∧ (bsTo L k < 0 ∨ (sx L k).2.2.1 < (sx L (bsTo L k).toNat).2.2.1))) : bsTo L (k + 1) = bsTo L k := by
  rw [bsTo, if_neg h]
def bsC (a b c d : Int) (D : List (Nat × List Int)) (t fl : Int) : Int := if stsC a b c d D t fl = 0 then (if bsTo (stsL a b c d D t fl) (stsL a b c d D t fl).length < 0 then 4 else 0) else stsC a b c d D t fl
def bsV (a b c d : Int) (D : List (Nat × List Int)) (t fl : Int) : Int := if bsC a b c d D t fl = 0 then bsTo (stsL a b c d D t fl) (stsL a b c d D t fl).length else 0
set_option maxHeartbeats 2000000 in
theorem impl_BestStart (a b c d : Int) (A : Option Addr) (n cc : Nat) (D : List (Nat × List Int)) (t fl : Int) (w : World) (ha : RdD w A D) (hD : D.length = n) (hn2 : n ≤ 9223372036854775807) :
    Calls Try.prog 43 #[.agg #[.int .i64 a, .int .i64 b, .int .i64 c, .int .i64 d], .slice A n cc, .int .i64 t, .int .i64 fl] w fun e w' => e = .returned (.tuple #[.int .i64 (bsV a b c d D t fl), .int .i64 (bsC a b c d D t fl)]) ∧ Q w w' := by
  have k0 := (fun wv (h : RdD wv A D) => impl_StartsOf a b c d A n cc D t fl wv h hD hn2)
  have hm := stsL_len a b c d D t fl
  have hC := Lib.hid (show bsC a b c d D t fl = if stsC a b c d D t fl = 0 then (if bsTo (stsL a b c d D t fl) (stsL a b c d D t fl).length < 0 then 4 else 0) else stsC a b c d D t fl from rfl)
  have hV := Lib.hid (show bsV a b c d D t fl = if bsC a b c d D t fl = 0 then bsTo (stsL a b c d D t fl) (stsL a b c d D t fl).length else 0 from rfl)
  generalize bsC a b c d D t fl = C at *
  generalize bsV a b c d D t fl = V at *
  generalize stsC a b c d D t fl = S at *
  obtain ⟨L, hL⟩ : ∃ L, L = stsL a b c d D t fl := ⟨_, rfl⟩
  rw [← hL] at k0 hm hC hV
  clear hL
  obtain ⟨m, hml⟩ : ∃ m, m = L.length := ⟨_, rfl⟩
  rw [← hml] at k0 hm hC hV
  have HM := Lib.hid hml.symm
  clear hml
  have K0 := Lib.hid k0
  clear k0
  by_cases h0 : S = 0
  · subst h0
    have hC : Hid (C = if bsTo L m < 0 then 4 else 0) := Lib.hid (hC.out.trans (if_pos rfl))
    go_enter Try.func43, Try.ntmps43
    go_wp2_with fail
    refine (K0.out _ (ha.q (by (repeat (first | assumption | exact Q.refl _ | refine Q.alloc ?_ _ | refine Q.drewN ?_ _ | refine Q.drew ?_))))).mono ?_
    rintro e w1 ⟨A1, d1, rfl, hown, q1⟩
    have Q1 : Q w w1 := Q.trans (by (repeat (first | assumption | exact Q.refl _ | refine Q.alloc ?_ _ | refine Q.drewN ?_ _ | refine Q.drew ?_))) q1
    have hr := hown.rd
    clear hown
    go_wp2_with fail
    go_loopw [12, 28] (fun v i wr => ∃ k : Nat, k ≤ m ∧ i = .int .i64 k ∧ v = .int .i64 (bsTo L k) ∧ Q w1 wr) (fun _ i _ => m - (intOf i).toNat)
    case atStart => exact ⟨0, by omega, rfl, rfl, by (repeat (first | assumption | exact Q.refl _ | refine Q.alloc ?_ _ | refine Q.drewN ?_ _ | refine Q.drew ?_))⟩
    case round =>
      obtain ⟨k, hk, rfl, rfl, hq⟩ := hrel
      have hB := bsTo_bd L k
      have hY := Lib.hid (@bsTo_yes L k)
      have hN := Lib.hid (@bsTo_no L k)
      by_cases hlt : k < m
      · obtain ⟨b1, o1, rfl, g0, g1, g2, g3⟩ := (hr.q hq).at_ HM.out hlt
        obtain ⟨p, hp⟩ : ∃ p, p = sx L k := ⟨_, rfl⟩
        rw [← hp] at g0 g1 g2 g3 hY hN
        obtain ⟨x, y, z, u⟩ := p
        have hY := Lib.hid (show x = 0 → (bsTo L k < 0 ∨ z < (sx L (bsTo L k).toNat).2.2.1) → bsTo L (k + 1) = (k : Int) from fun e f => hY.out e f)
        have hN := Lib.hid (show ¬ (x = 0 ∧ (bsTo L k < 0 ∨ z < (sx L (bsTo L k).toNat).2.2.1)) → bsTo L (k + 1) = bsTo L k from fun e => hN.out e)
        dsimp only at g0 g1 g2 g3
        clear hp
        by_cases hx : x = 0
        · subst hx
          by_cases hb : bsTo L k < 0
          · have HE := Lib.hid (hY.out rfl (.inl hb))
            generalize bsTo L k = b0 at *
            have c3 := (Blk.new wr 65 #[.int .i64 0, .int .i64 y, .int .i64 z, .bool u]).cell
            go_wp2_with fail
            refine wp_region_quiet_lit (by kernel_rfl) (by kernel_rfl) ?_
            repeat (any_goals (first | go_big_quiet_step ( fail) | quiet_step ( fail) | (refine wpQuiet_step (fun K hK => ?_); go_simp; split <;> (refine hK _ ?_; clear hK K))))
            all_goals (refine wpQuiet_nil ?_; intro _ hw'; obtain ⟨nq, hw''⟩ := hw'; subst hw'')
            all_goals go_wp2_with fail
            go_roundw
            case rel => exact ⟨k + 1, by omega, by go_num, by rw [HE.out], hq.trans (by (repeat (first | assumption | exact Q.refl _ | refine Q.alloc ?_ _ | refine Q.drewN ?_ _ | refine Q.drew ?_)))⟩
            case measure => simp [intOf]; omega
          · obtain ⟨j, hj⟩ : ∃ j : Nat, bsTo L k = (j : Int) := ⟨(bsTo L k).toNat, by omega⟩
            have hjk : j < k := by omega
            obtain ⟨b2, o2, he, j0, j1, j2, j3⟩ := (hr.q hq).at_ HM.out (show j < m by omega)
            cases he
            have hjm : j < m := by omega
            have hjI : (j : Int) < (m : Int) := by omega
            rw [hj] at hY hN hb ⊢
            clear hB hj
            have ej : ((j : Int)).toNat = j := by simp
            rw [ej] at hY hN
            generalize (sx L j).2.2.1 = z2 at *
            clear ej j0 j1 j3
            by_cases hz : z < z2
            · have HE := Lib.hid (hY.out rfl (.inr hz))
              have c3 := (Blk.new wr 65 #[.int .i64 0, .int .i64 y, .int .i64 z, .bool u]).cell
              have j2 := ((Q.refl wr).alloc (.cells #[.int .i64 0, .int .i64 y, .int .i64 z, .bool u] 65)).cell j2
              go_wp2_with fail
              refine wp_region_quiet_lit (by kernel_rfl) (by kernel_rfl) ?_
              repeat (any_goals (first | go_big_quiet_step ( fail) | quiet_step ( fail) | (refine wpQuiet_step (fun K hK => ?_); go_simp; split <;> (refine hK _ ?_; clear hK K))))
              all_goals (refine wpQuiet_nil ?_; intro _ hw'; obtain ⟨nq, hw''⟩ := hw'; subst hw'')
              all_goals go_wp2_with fail
              go_roundw
              case rel => exact ⟨k + 1, by omega, by go_num, by rw [HE.out], hq.trans (by (repeat (first | assumption | exact Q.refl _ | refine Q.alloc ?_ _ | refine Q.drewN ?_ _ | refine Q.drew ?_)))⟩
              case measure => simp [intOf]; omega
            · have HE := Lib.hid (hN.out (fun e => e.2.elim hb hz))
              have c3 := (Blk.new wr 65 #[.int .i64 0, .int .i64 y, .int .i64 z, .bool u]).cell
              have j2 := ((Q.refl wr).alloc (.cells #[.int .i64 0, .int .i64 y, .int .i64 z, .bool u] 65)).cell j2
              go_wp2_with fail
              refine wp_region_quiet_lit (by kernel_rfl) (by kernel_rfl) ?_
              repeat (any_goals (first | go_big_quiet_step ( fail) | quiet_step ( fail) | (refine wpQuiet_step (fun K hK => ?_); go_simp; split <;> (refine hK _ ?_; clear hK K))))
              all_goals (refine wpQuiet_nil ?_; intro _ hw'; obtain ⟨nq, hw''⟩ := hw'; subst hw'')
              all_goals go_wp2_with fail
              go_roundw
              case rel => exact ⟨k + 1, by omega, by go_num, by rw [HE.out], hq.trans (by (repeat (first | assumption | exact Q.refl _ | refine Q.alloc ?_ _ | refine Q.drewN ?_ _ | refine Q.drew ?_)))⟩
              case measure => simp [intOf]; omega
        · have HE := Lib.hid (hN.out (fun e => hx e.1))
          have hxb : (x == 0) = false := by simpa using hx
          generalize bsTo L k = b0 at *
          have c3 := (Blk.new wr 65 #[.int .i64 x, .int .i64 y, .int .i64 z, .bool u]).cell
          go_wp2_with fail
          refine wp_region_quiet_lit (by kernel_rfl) (by kernel_rfl) ?_
          repeat (any_goals (first | go_big_quiet_step ( fail) | quiet_step ( fail) | (refine wpQuiet_step (fun K hK => ?_); go_simp; split <;> (refine hK _ ?_; clear hK K))))
          all_goals (refine wpQuiet_nil ?_; intro _ hw'; obtain ⟨nq, hw''⟩ := hw'; subst hw'')
          all_goals go_wp2_with fail
          go_roundw
          case rel => exact ⟨k + 1, by omega, by go_num, by rw [HE.out], hq.trans (by (repeat (first | assumption | exact Q.refl _ | refine Q.alloc ?_ _ | refine Q.drewN ?_ _ | refine Q.drew ?_)))⟩
          case measure => simp [intOf]; omega
      · obtain rfl : k = m := by omega
        clear hY hN
        generalize bsTo L k = b0 at *
        by_cases hb : b0 < 0
        · have hC : Hid (C = 4) := Lib.hid (hC.out.trans (if_pos hb))
          have hV : Hid (V = 0) := Lib.hid (by have := hV.out; rw [hC.out] at this; exact this)
          go_wp2_with fail
          go_ret2
          rw [hC.out, hV.out]
          exact ⟨rfl, Q1.trans hq⟩
        · have hC : Hid (C = 0) := Lib.hid (hC.out.trans (if_neg hb))
          have hV : Hid (V = b0) := Lib.hid (by have := hV.out; rw [hC.out] at this; exact this)
          go_wp2_with fail
          go_ret2
          rw [hC.out, hV.out]
          exact ⟨rfl, Q1.trans hq⟩
  · have hSb : (S == 0) = false := by simpa using h0
    have hC : Hid (C = S) := Lib.hid (hC.out.trans (if_neg h0))
    have hV : Hid (V = 0) := Lib.hid (by have := hV.out; rw [hC.out, if_neg h0] at this; exact this)
    go_enter Try.func43, Try.ntmps43
    go_wp2_with fail
    refine (K0.out _ (ha.q (by (repeat (first | assumption | exact Q.refl _ | refine Q.alloc ?_ _ | refine Q.drewN ?_ _ | refine Q.drew ?_))))).mono ?_
    rintro e w1 ⟨A1, d1, rfl, hown, q1⟩
    have Q1 : Q w w1 := Q.trans (by (repeat (first | assumption | exact Q.refl _ | refine Q.alloc ?_ _ | refine Q.drewN ?_ _ | refine Q.drew ?_))) q1
    clear hown
    go_wp2_with fail
    go_ret2
    rw [hC.out, hV.out]
    exact ⟨rfl, Q1⟩
set_option maxHeartbeats 2000000 in
theorem spec_BestStart (a b c d : Int) (A : Option Addr) (n cc : Nat) (D : List (Nat × List Int)) (t fl : Int) (w : World) (ha : RdD w A D) (hD : D.length = n) (hn2 : n ≤ 9223372036854775807) :
    Calls Try.prog 42 #[.agg #[.int .i64 a, .int .i64 b, .int .i64 c, .int .i64 d], .slice A n cc, .int .i64 t, .int .i64 fl] w fun e w' => e = .returned (.tuple #[.int .i64 (bsV a b c d D t fl), .int .i64 (bsC a b c d D t fl)]) ∧ Q w w' := by
  have k0 := (fun wv (h : RdD wv A D) => spec_StartsOf a b c d A n cc D t fl wv h hD hn2)
  have hm := stsL_len a b c d D t fl
  have hC := Lib.hid (show bsC a b c d D t fl = if stsC a b c d D t fl = 0 then (if bsTo (stsL a b c d D t fl) (stsL a b c d D t fl).length < 0 then 4 else 0) else stsC a b c d D t fl from rfl)
  have hV := Lib.hid (show bsV a b c d D t fl = if bsC a b c d D t fl = 0 then bsTo (stsL a b c d D t fl) (stsL a b c d D t fl).length else 0 from rfl)
  generalize bsC a b c d D t fl = C at *
  generalize bsV a b c d D t fl = V at *
  generalize stsC a b c d D t fl = S at *
  obtain ⟨L, hL⟩ : ∃ L, L = stsL a b c d D t fl := ⟨_, rfl⟩
  rw [← hL] at k0 hm hC hV
  clear hL
  obtain ⟨m, hml⟩ : ∃ m, m = L.length := ⟨_, rfl⟩
  rw [← hml] at k0 hm hC hV
  have HM := Lib.hid hml.symm
  clear hml
  have K0 := Lib.hid k0
  clear k0
  by_cases h0 : S = 0
  · subst h0
    have hC : Hid (C = if bsTo L m < 0 then 4 else 0) := Lib.hid (hC.out.trans (if_pos rfl))
    go_enter Try.func42, Try.ntmps42
    go_wp2_with fail
    refine (K0.out _ (ha.q (by (repeat (first | assumption | exact Q.refl _ | refine Q.alloc ?_ _ | refine Q.drewN ?_ _ | refine Q.drew ?_))))).mono ?_
    rintro e w1 ⟨A1, d1, rfl, hown, q1⟩
    have Q1 : Q w w1 := Q.trans (by (repeat (first | assumption | exact Q.refl _ | refine Q.alloc ?_ _ | refine Q.drewN ?_ _ | refine Q.drew ?_))) q1
    have hr := hown.rd
    clear hown
    go_wp2_with fail
    go_loopw [12, 13] (fun v i wr => ∃ k : Nat, k ≤ m ∧ i = .int .i64 k ∧ v = .int .i64 (bsTo L k) ∧ Q w1 wr) (fun _ i _ => m - (intOf i).toNat)
    case atStart => exact ⟨0, by omega, rfl, rfl, by (repeat (first | assumption | exact Q.refl _ | refine Q.alloc ?_ _ | refine Q.drewN ?_ _ | refine Q.drew ?_))⟩
    case round =>
      obtain ⟨k, hk, rfl, rfl, hq⟩ := hrel
      have hB := bsTo_bd L k
      have hY := Lib.hid (@bsTo_yes L k)
      have hN := Lib.hid (@bsTo_no L k)
      by_cases hlt : k < m
      · obtain ⟨b1, o1, rfl, g0, g1, g2, g3⟩ := (hr.q hq).at_ HM.out hlt
        obtain ⟨p, hp⟩ : ∃ p, p = sx L k := ⟨_, rfl⟩
        rw [← hp] at g0 g1 g2 g3 hY hN
        obtain ⟨x, y, z, u⟩ := p
        have hY := Lib.hid (show x = 0 → (bsTo L k < 0 ∨ z < (sx L (bsTo L k).toNat).2.2.1) → bsTo L (k + 1) = (k : Int) from fun e f => hY.out e f)
        have hN := Lib.hid (show ¬ (x = 0 ∧ (bsTo L k < 0 ∨ z < (sx L (bsTo L k).toNat).2.2.1)) → bsTo L (k + 1) = bsTo L k from fun e => hN.out e)
        dsimp only at g0 g1 g2 g3
        clear hp
        by_cases hx : x = 0
        · subst hx
          by_cases hb : bsTo L k < 0
          · have HE := Lib.hid (hY.out rfl (.inl hb))
            generalize bsTo L k = b0 at *
            go_wp2_with fail
            refine wp_region_quiet_lit (by kernel_rfl) (by kernel_rfl) ?_
            repeat (any_goals (first | go_big_quiet_step ( fail) | quiet_step ( fail) | (refine wpQuiet_step (fun K hK => ?_); go_simp; split <;> (refine hK _ ?_; clear hK K))))
            all_goals (refine wpQuiet_nil ?_; intro _ hw'; obtain ⟨nq, hw''⟩ := hw'; subst hw'')
            all_goals go_wp2_with fail
            go_roundw
            case rel => exact ⟨k + 1, by omega, by go_num, by rw [HE.out], hq.trans (by (repeat (first | assumption | exact Q.refl _ | refine Q.alloc ?_ _ | refine Q.drewN ?_ _ | refine Q.drew ?_)))⟩
            case measure => simp [intOf]; omega
          · obtain ⟨j, hj⟩ : ∃ j : Nat, bsTo L k = (j : Int) := ⟨(bsTo L k).toNat, by omega⟩
            have hjk : j < k := by omega
            obtain ⟨b2, o2, he, j0, j1, j2, j3⟩ := (hr.q hq).at_ HM.out (show j < m by omega)
            cases he
            have hjm : j < m := by omega
            have hjI : (j : Int) < (m : Int) := by omega
            rw [hj] at hY hN hb ⊢
            clear hB hj
            have ej : ((j : Int)).toNat = j := by simp
            rw [ej] at hY hN
            generalize (sx L j).2.2.1 = z2 at *
            clear ej j0 j1 j3
            by_cases hz : z < z2
            · have HE := Lib.hid (hY.out rfl (.inr hz))
              go_wp2_with fail
              refine wp_region_quiet_lit (by kernel_rfl) (by kernel_rfl) ?_
              repeat (any_goals (first | go_big_quiet_step ( fail) | quiet_step ( fail) | (refine wpQuiet_step (fun K hK => ?_); go_simp; split <;> (refine hK _ ?_; clear hK K))))
              all_goals (refine wpQuiet_nil ?_; intro _ hw'; obtain ⟨nq, hw''⟩ := hw'; subst hw'')
              all_goals go_wp2_with fail
              go_roundw
              case rel => exact ⟨k + 1, by omega, by go_num, by rw [HE.out], hq.trans (by (repeat (first | assumption | exact Q.refl _ | refine Q.alloc ?_ _ | refine Q.drewN ?_ _ | refine Q.drew ?_)))⟩
              case measure => simp [intOf]; omega
            · have HE := Lib.hid (hN.out (fun e => e.2.elim hb hz))
              go_wp2_with fail
              refine wp_region_quiet_lit (by kernel_rfl) (by kernel_rfl) ?_
              repeat (any_goals (first | go_big_quiet_step ( fail) | quiet_step ( fail) | (refine wpQuiet_step (fun K hK => ?_); go_simp; split <;> (refine hK _ ?_; clear hK K))))
              all_goals (refine wpQuiet_nil ?_; intro _ hw'; obtain ⟨nq, hw''⟩ := hw'; subst hw'')
              all_goals go_wp2_with fail
              go_roundw
              case rel => exact ⟨k + 1, by omega, by go_num, by rw [HE.out], hq.trans (by (repeat (first | assumption | exact Q.refl _ | refine Q.alloc ?_ _ | refine Q.drewN ?_ _ | refine Q.drew ?_)))⟩
              case measure => simp [intOf]; omega
        · have HE := Lib.hid (hN.out (fun e => hx e.1))
          have hxb : (x == 0) = false := by simpa using hx
          generalize bsTo L k = b0 at *
          go_wp2_with fail
          refine wp_region_quiet_lit (by kernel_rfl) (by kernel_rfl) ?_
          repeat (any_goals (first | go_big_quiet_step ( fail) | quiet_step ( fail) | (refine wpQuiet_step (fun K hK => ?_); go_simp; split <;> (refine hK _ ?_; clear hK K))))
          all_goals (refine wpQuiet_nil ?_; intro _ hw'; obtain ⟨nq, hw''⟩ := hw'; subst hw'')
          all_goals go_wp2_with fail
          go_roundw
          case rel => exact ⟨k + 1, by omega, by go_num, by rw [HE.out], hq.trans (by (repeat (first | assumption | exact Q.refl _ | refine Q.alloc ?_ _ | refine Q.drewN ?_ _ | refine Q.drew ?_)))⟩
          case measure => simp [intOf]; omega
      · obtain rfl : k = m := by omega
        clear hY hN
        generalize bsTo L k = b0 at *
        by_cases hb : b0 < 0
        · have hC : Hid (C = 4) := Lib.hid (hC.out.trans (if_pos hb))
          have hV : Hid (V = 0) := Lib.hid (by have := hV.out; rw [hC.out] at this; exact this)
          go_wp2_with fail
          go_ret2
          rw [hC.out, hV.out]
          exact ⟨rfl, Q1.trans hq⟩
        · have hC : Hid (C = 0) := Lib.hid (hC.out.trans (if_neg hb))
          have hV : Hid (V = b0) := Lib.hid (by have := hV.out; rw [hC.out] at this; exact this)
          go_wp2_with fail
          go_ret2
          rw [hC.out, hV.out]
          exact ⟨rfl, Q1.trans hq⟩
  · have hSb : (S == 0) = false := by simpa using h0
    have hC : Hid (C = S) := Lib.hid (hC.out.trans (if_neg h0))
    have hV : Hid (V = 0) := Lib.hid (by have := hV.out; rw [hC.out, if_neg h0] at this; exact this)
    go_enter Try.func42, Try.ntmps42
    go_wp2_with fail
    refine (K0.out _ (ha.q (by (repeat (first | assumption | exact Q.refl _ | refine Q.alloc ?_ _ | refine Q.drewN ?_ _ | refine Q.drew ?_))))).mono ?_
    rintro e w1 ⟨A1, d1, rfl, hown, q1⟩
    have Q1 : Q w w1 := Q.trans (by (repeat (first | assumption | exact Q.refl _ | refine Q.alloc ?_ _ | refine Q.drewN ?_ _ | refine Q.drew ?_))) q1
    clear hown
    go_wp2_with fail
    go_ret2
    rw [hC.out, hV.out]
    exact ⟨rfl, Q1⟩
end Go.Proofs.Ytlmaecmjpbgegaa
