/- Walks: whether a list of statements is a hearing's, as the program and the reference say it, for all arguments. No condition. -/
import Derived.Test.YtcmnolcidflhmaaEqStatement
import Derived.Test.YtcmnolcidflhmaaPen
import Derived.Test.YtcmnolcidflhmaaK
import Derived.Outline
namespace Go.Proofs.Ytcmnolcidflhmaa
open Go.RowKit Go.WideShapes Go.ChangeShapes
def stItem (b a sp fa sy : Int) : Bool := decide ((sp = b ∨ sp = a ∨ 100 ≤ sp ∧ sp ≤ 199) ∧ 0 ≤ fa ∧ fa ≤ 7 ∧ (sy = 1 ∨ sy = -1))
def stDup (xs : List Int) (s f : Int) (k : Nat) : Bool := (List.range k).any fun j => decide (el xs (j * 3) = s ∧ el xs (j * 3 + 1) = f)
theorem stDup_yes {xs : List Int} {s f : Int} {j k : Nat} (hj : j < k) (h : el xs (j * 3) = s ∧ el xs (j * 3 + 1) = f) : stDup xs s f k = true := by
  unfold stDup
  rw [List.any_eq_true]
  exact ⟨j, by simpa using hj, by simpa using h⟩
theorem stDup_succ {xs : List Int} {s f : Int} {k : Nat} (h0 : stDup xs s f k = false) (h : ¬ (el xs (k * 3) = s ∧ el xs (k * 3 + 1) = f)) : stDup xs s f (k + 1) = false := by
  unfold stDup at *
  rw [List.range_succ, List.any_append, h0, Bool.false_or]
  simp only [List.any_cons, List.any_nil, Bool.or_false, decide_eq_false_iff_not]
  exact h
def stAt (b a : Int) (xs : List Int) (i : Nat) : Bool := stItem b a (el xs (i * 3)) (el xs (i * 3 + 1)) (el xs (i * 3 + 2)) && !stDup xs (el xs (i * 3)) (el xs (i * 3 + 1)) i
def stTo (b a : Int) (xs : List Int) (k : Nat) : Bool := (List.range k).all (stAt b a xs)
theorem stTo_succ (b a : Int) (xs : List Int) (k : Nat) : stTo b a xs (k + 1) = (stTo b a xs k && stAt b a xs k) := by simp [stTo, List.range_succ]
theorem stTo_no {b a : Int} {xs : List Int} {k n : Nat} (hk : k < n) (h : stAt b a xs k = false) : stTo b a xs n = false := by
  unfold stTo
  rw [List.all_eq_false]
  exact ⟨k, by simpa using hk, by simp [h]⟩
set_option maxHeartbeats 4000000 in
theorem spec_l18Valid (b a : Int) (A : Option Addr) (n c : Nat) (xs : List Int) (w : World) (ha : Rd w A xs) (hn : xs.length = n * 3) (hn2 : n ≤ 9223372036854775807) :
    Calls Try.prog 83 #[.int .i64 b, .int .i64 a, .slice A n c] w fun e w' => e = .returned (.bool (decide (n ≤ 60) && stTo b a xs n)) ∧ Q w w' := by
  by_cases h60 : n ≤ 60
  · go_enter Try.func83, Try.ntmps83
    go_wp2_with fail
    go_loopw [7] (fun i wr => ∃ k : Nat, k ≤ n ∧ i = .int .i64 k ∧ Hid (stTo b a xs k = true) ∧ Q w wr) (fun i _ => n - (intOf i).toNat)
    case atStart => exact ⟨0, by omega, rfl, Lib.hid rfl, Q.refl _⟩
    case round =>
      obtain ⟨k, hk, rfl, HT, hq⟩ := hrel
      by_cases hlt : k < n
      · obtain ⟨bl, o, rfl, g0, g1, g2⟩ := (ha.q hq).at3 hn hlt
        obtain ⟨x0, hx0⟩ : ∃ x, x = el xs (k * 3) := ⟨_, rfl⟩
        obtain ⟨x1, hx1⟩ : ∃ x, x = el xs (k * 3 + 1) := ⟨_, rfl⟩
        obtain ⟨x2, hx2⟩ : ∃ x, x = el xs (k * 3 + 2) := ⟨_, rfl⟩
        have HS : Hid (stAt b a xs k = (stItem b a x0 x1 x2 && !stDup xs x0 x1 k)) := Lib.hid (by rw [hx0, hx1, hx2]; rfl)
        rw [← hx0] at g0
        rw [← hx1] at g1
        rw [← hx2] at g2
        clear hx0 hx1 hx2
        obtain ⟨wo, rfl⟩ : ∃ wo, wo = wr := ⟨_, rfl⟩
        have q0 := hq.alloc (.cells #[.int .i64 x0, .int .i64 x1, .int .i64 x2] 107)
        have B0 := Blk.new wo 107 #[.int .i64 x0, .int .i64 x1, .int .i64 x2]
        by_cases hit : (x0 = b ∨ x0 = a ∨ 100 ≤ x0 ∧ x0 ≤ 199) ∧ 0 ≤ x1 ∧ x1 ≤ 7 ∧ (x2 = 1 ∨ x2 = -1)
        · have HS2 : Hid (stAt b a xs k = !stDup xs x0 x1 k) := Lib.hid (by rw [HS.out]; simp [stItem, hit])
          have ht1 : ((x0 != b) = false) ∨ ((x0 != b) = true ∧ (x0 != a) = false) ∨ ((x0 != b) = true ∧ (x0 != a) = true ∧ 100 ≤ x0 ∧ x0 ≤ 199) := by
            simp only [bne_iff_ne, ne_eq, bne_eq_false_iff_eq]; omega
          have ht2 : ((x2 != 1) = false) ∨ ((x2 != 1) = true ∧ (x2 != -1) = false) := by
            simp only [bne_iff_ne, ne_eq, bne_eq_false_iff_eq]; omega
          have hf1 : 0 ≤ x1 ∧ x1 ≤ 7 := ⟨hit.2.1, hit.2.2.1⟩
          clear hit
          rcases ht1 with ht1 | ⟨ht1, ht1b⟩ | ⟨ht1, ht1b, ht1c⟩ <;> rcases ht2 with ht2 | ⟨ht2, ht2b⟩
          all_goals
            go_wp2_with (go_at_call 67; refine (spec_in _ _ _ _).mono ?_; rintro e w' ⟨rfl, rfl⟩)
            go_loopw [9] (fun j wr => ∃ m : Nat, m ≤ k ∧ j = .int .i64 m ∧ Hid (stDup xs x0 x1 m = false) ∧ Q (wo.alloc (.cells #[.int .i64 x0, .int .i64 x1, .int .i64 x2] 107)) wr) (fun j _ => k - (intOf j).toNat)
            case atStart => exact ⟨0, by omega, rfl, Lib.hid rfl, Q.refl _⟩
            case round =>
              obtain ⟨m, hm, rfl, HD, hq2⟩ := hrel
              by_cases hmk : m < k
              · obtain ⟨_, _, hA, l0, l1, _⟩ := (ha.q (q0.trans hq2)).at3 hn (show m < n by omega)
                cases hA
                replace l0 := later_cell l0
                replace l1 := later_cell l1
                have B2 := B0.q hq2
                have lx := later_cells B2.cell B2.lt
                go_wp2_with fail
                refine wp_region_later_lit (by kernel_rfl) (by kernel_rfl) ?_
                repeat (any_goals (first | go_big_quiet_step (fail) | quiet_step (fail) | (refine wpQuiet_step (fun K hK => ?_); go_simp; split <;> (refine hK _ ?_; clear hK K))))
                all_goals (refine wpQuiet_nil ?_; rintro _ ⟨⟨w2, q2⟩, rfl⟩; try dsimp only)
                all_goals go_wp2_with fail
                all_goals first
                  | (have hz : el xs (m * 3) = x0 ∧ el xs (m * 3 + 1) = x1 := by simp at *; omega
                     go_ret
                     refine ⟨ret_bool ?_, (q0.trans hq2).trans q2⟩
                     rw [stTo_no hlt (by rw [HS2.out, stDup_yes hmk hz]; rfl)]
                     simp)
                  | (have hz : ¬ (el xs (m * 3) = x0 ∧ el xs (m * 3 + 1) = x1) := by simp at *; omega
                     go_roundw
                     case rel => exact ⟨m + 1, by omega, by go_num, Lib.hid (stDup_succ HD.out hz), hq2.trans q2⟩
                     case measure => simp [intOf]; omega)
              · obtain rfl : m = k := by omega
                go_wp2_with fail
                go_roundw
                case rel => exact ⟨m + 1, by omega, by go_num, Lib.hid (by rw [stTo_succ, HT.out, HS2.out, HD.out]; rfl), q0.trans hq2⟩
                case measure => simp [intOf]; omega
        · have HF : Hid (stAt b a xs k = false) := Lib.hid (by rw [HS.out]; simp [stItem, hit])
          go_wp2_with (go_at_call 67; refine (spec_in _ _ _ _).mono ?_; rintro e w' ⟨rfl, rfl⟩)
          all_goals first
            | (exfalso; simp at *; omega)
            | (go_ret
               refine ⟨ret_bool ?_, hq.alloc _⟩
               rw [stTo_no hlt HF.out]
               simp)
      · obtain rfl : k = n := by omega
        go_wp2_with fail
        go_ret
        exact ⟨ret_bool (by rw [HT.out]; simp; omega), hq⟩
  · go_enter Try.func83, Try.ntmps83
    go_wp2_with fail
    go_ret
    exact ⟨ret_bool (by simp [h60]), Q.refl _⟩
theorem same_any (y0 y1 y2 s0 s1 s2 : Int) (g : Nat) (w : World) (hb : Blk w g 107 #[.int .i64 s0, .int .i64 s1, .int .i64 s2]) :
    Calls Try.prog 104 #[.agg #[.int .i64 y0, .int .i64 y1, .int .i64 y2], .pointer (some ⟨g, 0, none⟩)] w fun e w' => e = .returned (.bool (decide (y0 = s0 ∧ y1 = s1))) ∧ Q w w' := by
  have c0 := hb.cell
  have hz := hb.lt
  go_enter Try.func104, Try.ntmps104
  go_wp2_with fail
  all_goals go_ret
  all_goals refine ⟨ret_bool ?_, by (repeat (first | assumption | exact Q.refl _ | refine Q.alloc ?_ _ | refine Q.drewN ?_ _ | refine Q.drew ?_))⟩
  all_goals (clear c0; rw [Bool.eq_iff_iff]; simp at *; try omega)
def IxP (xs : List Int) (s0 s1 : Int) (n : Nat) (w : World) (e : Ending) (w' : World) : Prop := ∃ i : Int, e = .returned (.int .i64 i) ∧ -1 ≤ i ∧ (if stDup xs s0 s1 n then 0 ≤ i else i < 0) ∧ Q w w'
theorem idxf_any (A : Option Addr) (n c : Nat) (xs : List Int) (s0 s1 s2 : Int) (g : Nat) (w : World) (ha : Rd w A xs) (hn : n * 3 ≤ xs.length) (hn2 : n ≤ 9223372036854775807) (hb : Blk w g 107 #[.int .i64 s0, .int .i64 s1, .int .i64 s2]) :
    Calls Try.prog 107 #[.slice A n c, .func (.func 104) #[] #[.pointer (some ⟨g, 0, none⟩)]] w (IxP xs s0 s1 n w) := by
  go_enter Try.func107, Try.ntmps107
  go_wp2_with fail
  go_loopw [8] (fun i wr => ∃ k : Nat, k ≤ n ∧ i = .int .i64 k ∧ Hid (stDup xs s0 s1 k = false) ∧ Q w wr) (fun i _ => n - (intOf i).toNat)
  case atStart => exact ⟨0, by omega, rfl, Lib.hid rfl, Q.refl _⟩
  case round =>
    obtain ⟨k, hk, rfl, HD, hq⟩ := hrel
    by_cases hlt : k < n
    · obtain ⟨bl, o, rfl, g0, g1, g2⟩ := (ha.q hq).at3p (k := k) (by omega)
      have hb2 := hb.q hq
      by_cases hz : el xs (k * 3) = s0 ∧ el xs (k * 3 + 1) = s1
      · have HY := Lib.hid (stDup_yes hlt hz)
        have hd : decide (el xs (k * 3) = s0 ∧ el xs (k * 3 + 1) = s1) = true := by simpa using hz
        clear hz
        go_wp2_with (go_at_call 104; refine (same_any _ _ _ _ _ _ _ _ hb2).mono ?_; rintro e w1 ⟨rfl, q1⟩)
        go_ret
        exact ⟨k, rfl, by omega, by rw [if_pos HY.out]; omega, hq.trans q1⟩
      · have HY := Lib.hid (stDup_succ HD.out hz)
        have hd : decide (el xs (k * 3) = s0 ∧ el xs (k * 3 + 1) = s1) = false := by simpa using hz
        clear hz
        go_wp2_with (go_at_call 104; refine (same_any _ _ _ _ _ _ _ _ hb2).mono ?_; rintro e w1 ⟨rfl, q1⟩)
        go_roundw
        case rel => exact ⟨k + 1, by omega, by go_num, HY, hq.trans q1⟩
        case measure => simp [intOf]; omega
    · obtain rfl : k = n := by omega
      go_wp2_with fail
      go_ret
      exact ⟨-1, rfl, by omega, by rw [if_neg (by rw [HD.out]; decide)]; omega, hq⟩
theorem contf_any (A : Option Addr) (n c : Nat) (xs : List Int) (s0 s1 s2 : Int) (g : Nat) (w : World) (ha : Rd w A xs) (hn : n * 3 ≤ xs.length) (hn2 : n ≤ 9223372036854775807) (hb : Blk w g 107 #[.int .i64 s0, .int .i64 s1, .int .i64 s2]) :
    Calls Try.prog 103 #[.slice A n c, .func (.func 104) #[] #[.pointer (some ⟨g, 0, none⟩)]] w fun e w' => e = .returned (.bool (stDup xs s0 s1 n)) ∧ Q w w' := by
  have k0 := idxf_any A n c xs s0 s1 s2 g w ha hn hn2 hb
  cases hd : stDup xs s0 s1 n
  all_goals
    go_enter Try.func103, Try.ntmps103
    go_wp2_with fail
    refine k0.mono ?_
    rintro e w1 ⟨i, rfl, h1, h2, q1⟩
    first | rw [if_pos hd] at h2 | rw [if_neg (by rw [hd]; decide)] at h2
    go_wp2_with fail
    go_ret
    exact ⟨ret_bool (by first | (simp; omega) | simp), q1⟩
set_option maxHeartbeats 4000000 in
theorem impl_areStatements (b a : Int) (A : Option Addr) (n c : Nat) (xs : List Int) (w : World) (ha : Rd w A xs) (hn : xs.length = n * 3) (hn2 : n ≤ 9223372036854775807) (hc : n ≤ c) :
    Calls Try.prog 86 #[.int .i64 b, .int .i64 a, .slice A n c] w fun e w' => e = .returned (.bool (decide (n ≤ 60) && stTo b a xs n)) ∧ Q w w' := by
  go_enter Try.func86, Try.ntmps86
  go_wp2_with fail
  go_loopw [12] (fun i wr => ∃ k : Nat, k ≤ n ∧ i = .int .i64 k ∧ Hid (stTo b a xs k = true) ∧ Q w wr) (fun i _ => n - (intOf i).toNat)
  case atStart => exact ⟨0, by omega, rfl, Lib.hid rfl, Q.refl _⟩
  case round =>
    obtain ⟨k, hk, rfl, HT, hq⟩ := hrel
    by_cases hlt : k < n
    · have hR := ha.q hq
      obtain ⟨bl, o, rfl, g0, g1, g2⟩ := hR.at3 hn hlt
      obtain ⟨x0, hx0⟩ : ∃ x, x = el xs (k * 3) := ⟨_, rfl⟩
      obtain ⟨x1, hx1⟩ : ∃ x, x = el xs (k * 3 + 1) := ⟨_, rfl⟩
      obtain ⟨x2, hx2⟩ : ∃ x, x = el xs (k * 3 + 2) := ⟨_, rfl⟩
      have HS : Hid (stAt b a xs k = (stItem b a x0 x1 x2 && !stDup xs x0 x1 k)) := Lib.hid (by rw [hx0, hx1, hx2]; rfl)
      rw [← hx0] at g0
      rw [← hx1] at g1
      rw [← hx2] at g2
      clear hx0 hx1 hx2
      have B0 := Blk.new wr 107 #[.int .i64 x0, .int .i64 x1, .int .i64 x2]
      have hRa := hR.q ((Q.refl wr).alloc (.cells #[.int .i64 x0, .int .i64 x1, .int .i64 x2] 107))
      by_cases hit : (x0 = b ∨ x0 = a ∨ 100 ≤ x0 ∧ x0 ≤ 199) ∧ 0 ≤ x1 ∧ x1 ≤ 7 ∧ (x2 = 1 ∨ x2 = -1)
      · have HS2 : Hid (stAt b a xs k = !stDup xs x0 x1 k) := Lib.hid (by rw [HS.out]; simp [stItem, hit])
        have ht1 : ((x0 == b) = true) ∨ ((x0 == b) = false ∧ (x0 == a) = true) ∨ ((x0 == b) = false ∧ (x0 == a) = false ∧ 100 ≤ x0 ∧ x0 ≤ 199) := by
          simp only [beq_iff_eq, beq_eq_false_iff_ne, ne_eq]; omega
        have ht2 : ((x2 != 1) = false) ∨ ((x2 != 1) = true ∧ (x2 != -1) = false) := by
          simp only [bne_iff_ne, ne_eq, bne_eq_false_iff_eq]; omega
        have hf1 : 0 ≤ x1 ∧ x1 ≤ 7 := ⟨hit.2.1, hit.2.2.1⟩
        clear hit
        cases hdup : stDup xs x0 x1 k
        · have HN2 : Hid (stTo b a xs (k + 1) = true) := Lib.hid (by rw [stTo_succ, HT.out, HS2.out, hdup]; rfl)
          rcases ht1 with ht1 | ⟨ht1, ht1b⟩ | ⟨ht1, ht1b, ht1c⟩ <;> rcases ht2 with ht2 | ⟨ht2, ht2b⟩
          all_goals
            go_wp2_with (first | (go_at_call 68; refine (impl_in _ _ _ _).mono ?_; rintro e w' ⟨rfl, rfl⟩) | (go_at_call 103; refine (contf_any _ k _ xs x0 x1 x2 _ _ hRa (by omega) (by omega) B0).mono ?_; rintro e w2 ⟨rfl, q2⟩))
            go_roundw
            case rel => exact ⟨k + 1, by omega, by go_num, HN2, hq.trans (Q.trans (by (repeat (first | assumption | exact Q.refl _ | refine Q.alloc ?_ _ | refine Q.drewN ?_ _ | refine Q.drew ?_))) q2)⟩
            case measure => simp [intOf]; omega
        · have HF : Hid (stAt b a xs k = false) := Lib.hid (by rw [HS2.out, hdup]; rfl)
          rcases ht1 with ht1 | ⟨ht1, ht1b⟩ | ⟨ht1, ht1b, ht1c⟩ <;> rcases ht2 with ht2 | ⟨ht2, ht2b⟩
          all_goals
            go_wp2_with (first | (go_at_call 68; refine (impl_in _ _ _ _).mono ?_; rintro e w' ⟨rfl, rfl⟩) | (go_at_call 103; refine (contf_any _ k _ xs x0 x1 x2 _ _ hRa (by omega) (by omega) B0).mono ?_; rintro e w2 ⟨rfl, q2⟩))
            go_ret
            exact ⟨ret_bool (by rw [stTo_no hlt HF.out, Bool.and_false]), hq.trans (Q.trans (by (repeat (first | assumption | exact Q.refl _ | refine Q.alloc ?_ _ | refine Q.drewN ?_ _ | refine Q.drew ?_))) q2)⟩
      · have HF : Hid (stAt b a xs k = false) := Lib.hid (by rw [HS.out]; simp [stItem, hit])
        go_wp2_with (first | (go_at_call 68; refine (impl_in _ _ _ _).mono ?_; rintro e w' ⟨rfl, rfl⟩) | (go_at_call 103; exfalso; simp at *; omega))
        all_goals first
          | (exfalso; simp at *; omega)
          | (go_ret
             exact ⟨ret_bool (by rw [stTo_no hlt HF.out, Bool.and_false]), hq.trans (by (repeat (first | assumption | exact Q.refl _ | refine Q.alloc ?_ _ | refine Q.drewN ?_ _ | refine Q.drew ?_)))⟩)
    · obtain rfl : k = n := by omega
      go_wp2_with fail
      go_ret
      exact ⟨ret_bool (by rw [HT.out]; simp; omega), hq⟩
def hearB (b a : Int) (xs : List Int) (n : Nat) : Bool := decide (0 ≤ b ∧ b ≤ 15 ∧ 0 ≤ a ∧ a ≤ 15 ∧ b ≠ a) && (decide (n ≤ 60) && stTo b a xs n)
theorem hear_no {b a : Int} {xs : List Int} {n : Nat} (h : ¬ (0 ≤ b ∧ b ≤ 15 ∧ 0 ≤ a ∧ a ≤ 15 ∧ b ≠ a)) : hearB b a xs n = false := by unfold hearB; rw [decide_eq_false h]; rfl
theorem hear_yes {b a : Int} {xs : List Int} {n : Nat} (h : 0 ≤ b ∧ b ≤ 15 ∧ 0 ≤ a ∧ a ≤ 15 ∧ b ≠ a) : hearB b a xs n = (decide (n ≤ 60) && stTo b a xs n) := by unfold hearB; rw [decide_eq_true h]; rfl
theorem spec_IsHearing (b a : Int) (A : Option Addr) (n c : Nat) (xs : List Int) (w : World) (ha : Rd w A xs) (hn : xs.length = n * 3) (hn2 : n ≤ 9223372036854775807) :
    Calls Try.prog 47 #[.int .i64 b, .int .i64 a, .slice A n c] w fun e w' => e = .returned (.bool (hearB b a xs n)) ∧ Q w w' := by
  by_cases hp : 0 ≤ b ∧ b ≤ 15 ∧ 0 ≤ a ∧ a ≤ 15 ∧ b ≠ a
  · rw [hear_yes hp]
    have hd : decide (0 ≤ b ∧ b ≤ 15 ∧ 0 ≤ a ∧ a ≤ 15 ∧ b ≠ a) = true := decide_eq_true hp
    generalize hV : (decide (n ≤ 60) && stTo b a xs n) = V
    have k0 := spec_l18Valid b a A n c xs
    rw [hV] at k0
    have K0 := Lib.hid k0
    clear k0 hV
    go_enter Try.func47, Try.ntmps47
    go_wp2_with (first | (go_at_call 82; refine (spec_Parties _ _ _).mono ?_; rintro e w' ⟨rfl, rfl⟩) | (go_at_call 83; refine (K0.out _ ha hn hn2).mono ?_; rintro e w1 ⟨rfl, q1⟩))
    go_ret
    exact ⟨rfl, q1⟩
  · rw [hear_no hp]
    have hd : decide (0 ≤ b ∧ b ≤ 15 ∧ 0 ≤ a ∧ a ≤ 15 ∧ b ≠ a) = false := decide_eq_false hp
    go_enter Try.func47, Try.ntmps47
    go_wp2_with (first | (go_at_call 82; refine (spec_Parties _ _ _).mono ?_; rintro e w' ⟨rfl, rfl⟩))
    go_ret
    exact ⟨rfl, Q.refl _⟩
theorem impl_IsHearing (b a : Int) (A : Option Addr) (n c : Nat) (xs : List Int) (w : World) (ha : Rd w A xs) (hn : xs.length = n * 3) (hn2 : n ≤ 9223372036854775807) (hc : n ≤ c) :
    Calls Try.prog 49 #[.int .i64 b, .int .i64 a, .slice A n c] w fun e w' => e = .returned (.bool (hearB b a xs n)) ∧ Q w w' := by
  by_cases hp : 0 ≤ b ∧ b ≤ 15 ∧ 0 ≤ a ∧ a ≤ 15 ∧ b ≠ a
  · rw [hear_yes hp]
    have hd : decide (0 ≤ b ∧ b ≤ 15 ∧ 0 ≤ a ∧ a ≤ 15 ∧ b ≠ a) = true := decide_eq_true hp
    generalize hV : (decide (n ≤ 60) && stTo b a xs n) = V
    have k0 := impl_areStatements b a A n c xs
    rw [hV] at k0
    have K0 := Lib.hid k0
    clear k0 hV
    go_enter Try.func49, Try.ntmps49
    go_wp2_with (first | (go_at_call 85; refine (impl_areParties _ _ _).mono ?_; rintro e w' ⟨rfl, rfl⟩) | (go_at_call 86; refine (K0.out _ ha hn hn2 hc).mono ?_; rintro e w1 ⟨rfl, q1⟩))
    go_ret
    exact ⟨rfl, q1⟩
  · rw [hear_no hp]
    have hd : decide (0 ≤ b ∧ b ≤ 15 ∧ 0 ≤ a ∧ a ≤ 15 ∧ b ≠ a) = false := decide_eq_false hp
    go_enter Try.func49, Try.ntmps49
    go_wp2_with (first | (go_at_call 85; refine (impl_areParties _ _ _).mono ?_; rintro e w' ⟨rfl, rfl⟩))
    go_ret
    exact ⟨rfl, Q.refl _⟩
set_option maxHeartbeats 4000000 in
theorem law_FnExactIsHearing (a0 : Int) (ha0 : -9223372036854775808 ≤ a0 ∧ a0 ≤ 9223372036854775807) (a1 : Int) (ha1 : -9223372036854775808 ≤ a1 ∧ a1 ≤ 9223372036854775807) (a2A : Option Addr) (a2n a2c : Nat) (a2xs : List Int) (ha2l : a2xs.length = a2n * 3) (ha2b : ∀ y ∈ a2xs, -9223372036854775808 ≤ y ∧ y ≤ 9223372036854775807) (ha2c : a2n ≤ a2c ∧ a2c ≤ maxLen) (w : World) (ha2 : Rd w a2A a2xs) :
    Calls Try.prog 11 #[.int .i64 a0, .int .i64 a1, .slice a2A a2n a2c] w fun e w' => e = .returned (.bool true) ∧ Below w.heap.size w w' := by
  have hn2 : a2n ≤ 9223372036854775807 := by have := ha2c; unfold maxLen at this; omega
  clear ha2c ha2b
  have HL2 := Lib.hid ha2l
  clear ha2l
  have HB0 := Lib.hid ha0
  clear ha0
  have HB1 := Lib.hid ha1
  clear ha1
  have k0 := fun (a2A : Option Addr) (a2c : Nat) => spec_IsHearing a0 a1 a2A a2n a2c a2xs
  have k1 := fun (a2A : Option Addr) (a2c : Nat) => impl_IsHearing a0 a1 a2A a2n a2c a2xs
  obtain ⟨r0, hr0⟩ : ∃ r0, r0 = hearB a0 a1 a2xs a2n := ⟨_, rfl⟩
  rw [← hr0] at k0 k1
  have K0 := Lib.hid k0
  have K1 := Lib.hid k1
  clear k0 k1 hr0
  rcases Nat.lt_or_ge 1048576 (a2n) with hsz2 | hsz2
  · go_enter Try.func11, Try.ntmps11
    go_wp2_with fail
    refine (szStatementS_any a2A a2n a2c 1048576 _ (by omega) (by omega) hn2).mono ?_
    rintro e w' ⟨rfl, rfl⟩
    rw [if_neg (by omega)]
    go_wp2_with fail
    go_ret
    exact ⟨rfl, by (repeat (first | assumption | exact Q.refl _ | refine Q.alloc ?_ _ | refine Q.drewN ?_ _ | refine Q.drew ?_))⟩
  · skip
    go_enter Try.func11, Try.ntmps11
    go_wp2_with fail
    refine (szStatementS_any a2A a2n a2c 1048576 _ (by omega) (by omega) hn2).mono ?_
    rintro e w' ⟨rfl, rfl⟩
    rw [if_pos (by omega)]
    go_wp2_with fail
    have Q0 : Q w w := by (repeat (first | assumption | exact Q.refl _ | refine Q.alloc ?_ _ | refine Q.drewN ?_ _ | refine Q.drew ?_))
    have I2 := ha2
    have z0 : w.heap.size + 0 ≤ (w).heap.size := by simp
    go_wp2_with fail
    refine (toStatementS_any a2A a2n a2c a2xs _ I2 HL2.out (by omega)).mono ?_
    rintro e w1 ⟨A2s, c2s, rfl, o2s, q1⟩
    replace Q0 := Q0.trans q1
    replace I2 := I2.q q1
    have z1 := q1.size
    have fo2s := o2s.from
    go_wp2_with fail
    refine (K0.out A2s c2s _ o2s.rd HL2.out (by omega)).mono ?_
    rintro e w2 ⟨rfl, q2⟩
    replace Q0 := Q0.trans q2
    replace I2 := I2.q q2
    replace o2s := o2s.q q2
    have z2 := q2.size
    go_wp2_with fail
    clear o2s
    refine (toStatementS_any a2A a2n a2c a2xs _ I2 HL2.out (by omega)).mono ?_
    rintro e w3 ⟨A2i, c2i, rfl, o2i, q3⟩
    replace Q0 := Q0.trans q3
    replace I2 := I2.q q3
    have z3 := q3.size
    have fo2i := o2i.from
    go_wp2_with fail
    refine (K1.out A2i c2i _ o2i.rd HL2.out (by omega) o2i.cap).mono ?_
    rintro e w4 ⟨rfl, q4⟩
    replace Q0 := Q0.trans q4
    replace I2 := I2.q q4
    replace o2i := o2i.q q4
    have z4 := q4.size
    go_wp2_with fail
    refine (toStatementS_any a2A a2n a2c a2xs _ I2 HL2.out (by omega)).mono ?_
    rintro e w5 ⟨A2e, c2e, rfl, o2e, q5⟩
    replace Q0 := Q0.trans q5
    replace I2 := I2.q q5
    replace o2i := o2i.q q5
    have z5 := q5.size
    have fo2e := o2e.from
    go_wp2_with fail
    refine (eqStatementS_same A2i A2e a2n c2i c2e a2xs _ o2i.rd o2e.rd HL2.out (by omega)).mono ?_
    rintro e w6 ⟨rfl, q6⟩
    replace Q0 := Q0.trans q6
    replace I2 := I2.q q6
    replace o2i := o2i.q q6
    replace o2e := o2e.q q6
    have z6 := q6.size
    go_wp2_with fail
    clear o2e
    go_ret
    exact ⟨rfl, Q0⟩
end Go.Proofs.Ytcmnolcidflhmaa
