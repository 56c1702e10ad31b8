/- Walks: how often each boat has to keep clear, as the program and the reference count it, for every list of incidents. No condition. -/
import Derived.Test.YtcmnolcidflhmaaEqIncident
import Derived.Test.YtcmnolcidflhmaaK
import Derived.Outline
namespace Go.Proofs.Ytcmnolcidflhmaa
open Go.RowKit Go.WideShapes Go.ChangeShapes
def keepOf (xs : List Int) (i : Nat) : Int := el xs (i * 5 + 3)
def keepIn (b : Nat) (x : Int) : Bool := decide (-1 ≤ x ∧ x ≤ (b : Int) - 1)
/-- The counts of the first k incidents. -/
def cntTo (b : Nat) (xs : List Int) : Nat → List Int
  | 0 => List.replicate b 0
  | k + 1 => if 0 ≤ keepOf xs k then (cntTo b xs k).set (keepOf xs k).toNat (el (cntTo b xs k) (keepOf xs k).toNat + 1) else cntTo b xs k
theorem cntTo_len (b : Nat) (xs : List Int) (k : Nat) : (cntTo b xs k).length = b := by
  induction k with
  | zero => simp [cntTo]
  | succ k ih =>
    unfold cntTo
    split
    · simp [ih]
    · exact ih
theorem cntTo_bd (b : Nat) (xs : List Int) (k : Nat) : ∀ j, 0 ≤ el (cntTo b xs k) j ∧ el (cntTo b xs k) j ≤ k := by
  induction k with
  | zero =>
    intro j
    simp only [cntTo, el, List.getD_eq_getElem?_getD, List.getElem?_replicate]
    split <;> simp
  | succ k ih =>
    intro j
    unfold cntTo
    split
    · have h1 := ih j
      have h2 := ih (keepOf xs k).toNat
      unfold el at h1 h2 ⊢
      rw [List.getD_eq_getElem?_getD] at h1 ⊢
      rw [List.getElem?_set]
      split
      · split
        · simp only [Option.getD_some]; omega
        · simp only [Option.getD_none]; omega
      · omega
    · have h1 := ih j
      omega
theorem cntTo_yes {b : Nat} {xs : List Int} {k m : Nat} (h : keepOf xs k = m) : cntTo b xs (k + 1) = (cntTo b xs k).set m (el (cntTo b xs k) m + 1) := by
  rw [cntTo, if_pos (by omega), h]
  rfl
theorem cntTo_no {b : Nat} {xs : List Int} {k : Nat} (h : ¬ 0 ≤ keepOf xs k) : cntTo b xs (k + 1) = cntTo b xs k := by rw [cntTo, if_neg h]
def keepAll (b : Nat) (xs : List Int) (k : Nat) : Bool := (List.range k).all fun i => keepIn b (keepOf xs i)
theorem keepAll_succ (b : Nat) (xs : List Int) (k : Nat) : keepAll b xs (k + 1) = (keepAll b xs k && keepIn b (keepOf xs k)) := by simp [keepAll, List.range_succ]
theorem keepAll_no {b : Nat} {xs : List Int} {k n : Nat} (hk : k < n) (h : keepIn b (keepOf xs k) = false) : keepAll b xs n = false := by
  unfold keepAll
  rw [List.all_eq_false]
  exact ⟨k, by simpa using hk, by simp [h]⟩
def kcOk (b : Int) (xs : List Int) (n : Nat) : Bool := decide (1 ≤ b ∧ b ≤ 16) && keepAll b.toNat xs n
def kcL (b : Int) (xs : List Int) (n : Nat) : List Int := if kcOk b xs n then cntTo b.toNat xs n else []
def kcN (b : Int) (xs : List Int) (n : Nat) : Nat := if kcOk b xs n then b.toNat else 0
def kcC (b : Int) (xs : List Int) (n : Nat) : Int := if kcOk b xs n then 0 else 2
theorem kc_no {b : Int} {xs : List Int} {n : Nat} (h : kcOk b xs n = false) : kcL b xs n = [] ∧ kcN b xs n = 0 ∧ kcC b xs n = 2 := by simp [kcL, kcN, kcC, h]
theorem kc_yes {b : Nat} {xs : List Int} {n : Nat} (hb : 1 ≤ b ∧ b ≤ 16) (h : keepAll b xs n = true) : kcL b xs n = cntTo b xs n ∧ kcN b xs n = b ∧ kcC b xs n = 0 := by
  have : kcOk b xs n = true := by unfold kcOk; simp [h]; omega
  simp [kcL, kcN, kcC, this]
theorem kc_bad {b : Nat} {xs : List Int} {k n : Nat} (hk : k < n) (h : keepIn b (keepOf xs k) = false) : kcL b xs n = [] ∧ kcN b xs n = 0 ∧ kcC b xs n = 2 := by
  apply kc_no
  unfold kcOk
  rw [show (b : Int).toNat = b by omega, keepAll_no hk h, Bool.and_false]
set_option maxHeartbeats 1000000 in
theorem spec_KeeperCounts (bi : Int) (A : Option Addr) (n c : Nat) (xs : List Int) (w : World) (ha : Rd w A xs) (hn : xs.length = n * 5) (hn2 : n ≤ 1048576) :
    Calls Try.prog 62 #[.int .i64 bi, .slice A n c] w (RS w 2 1 (kcN bi xs n) (kcL bi xs n) (kcC bi xs n)) := by
  by_cases hb : 1 ≤ bi ∧ bi ≤ 16
  · obtain ⟨b, rfl⟩ := Int.eq_ofNat_of_zero_le (show 0 ≤ bi by omega)
    obtain ⟨i0, hi, hz0, hz1, hz2⟩ := info_parts infoInt64
    have HI := Lib.hid (And.intro hi (And.intro hz0 (And.intro hz1 hz2)))
    clear hi hz0 hz1 hz2
    go_enter Try.func62, Try.ntmps62
    go_wp2_with (first | (go_at_call 67; refine (spec_in _ _ _ _).mono ?_; rintro e w' ⟨rfl, rfl⟩) | (at_make; refine wpList_make_full _ rfl _ _ 24 rfl w.heap.size 2 i0 (.int .i64 0) 1 Try.underlying24 HI.out.1 HI.out.2.1 HI.out.2.2.1 .i64 .i64 b b b rfl rfl rfl rfl (by rw [HI.out.2.2.2]; omega) (by unfold maxLen; omega) (Nat.le_refl _) ?_; intro w1 hown hgrow))
    rw [show (madeCells (Value.int .i64 0).cells (b * 1)).toList = _ from made_ints (k := 1) rfl (by decide) _, Nat.mul_one] at hown
    have hown : Own w1 w.heap.size 2 1 (.slice (some ⟨w.heap.size, 0, none⟩) b b) b (cntTo b xs 0) := hown
    have hq0 : Q w w1 := (Q.refl w).grown hgrow (by simp)
    clear hgrow
    go_loopw [7] (fun i wr => ∃ k : Nat, k ≤ n ∧ i = .int .i64 k ∧ Hid (keepAll b xs k = true) ∧ Own wr w.heap.size 2 1 (.slice (some ⟨w.heap.size, 0, none⟩) b b) b (cntTo b xs k) ∧ Q w wr) (fun i _ => n - (intOf i).toNat)
    case atStart => exact ⟨0, by omega, rfl, Lib.hid rfl, hown, hq0⟩
    case round =>
      clear hown hq0
      obtain ⟨k, hk, rfl, HT, hown, hq⟩ := hrel
      by_cases hlt : k < n
      · obtain ⟨bl, o, rfl, g0, g1, g2, g3, g4⟩ := (ha.q hq).at5 hn hlt
        by_cases hin : -1 ≤ el xs (k * 5 + 3) ∧ el xs (k * 5 + 3) ≤ (b : Int) - 1
        · have HS := Lib.hid (show keepAll b xs (k + 1) = true by rw [keepAll_succ, HT.out, Bool.true_and]; exact decide_eq_true hin)
          by_cases hpos : 0 ≤ el xs (k * 5 + 3)
          · obtain ⟨m, hm⟩ := Int.eq_ofNat_of_zero_le hpos
            have HC := Lib.hid (cntTo_yes (b := b) (xs := xs) (k := k) (m := m) hm)
            rw [hm] at g3 hin
            clear hpos hm
            have hcell := hown.cell (j := m) (by omega)
            rw [el_eq] at hcell
            have hfz := hown.frozen m
            have hz := (hown.from _ rfl).2
            simp only at hz
            have hbd := cntTo_bd b xs k m
            go_wp2_with (go_at_call 67; refine (spec_in _ _ _ _).mono ?_; rintro e w' ⟨rfl, rfl⟩)
            go_roundw
            case rel => exact ⟨k + 1, by omega, by go_num, HS, by rw [HC.out]; exact hown.stored m _, hq.own_set hown (Nat.le_refl _) _ _⟩
            case measure => simp [intOf]; omega
          · have HC := Lib.hid (cntTo_no (b := b) (xs := xs) (k := k) hpos)
            go_wp2_with (go_at_call 67; refine (spec_in _ _ _ _).mono ?_; rintro e w' ⟨rfl, rfl⟩)
            go_roundw
            case rel => exact ⟨k + 1, by omega, by go_num, HS, by rw [HC.out]; exact hown.q (by (repeat (first | assumption | exact Q.refl _ | refine Q.alloc ?_ _ | refine Q.drewN ?_ _ | refine Q.drew ?_))), hq.trans (by (repeat (first | assumption | exact Q.refl _ | refine Q.alloc ?_ _ | refine Q.drewN ?_ _ | refine Q.drew ?_)))⟩
            case measure => simp [intOf]; omega
        · have HB := Lib.hid (kc_bad (b := b) (xs := xs) hlt (show keepIn b (keepOf xs k) = false from decide_eq_false hin))
          go_wp2_with (go_at_call 67; refine (spec_in _ _ _ _).mono ?_; rintro e w' ⟨rfl, rfl⟩)
          go_ret2
          rw [HB.out.1, HB.out.2.1, HB.out.2.2]
          exact RS.nil _ _ _ _ _ (hq.trans (by (repeat (first | assumption | exact Q.refl _ | refine Q.alloc ?_ _ | refine Q.drewN ?_ _ | refine Q.drew ?_))))
      · obtain rfl : k = n := by omega
        have HB := Lib.hid (kc_yes (n := k) (by omega) HT.out)
        go_wp2_with fail
        go_ret2
        rw [HB.out.1, HB.out.2.1, HB.out.2.2]
        exact RS.mk' hown hq (by rw [cntTo_len]; omega) (by decide)
  · rw [(kc_no (by unfold kcOk; simp; omega)).1, (kc_no (by unfold kcOk; simp; omega)).2.1, (kc_no (by unfold kcOk; simp; omega)).2.2]
    go_enter Try.func62, Try.ntmps62
    go_wp2_with (go_at_call 67; refine (spec_in _ _ _ _).mono ?_; rintro e w' ⟨rfl, rfl⟩)
    go_ret2
    exact RS.nil _ _ _ _ _ (Q.refl _)
set_option maxHeartbeats 1000000 in
theorem impl_KeeperCounts (bi : Int) (A : Option Addr) (n c : Nat) (xs : List Int) (w : World) (ha : Rd w A xs) (hn : xs.length = n * 5) (hn2 : n ≤ 1048576) :
    Calls Try.prog 64 #[.int .i64 bi, .slice A n c] w (RS w 2 1 (kcN bi xs n) (kcL bi xs n) (kcC bi xs n)) := by
  by_cases hb : 1 ≤ bi ∧ bi ≤ 16
  · obtain ⟨b, rfl⟩ := Int.eq_ofNat_of_zero_le (show 0 ≤ bi by omega)
    obtain ⟨i0, hi, hz0, hz1, hz2⟩ := info_parts infoInt64
    have HI := Lib.hid (And.intro hi (And.intro hz0 (And.intro hz1 hz2)))
    clear hi hz0 hz1 hz2
    go_enter Try.func64, Try.ntmps64
    go_wp2_with (first | (go_at_call 68; refine (impl_in _ _ _ _).mono ?_; rintro e w' ⟨rfl, rfl⟩) | (at_make; refine wpList_make_full _ rfl _ _ 24 rfl w.heap.size 2 i0 (.int .i64 0) 1 Try.underlying24 HI.out.1 HI.out.2.1 HI.out.2.2.1 .i64 .i64 b b b rfl rfl rfl rfl (by rw [HI.out.2.2.2]; omega) (by unfold maxLen; omega) (Nat.le_refl _) ?_; intro w1 hown hgrow))
    rw [show (madeCells (Value.int .i64 0).cells (b * 1)).toList = _ from made_ints (k := 1) rfl (by decide) _, Nat.mul_one] at hown
    have hown : Own w1 w.heap.size 2 1 (.slice (some ⟨w.heap.size, 0, none⟩) b b) b (cntTo b xs 0) := hown
    have hq0 : Q w w1 := (Q.refl w).grown hgrow (by simp)
    clear hgrow
    go_loopw [16] (fun i wr => ∃ k : Nat, k ≤ n ∧ i = .int .i64 k ∧ Hid (keepAll b xs k = true) ∧ Own wr w.heap.size 2 1 (.slice (some ⟨w.heap.size, 0, none⟩) b b) b (cntTo b xs k) ∧ Q w wr) (fun i _ => n - (intOf i).toNat)
    case atStart => exact ⟨0, by omega, rfl, Lib.hid rfl, hown, hq0⟩
    case round =>
      clear hown hq0
      obtain ⟨k, hk, rfl, HT, hown, hq⟩ := hrel
      by_cases hlt : k < n
      · obtain ⟨bl, o, rfl, g0, g1, g2, g3, g4⟩ := (ha.q hq).at5 hn hlt
        by_cases hin : -1 ≤ el xs (k * 5 + 3) ∧ el xs (k * 5 + 3) ≤ (b : Int) - 1
        · have HS := Lib.hid (show keepAll b xs (k + 1) = true by rw [keepAll_succ, HT.out, Bool.true_and]; exact decide_eq_true hin)
          by_cases hpos : 0 ≤ el xs (k * 5 + 3)
          · obtain ⟨m, hm⟩ := Int.eq_ofNat_of_zero_le hpos
            have HC := Lib.hid (cntTo_yes (b := b) (xs := xs) (k := k) (m := m) hm)
            rw [hm] at g3 hin
            clear hpos hm
            have hcell := hown.cell (j := m) (by omega)
            rw [el_eq] at hcell
            have hfz := hown.frozen m
            have hz := (hown.from _ rfl).2
            simp only at hz
            have hbd := cntTo_bd b xs k m
            go_wp2_with (go_at_call 68; refine (impl_in _ _ _ _).mono ?_; rintro e w' ⟨rfl, rfl⟩)
            go_roundw
            case rel => exact ⟨k + 1, by omega, by go_num, HS, by rw [HC.out]; exact (hown.stored m _).q (by (repeat (first | assumption | exact Q.refl _ | refine Q.alloc ?_ _ | refine Q.drewN ?_ _ | refine Q.drew ?_))), (hq.own_set hown (Nat.le_refl _) _ _).alloc _⟩
            case measure => simp [intOf]; omega
          · have HC := Lib.hid (cntTo_no (b := b) (xs := xs) (k := k) hpos)
            go_wp2_with (go_at_call 68; refine (impl_in _ _ _ _).mono ?_; rintro e w' ⟨rfl, rfl⟩)
            go_roundw
            case rel => exact ⟨k + 1, by omega, by go_num, HS, by rw [HC.out]; exact hown.q (by (repeat (first | assumption | exact Q.refl _ | refine Q.alloc ?_ _ | refine Q.drewN ?_ _ | refine Q.drew ?_))), hq.trans (by (repeat (first | assumption | exact Q.refl _ | refine Q.alloc ?_ _ | refine Q.drewN ?_ _ | refine Q.drew ?_)))⟩
            case measure => simp [intOf]; omega
        · have HB := Lib.hid (kc_bad (b := b) (xs := xs) hlt (show keepIn b (keepOf xs k) = false from decide_eq_false hin))
          go_wp2_with (go_at_call 68; refine (impl_in _ _ _ _).mono ?_; rintro e w' ⟨rfl, rfl⟩)
          go_ret2
          rw [HB.out.1, HB.out.2.1, HB.out.2.2]
          exact RS.nil _ _ _ _ _ (hq.trans (by (repeat (first | assumption | exact Q.refl _ | refine Q.alloc ?_ _ | refine Q.drewN ?_ _ | refine Q.drew ?_))))
      · obtain rfl : k = n := by omega
        have HB := Lib.hid (kc_yes (n := k) (by omega) HT.out)
        go_wp2_with fail
        go_ret2
        rw [HB.out.1, HB.out.2.1, HB.out.2.2]
        exact RS.mk' hown hq (by rw [cntTo_len]; omega) (by decide)
  · rw [(kc_no (by unfold kcOk; simp; omega)).1, (kc_no (by unfold kcOk; simp; omega)).2.1, (kc_no (by unfold kcOk; simp; omega)).2.2]
    go_enter Try.func64, Try.ntmps64
    go_wp2_with (go_at_call 68; refine (impl_in _ _ _ _).mono ?_; rintro e w' ⟨rfl, rfl⟩)
    go_ret2
    exact RS.nil _ _ _ _ _ (Q.refl _)
theorem kcN_le (b : Int) (xs : List Int) (n : Nat) : kcN b xs n ≤ 16 := by
  unfold kcN
  split
  · rename_i h
    simp [kcOk] at h
    omega
  · omega
set_option maxHeartbeats 4000000 in
theorem law_FnExactKeeperCounts (a0 : Int) (ha0 : -9223372036854775808 ≤ a0 ∧ a0 ≤ 9223372036854775807) (a1A : Option Addr) (a1n a1c : Nat) (a1xs : List Int) (ha1l : a1xs.length = a1n * 5) (ha1b : ∀ y ∈ a1xs, -9223372036854775808 ≤ y ∧ y ≤ 9223372036854775807) (ha1c : a1n ≤ a1c ∧ a1c ≤ maxLen) (w : World) (ha1 : Rd w a1A a1xs) :
    Calls Try.prog 14 #[.int .i64 a0, .slice a1A a1n a1c] w fun e w' => e = .returned (.bool true) ∧ Below w.heap.size w w' := by
  have hn1 : a1n ≤ 9223372036854775807 := by have := ha1c; unfold maxLen at this; omega
  clear ha1c ha1b
  have HL1 := Lib.hid ha1l
  clear ha1l
  have HB0 := Lib.hid ha0
  clear ha0
  have k0 := fun (a1A : Option Addr) (a1c : Nat) => spec_KeeperCounts a0 a1A a1n a1c a1xs
  have k1 := fun (a1A : Option Addr) (a1c : Nat) => impl_KeeperCounts a0 a1A a1n a1c a1xs
  obtain ⟨n0, hn0⟩ : ∃ n0, n0 = kcN a0 a1xs a1n := ⟨_, rfl⟩
  obtain ⟨L0, hL0⟩ : ∃ L0, L0 = kcL a0 a1xs a1n := ⟨_, rfl⟩
  obtain ⟨r1, hr1⟩ : ∃ r1, r1 = kcC a0 a1xs a1n := ⟨_, rfl⟩
  have hs0 : n0 ≤ 1048576 := by rw [hn0]; exact (by have := kcN_le a0 a1xs a1n; omega)
  rw [← hn0, ← hL0, ← hr1] at k0 k1
  have K0 := Lib.hid k0
  have K1 := Lib.hid k1
  clear k0 k1 hn0 hL0 hr1
  rcases Nat.lt_or_ge 1048576 (a1n) with hsz1 | hsz1
  · go_enter Try.func14, Try.ntmps14
    go_wp2_with fail
    refine (szIncidentS_any a1A a1n a1c 1048576 _ (by omega) (by omega) hn1).mono ?_
    rintro e w' ⟨rfl, rfl⟩
    rw [if_neg (by omega)]
    go_wp2_with fail
    go_ret
    exact ⟨rfl, by (repeat (first | assumption | exact Q.refl _ | refine Q.alloc ?_ _ | refine Q.drewN ?_ _ | refine Q.drew ?_))⟩
  · skip
    go_enter Try.func14, Try.ntmps14
    go_wp2_with fail
    refine (szIncidentS_any a1A a1n a1c 1048576 _ (by omega) (by omega) hn1).mono ?_
    rintro e w' ⟨rfl, rfl⟩
    rw [if_pos (by omega)]
    go_wp2_with fail
    have Q0 : Q w w := by (repeat (first | assumption | exact Q.refl _ | refine Q.alloc ?_ _ | refine Q.drewN ?_ _ | refine Q.drew ?_))
    have I1 := ha1
    have z0 : w.heap.size + 0 ≤ (w).heap.size := by simp
    go_wp2_with fail
    refine (toIncidentS_any a1A a1n a1c a1xs _ I1 HL1.out (by omega)).mono ?_
    rintro e w1 ⟨A1s, c1s, rfl, o1s, q1⟩
    replace Q0 := Q0.trans q1
    replace I1 := I1.q q1
    have z1 := q1.size
    have fo1s := o1s.from
    go_wp2_with fail
    refine (K0.out A1s c1s _ o1s.rd HL1.out (by omega)).mono ?_
    rintro e w2 ⟨Gs, ds, rfl, gs, q2⟩
    replace Q0 := Q0.trans q2
    replace I1 := I1.q q2
    replace o1s := o1s.q q2
    have z2 := q2.size
    have fgs := gs.from
    have HGs := Lib.hid (show L0.length = n0 * 1 by simpa using gs.1)
    go_wp2_with fail
    clear o1s
    refine (toIncidentS_any a1A a1n a1c a1xs _ I1 HL1.out (by omega)).mono ?_
    rintro e w3 ⟨A1i, c1i, rfl, o1i, q3⟩
    replace Q0 := Q0.trans q3
    replace I1 := I1.q q3
    replace gs := gs.q q3
    have z3 := q3.size
    have fo1i := o1i.from
    go_wp2_with fail
    refine (K1.out A1i c1i _ o1i.rd HL1.out (by omega)).mono ?_
    rintro e w4 ⟨Gi, di, rfl, gi, q4⟩
    replace Q0 := Q0.trans q4
    replace I1 := I1.q q4
    replace gs := gs.q q4
    replace o1i := o1i.q q4
    have z4 := q4.size
    have fgi := gi.from
    have HGi := Lib.hid (show L0.length = n0 * 1 by simpa using gi.1)
    go_wp2_with fail
    refine (eqInt64S_same Gi Gs n0 di ds L0 _ gi.rd gs.rd (by rw [HGi.out]; omega) (by omega)).mono ?_
    rintro e w5 ⟨rfl, q5⟩
    replace Q0 := Q0.trans q5
    replace I1 := I1.q q5
    replace gs := gs.q q5
    replace o1i := o1i.q q5
    replace gi := gi.q q5
    have z5 := q5.size
    go_wp2_with fail
    refine (toIncidentS_any a1A a1n a1c a1xs _ I1 HL1.out (by omega)).mono ?_
    rintro e w6 ⟨A1e, c1e, rfl, o1e, q6⟩
    replace Q0 := Q0.trans q6
    replace I1 := I1.q q6
    replace gs := gs.q q6
    replace o1i := o1i.q q6
    replace gi := gi.q q6
    have z6 := q6.size
    have fo1e := o1e.from
    go_wp2_with fail
    refine (eqIncidentS_same A1i A1e a1n c1i c1e a1xs _ o1i.rd o1e.rd HL1.out (by omega)).mono ?_
    rintro e w7 ⟨rfl, q7⟩
    replace Q0 := Q0.trans q7
    replace I1 := I1.q q7
    replace gs := gs.q q7
    replace o1i := o1i.q q7
    replace gi := gi.q q7
    replace o1e := o1e.q q7
    have z7 := q7.size
    go_wp2_with fail
    clear o1e
    refine (markIncidentS_any A1i a1n c1i _ a1xs 1 _ o1i (by omega) (by omega)).mono ?_
    rintro e w8 ⟨rfl, mo1i, G8⟩
    have z8 := G8.size
    replace Q0 := Q0.markU fo1i (by omega) G8
    replace I1 := Rd.markU ha1 I1 (fun p hp => by have := fo1i p hp; omega) G8
    replace gs := gs.far G8 (by first | exact far_lt fgs fo1i (by omega) | exact (far_lt fo1i fgs (by omega)).symm)
    replace gi := gi.far G8 (by first | exact far_lt fgi fo1i (by omega) | exact (far_lt fo1i fgi (by omega)).symm)
    replace o1i := mo1i
    go_wp2_with fail
    refine (eqInt64S_same Gi Gs n0 di ds L0 _ gi.rd gs.rd (by rw [HGi.out]; omega) (by omega)).mono ?_
    rintro e w9 ⟨rfl, q9⟩
    replace Q0 := Q0.trans q9
    replace I1 := I1.q q9
    replace gs := gs.q q9
    replace o1i := o1i.q q9
    replace gi := gi.q q9
    have z9 := q9.size
    go_wp2_with fail
    refine (markInt64S_any Gi n0 di _ L0 1 _ gi (by omega) (by omega)).mono ?_
    rintro e w10 ⟨rfl, mgi, G10⟩
    have z10 := G10.size
    replace Q0 := Q0.markU fgi (by omega) G10
    replace I1 := Rd.markU ha1 I1 (fun p hp => by have := fgi p hp; omega) G10
    replace gs := gs.far G10 (by first | exact far_lt fgs fgi (by omega) | exact (far_lt fgi fgs (by omega)).symm)
    replace o1i := o1i.far G10 (by first | exact far_lt fo1i fgi (by omega) | exact (far_lt fgi fo1i (by omega)).symm)
    replace gi := mgi
    go_wp2_with fail
    refine (heldInt64S_any Gi n0 di 1 _ gi.rd (by omega) (by omega)).mono ?_
    rintro e w11 ⟨rfl, q11⟩
    replace Q0 := Q0.trans q11
    replace I1 := I1.q q11
    replace gs := gs.q q11
    replace o1i := o1i.q q11
    replace gi := gi.q q11
    have z11 := q11.size
    go_wp2_with fail
    clear o1i
    refine (toIncidentS_any a1A a1n a1c a1xs _ I1 HL1.out (by omega)).mono ?_
    rintro e w12 ⟨A1h, c1h, rfl, o1h, q12⟩
    replace Q0 := Q0.trans q12
    replace I1 := I1.q q12
    replace gs := gs.q q12
    replace gi := gi.q q12
    have z12 := q12.size
    have fo1h := o1h.from
    go_wp2_with fail
    refine (K1.out A1h c1h _ o1h.rd HL1.out (by omega)).mono ?_
    rintro e w13 ⟨Gh, dh, rfl, gh, q13⟩
    replace Q0 := Q0.trans q13
    replace I1 := I1.q q13
    replace gs := gs.q q13
    replace gi := gi.q q13
    replace o1h := o1h.q q13
    have z13 := q13.size
    have fgh := gh.from
    have HGh := Lib.hid (show L0.length = n0 * 1 by simpa using gh.1)
    go_wp2_with fail
    refine (eqInt64S_same Gh Gs n0 dh ds L0 _ gh.rd gs.rd (by rw [HGh.out]; omega) (by omega)).mono ?_
    rintro e w14 ⟨rfl, q14⟩
    replace Q0 := Q0.trans q14
    replace I1 := I1.q q14
    replace gs := gs.q q14
    replace gi := gi.q q14
    replace o1h := o1h.q q14
    replace gh := gh.q q14
    have z14 := q14.size
    go_wp2_with fail
    refine (heldInt64S_any Gi n0 di 1 _ gi.rd (by omega) (by omega)).mono ?_
    rintro e w15 ⟨rfl, q15⟩
    replace Q0 := Q0.trans q15
    replace I1 := I1.q q15
    replace gs := gs.q q15
    replace gi := gi.q q15
    replace o1h := o1h.q q15
    replace gh := gh.q q15
    have z15 := q15.size
    go_wp2_with fail
    go_ret
    exact ⟨rfl, Q0⟩
end Go.Proofs.Ytcmnolcidflhmaa
