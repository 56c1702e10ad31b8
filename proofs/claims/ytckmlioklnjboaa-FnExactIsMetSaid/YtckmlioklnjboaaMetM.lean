/- Walks: whether a demand is met by facts, as the program and the reference decide it. No condition. -/
import Derived.Test.YtckmlioklnjboaaMetS
namespace Go.Proofs.Ytckmlioklnjboaa
open Go.RowKit Go.WideShapes Go.ChangeShapes
def metAt (F L : List Int) (k : Nat) : Bool := if 0 < el L k then el F ((el L k).toNat - 1) == 1 else if el L k < 0 then el F ((-(el L k)).toNat - 1) == -1 else true
def metTo (F L : List Int) (k : Nat) : Bool := (List.range k).all (metAt F L)
theorem metTo_succ (F L : List Int) (k : Nat) : metTo F L (k + 1) = (metTo F L k && metAt F L k) := by simp [metTo, List.range_succ]
theorem metTo_no {F L : List Int} {k n : Nat} (hk : k < n) (h : metAt F L k = false) : metTo F L n = false := by
  unfold metTo
  rw [List.all_eq_false]
  exact ⟨k, by simpa using hk, by simp [h]⟩
theorem dm_form {L : List Int} {n k : Nat} (h : dmTo L n = true) (hk : k < n) : ∃ m : Nat, m < 8 ∧ (el L k = (m : Int) + 1 ∨ el L k = -((m : Int) + 1)) := by
  have := dmAt_yes (dmTo_at h hk)
  exact ⟨(el L k).natAbs - 1, by omega, by omega⟩
theorem met_pos (F L : List Int) {k m : Nat} (h : el L k = (m : Int) + 1) : metAt F L k = (el F m == 1) := by
  unfold metAt
  rw [if_pos (by omega), h, show (((m : Int) + 1).toNat - 1) = m by omega]
theorem met_neg (F L : List Int) {k m : Nat} (h : el L k = -((m : Int) + 1)) : metAt F L k = (el F m == -1) := by
  unfold metAt
  rw [if_neg (by omega), if_pos (by omega), h, show ((-(-((m : Int) + 1))).toNat - 1) = m by omega]
set_option maxHeartbeats 1000000 in
theorem impl_isMet (A : Option Addr) (c : Nat) (F : List Int) (A2 : Option Addr) (n c2 : Nat) (L : List Int) (o : Int) (w : World) (ha : Rd w A F) (hF : F.length = 8) (ha2 : Rd w A2 L) (hn : L.length = n) (hn2 : n ≤ 9223372036854775807) (hD : dmTo L n = true) :
    Calls Try.prog 56 #[.slice A 8 c, .agg #[.slice A2 n c2, .int .i64 o]] w fun e w' => e = .returned (.bool (metTo F L n)) ∧ Q w w' := by
  have HN := Lib.hid hn
  have HF := Lib.hid hF
  have HD := Lib.hid hD
  clear hn hF hD
  have Q1 : Q w (w.alloc (.cells #[.slice A2 n c2, .int .i64 o] 74)) := (Q.refl w).alloc _
  go_enter Try.func56, Try.ntmps56
  go_wp2_with fail
  go_loop [10] (fun i => ∃ k : Nat, k ≤ n ∧ i = .int .i64 k ∧ Hid (metTo F L k = true)) (fun i => n - (intOf i).toNat)
  case atStart => exact ⟨0, Nat.zero_le _, rfl, Lib.hid rfl⟩
  case round =>
    obtain ⟨k, hk, rfl, HT⟩ := hrel
    by_cases hlt : k < n
    · have hltI : (k : Int) < (n : Int) := by omega
      obtain ⟨bl, o1, rfl, g0⟩ := (ha2.q Q1).at1 HN.out hlt
      obtain ⟨m, hm8, hm⟩ := dm_form HD.out hlt
      obtain ⟨bf, o2, rfl, g1⟩ := (ha.q Q1).at1 HF.out hm8
      have hmI : (m : Int) < 8 := by omega
      rcases hm with hm | hm
      · have HE := Lib.hid (met_pos F L hm)
        rw [hm] at g0
        clear hm
        have hp : 0 < (m : Int) + 1 := by omega
        have hp2 : ¬ (m : Int) + 1 < 0 := by omega
        by_cases h1 : el F m = 1
        · have HS : Hid (metTo F L (k + 1) = true) := Lib.hid (by rw [metTo_succ, HT.out, HE.out, h1]; rfl)
          rw [h1] at g1
          clear h1
          go_wp2_with fail
          go_round
          case rel => exact ⟨k + 1, by omega, by go_num, HS⟩
          case measure => simp [intOf]; omega
        · have HX := Lib.hid (metTo_no hlt (show metAt F L k = false by rw [HE.out]; simpa using h1))
          have hb : (el F m == 1) = false := by simpa using h1
          have hb2 : (el F m != 1) = true := by simpa using h1
          clear h1
          go_wp2_with fail
          go_ret
          exact ⟨ret_bool (by rw [HX.out]), Q1⟩
      · have HE := Lib.hid (met_neg F L hm)
        rw [hm] at g0
        clear hm
        have hp : ¬ 0 < -((m : Int) + 1) := by omega
        have hp2 : -((m : Int) + 1) < 0 := by omega
        by_cases h1 : el F m = -1
        · have HS : Hid (metTo F L (k + 1) = true) := Lib.hid (by rw [metTo_succ, HT.out, HE.out, h1]; rfl)
          rw [h1] at g1
          clear h1
          go_wp2_with fail
          go_round
          case rel => exact ⟨k + 1, by omega, by go_num, HS⟩
          case measure => simp [intOf]; omega
        · have HX := Lib.hid (metTo_no hlt (show metAt F L k = false by rw [HE.out]; simpa using h1))
          have hb : (el F m == -1) = false := by simpa using h1
          have hb2 : (el F m != -1) = true := by simpa using h1
          clear h1
          go_wp2_with fail
          go_ret
          exact ⟨ret_bool (by rw [HX.out]), Q1⟩
    · obtain rfl : k = n := by omega
      go_wp2_with fail
      go_ret
      exact ⟨ret_bool (by rw [HT.out]), Q1⟩
set_option maxHeartbeats 1000000 in
theorem spec_l18Met (A : Option Addr) (c : Nat) (F : List Int) (A2 : Option Addr) (n c2 : Nat) (L : List Int) (o : Int) (w : World) (ha : Rd w A F) (hF : F.length = 8) (ha2 : Rd w A2 L) (hn : L.length = n) (hn2 : n ≤ 9223372036854775807) (hD : dmTo L n = true) :
    Calls Try.prog 53 #[.slice A 8 c, .agg #[.slice A2 n c2, .int .i64 o]] w fun e w' => e = .returned (.bool (metTo F L n)) ∧ Q w w' := by
  have HN := Lib.hid hn
  have HF := Lib.hid hF
  have HD := Lib.hid hD
  clear hn hF hD
  have Q1 : Q w (w.alloc (.cells #[.slice A2 n c2, .int .i64 o] 74)) := (Q.refl w).alloc _
  go_enter Try.func53, Try.ntmps53
  go_wp2_with fail
  go_loop [5] (fun i => ∃ k : Nat, k ≤ n ∧ i = .int .i64 k ∧ Hid (metTo F L k = true)) (fun i => n - (intOf i).toNat)
  case atStart => exact ⟨0, Nat.zero_le _, by simp, Lib.hid rfl⟩
  case round =>
    obtain ⟨k, hk, rfl, HT⟩ := hrel
    by_cases hlt : k < n
    · have hltI : (k : Int) < (n : Int) := by omega
      obtain ⟨bl, o1, rfl, g0⟩ := (ha2.q Q1).at1 HN.out hlt
      obtain ⟨m, hm8, hm⟩ := dm_form HD.out hlt
      obtain ⟨bf, o2, rfl, g1⟩ := (ha.q Q1).at1 HF.out hm8
      have hmI : (m : Int) < 8 := by omega
      rcases hm with hm | hm
      · have HE := Lib.hid (met_pos F L hm)
        rw [hm] at g0
        clear hm
        have hp : 0 < (m : Int) + 1 := by omega
        have hp2 : ¬ (m : Int) + 1 < 0 := by omega
        by_cases h1 : el F m = 1
        · have HS : Hid (metTo F L (k + 1) = true) := Lib.hid (by rw [metTo_succ, HT.out, HE.out, h1]; rfl)
          rw [h1] at g1
          clear h1
          go_wp2_with fail
          go_round
          case rel => exact ⟨k + 1, by omega, by go_num, HS⟩
          case measure => simp [intOf]; omega
        · have HX := Lib.hid (metTo_no hlt (show metAt F L k = false by rw [HE.out]; simpa using h1))
          have hb : (el F m == 1) = false := by simpa using h1
          have hb2 : (el F m != 1) = true := by simpa using h1
          clear h1
          go_wp2_with fail
          go_ret
          exact ⟨ret_bool (by rw [HX.out]), Q1⟩
      · have HE := Lib.hid (met_neg F L hm)
        rw [hm] at g0
        clear hm
        have hp : ¬ 0 < -((m : Int) + 1) := by omega
        have hp2 : -((m : Int) + 1) < 0 := by omega
        by_cases h1 : el F m = -1
        · have HS : Hid (metTo F L (k + 1) = true) := Lib.hid (by rw [metTo_succ, HT.out, HE.out, h1]; rfl)
          rw [h1] at g1
          clear h1
          go_wp2_with fail
          go_round
          case rel => exact ⟨k + 1, by omega, by go_num, HS⟩
          case measure => simp [intOf]; omega
        · have HX := Lib.hid (metTo_no hlt (show metAt F L k = false by rw [HE.out]; simpa using h1))
          have hb : (el F m == -1) = false := by simpa using h1
          have hb2 : (el F m != -1) = true := by simpa using h1
          clear h1
          go_wp2_with fail
          go_ret
          exact ⟨ret_bool (by rw [HX.out]), Q1⟩
    · obtain rfl : k = n := by omega
      go_wp2_with fail
      go_ret
      exact ⟨ret_bool (by rw [HT.out]), Q1⟩
def frTo (F : List Int) (k : Nat) : Bool := (List.range k).all fun j => inR (el F j) (-1) 1
theorem frTo_succ (F : List Int) (k : Nat) : frTo F (k + 1) = (frTo F k && inR (el F k) (-1) 1) := by simp [frTo, List.range_succ]
theorem frTo_no {F : List Int} {k n : Nat} (hk : k < n) (h : inR (el F k) (-1) 1 = false) : frTo F n = false := by
  unfold frTo
  rw [List.all_eq_false]
  exact ⟨k, by simpa using hk, by simp [h]⟩
def metB (F : List Int) (nF : Nat) (L : List Int) (n : Nat) (o : Int) : Bool := decide (nF = 8) && frTo F nF && demB L n o && metTo F L n
theorem demB_to {L : List Int} {n : Nat} {o : Int} (h : demB L n o = true) : dmTo L n = true := by
  unfold demB at h
  rw [Bool.and_eq_true] at h
  exact h.1
set_option maxHeartbeats 1000000 in
theorem impl_IsMet (A : Option Addr) (nF c : Nat) (F : List Int) (A2 : Option Addr) (n c2 : Nat) (L : List Int) (o : Int) (w : World) (ha : Rd w A F) (hF : F.length = nF) (hF2 : nF ≤ 9223372036854775807) (ha2 : Rd w A2 L) (hn : L.length = n) (hc : n ≤ c2) (hn2 : n ≤ 9223372036854775807) :
    Calls Try.prog 29 #[.slice A nF c, .agg #[.slice A2 n c2, .int .i64 o]] w fun e w' => e = .returned (.bool (metB F nF L n o)) ∧ Q w w' := by
  have HF := Lib.hid hF
  have K1 := Lib.hid (fun wv (h : Rd wv A2 L) => impl_isDemand A2 n c2 L o wv h hn hc hn2)
  have HN := Lib.hid hn
  clear hF hn
  have Q1 : Q w (w.alloc (.cells #[.slice A2 n c2, .int .i64 o] 74)) := (Q.refl w).alloc _
  have B := Blk.new w 74 #[.slice A2 n c2, .int .i64 o]
  go_enter Try.func29, Try.ntmps29
  go_wp2_with fail
  go_loop [9] (fun i => ∃ k : Nat, k ≤ nF ∧ i = .int .i64 k ∧ Hid (frTo F k = true)) (fun i => nF - (intOf i).toNat)
  case atStart => exact ⟨0, Nat.zero_le _, rfl, Lib.hid rfl⟩
  case round =>
    obtain ⟨k, hk, rfl, HT⟩ := hrel
    by_cases hlt : k < nF
    · have hltI : (k : Int) < (nF : Int) := by omega
      obtain ⟨bl, o1, rfl, g0⟩ := (ha.q Q1).at1 HF.out hlt
      cases hR : inR (el F k) (-1) 1
      · have HX := Lib.hid (frTo_no hlt hR)
        go_wp2_with (go_at_call 54; refine (impl_inR _ _ _ _).mono ?_; rintro e w' ⟨rfl, rfl⟩)
        go_ret
        exact ⟨ret_bool (by unfold metB; rw [HX.out, Bool.and_false]; rfl), Q1⟩
      · have HS : Hid (frTo F (k + 1) = true) := Lib.hid (by rw [frTo_succ, HT.out, hR]; rfl)
        go_wp2_with (go_at_call 54; refine (impl_inR _ _ _ _).mono ?_; rintro e w' ⟨rfl, rfl⟩)
        go_round
        case rel => exact ⟨k + 1, by omega, by go_num, HS⟩
        case measure => simp [intOf]; omega
    · obtain rfl : k = nF := by omega
      have cB := B.cell
      by_cases h8 : k = 8
      · subst h8
        obtain ⟨D, hD⟩ : ∃ D, D = demB L n o := ⟨_, rfl⟩
        rw [← hD] at K1
        cases D
        · have HX := Lib.hid hD.symm
          clear hD
          go_wp2_with (go_at_call 55; refine (K1.out _ (ha2.q Q1)).mono ?_; rintro e w2 ⟨rfl, q2⟩)
          go_ret
          exact ⟨ret_bool (by unfold metB; rw [HX.out]; simp), Q1.trans q2⟩
        · have HX := Lib.hid hD.symm
          have K2 := Lib.hid (fun wv (h : Rd wv A F) (h2 : Rd wv A2 L) => impl_isMet A c F A2 n c2 L o wv h HF.out h2 HN.out hn2 (demB_to hD.symm))
          clear hD
          go_wp2_with fail
          refine (K1.out _ (ha2.q Q1)).mono ?_
          rintro e w2 ⟨rfl, q2⟩
          have Q2 := Q1.trans q2
          have cB := (B.q q2).cell
          go_wp2_with fail
          refine (K2.out _ (ha.q Q2) (ha2.q Q2)).mono ?_
          rintro e w3 ⟨rfl, q3⟩
          go_wp2_with fail
          go_ret
          exact ⟨ret_bool (by unfold metB; rw [HX.out, HT.out]; simp), Q2.trans q3⟩
      · have hb : ((k : Int) == 8) = false := by simp; omega
        go_wp2_with fail
        go_ret
        exact ⟨ret_bool (by unfold metB; rw [decide_eq_false h8]; rfl), Q1⟩
set_option maxHeartbeats 1000000 in
theorem spec_IsMet (A : Option Addr) (nF c : Nat) (F : List Int) (A2 : Option Addr) (n c2 : Nat) (L : List Int) (o : Int) (w : World) (ha : Rd w A F) (hF : F.length = nF) (hF2 : nF ≤ 9223372036854775807) (ha2 : Rd w A2 L) (hn : L.length = n) (hn2 : n ≤ 9223372036854775807) :
    Calls Try.prog 26 #[.slice A nF c, .agg #[.slice A2 n c2, .int .i64 o]] w fun e w' => e = .returned (.bool (metB F nF L n o)) ∧ Q w w' := by
  have HF := Lib.hid hF
  have K1 := Lib.hid (fun wv (h : Rd wv A2 L) => spec_l18Demand A2 n c2 L o wv h hn hn2)
  have HN := Lib.hid hn
  clear hF hn
  have Q1 : Q w (w.alloc (.cells #[.slice A2 n c2, .int .i64 o] 74)) := (Q.refl w).alloc _
  have B := Blk.new w 74 #[.slice A2 n c2, .int .i64 o]
  have cB := B.cell
  by_cases h8 : nF = 8
  · subst h8
    obtain ⟨D, hD⟩ : ∃ D, D = demB L n o := ⟨_, rfl⟩
    rw [← hD] at K1
    cases D
    · have HX := Lib.hid hD.symm
      clear hD
      go_enter Try.func26, Try.ntmps26
      go_wp2_with (go_at_call 51; refine (K1.out _ (ha2.q Q1)).mono ?_; rintro e w2 ⟨rfl, q2⟩)
      go_ret
      exact ⟨ret_bool (by unfold metB; rw [HX.out]; simp), Q1.trans q2⟩
    · have HX := Lib.hid hD.symm
      have K2 := Lib.hid (fun wv (h : Rd wv A F) (h2 : Rd wv A2 L) => spec_l18Met A c F A2 n c2 L o wv h HF.out h2 HN.out hn2 (demB_to hD.symm))
      clear hD
      go_enter Try.func26, Try.ntmps26
      go_wp2_with fail
      refine (K1.out _ (ha2.q Q1)).mono ?_
      rintro e w2 ⟨rfl, q2⟩
      have Q2 := Q1.trans q2
      have cB2 := (B.q q2).cell
      go_wp2_with fail
      go_loop [5] (fun i => ∃ k : Nat, k ≤ 8 ∧ i = .int .i64 k ∧ Hid (frTo F k = true)) (fun i => 8 - (intOf i).toNat)
      case atStart => exact ⟨0, by omega, by simp, Lib.hid rfl⟩
      case round =>
        obtain ⟨k, hk, rfl, HT⟩ := hrel
        by_cases hlt : k < 8
        · have hltI : (k : Int) < 8 := by omega
          obtain ⟨bl, o1, rfl, g0⟩ := (ha.q Q2).at1 HF.out hlt
          cases hR : inR (el F k) (-1) 1
          · have HX := Lib.hid (frTo_no hlt hR)
            go_wp2_with (go_at_call 52; refine (spec_inR _ _ _ _).mono ?_; rintro e w' ⟨rfl, rfl⟩)
            go_ret
            exact ⟨ret_bool (by unfold metB; rw [HX.out, Bool.and_false]; rfl), Q2⟩
          · have HS : Hid (frTo F (k + 1) = true) := Lib.hid (by rw [frTo_succ, HT.out, hR]; rfl)
            go_wp2_with (go_at_call 52; refine (spec_inR _ _ _ _).mono ?_; rintro e w' ⟨rfl, rfl⟩)
            go_round
            case rel => exact ⟨k + 1, by omega, by go_num, HS⟩
            case measure => simp [intOf]; omega
        · obtain rfl : k = 8 := by omega
          go_wp2_with fail
          refine (K2.out _ (ha.q Q2) (ha2.q Q2)).mono ?_
          rintro e w3 ⟨rfl, q3⟩
          go_wp2_with fail
          go_ret
          exact ⟨ret_bool (by unfold metB; rw [HX.out, HT.out]; simp), Q2.trans q3⟩
  · have hb : ((nF : Int) == 8) = false := by simp; omega
    have hb2 : ((nF : Int) != 8) = true := by simp; omega
    go_enter Try.func26, Try.ntmps26
    go_wp2_with fail
    go_ret
    exact ⟨ret_bool (by unfold metB; rw [decide_eq_false h8]; rfl), Q1⟩
end Go.Proofs.Ytckmlioklnjboaa
