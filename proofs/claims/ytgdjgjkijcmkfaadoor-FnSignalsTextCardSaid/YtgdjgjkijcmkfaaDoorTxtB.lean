/- Walks: the texts of times and limits, as the program and the reference write them. -/
import Derived.Test.YtgdjgjkijcmkfaaDoorTxt
import Derived.Test.YtgdjgjkijcmkfaaDoorTb
namespace Go.Proofs.YtgdjgjkijcmkfaaDoor
open Go.RowKit Go.WideShapes Go.ChangeShapes
set_option maxRecDepth 100000 in
set_option maxHeartbeats 1000000 in
theorem impl_digits (k n : Nat) (hk : k ≤ 3) (hn : n < 10 ^ k) (hn2 : n ≤ 1000) (hk1 : 0 < k) (w : World) (hT : Tbl w) : Calls Tryd.prog 91 #[.int .i64 n, .int .i64 k] w fun e w' => e = .returned (.string (bs (lastD k n))) ∧ Q w w' := by
  have k1 := fun wv (h : Tbl wv) => impl_text n (by omega) (by omega) wv h
  rw [itoa_nat] at k1
  obtain ⟨L, hL⟩ : ∃ L, L = (Lib.decDigits n).length := ⟨_, rfl⟩
  have hL1 : 1 ≤ L ∧ L ≤ k := by
    rw [hL, Lib.decDigits_length]
    obtain ⟨j, rfl⟩ : ∃ j, k = j + 1 := ⟨k - 1, by omega⟩
    exact ⟨Lib.nDigits_pos n, nDigits_le hn⟩
  have hs : (bs (Lib.decDigits n)).size = L := by rw [bs_size, hL]
  have HE : Hid (bs (lastD k n) = bs (Lib.repeatL [48] (k - L)) ++ bs (Lib.decDigits n)) := Lib.hid (by
    obtain ⟨j, rfl⟩ : ∃ j, k = j + 1 := ⟨k - 1, by omega⟩
    rw [bs_app, hL, pad_eq hn])
  have hr : (bs (Lib.repeatL [48] (k - L))).size = k - L := by rw [bs_size, Lib.repeatL_length]; simp
  have k2 := fun wv => Tryd.strings_Repeat (bs [48]) (k - L) wv (by omega) (by rw [bs_size]; simp; omega)
  rw [bs_data] at k2
  have hm : max 0 ((k : Int) - (L : Int)) = ((k - L : Nat) : Int) := by omega
  have hm2 : max ((k : Int) - (L : Int)) 0 = ((k - L : Nat) : Int) := by omega
  generalize bs (lastD k n) = E at *
  have K2 := Lib.hid (show ∀ wv : World, Calls Tryd.prog 103 #[.string (bs [48]), .int .i64 ((k - L : Nat) : Int)] wv fun e w' => e = .returned (.string (bs (Lib.repeatL [48] (k - L)))) ∧ Q wv w' from k2)
  generalize bs (Lib.repeatL [48] (k - L)) = R at *
  generalize bs (Lib.decDigits n) = D at *
  have K1 := Lib.hid k1
  have hkL : (k : Int) ≤ 3 := by omega
  have hLk : (L : Int) ≤ (k : Int) := by omega
  clear k1 k2 hL hn hk1
  go_enter Tryd.func91, Tryd.ntmps91
  go_wp2_with (first | (go_at_call 56; refine (K1.out _ hT).mono ?_; rintro e w1 ⟨rfl, q1⟩) | (go_at_call 103; refine (K2.out _).mono ?_; rintro e w2 ⟨rfl, q2⟩))
  go_ret
  exact ⟨by rw [HE.out]; rfl, q1.trans q2⟩
/-- The text of a time, or none. -/
def tmS (t : Int) : ByteArray := if 0 ≤ t ∧ t ≤ 1000000000 then bs (tmL t.toNat) else ⟨#[]⟩
theorem tmS_nat {t : Nat} (h : t ≤ 1000000000) : tmS (t : Int) = bs (tmL t) := by
  unfold tmS
  rw [if_pos (by omega), Int.toNat_natCast]
theorem tmS_no {t : Int} (h : ¬ (0 ≤ t ∧ t ≤ 1000000000)) : tmS t = ⟨#[]⟩ := by unfold tmS; rw [if_neg h]
theorem tmL_len {t : Nat} (h : t ≤ 1000000000) : 8 ≤ (tmL t).length ∧ (tmL t).length ≤ 12 := by
  have h1 := nDigits_le (k := 4) (n := t / 60000) (by omega)
  have h2 := Lib.nDigits_pos (t / 60000)
  unfold tmL
  simp only [List.length_append, List.length_cons, lastD_len, Lib.decDigits_length]
  omega
set_option maxRecDepth 100000 in
set_option maxHeartbeats 1000000 in
theorem spec_TimeText (t : Int) (w : World) : Calls Tryd.prog 99 #[.int .i64 t] w fun e w' => e = .returned (.string (tmS t)) ∧ Q w w' := by
  by_cases h : 0 ≤ t ∧ t ≤ 1000000000
  · obtain ⟨n, rfl⟩ := Int.eq_ofNat_of_zero_le h.1
    have k1 := fun wv => spec_Time n (by omega) wv
    rw [tmS_nat (by omega)]
    generalize bs (tmL n) = E at *
    have K1 := Lib.hid k1
    clear k1
    go_enter Tryd.func99, Tryd.ntmps99
    go_wp2_with (first | (go_at_call 63; refine (spec_in _ _ _ _).mono ?_; rintro e w' ⟨rfl, rfl⟩) | (go_at_call 60; refine (K1.out _).mono ?_; rintro e w1 ⟨rfl, q1⟩))
    go_ret
    exact ⟨rfl, q1⟩
  · rw [tmS_no h]
    go_enter Tryd.func99, Tryd.ntmps99
    go_wp2_with (go_at_call 63; refine (spec_in _ _ _ _).mono ?_; rintro e w' ⟨rfl, rfl⟩)
    go_ret
    exact ⟨rfl, Q.refl _⟩
set_option maxRecDepth 100000 in
set_option maxHeartbeats 1000000 in
theorem impl_TimeText (t : Int) (w : World) (hT : Tbl w) : Calls Tryd.prog 62 #[.int .i64 t] w fun e w' => e = .returned (.string (tmS t)) ∧ Q w w' := by
  by_cases h : 0 ≤ t ∧ t ≤ 1000000000
  · obtain ⟨n, rfl⟩ := Int.eq_ofNat_of_zero_le h.1
    have hn : n ≤ 1000000000 := by omega
    have k1 := fun wv (h : Tbl wv) => impl_text ((n / 60000 : Nat) : Int) (by omega) (by omega) wv h
    have k2 := fun wv (h : Tbl wv) => impl_digits 2 (n / 1000 % 60) (by omega) (by omega) (by omega) (by omega) wv h
    have k3 := fun wv (h : Tbl wv) => impl_digits 3 (n % 1000) (by omega) (by omega) (by omega) (by omega) wv h
    rw [itoa_nat] at k1
    have hs1 : (bs (Lib.decDigits (n / 60000))).size ≤ 20 := by rw [bs_size, Lib.decDigits_length]; exact Lib.nDigits_le20 _ (by omega)
    have hs2 : (bs (lastD 2 (n / 1000 % 60))).size ≤ 2 := by rw [bs_size, lastD_len]; exact Nat.le_refl _
    have hs3 : (bs (lastD 3 (n % 1000))).size ≤ 3 := by rw [bs_size, lastD_len]; exact Nat.le_refl _
    have HE : Hid (tmS (n : Int) = bs (Lib.decDigits (n / 60000)) ++ bs [58] ++ bs (lastD 2 (n / 1000 % 60)) ++ bs [46] ++ bs (lastD 3 (n % 1000))) := Lib.hid (by
      rw [tmS_nat hn, bs_app, bs_app, bs_app, bs_app]
      unfold tmL
      simp)
    generalize tmS (n : Int) = E at *
    rw [show ((n / 60000 : Nat) : Int) = (n : Int) / 60000 by omega] at k1
    rw [show ((n / 1000 % 60 : Nat) : Int) = (n : Int) / 1000 % 60 by omega] at k2
    rw [show ((n % 1000 : Nat) : Int) = (n : Int) % 1000 by omega] at k3
    generalize bs (Lib.decDigits (n / 60000)) = S1 at *
    generalize bs (lastD 2 (n / 1000 % 60)) = S2 at *
    generalize bs (lastD 3 (n % 1000)) = S3 at *
    have K1 := Lib.hid k1
    have K2 := Lib.hid k2
    have K3 := Lib.hid k3
    clear k1 k2 k3
    go_enter Tryd.func62, Tryd.ntmps62
    go_wp2_with (first | (go_at_call 85; refine (impl_isTime _ _).mono ?_; rintro e w' ⟨rfl, rfl⟩) | (go_at_call 56; refine (K1.out _ hT).mono ?_; rintro e w1 ⟨rfl, q1⟩) | (have q20 := q2; go_at_call 91; refine (K3.out _ ((hT.q q1).q q20)).mono ?_; rintro e w3 ⟨rfl, q3⟩) | (go_at_call 91; refine (K2.out _ (hT.q q1)).mono ?_; rintro e w2 ⟨rfl, q2⟩))
    go_ret
    exact ⟨by rw [HE.out]; rfl, (q1.trans q2).trans q3⟩
  · rw [tmS_no h]
    go_enter Tryd.func62, Tryd.ntmps62
    go_wp2_with (go_at_call 85; refine (impl_isTime _ _).mono ?_; rintro e w' ⟨rfl, rfl⟩)
    go_ret
    exact ⟨rfl, Q.refl _⟩
theorem tmS_le (t : Int) : (tmS t).size ≤ 12 := by
  by_cases h : 0 ≤ t ∧ t ≤ 1000000000
  · obtain ⟨n, rfl⟩ := Int.eq_ofNat_of_zero_le h.1
    rw [tmS_nat (by omega), bs_size]
    exact (tmL_len (by omega)).2
  · rw [tmS_no h]
    decide
def limT (a b c : Int) : ByteArray := if isLim a b c then tmS a ++ bs [32] ++ tmS b ++ bs [32] ++ tmS c else ⟨#[]⟩
set_option maxRecDepth 100000 in
set_option maxHeartbeats 1000000 in
theorem impl_LimitsText (a b c : Int) (w : World) (hT : Tbl w) : Calls Tryd.prog 22 #[.agg #[.int .i64 a, .int .i64 b, .int .i64 c]] w fun e w' => e = .returned (.string (limT a b c)) ∧ Q w w' := by
  have hT1 := hT.q ((Q.refl w).alloc (.cells #[.int .i64 a, .int .i64 b, .int .i64 c] 32))
  cases hl : isLim a b c
  · have HE := Lib.hid (show limT a b c = ⟨#[]⟩ by simp [limT, hl])
    go_enter Tryd.func22, Tryd.ntmps22
    go_wp2_with (go_at_call 61; refine (impl_IsLimits _ _ _ _).mono ?_; rintro e w1 ⟨rfl, q1⟩)
    go_ret
    exact ⟨by rw [HE.out]; rfl, Q.trans (by (repeat (first | assumption | exact Q.refl _ | refine Q.alloc ?_ _ | refine Q.drewN ?_ _ | refine Q.drew ?_))) q1⟩
  · have HE := Lib.hid (show limT a b c = tmS a ++ bs [32] ++ tmS b ++ bs [32] ++ tmS c by simp [limT, hl])
    have hs1 := tmS_le a
    have hs2 := tmS_le b
    have hs3 := tmS_le c
    have K1 := Lib.hid (fun wv (h : Tbl wv) => impl_TimeText a wv h)
    have K2 := Lib.hid (fun wv (h : Tbl wv) => impl_TimeText b wv h)
    have K3 := Lib.hid (fun wv (h : Tbl wv) => impl_TimeText c wv h)
    generalize tmS a = S1 at *
    generalize tmS b = S2 at *
    generalize tmS c = S3 at *
    go_enter Tryd.func22, Tryd.ntmps22
    go_wp2_with (go_at_call 61; refine (impl_IsLimits _ _ _ _).mono ?_; rintro e w1 ⟨rfl, q1⟩)
    have B1 := q1.boxB
    have l0 := later_cells B1.cell B1.lt
    have T1 := hT1.q q1
    refine wp_region_later_lit (by kernel_rfl) (by kernel_rfl) ?_
    repeat (any_goals (first | go_big_quiet_step ((first | (go_at_call 62; with_reducible exact later_call (K1.out _ (T1.q (Later.q _)))) | (go_at_call 62; with_reducible exact later_call (K2.out _ (T1.q (Later.q _)))) | (go_at_call 62; with_reducible exact later_call (K3.out _ (T1.q (Later.q _)))))) | quiet_step ((first | (go_at_call 62; with_reducible exact later_call (K1.out _ (T1.q (Later.q _)))) | (go_at_call 62; with_reducible exact later_call (K2.out _ (T1.q (Later.q _)))) | (go_at_call 62; with_reducible exact later_call (K3.out _ (T1.q (Later.q _)))))) | (refine wpQuiet_step (fun K hK => ?_); go_simp; split <;> (refine hK _ ?_; clear hK K))))
    all_goals (refine wpQuiet_nil ?_; rintro _ ⟨⟨w2, q2⟩, rfl⟩; try dsimp only)
    all_goals go_wp2_with fail
    go_ret
    exact ⟨by rw [HE.out]; rfl, (Q.trans (by (repeat (first | assumption | exact Q.refl _ | refine Q.alloc ?_ _ | refine Q.drewN ?_ _ | refine Q.drew ?_))) q1).trans q2⟩
end Go.Proofs.YtgdjgjkijcmkfaaDoor
