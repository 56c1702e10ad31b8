/- Walks: decimal numerals and the texts of times, as the program and the reference write them. -/
import Derived.Test.YtgdjgjkijcmkfaaDoorShelf
import Derived.Test.YtgdjgjkijcmkfaaDoorNum
import Derived.Test.YtgdjgjkijcmkfaaDoorK
import Derived.Test.YtgdjgjkijcmkfaaDoorTail
import Derived.Test.YtgdjgjkijcmkfaaDoorTc
import Derived.Lib.SmallJoins
import Derived.Lib.AppendIntMem
import Derived.Laws.IdiomStrings
import Derived.RegionTactic
import Derived.Deep.RegionWith
namespace Go.Proofs.YtgdjgjkijcmkfaaDoor
open Go.RowKit Go.WideShapes Go.ChangeShapes
/-- The library's table of powers of ten is as its text lays it. -/
def Tbl (w : World) : Prop := Lib.TabIs Tryd.prog w "internal/strconv.uint64pow10" .u64 Lib.pow10Tab
theorem gPow : Tryd.prog.globalNamed "internal/strconv.uint64pow10" = some 1 := by kernel_rfl
theorem Tbl.q {w w' : World} (h : Tbl w) (hq : Q w w') : Tbl w' := Go.Joins.tab_stays gPow h hq (Nat.le_refl _)
theorem impl_text (n : Int) (h0 : -9223372036854775808 ≤ n) (h1 : n ≤ 9223372036854775807) (w : World) (hT : Tbl w) :
    Calls Tryd.prog 56 #[.int .i64 n] w fun e w' => e = .returned (.string (bs (Lib.itoa n))) ∧ Q w w' := by
  go_enter Tryd.func56, Tryd.ntmps56
  go_wp2_with (go_at_call 86; refine (Tryd.strconv_FormatInt_10 n h0 h1 _ hT).mono ?_; rintro e w' ⟨rfl, k, os, rfl⟩)
  go_ret
  exact ⟨rfl, Lib.below_grow _ _ (Nat.le_refl _) _ _⟩
theorem itoa_nat (n : Nat) : Lib.itoa (n : Int) = Lib.decDigits n := by
  unfold Lib.itoa
  rw [if_neg (by omega), Int.toNat_natCast]
theorem byte_nat (n : Nat) (h : n < 10) : 48 + (n : Int) = ((dgB n).toNat : Int) := by
  unfold dgB
  rw [UInt8.toNat_ofNat']
  omega
/-- A slice of one byte, just made, read as a string. -/
theorem one_byte (w : World) (x : Int) (b : UInt8) (hx : x = (b.toNat : Int)) : (convert 51 9 (.slice (some ⟨w.heap.size, 0, none⟩) 1 1)).run Tryd.prog (w.alloc (.cells #[.int .u8 x] 5)) = .ok (.string (bs [b])) (w.alloc (.cells #[.int .u8 x] 5)) := by
  subst hx
  exact run_convert_bytes_back (P := Tryd.prog) _ 51 9 5 ⟨w.heap.size, 0, none⟩ 1 [b] Tryd.underlying51 Tryd.underlying5 Tryd.underlying9 (fun j hj => by
    have hj : j < 1 := hj
    obtain rfl : j = 0 := by omega
    simp [Addr.add])
theorem one_byteC (w : World) (g : Nat) (x : Int) (b : UInt8) (hx : x = (b.toNat : Int)) (hc : w.cell? ⟨g, 0, none⟩ = some (.int .u8 x)) : (convert 51 9 (.slice (some ⟨g, 0, none⟩) 1 1)).run Tryd.prog w = .ok (.string (bs [b])) w := by
  subst hx
  exact run_convert_bytes_back (P := Tryd.prog) _ 51 9 5 ⟨g, 0, none⟩ 1 [b] Tryd.underlying51 Tryd.underlying5 Tryd.underlying9 (fun j hj => by
    have hj : j < 1 := hj
    obtain rfl : j = 0 := by omega
    simpa [Addr.add] using hc)
set_option maxRecDepth 100000 in
set_option maxHeartbeats 1000000 in
theorem spec_Number : ∀ (N n : Nat), n ≤ N → n ≤ 9223372036854775807 → ∀ w : World, Calls Tryd.prog 52 #[.int .i64 n] w fun e w' => e = .returned (.string (bs (Lib.decDigits n))) ∧ Q w w' := by
  intro N
  induction N with
  | zero =>
    intro n hN hn w
    have h10 : n < 10 := by omega
    have hcv := one_byte w (48 + (n : Int)) (dgB n) (byte_nat n h10)
    rw [dec_lt h10]
    go_enter Tryd.func52, Tryd.ntmps52
    go_wp2_with fail
    go_ret
    exact ⟨rfl, (Q.refl _).alloc _⟩
  | succ N ih =>
    intro n hN hn w
    by_cases h10 : n < 10
    · have hcv := one_byte w (48 + (n : Int)) (dgB n) (byte_nat n h10)
      rw [dec_lt h10]
      go_enter Tryd.func52, Tryd.ntmps52
      go_wp2_with fail
      go_ret
      exact ⟨rfl, (Q.refl _).alloc _⟩
    · have hx : IntKind.u8.wrap (IntKind.i64.wrap (48 + (n : Int).tmod 10)) = ((dgB (n % 10)).toNat : Int) := by
        have h1 := byte_nat (n % 10) (by omega)
        rw [← h1, Int.tmod_eq_emod_of_nonneg (by omega), IntKind.wrap_i64]
        simp [IntKind.wrap, IntKind.bits, IntKind.signed]
        omega
      have HX := Lib.hid hx
      have hcv := fun wv => one_byte wv (IntKind.u8.wrap (IntKind.i64.wrap (48 + (n : Int).tmod 10))) (dgB (n % 10)) hx
      have hcd := fun wv : World => one_byteC (wv.alloc (.cells #[.int .u8 (IntKind.u8.wrap (IntKind.i64.wrap (48 + (n : Int).tmod 10)))] 5)).drew wv.heap.size _ _ hx ((Blk.new wv 5 _).drew.cell 0)
      clear hx
      have ih1 := ih (n / 10) (by omega) (by omega)
      rw [show ((n / 10 : Nat) : Int) = IntKind.i64.wrap ((n : Int) / 10) by rw [IntKind.wrap_i64]; omega] at ih1
      have ih' := Lib.hid ih1
      clear ih1
      rw [dec_ge h10, ← bs_app]
      have h10I : ¬ (n : Int) < 10 := by omega
      have hs1 : (bs (Lib.decDigits (n / 10))).size ≤ 20 := by rw [bs_size, Lib.decDigits_length]; exact Lib.nDigits_le20 _ (by omega)
      have hs2 : (bs [dgB (n % 10)]).size = 1 := by rw [bs_size]; rfl
      go_enter Tryd.func52, Tryd.ntmps52
      go_wp2_with fail
      go_region_with (go_at_call 52; refine (ih'.out _).mono ?_; rintro e w2 ⟨rfl, q2⟩; have Q2 : Q w w2 := Q.trans (by (repeat (first | assumption | exact Q.refl _ | refine Q.alloc ?_ _ | refine Q.drewN ?_ _ | refine Q.drew ?_))) q2; (first | (have hcv2 : (convert 51 9 (.slice (some ⟨w.heap.size, 0, none⟩) 1 1)).run Tryd.prog w2 = .ok (.string (bs [dgB (n % 10)])) w2 := one_byteC w2 w.heap.size _ _ HX.out (q2.box 0)) | (have hcv2 : (convert 51 9 (.slice (some ⟨w.heap.size, 0, none⟩) 1 1)).run Tryd.prog w2 = .ok (.string (bs [dgB (n % 10)])) w2 := one_byteC w2 w.heap.size _ _ HX.out (((Blk.new w _ _).drew.q q2).cell 0)) | skip))
      all_goals go_wp2_with fail
      all_goals go_ret
      all_goals exact ⟨rfl, by (repeat (first | assumption | exact Q.refl _ | refine Q.alloc ?_ _ | refine Q.drewN ?_ _ | refine Q.drew ?_))⟩
set_option maxRecDepth 100000 in
set_option maxHeartbeats 1000000 in
theorem spec_Digits (k n : Nat) (hk : k ≤ 3) (hn : n ≤ 9223372036854775807) (w : World) : Calls Tryd.prog 90 #[.int .i64 n, .int .i64 k] w fun e w' => e = .returned (.string (bs (lastD k n))) ∧ Q w w' := by
  have hk3 : (k : Int) ≤ 3 := by omega
  go_enter Tryd.func90, Tryd.ntmps90
  go_wp2_with fail
  go_loopw [0, 5, 6] (fun x v i wr => ∃ (j m : Nat), j ≤ k ∧ i = .int .i64 j ∧ x = .int .i64 m ∧ v = .string (bs (lastD j n)) ∧ Hid (m = n / 10 ^ j) ∧ m ≤ 9223372036854775807 ∧ Q w wr) (fun _ _ i _ => k - (intOf i).toNat)
  case atStart => exact ⟨0, n, by omega, rfl, rfl, rfl, Lib.hid (by simp), hn, Q.refl _⟩
  case round =>
    obtain ⟨j, m, hj, rfl, rfl, rfl, HM, hm, hq⟩ := hrel
    by_cases hlt : j < k
    · have hltI : (j : Int) < (k : Int) := by omega
      have hcv := fun wv => one_byte wv (48 + (m : Int) % 10) (dgB (m % 10)) (by have := byte_nat (m % 10) (by omega); omega)
      have hs1 : (bs (lastD j n)).size ≤ 3 := by rw [bs_size, lastD_len]; omega
      have hs2 : (bs [dgB (m % 10)]).size = 1 := by rw [bs_size]; rfl
      go_wp2_with fail
      go_roundw
      case rel => exact ⟨j + 1, m / 10, by omega, by go_num, by go_num, by rw [bs_app, lastD_cons, HM.out]; rfl, Lib.hid (by rw [HM.out, Nat.div_div_eq_div_mul, Nat.pow_succ]), by omega, hq.trans (by (repeat (first | assumption | exact Q.refl _ | refine Q.alloc ?_ _ | refine Q.drewN ?_ _ | refine Q.drew ?_)))⟩
      case measure => simp [intOf]; omega
    · obtain rfl : j = k := by omega
      go_wp2_with fail
      go_ret
      exact ⟨rfl, hq⟩
set_option maxRecDepth 100000 in
set_option maxHeartbeats 1000000 in
theorem spec_Time (t : Nat) (ht : t ≤ 1000000000) (w : World) : Calls Tryd.prog 60 #[.int .i64 t] w fun e w' => e = .returned (.string (bs (tmL t))) ∧ Q w w' := by
  have k1 := fun wv => spec_Number (t / 60000) (t / 60000) (Nat.le_refl _) (by omega) wv
  have k2 := fun wv => spec_Digits 2 (t / 1000 % 60) (by omega) (by omega) wv
  have k3 := fun wv => spec_Digits 3 t (by omega) (by omega) wv
  rw [lastD_mod] at k3
  have hs1 : (bs (Lib.decDigits (t / 60000))).size ≤ 20 := by rw [bs_size, Lib.decDigits_length]; exact Lib.nDigits_le20 _ (by omega)
  have hs2 : (bs (lastD 2 (t / 1000 % 60))).size ≤ 2 := by rw [bs_size, lastD_len]; exact Nat.le_refl _
  have hs3 : (bs (lastD 3 (t % 1000))).size ≤ 3 := by rw [bs_size, lastD_len]; exact Nat.le_refl _
  have HE : Hid (bs (tmL t) = bs (Lib.decDigits (t / 60000)) ++ bs [58] ++ bs (lastD 2 (t / 1000 % 60)) ++ bs [46] ++ bs (lastD 3 (t % 1000))) := Lib.hid (by
    rw [bs_app, bs_app, bs_app, bs_app]
    unfold tmL
    simp)
  generalize bs (tmL t) = E at *
  rw [show ((t / 60000 : Nat) : Int) = (t : Int) / 60000 by omega] at k1
  rw [show ((t / 1000 % 60 : Nat) : Int) = (t : Int) / 1000 % 60 by omega] at k2
  generalize bs (Lib.decDigits (t / 60000)) = S1 at *
  generalize bs (lastD 2 (t / 1000 % 60)) = S2 at *
  generalize bs (lastD 3 (t % 1000)) = S3 at *
  have K1 := Lib.hid k1
  have K2 := Lib.hid k2
  have K3 := Lib.hid k3
  clear k1 k2 k3
  go_enter Tryd.func60, Tryd.ntmps60
  go_wp2_with (first | (go_at_call 52; refine (K1.out _).mono ?_; rintro e w1 ⟨rfl, q1⟩) | (have q10 := q2; go_at_call 90; refine (K3.out _).mono ?_; rintro e w3 ⟨rfl, q3⟩) | (go_at_call 90; refine (K2.out _).mono ?_; rintro e w2 ⟨rfl, q2⟩))
  go_ret
  exact ⟨by rw [HE.out]; rfl, (q1.trans q2).trans q3⟩
end Go.Proofs.YtgdjgjkijcmkfaaDoor
