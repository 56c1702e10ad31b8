/- Walks: the division of a number of two words by one word, as Go's library does it. Walks: products divided, as the program does it; lowest terms. No condition. Walks: lowest terms, as the program and the reference find them. -/
import Derived.Test.YteofhfefbphjdaaGreatDoorK
import Derived.Test.YteofhfefbphjdaaGreatDoorShelfL
import Derived.Test.YteofhfefbphjdaaGreatDoorShelfM
import Derived.Outline
import Derived.Deep.CutBlock
import Derived.Laws.BitsAllLaws
import Derived.Laws.MathBits
import Derived.Lib.ItoaNum
import Derived.RegionTactic
namespace Go.Proofs.YteofhfefbphjdaaGreatDoor
open Go.RowKit Go.WideShapes Go.ChangeShapes
theorem lz64_any (y S : Nat) (hy : y ≤ 18446744073709551615) (hS : S + Lib.bitLen y = 64) (w : World) :
    Calls Tryz.prog 135 #[.int .u64 y] w fun e w' => e = .returned (.int .i64 S) ∧ w = w' :=
  (Tryz.bits_LeadingZeros64 y w (by omega) (by omega)).mono fun _ _ h => ⟨by rw [h.1]; congr 2; simp; omega, h.2.symm⟩
/-! ### One digit of the long division -/
theorem digit_le {U d y1 y0 q r : Nat} (hU : U = q * y1 + r) (hc : q * y0 ≤ 4294967296 * r + d) : q * (y1 * 4294967296 + y0) ≤ U * 4294967296 + d := by
  subst hU
  have h1 : q * (y1 * 4294967296 + y0) = q * y1 * 4294967296 + q * y0 := by rw [Nat.mul_add, Nat.mul_assoc]
  omega
theorem digit_gt {U d y1 y0 q r : Nat} (hU : U = q * y1 + r) (hc : 4294967296 * r + d < q * y0) : U * 4294967296 + d < q * (y1 * 4294967296 + y0) := by
  subst hU
  have h1 : q * (y1 * 4294967296 + y0) = q * y1 * 4294967296 + q * y0 := by rw [Nat.mul_add, Nat.mul_assoc]
  omega
theorem digit_top {U d Y : Nat} (hU : U < Y) (hd : d < 4294967296) : (U * 4294967296 + d) / Y < 4294967296 := by
  apply Nat.div_lt_of_lt_mul
  have : (U + 1) * 4294967296 ≤ Y * 4294967296 := Nat.mul_le_mul_right _ hU
  omega
theorem digit_start {U d y1 y0 : Nat} (hd : d < 4294967296) (h1 : 0 < y1) : (U * 4294967296 + d) / (y1 * 4294967296 + y0) ≤ U / y1 := by
  rw [Nat.le_div_iff_mul_le h1]
  generalize hq : (U * 4294967296 + d) / (y1 * 4294967296 + y0) = q
  have h2 : q * (y1 * 4294967296 + y0) ≤ U * 4294967296 + d := by rw [← hq]; exact Nat.div_mul_le_self _ _
  have h3 : q * (y1 * 4294967296 + y0) = q * y1 * 4294967296 + q * y0 := by rw [Nat.mul_add, Nat.mul_assoc]
  omega
theorem digit_first {U y1 y0 : Nat} (hU : U < y1 * 4294967296 + y0) (h0 : y0 < 4294967296) (h1 : 2147483648 ≤ y1) : U / y1 ≤ 4294967297 := by
  have h : U / y1 < 4294967298 := (Nat.div_lt_iff_lt_mul (by omega)).2 (by omega)
  omega
theorem digit_eq {U d Y q : Nat} (hq : q * Y ≤ U * 4294967296 + d) (hle : (U * 4294967296 + d) / Y ≤ q) (hY : 0 < Y) : q = (U * 4294967296 + d) / Y :=
  Nat.le_antisymm ((Nat.le_div_iff_mul_le hY).2 hq) hle
theorem digit_down {U d Y q : Nat} (hY : 0 < Y) (hq : U * 4294967296 + d < q * Y) : (U * 4294967296 + d) / Y < q := (Nat.div_lt_iff_lt_mul hY).2 hq
theorem two_digits_ {N1 N0 Y d0 q1 q0 r1 B : Nat} (h1 : N1 = q1 * Y + r1) (h0 : r1 * B + d0 = q0 * Y + N0) (hr : N0 < Y) : (N1 * B + d0) / Y = q1 * B + q0 ∧ (N1 * B + d0) % Y = N0 := by
  have e : N1 * B + d0 = N0 + Y * (q1 * B + q0) := by
    subst h1
    have e1 : (q1 * Y + r1) * B = q1 * B * Y + r1 * B := by rw [Nat.add_mul, Nat.mul_right_comm]
    have e2 : Y * (q1 * B + q0) = q1 * B * Y + q0 * Y := by rw [Nat.mul_comm, Nat.add_mul]
    omega
  rw [e]
  exact ⟨by rw [Nat.add_mul_div_left _ _ (by omega), Nat.div_eq_of_lt hr, Nat.zero_add], by rw [Nat.add_mul_mod_self_left, Nat.mod_eq_of_lt hr]⟩
def DigI (U d y1 y0 q r : Nat) : Prop := U = q * y1 + r ∧ (U * 4294967296 + d) / (y1 * 4294967296 + y0) ≤ q ∧ q ≤ 4294967297 ∧ r < 4294967296
theorem dig_big {U d Y q : Nat} (hU : U < Y) (hd : d < 4294967296) (hq : 4294967296 ≤ q) : U * 4294967296 + d < q * Y := by
  have h1 : 4294967296 * Y ≤ q * Y := Nat.mul_le_mul_right _ hq
  omega
theorem dig_dn {U d y1 y0 k r : Nat} (h : DigI U d y1 y0 (k + 1) r) (hg : U * 4294967296 + d < (k + 1) * (y1 * 4294967296 + y0)) (hy : 0 < y1) (hr : r + y1 < 4294967296) : DigI U d y1 y0 k (r + y1) := by
  obtain ⟨h1, h2, h3, h4⟩ := h
  refine ⟨by rw [h1, Nat.add_mul]; omega, ?_, by omega, hr⟩
  have := digit_down (by omega) hg
  omega
theorem dig_brk {U d y1 y0 k r : Nat} (h : DigI U d y1 y0 (k + 1) r) (hg : U * 4294967296 + d < (k + 1) * (y1 * 4294967296 + y0)) (hy : 0 < y1) (h0 : y0 < 4294967296) (hr : 4294967296 ≤ r + y1) : k = (U * 4294967296 + d) / (y1 * 4294967296 + y0) := by
  obtain ⟨h1, h2, h3, h4⟩ := h
  have h5 := digit_down (by omega) hg
  refine digit_eq (digit_le (r := r + y1) (by rw [h1, Nat.add_mul]; omega) ?_) (by omega) (by omega)
  have h6 : k * y0 ≤ 4294967296 * y0 := Nat.mul_le_mul_right _ (by omega)
  omega
theorem dig_ok {U d y1 y0 q r : Nat} (h : DigI U d y1 y0 q r) (hc : q * y0 ≤ 4294967296 * r + d) (hy : 0 < y1) : q = (U * 4294967296 + d) / (y1 * 4294967296 + y0) := by
  obtain ⟨h1, h2, h3, h4⟩ := h
  exact digit_eq (digit_le h1 hc) h2 (by omega)
theorem dig_start {U d y1 y0 : Nat} (hU : U < y1 * 4294967296 + y0) (hd : d < 4294967296) (h0 : y0 < 4294967296) (h1 : 2147483648 ≤ y1) (hy : y1 < 4294967296) : DigI U d y1 y0 (U / y1) (U % y1) :=
  ⟨by rw [Nat.mul_comm]; exact (Nat.div_add_mod U y1).symm, digit_start hd (by omega), digit_first hU h0 h1, by have := Nat.mod_lt U (show 0 < y1 by omega); omega⟩
theorem wrapNt {n : Nat} (h : n < 18446744073709551616) : IntKind.u64.wrap (n : Int) = (n : Int) := by rw [IntKind.wrap_u64]; omega
theorem wrapU {x : Int} (h0 : 0 ≤ x) (h1 : x < 18446744073709551616) : IntKind.u64.wrap x = x := by rw [IntKind.wrap_u64]; omega
set_option maxRecDepth 100000 in
set_option maxHeartbeats 4000000 in
theorem div64_hi (hi lo y S Y y1 y0 H T U L u1 u0 D1 V D0 N : Nat) (hhi : 0 < hi) (hhy : hi < y) (hy : y < 9223372036854775808) (hS : S + Lib.bitLen y = 64)
    (e1 : IntKind.u64.wrap ((y : Int) * 2 ^ S) = (Y : Int)) (e2 : bits BinOp.and IntKind.u64 (Y : Int) 4294967295 = (y0 : Int)) (e3 : (Y : Int) / 4294967296 = (y1 : Int))
    (e4 : IntKind.u64.wrap ((hi : Int) * 2 ^ S) = (H : Int)) (e5 : (lo : Int) / 2 ^ (64 - S) = (T : Int)) (e6 : bits BinOp.or IntKind.u64 (H : Int) (T : Int) = (U : Int))
    (e7 : IntKind.u64.wrap ((lo : Int) * 2 ^ S) = (L : Int)) (e8 : (L : Int) / 4294967296 = (u1 : Int)) (e9 : bits BinOp.and IntKind.u64 (L : Int) 4294967295 = (u0 : Int))
    (hy1 : 2147483648 ≤ y1) (hy2 : y1 < 4294967296) (h0 : y0 < 4294967296) (hdu1 : u1 < 4294967296) (hdu0 : u0 < 4294967296) (hU : U < y1 * 4294967296 + y0) (hV : V < y1 * 4294967296 + y0)
    (hD1 : D1 = (U * 4294967296 + u1) / (y1 * 4294967296 + y0)) (e13 : IntKind.u64.wrap (IntKind.u64.wrap (IntKind.u64.wrap ((U : Int) * 4294967296) + (u1 : Int)) - IntKind.u64.wrap ((D1 : Int) * (Y : Int))) = (V : Int))
    (hD0 : D0 = (V * 4294967296 + u0) / (y1 * 4294967296 + y0)) (e17 : IntKind.u64.wrap (IntKind.u64.wrap (IntKind.u64.wrap ((V : Int) * 4294967296) + (u0 : Int)) - IntKind.u64.wrap ((D0 : Int) * (Y : Int))) = (N : Int)) (w : World) :
    Calls Tryz.prog 130 #[.int .u64 hi, .int .u64 lo, .int .u64 y] w fun e w' => e = .returned (.tuple #[.int .u64 (IntKind.u64.wrap (IntKind.u64.wrap ((D1 : Int) * 4294967296) + (D0 : Int))), .int .u64 ((N : Int) / 2 ^ S)]) ∧ w = w' := by
  have K0 := Lib.hid (fun wv => lz64_any y S (by omega) hS wv)
  have hS64 : S ≤ 64 := by omega
  have hb0 : ((y : Int) == 0) = false := by simp; omega
  have hb1 : ((hi : Int) == 0) = false := by simp; omega
  have hb2 : ¬ (y : Int) ≤ (hi : Int) := by omega
  have hb3 : ¬ (y1 : Int) = 0 := by omega
  have HSD1 := Lib.hid (dig_start hU hdu1 h0 hy1 hy2)
  have HSD0 := Lib.hid (dig_start hV hdu0 h0 hy1 hy2)
  have HUD1 := Lib.hid hU
  have HUD0 := Lib.hid hV
  have HDD1 := Lib.hid hD1
  have HDD0 := Lib.hid hD0
  have hq1 := digit_first hU h0 hy1
  have hq0 := digit_first hV h0 hy1
  have he1 : U = U / y1 * y1 + U % y1 := by rw [Nat.mul_comm]; exact (Nat.div_add_mod U y1).symm
  have he0 : V = V / y1 * y1 + V % y1 := by rw [Nat.mul_comm]; exact (Nat.div_add_mod V y1).symm
  have e10 : IntKind.u64.wrap ((U : Int) / (y1 : Int)) = ((U / y1 : Nat) : Int) := by rw [← Int.natCast_ediv]; exact wrapNt (Nat.lt_of_le_of_lt hq1 (by decide))
  have e14 : IntKind.u64.wrap ((V : Int) / (y1 : Int)) = ((V / y1 : Nat) : Int) := by rw [← Int.natCast_ediv]; exact wrapNt (Nat.lt_of_le_of_lt hq0 (by decide))
  have e11 : IntKind.u64.wrap ((U : Int) - IntKind.u64.wrap (((U / y1 : Nat) : Int) * (y1 : Int))) = ((U % y1 : Nat) : Int) := by rw [← Int.natCast_mul, wrapU (x := ((U / y1 * y1 : Nat) : Int)) (by omega) (by omega), wrapU (by omega) (by omega)]; omega
  have e15 : IntKind.u64.wrap ((V : Int) - IntKind.u64.wrap (((V / y1 : Nat) : Int) * (y1 : Int))) = ((V % y1 : Nat) : Int) := by rw [← Int.natCast_mul, wrapU (x := ((V / y1 * y1 : Nat) : Int)) (by omega) (by omega), wrapU (by omega) (by omega)]; omega
  generalize U / y1 = Q1 at *
  generalize V / y1 = Q0 at *
  generalize U % y1 = R1 at *
  generalize V % y1 = R0 at *
  clear hU hV hD1 hD0 hhi hhy hq1 hq0 he1 he0
  go_enter Tryz.func130, Tryz.ntmps130
  go_upto_block 0 with (first | (go_at_call 135; refine (K0.out _).mono ?_; rintro e w' ⟨rfl, rfl⟩))
  go_cut [15, 16] from 19 (fun a b wc => ∃ q r : Nat, a = .int .u64 q ∧ b = .int .u64 r ∧ q = D1 ∧ w = wc)
  case first =>
    go_wp2_with fail
    go_loopw [15, 16] (fun a b wr => ∃ q r : Nat, a = .int .u64 q ∧ b = .int .u64 r ∧ Hid (DigI U u1 y1 y0 q r) ∧ w = wr) (fun a _ _ => (intOf a).toNat)
    case atStart => exact ⟨_, _, rfl, rfl, HSD1, rfl⟩
    case round =>
      obtain ⟨q, r, rfl, rfl, HI, rfl⟩ := hrel
      have hq17 : q ≤ 4294967297 := HI.out.2.2.1
      have hr32 : r < 4294967296 := HI.out.2.2.2
      by_cases hbig : 4294967296 ≤ q
      · have HG := Lib.hid (dig_big (q := q) HUD1.out hdu1 hbig)
        have hI : (4294967296 : Int) ≤ (q : Int) := by omega
        have hqp : q ≠ 0 := by omega
        obtain ⟨k, hk⟩ : ∃ k, q = k + 1 := ⟨q - 1, by omega⟩
        have ek : IntKind.u64.wrap ((q : Int) - 1) = (k : Int) := by rw [wrapU (by omega) (by omega)]; omega
        have HI2 := Lib.hid (show DigI _ _ y1 y0 (k + 1) r by rw [← hk]; exact HI.out)
        have HG2 := Lib.hid (show _ < (k + 1) * (y1 * 4294967296 + y0) by rw [← hk]; exact HG.out)
        have HK := Lib.hid hk
        clear hk hqp HG
        obtain ⟨r2, hr2⟩ : ∃ r2, r2 = r + y1 := ⟨_, rfl⟩
        have er : IntKind.u64.wrap ((r : Int) + (y1 : Int)) = (r2 : Int) := by rw [wrapU (by omega) (by omega)]; omega
        by_cases hbr : 4294967296 ≤ r2
        · have hbrI : (4294967296 : Int) ≤ (r2 : Int) := by omega
          have HE := Lib.hid (dig_brk HI2.out HG2.out (by omega) h0 (by omega))
          have HR := Lib.hid hr2
          clear hr2 hbr
          go_wp2_with fail
          go_meet
          exact ⟨k, r2, rfl, rfl, by rw [HDD1.out]; exact HE.out, rfl⟩
        · have hbrI : ¬ (4294967296 : Int) ≤ (r2 : Int) := by omega
          have HE := Lib.hid (dig_dn HI2.out HG2.out (by omega) (by omega))
          rw [← hr2] at HE
          have HR := Lib.hid hr2
          clear hr2 hbr
          go_wp2_with fail
          go_roundw
          case rel => exact ⟨k, r2, rfl, rfl, HE, by first | rfl | trivial⟩
          case measure => have := HK.out; simp [intOf]; omega
      · have hI : ¬ (4294967296 : Int) ≤ (q : Int) := by omega
        have hm : q * y0 ≤ 4294967295 * 4294967295 := Nat.mul_le_mul (by omega) (by omega)
        obtain ⟨m, hme⟩ : ∃ m, m = q * y0 := ⟨_, rfl⟩
        have em : IntKind.u64.wrap ((q : Int) * (y0 : Int)) = (m : Int) := by rw [← Int.natCast_mul, ← hme, wrapU (by omega) (by omega)]
        obtain ⟨v, hv⟩ : ∃ v, v = 4294967296 * r + u1 := ⟨_, rfl⟩
        obtain ⟨t, ht⟩ : ∃ t, t = 4294967296 * r := ⟨_, rfl⟩
        have et : IntKind.u64.wrap (4294967296 * (r : Int)) = (t : Int) := by rw [wrapU (by omega) (by omega)]; omega
        have ev : IntKind.u64.wrap ((t : Int) + (u1 : Int)) = (v : Int) := by rw [wrapU (by omega) (by omega)]; omega
        have HM := Lib.hid hme
        have HV := Lib.hid hv
        clear hv ht hm hme
        by_cases hgt : v < m
        · have hgI : (v : Int) < (m : Int) := by omega
          have HG := Lib.hid (digit_gt (d := u1) (y0 := y0) HI.out.1 (by rw [← HM.out, ← HV.out]; exact hgt))
          have hqp : q ≠ 0 := by rintro rfl; have := HM.out; simp at this; omega
          obtain ⟨k, hk⟩ : ∃ k, q = k + 1 := ⟨q - 1, by omega⟩
          have ek : IntKind.u64.wrap ((q : Int) - 1) = (k : Int) := by rw [wrapU (by omega) (by omega)]; omega
          have HI2 := Lib.hid (show DigI _ _ y1 y0 (k + 1) r by rw [← hk]; exact HI.out)
          have HG2 := Lib.hid (show _ < (k + 1) * (y1 * 4294967296 + y0) by rw [← hk]; exact HG.out)
          have HK := Lib.hid hk
          clear hk hqp HG
          obtain ⟨r2, hr2⟩ : ∃ r2, r2 = r + y1 := ⟨_, rfl⟩
          have er : IntKind.u64.wrap ((r : Int) + (y1 : Int)) = (r2 : Int) := by rw [wrapU (by omega) (by omega)]; omega
          by_cases hbr : 4294967296 ≤ r2
          · have hbrI : (4294967296 : Int) ≤ (r2 : Int) := by omega
            have HE := Lib.hid (dig_brk HI2.out HG2.out (by omega) h0 (by omega))
            have HR := Lib.hid hr2
            clear hr2 hbr
            go_wp2_with fail
            go_meet
            exact ⟨k, r2, rfl, rfl, by rw [HDD1.out]; exact HE.out, rfl⟩
          · have hbrI : ¬ (4294967296 : Int) ≤ (r2 : Int) := by omega
            have HE := Lib.hid (dig_dn HI2.out HG2.out (by omega) (by omega))
            rw [← hr2] at HE
            have HR := Lib.hid hr2
            clear hr2 hbr
            go_wp2_with fail
            go_roundw
            case rel => exact ⟨k, r2, rfl, rfl, HE, by first | rfl | trivial⟩
            case measure => have := HK.out; simp [intOf]; omega
        · have hgI : ¬ (v : Int) < (m : Int) := by omega
          have HE := Lib.hid (dig_ok HI.out (by rw [← HM.out, ← HV.out]; omega) (by omega))
          clear hgt
          go_wp2_with fail
          go_meet
          exact ⟨q, r, rfl, rfl, by rw [HDD1.out]; exact HE.out, rfl⟩
  case rest =>
    obtain ⟨q, r, rfl, rfl, rfl, rfl⟩ := hcut
    go_upto_block 2 with (first | (go_at_call 135; refine (K0.out _).mono ?_; rintro e w' ⟨rfl, rfl⟩))
    go_cut [18, 16] from 19 (fun a b wc => ∃ q r : Nat, a = .int .u64 q ∧ b = .int .u64 r ∧ q = D0 ∧ w = wc)
    case first =>
      go_wp2_with fail
      go_loopw [18, 16] (fun a b wr => ∃ q r : Nat, a = .int .u64 q ∧ b = .int .u64 r ∧ Hid (DigI V u0 y1 y0 q r) ∧ w = wr) (fun a _ _ => (intOf a).toNat)
      case atStart => exact ⟨_, _, rfl, rfl, HSD0, rfl⟩
      case round =>
        obtain ⟨q, r, rfl, rfl, HI, rfl⟩ := hrel
        have hq17 : q ≤ 4294967297 := HI.out.2.2.1
        have hr32 : r < 4294967296 := HI.out.2.2.2
        by_cases hbig : 4294967296 ≤ q
        · have HG := Lib.hid (dig_big (q := q) HUD0.out hdu0 hbig)
          have hI : (4294967296 : Int) ≤ (q : Int) := by omega
          have hqp : q ≠ 0 := by omega
          obtain ⟨k, hk⟩ : ∃ k, q = k + 1 := ⟨q - 1, by omega⟩
          have ek : IntKind.u64.wrap ((q : Int) - 1) = (k : Int) := by rw [wrapU (by omega) (by omega)]; omega
          have HI2 := Lib.hid (show DigI _ _ y1 y0 (k + 1) r by rw [← hk]; exact HI.out)
          have HG2 := Lib.hid (show _ < (k + 1) * (y1 * 4294967296 + y0) by rw [← hk]; exact HG.out)
          have HK := Lib.hid hk
          clear hk hqp HG
          obtain ⟨r2, hr2⟩ : ∃ r2, r2 = r + y1 := ⟨_, rfl⟩
          have er : IntKind.u64.wrap ((r : Int) + (y1 : Int)) = (r2 : Int) := by rw [wrapU (by omega) (by omega)]; omega
          by_cases hbr : 4294967296 ≤ r2
          · have hbrI : (4294967296 : Int) ≤ (r2 : Int) := by omega
            have HE := Lib.hid (dig_brk HI2.out HG2.out (by omega) h0 (by omega))
            have HR := Lib.hid hr2
            clear hr2 hbr
            go_wp2_with fail
            go_meet
            exact ⟨k, r2, rfl, rfl, by rw [HDD0.out]; exact HE.out, rfl⟩
          · have hbrI : ¬ (4294967296 : Int) ≤ (r2 : Int) := by omega
            have HE := Lib.hid (dig_dn HI2.out HG2.out (by omega) (by omega))
            rw [← hr2] at HE
            have HR := Lib.hid hr2
            clear hr2 hbr
            go_wp2_with fail
            go_roundw
            case rel => exact ⟨k, r2, rfl, rfl, HE, by first | rfl | trivial⟩
            case measure => have := HK.out; simp [intOf]; omega
        · have hI : ¬ (4294967296 : Int) ≤ (q : Int) := by omega
          have hm : q * y0 ≤ 4294967295 * 4294967295 := Nat.mul_le_mul (by omega) (by omega)
          obtain ⟨m, hme⟩ : ∃ m, m = q * y0 := ⟨_, rfl⟩
          have em : IntKind.u64.wrap ((q : Int) * (y0 : Int)) = (m : Int) := by rw [← Int.natCast_mul, ← hme, wrapU (by omega) (by omega)]
          obtain ⟨v, hv⟩ : ∃ v, v = 4294967296 * r + u0 := ⟨_, rfl⟩
          obtain ⟨t, ht⟩ : ∃ t, t = 4294967296 * r := ⟨_, rfl⟩
          have et : IntKind.u64.wrap (4294967296 * (r : Int)) = (t : Int) := by rw [wrapU (by omega) (by omega)]; omega
          have ev : IntKind.u64.wrap ((t : Int) + (u0 : Int)) = (v : Int) := by rw [wrapU (by omega) (by omega)]; omega
          have HM := Lib.hid hme
          have HV := Lib.hid hv
          clear hv ht hm hme
          by_cases hgt : v < m
          · have hgI : (v : Int) < (m : Int) := by omega
            have HG := Lib.hid (digit_gt (d := u0) (y0 := y0) HI.out.1 (by rw [← HM.out, ← HV.out]; exact hgt))
            have hqp : q ≠ 0 := by rintro rfl; have := HM.out; simp at this; omega
            obtain ⟨k, hk⟩ : ∃ k, q = k + 1 := ⟨q - 1, by omega⟩
            have ek : IntKind.u64.wrap ((q : Int) - 1) = (k : Int) := by rw [wrapU (by omega) (by omega)]; omega
            have HI2 := Lib.hid (show DigI _ _ y1 y0 (k + 1) r by rw [← hk]; exact HI.out)
            have HG2 := Lib.hid (show _ < (k + 1) * (y1 * 4294967296 + y0) by rw [← hk]; exact HG.out)
            have HK := Lib.hid hk
            clear hk hqp HG
            obtain ⟨r2, hr2⟩ : ∃ r2, r2 = r + y1 := ⟨_, rfl⟩
            have er : IntKind.u64.wrap ((r : Int) + (y1 : Int)) = (r2 : Int) := by rw [wrapU (by omega) (by omega)]; omega
            by_cases hbr : 4294967296 ≤ r2
            · have hbrI : (4294967296 : Int) ≤ (r2 : Int) := by omega
              have HE := Lib.hid (dig_brk HI2.out HG2.out (by omega) h0 (by omega))
              have HR := Lib.hid hr2
              clear hr2 hbr
              go_wp2_with fail
              go_meet
              exact ⟨k, r2, rfl, rfl, by rw [HDD0.out]; exact HE.out, rfl⟩
            · have hbrI : ¬ (4294967296 : Int) ≤ (r2 : Int) := by omega
              have HE := Lib.hid (dig_dn HI2.out HG2.out (by omega) (by omega))
              rw [← hr2] at HE
              have HR := Lib.hid hr2
              clear hr2 hbr
              go_wp2_with fail
              go_roundw
              case rel => exact ⟨k, r2, rfl, rfl, HE, by first | rfl | trivial⟩
              case measure => have := HK.out; simp [intOf]; omega
          · have hgI : ¬ (v : Int) < (m : Int) := by omega
            have HE := Lib.hid (dig_ok HI.out (by rw [← HM.out, ← HV.out]; omega) (by omega))
            clear hgt
            go_wp2_with fail
            go_meet
            exact ⟨q, r, rfl, rfl, by rw [HDD0.out]; exact HE.out, rfl⟩
    case rest =>
      obtain ⟨q, r, rfl, rfl, rfl, rfl⟩ := hcut
      go_wp2_with fail
      go_ret2
      exact ⟨rfl, rfl⟩
theorem u64_or {a b S : Nat} (hb : b < 2 ^ S) (h : a * 2 ^ S + b < 18446744073709551616) : bits BinOp.or IntKind.u64 ((a * 2 ^ S : Nat) : Int) (b : Int) = ((a * 2 ^ S + b : Nat) : Int) := by
  rw [u64_or_nat _ _ (by omega) (by omega), ← Nat.shiftLeft_eq, Nat.shiftLeft_add_eq_or_of_lt hb]
theorem u64_and (n : Nat) (h : n < 18446744073709551616) : bits BinOp.and IntKind.u64 (n : Int) 4294967295 = ((n % 4294967296 : Nat) : Int) := by
  rw [and_low32 _ (by omega) (by omega)]
  omega
theorem rest_wrap {U u D Y V : Nat} (h : U * 4294967296 + u = D * Y + V) (hV : V < 18446744073709551616) : IntKind.u64.wrap (IntKind.u64.wrap (IntKind.u64.wrap ((U : Int) * 4294967296) + (u : Int)) - IntKind.u64.wrap ((D : Int) * (Y : Int))) = (V : Int) := by
  rw [← Int.natCast_mul]
  generalize D * Y = B at *
  simp only [IntKind.wrap_u64]
  omega
theorem div64_lo (lo y : Nat) (hy0 : 0 < y) (hy : y < 9223372036854775808) (hlo : lo < 18446744073709551616) (w : World) :
    Calls Tryz.prog 130 #[.int .u64 0, .int .u64 lo, .int .u64 y] w fun e w' => e = .returned (.tuple #[.int .u64 ((lo / y : Nat) : Int), .int .u64 ((lo % y : Nat) : Int)]) ∧ Q w w' := by
  have hb0 : ((y : Int) == 0) = false := by simp; omega
  have hb1 : ¬ (y : Int) = 0 := by omega
  have hb2 : ¬ (y : Int) ≤ 0 := by omega
  have e1 : IntKind.u64.wrap ((lo : Int) / (y : Int)) = ((lo / y : Nat) : Int) := by rw [← Int.natCast_ediv]; exact wrapNt (Nat.lt_of_le_of_lt (Nat.div_le_self _ _) hlo)
  have e2 : IntKind.u64.wrap ((lo : Int) % (y : Int)) = ((lo % y : Nat) : Int) := by rw [← Int.natCast_emod]; exact wrapNt (Nat.lt_of_le_of_lt (Nat.mod_le _ _) hlo)
  have e3 : (lo : Int) % (y : Int) = ((lo % y : Nat) : Int) := by rw [← Int.natCast_emod]
  generalize lo / y = q at *
  generalize lo % y = r at *
  go_enter Tryz.func130, Tryz.ntmps130
  go_wp2_with fail
  refine wp_region_quiet_lit (by kernel_rfl) (by kernel_rfl) ?_
  repeat (any_goals (first | go_big_quiet_step ( fail) | quiet_step ( fail) | (refine wpQuiet_step (fun K hK => ?_); go_simp; split <;> (refine hK _ ?_; clear hK K))))
  all_goals (refine wpQuiet_nil ?_; intro _ hw'; obtain ⟨nq, hw''⟩ := hw'; subst hw'')
  all_goals go_wp2_with fail
  go_ret2
  refine ⟨?_, by (repeat (first | assumption | exact Q.refl _ | refine Q.alloc ?_ _ | refine Q.drewN ?_ _ | refine Q.drew ?_))⟩
  simp [e3]
theorem div64_any (hi lo y : Nat) (hhy : hi < y) (hy : y < 9223372036854775808) (hlo : lo < 18446744073709551616) (w : World) :
    Calls Tryz.prog 130 #[.int .u64 hi, .int .u64 lo, .int .u64 y] w fun e w' => e = .returned (.tuple #[.int .u64 (((hi * 18446744073709551616 + lo) / y : Nat) : Int), .int .u64 (((hi * 18446744073709551616 + lo) % y : Nat) : Int)]) ∧ Q w w' := by
  rcases Nat.eq_zero_or_pos hi with rfl | hhi
  · have := div64_lo lo y hhy hy hlo w
    simpa using this
  · obtain ⟨hb1, hb2, hb3⟩ : 1 ≤ Lib.bitLen y ∧ 2 ^ (Lib.bitLen y - 1) ≤ y ∧ y < 2 ^ Lib.bitLen y := Lib.bitLenAux_bounds 64 y (Nat.lt_of_lt_of_le hy (by decide)) (by omega)
    have hb4 : Lib.bitLen y ≤ 63 := by
      rcases Nat.lt_or_ge 63 (Lib.bitLen y) with h | h
      · have h1 : (2 : Nat) ^ 63 ≤ 2 ^ (Lib.bitLen y - 1) := Nat.pow_le_pow_right (by decide) (by omega)
        have h2 : (2 : Nat) ^ 63 = 9223372036854775808 := by decide
        omega
      · exact h
    obtain ⟨S, hS⟩ : ∃ S, S + Lib.bitLen y = 64 := ⟨64 - Lib.bitLen y, by omega⟩
    obtain ⟨P, hP⟩ : ∃ P, P = 2 ^ S := ⟨_, rfl⟩
    have hPI : (2 : Int) ^ S = (P : Int) := by rw [hP]; simp
    obtain ⟨R, hR⟩ : ∃ R, R = 2 ^ (64 - S) := ⟨_, rfl⟩
    have hRI : (2 : Int) ^ (64 - S) = (R : Int) := by rw [hR]; simp
    have hPR : P * R = 18446744073709551616 := by
      rw [hP, hR, ← Nat.pow_add, show S + (64 - S) = 64 by omega]
    have hPp : 0 < P := by rw [hP]; exact Nat.pow_pos (by decide)
    have hRp : 0 < R := by rw [hR]; exact Nat.pow_pos (by decide)
    -- the divisor
    have hY2 : y * P < 18446744073709551616 := by
      have h1 : y * P < 2 ^ Lib.bitLen y * P := Nat.mul_lt_mul_of_pos_right hb3 hPp
      rw [hP, ← Nat.pow_add, show Lib.bitLen y + S = 64 by omega] at h1
      rw [hP]
      exact h1
    have hY1 : 9223372036854775808 ≤ y * P := by
      have h1 : 2 ^ (Lib.bitLen y - 1) * P ≤ y * P := Nat.mul_le_mul_right _ hb2
      rw [hP, ← Nat.pow_add, show Lib.bitLen y - 1 + S = 63 by omega] at h1
      rw [hP]
      exact h1
    have hUY : hi * P + P ≤ y * P := by
      have h1 : (hi + 1) * P ≤ y * P := Nat.mul_le_mul_right _ hhy
      rw [Nat.add_mul] at h1
      omega
    have hT : lo / R < P := (Nat.div_lt_iff_lt_mul hRp).2 (by rw [hPR]; exact hlo)
    have hlow : lo * P = lo / R * 18446744073709551616 + lo % R * P := by
      have h1 := Nat.div_add_mod lo R
      have h2 : (R * (lo / R) + lo % R) * P = lo / R * (P * R) + lo % R * P := by rw [Nat.add_mul, Nat.mul_comm P R, Nat.mul_comm R (lo / R), Nat.mul_assoc]
      rw [h1, hPR] at h2
      exact h2
    have hLl : lo % R * P < 18446744073709551616 := by
      have h1 : lo % R * P < R * P := Nat.mul_lt_mul_of_pos_right (Nat.mod_lt _ hRp) hPp
      rw [Nat.mul_comm R P, hPR] at h1
      exact h1
    have hLe : lo * P % 18446744073709551616 = lo % R * P := by omega
    have hwhole : (hi * 18446744073709551616 + lo) * P = ((hi * P + lo / R) * 4294967296 + lo % R * P / 4294967296) * 4294967296 + lo % R * P % 4294967296 := by
      rw [Nat.add_mul, hlow, Nat.mul_right_comm]
      omega
    have hor := u64_or (a := hi) (b := lo / R) (S := S) (by rw [← hP]; exact hT) (by rw [← hP]; omega)
    rw [← hP] at hor
    have hw1 : IntKind.u64.wrap ((y : Int) * 2 ^ S) = ((y * P : Nat) : Int) := by rw [hPI, ← Int.natCast_mul]; exact wrapNt hY2
    have hw4 : IntKind.u64.wrap ((hi : Int) * 2 ^ S) = ((hi * P : Nat) : Int) := by rw [hPI, ← Int.natCast_mul]; exact wrapNt (by omega)
    have hw5 : (lo : Int) / 2 ^ (64 - S) = ((lo / R : Nat) : Int) := by rw [hRI, ← Int.natCast_ediv]
    have hw7 : IntKind.u64.wrap ((lo : Int) * 2 ^ S) = ((lo % R * P : Nat) : Int) := by
      rw [hPI, ← Int.natCast_mul, IntKind.wrap_u64, ← hLe]
      omega
    have hw2 := u64_and (y * P) hY2
    have hw9 := u64_and (lo % R * P) hLl
    generalize hY : y * P = Y at *
    generalize hH : hi * P = H at *
    generalize hTT : lo / R = T at *
    generalize hL : lo % R * P = L at *
    generalize hU : H + T = U at *
    have hYs : Y = Y / 4294967296 * 4294967296 + Y % 4294967296 := by omega
    have hYp : 0 < Y := by omega
    obtain ⟨D1, hD1⟩ : ∃ D, D = (U * 4294967296 + L / 4294967296) / Y := ⟨_, rfl⟩
    obtain ⟨V, hV⟩ : ∃ D, D = (U * 4294967296 + L / 4294967296) % Y := ⟨_, rfl⟩
    obtain ⟨D0, hD0⟩ : ∃ D, D = (V * 4294967296 + L % 4294967296) / Y := ⟨_, rfl⟩
    obtain ⟨N, hN⟩ : ∃ D, D = (V * 4294967296 + L % 4294967296) % Y := ⟨_, rfl⟩
    have hVY : V < Y := by rw [hV]; exact Nat.mod_lt _ hYp
    have hNY : N < Y := by rw [hN]; exact Nat.mod_lt _ hYp
    have hdm1 : U * 4294967296 + L / 4294967296 = D1 * Y + V := by rw [hD1, hV]; exact (Nat.div_add_mod' _ _).symm
    have hdm0 : V * 4294967296 + L % 4294967296 = D0 * Y + N := by rw [hD0, hN]; exact (Nat.div_add_mod' _ _).symm
    have htop1 : D1 < 4294967296 := by rw [hD1]; exact digit_top (by omega) (by omega)
    have htop0 : D0 < 4294967296 := by rw [hD0]; exact digit_top hVY (by omega)
    obtain ⟨hq, hr⟩ := two_digits_ hdm1 hdm0 hNY
    rw [← hwhole, ← hY] at hq hr
    rw [Nat.mul_div_mul_right _ _ hPp] at hq
    rw [Nat.mul_mod_mul_right] at hr
    have := div64_hi hi lo y S Y (Y / 4294967296) (Y % 4294967296) H T U L (L / 4294967296) (L % 4294967296) D1 V D0 N hhi hhy hy hS hw1 hw2 (by omega) hw4 hw5 hor hw7 (by omega) hw9 (by omega) (by omega) (by omega) (by omega) (by omega) (by rw [← hYs]; omega) (by rw [← hYs]; exact hVY) (by rw [← hYs]; exact hD1) (rest_wrap hdm1 (by omega)) (by rw [← hYs]; exact hD0) (rest_wrap hdm0 (by omega)) w
    refine this.mono ?_
    rintro e w' ⟨rfl, rfl⟩
    refine ⟨?_, Q.refl _⟩
    have hf1 : IntKind.u64.wrap (IntKind.u64.wrap ((D1 : Int) * 4294967296) + (D0 : Int)) = (((hi * 18446744073709551616 + lo) / y : Nat) : Int) := by
      rw [hq]
      simp only [IntKind.wrap_u64]
      omega
    have hf2 : (N : Int) / 2 ^ S = (((hi * 18446744073709551616 + lo) % y : Nat) : Int) := by
      rw [hPI, ← Int.natCast_ediv, ← hr, Nat.mul_div_cancel _ hPp]
    rw [hf1, hf2]
end Go.Proofs.YteofhfefbphjdaaGreatDoor
namespace Go.Proofs.YteofhfefbphjdaaGreatDoor
open Go.RowKit Go.WideShapes Go.ChangeShapes
theorem mul64_any (x y : Nat) (hx : x ≤ 9223372036854775807) (hy : y ≤ 9223372036854775807) (w : World) :
    Calls Tryz.prog 129 #[.int .u64 x, .int .u64 y] w fun e w' => e = .returned (.tuple #[.int .u64 ((x * y / 18446744073709551616 : Nat) : Int), .int .u64 ((x * y % 18446744073709551616 : Nat) : Int)]) ∧ w = w' :=
  (Tryz.bits_Mul64 x y (by omega) (by omega) w).mono fun _ _ h => ⟨h.1, h.2.symm⟩
theorem impl_mulDiv (a b c : Nat) (ha : a ≤ 9223372036854775807) (hb : b ≤ 9223372036854775807) (hc0 : 0 < c) (hc : c ≤ 9223372036854775807) (h : a * b < c * 9223372036854775808) (w : World) :
    Calls Tryz.prog 115 #[.int .i64 a, .int .i64 b, .int .i64 c] w fun e w' => e = .returned (.tuple #[.int .i64 ((a * b / c : Nat) : Int), .bool (decide (0 < a * b % c))]) ∧ Q w w' := by
  have k1 := fun wv => mul64_any a b ha hb wv
  have hq : a * b / c < 9223372036854775808 := Nat.div_lt_of_lt_mul h
  have hr : a * b % c < c := Nat.mod_lt _ hc0
  have hhi : a * b / 18446744073709551616 < c := Nat.div_lt_of_lt_mul (by omega)
  have hdm : a * b / 18446744073709551616 * 18446744073709551616 + a * b % 18446744073709551616 = a * b := by omega
  have hlo : a * b % 18446744073709551616 < 18446744073709551616 := Nat.mod_lt _ (by decide)
  have k2 := fun wv => div64_any (a * b / 18446744073709551616) (a * b % 18446744073709551616) c hhi (by omega) hlo wv
  rw [hdm] at k2
  generalize a * b / 18446744073709551616 = hi at *
  generalize a * b % 18446744073709551616 = lo at *
  generalize a * b / c = q at *
  generalize a * b % c = r at *
  have K1 := Lib.hid k1
  have K2 := Lib.hid k2
  clear k1 k2 h hdm
  go_enter Tryz.func115, Tryz.ntmps115
  go_wp2_with (first | (go_at_call 130; refine (K2.out _).mono ?_; rintro e w1 ⟨rfl, q1⟩) | (go_at_call 129; refine (K1.out _).mono ?_; rintro e w' ⟨rfl, rfl⟩))
  go_ret2
  exact ⟨ret_ib (by first | rfl | (rw [IntKind.wrap_i64]; omega)) (by first | rfl | (rw [Bool.eq_iff_iff]; simp)), q1⟩
end Go.Proofs.YteofhfefbphjdaaGreatDoor
namespace Go.Proofs.YteofhfefbphjdaaGreatDoor
open Go.RowKit Go.WideShapes Go.ChangeShapes
theorem gcd_step {x y : Nat} : Nat.gcd y (x % y) = Nat.gcd x y := by rw [Nat.gcd_comm y, ← Nat.gcd_rec, Nat.gcd_comm]
set_option maxHeartbeats 1000000 in
theorem impl_lowest (a b : Nat) (ha : a ≤ 4611686018427387904) (hb : b ≤ 4611686018427387904) (hb0 : 0 < b) (w : World) :
    Calls Tryz.prog 128 #[.int .i64 a, .int .i64 b] w fun e w' => e = .returned (.agg #[.int .i64 ((a / Nat.gcd a b : Nat) : Int), .int .i64 ((b / Nat.gcd a b : Nat) : Int)]) ∧ Q w w' := by
  have hm : -(a : Int) ≤ (a : Int) := by omega
  have B0 := Blk.new w 77 #[.int .i64 0, .int .i64 0]
  go_enter Tryz.func128, Tryz.ntmps128
  go_wp2_with fail
  go_loopw [5, 6] (fun u v wr => ∃ x y : Nat, u = .int .i64 x ∧ v = .int .i64 y ∧ Hid (Nat.gcd x y = Nat.gcd a b) ∧ x ≤ 4611686018427387904 ∧ y ≤ 4611686018427387904 ∧ Blk wr w.heap.size 77 #[.int .i64 0, .int .i64 0] ∧ Q w wr) (fun _ v _ => (intOf v).toNat)
  case atStart => exact ⟨a, b, by first | (simp; done) | (simp; omega), rfl, Lib.hid rfl, ha, hb, B0, by (repeat (first | assumption | exact Q.refl _ | refine Q.alloc ?_ _ | refine Q.drewN ?_ _ | refine Q.drew ?_))⟩
  case round =>
    clear B0
    obtain ⟨x, y, rfl, rfl, HG, hx, hy, B0, hq⟩ := hrel
    by_cases h0 : y = 0
    · subst h0
      have hg : x = Nat.gcd a b := by have := HG.out; rwa [Nat.gcd_zero_right] at this
      have hxp : 0 < x := by rw [hg]; exact Nat.gcd_pos_of_pos_right _ hb0
      have hxI : ¬ (x : Int) = 0 := by omega
      have hxb : ((x : Int) == 0) = false := by simpa using hxI
      have e1 : ((a : Int)) / (x : Int) = ((a / x : Nat) : Int) := by rw [← Int.natCast_ediv]
      have e2 : ((b : Int)) / (x : Int) = ((b / x : Nat) : Int) := by rw [← Int.natCast_ediv]
      have HP := Lib.hid (show a / x = a / Nat.gcd a b ∧ b / x = b / Nat.gcd a b by rw [hg]; exact ⟨rfl, rfl⟩)
      have hp1 : a / x ≤ 4611686018427387904 := Nat.le_trans (Nat.div_le_self _ _) ha
      have hp2 : b / x ≤ 4611686018427387904 := Nat.le_trans (Nat.div_le_self _ _) hb
      clear hg HG
      have cB := B0.cell
      have fB := B0.frozen
      generalize a / x = p at *
      generalize b / x = q at *
      have e3 : wrap64 (p : Int) = (p : Int) := by unfold wrap64; omega
      have e4 : wrap64 (q : Int) = (q : Int) := by unfold wrap64; omega
      clear hx hy hxp ha hb hb0 hm
      go_wp2_with fail
      go_region
      all_goals go_wp2_with fail
      have F := ((((B0.set_ 0 (.int .i64 p)).set_ 1 (.int .i64 q)).drew)).cell
      refine bodyPost_ret (v := .agg #[.int .i64 p, .int .i64 q]) (by simp [results, Tryz.results128, go_sem, F]) rfl ⟨?_, ((hq.setCell (Nat.le_refl _) _).setCell (Nat.le_refl _) _).drew⟩
      rw [HP.out.1, HP.out.2]
    · have hyI : ¬ (y : Int) = 0 := by omega
      have hyb : ((y : Int) != 0) = true := by simpa using hyI
      have hl : x % y < y := Nat.mod_lt _ (by omega)
      have e1 : ((x : Int)) % (y : Int) = ((x % y : Nat) : Int) := by rw [← Int.natCast_emod]
      have HG2 : Hid (Nat.gcd y (x % y) = Nat.gcd a b) := Lib.hid (gcd_step.trans HG.out)
      generalize x % y = m at *
      go_wp2_with fail
      refine wp_region_quiet_lit (by kernel_rfl) (by kernel_rfl) ?_
      repeat (any_goals (first | go_big_quiet_step ( fail) | quiet_step ( fail) | (refine wpQuiet_step (fun K hK => ?_); go_simp; split <;> (refine hK _ ?_; clear hK K))))
      all_goals (refine wpQuiet_nil ?_; intro _ hw'; obtain ⟨nq, hw''⟩ := hw'; subst hw'')
      all_goals go_wp2_with fail
      go_roundw
      case rel => exact ⟨y, m, by simp, by rw [e1], HG2, hy, by omega, B0.q (by (repeat (first | assumption | exact Q.refl _ | refine Q.alloc ?_ _ | refine Q.drewN ?_ _ | refine Q.drew ?_))), hq.trans (by (repeat (first | assumption | exact Q.refl _ | refine Q.alloc ?_ _ | refine Q.drewN ?_ _ | refine Q.drew ?_)))⟩
      case measure => rw [e1]; simp [intOf]; omega
end Go.Proofs.YteofhfefbphjdaaGreatDoor
