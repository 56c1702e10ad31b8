/- Plain law: the square root of a whole number, as IEEE doubles give it, is a number that an int64 holds and that is not negative. No condition. Walks: the root of a number, rounded down, as the program finds it; lengths, squares of distances, places along a segment. No condition. -/
import Derived.Laws.FloatArith
import Derived.Test.YteofhfefbphjdaaGreatDoorK
import Derived.Test.YteofhfefbphjdaaGreatDoorRoot
namespace Go.Proofs.YteofhfefbphjdaaGreatDoor
open Ieee
theorem shl_one (n : Nat) : 1 <<< n = 2 ^ n := by rw [Nat.shiftLeft_eq, Nat.one_mul]
theorem cut_le {n drop : Nat} (h : n.log2 ≤ 52 + drop) : Toward.even.cut false n drop ≤ 2 ^ 53 := by
  have hlt : n < 2 ^ (n.log2 + 1) := Nat.lt_log2_self
  have hb : n / (1 <<< min drop (n.log2 + 2)) < 2 ^ 53 := by
    rw [shl_one, Nat.div_lt_iff_lt_mul (Nat.two_pow_pos _), ← Nat.pow_add]
    refine Nat.lt_of_lt_of_le hlt (Nat.pow_le_pow_right (by decide) ?_)
    omega
  unfold Toward.cut
  simp only
  generalize n / (1 <<< min drop (n.log2 + 2)) = low at *
  have : ∀ b : Bool, low + b.toNat ≤ 2 ^ 53 := fun b => by cases b <;> simp <;> omega
  exact this _
theorem near_le {mag : Nat} {place L : Int} (h0 : mag ≠ 0) (h : place + mag.log2 ≤ L) (hL : -1022 ≤ L) : double.nearest false mag place ≤ (L + 1022).toNat * 2 ^ 52 + 2 ^ 53 := by
  unfold Format.nearest
  rw [if_neg h0]
  have e1 : double.leastPlace = -1074 := by decide
  have e2 : double.fractionBits = 52 := rfl
  have e3 : double.binade = 2 ^ 52 := rfl
  rw [e1, e2, e3]
  simp only [Format.word, Bool.false_eq_true, if_false]
  refine Nat.le_trans (Nat.min_le_left _ _) ?_
  generalize hl : max (place + mag.log2 - ((52 : Nat) : Int)) (-1074) = last
  have hl1 : last ≤ L - 52 := by omega
  have hl2 : place + mag.log2 - 52 ≤ last := by omega
  refine Nat.add_le_add (Nat.mul_le_mul_right _ (by omega)) (cut_le ?_)
  have hm : (mag <<< (place - last).toNat).log2 ≤ mag.log2 + (place - last).toNat := by
    have h2 : mag <<< (place - last).toNat ≠ 0 := by
      rw [Nat.shiftLeft_eq]; exact Nat.mul_ne_zero h0 (Nat.pos_iff_ne_zero.1 (Nat.two_pow_pos _))
    have h3 : (mag <<< (place - last).toNat).log2 < mag.log2 + 1 + (place - last).toNat := by
      rw [Nat.log2_lt h2, Nat.shiftLeft_eq, Nat.pow_add]
      exact Nat.mul_lt_mul_of_pos_right Nat.lt_log2_self (Nat.two_pow_pos _)
    omega
  omega
theorem read_le {r K : Nat} (h : r ≤ K * 2 ^ 52) (hK : K ≤ 2046) (hK1 : 1 ≤ K) : ∃ m i, double.read r = .number false m i ∧ m < 2 ^ 53 ∧ i ≤ (K : Int) - 1075 := by
  have e1 : double.leastPlace = -1074 := by decide
  have e3 : double.binade = 2 ^ 52 := rfl
  have e4 : double.signWeight = 2 ^ 63 := rfl
  have e5 : double.infRung = 2047 * 2 ^ 52 := by decide
  unfold Format.read
  rw [e1, e3, e4, e5]
  have h1 : r % 2 ^ 63 = r := Nat.mod_eq_of_lt (by omega)
  have h2 : r / 2 ^ 63 = 0 := Nat.div_eq_of_lt (by omega)
  simp only [h1, h2]
  by_cases hs : r < 2 ^ 52
  · rw [if_pos hs]
    exact ⟨r, -1074, rfl, by omega, by omega⟩
  · rw [if_neg hs, if_pos (by omega)]
    refine ⟨_, _, rfl, ?_, ?_⟩
    · have := Nat.mod_lt r (show 0 < 2 ^ 52 by decide); omega
    · have : r / 2 ^ 52 ≤ K := by rw [Nat.div_le_iff_le_mul_add_pred (by decide)]; omega
      omega
theorem root_lt (n : Nat) : ∀ todo root, Datum.rootFrom n todo root < root + 2 ^ todo := by
  intro todo
  induction todo with
  | zero => intro root; simp [Datum.rootFrom]
  | succ k ih =>
    intro root
    unfold Datum.rootFrom
    simp only [shl_one]
    split
    · have := ih (root + 2 ^ k); rw [Nat.pow_succ]; omega
    · have := ih root; rw [Nat.pow_succ]; omega
theorem toInt_small {m : Nat} {i : Int} (hm : m < 2 ^ 53) (hi : i ≤ 10) : ∃ k : Int, (Datum.number false m i).toInt .zero = some k ∧ 0 ≤ k ∧ k < 2 ^ 63 := by
  refine ⟨_, rfl, ?_, ?_⟩
  · simp only [signed, Bool.false_eq_true, if_false]; omega
  · simp only [signed, Bool.false_eq_true, if_false, Toward.cut, Bool.toNat_false, Nat.add_zero, Nat.shiftLeft_zero]
    have h1 : m <<< i.toNat < 2 ^ 63 := by
      rw [Nat.shiftLeft_eq]
      have : 2 ^ i.toNat ≤ 2 ^ 10 := Nat.pow_le_pow_right (by decide) (by omega)
      calc m * 2 ^ i.toNat ≤ m * 2 ^ 10 := Nat.mul_le_mul_left _ this
        _ < 2 ^ 53 * 2 ^ 10 := Nat.mul_lt_mul_of_pos_right hm (by decide)
        _ = 2 ^ 63 := by decide
    have h2 := Nat.div_le_self (m <<< i.toNat) (1 <<< min (-i).toNat ((m <<< i.toNat).log2 + 2))
    omega
theorem toInt_val {r : Nat} {m : Nat} {i : Int} (hr : double.read r = .number false m i) (hm : m < 2 ^ 53) (hi : i ≤ 10) : ∃ k : Int, floatToIntVal .f64 r .i64 = some k ∧ 0 ≤ k := by
  obtain ⟨k, h1, h2, h3⟩ := toInt_small hm hi
  refine ⟨k, ?_, h2⟩
  have e : FloatKind.f64.decode r = .number false m i := hr
  unfold floatToIntVal
  rw [e, h1]
  simp only
  rw [if_pos]
  constructor
  · show -(2 ^ 63 : Int) ≤ k
    omega
  · show k ≤ (2 ^ 63 - 1 : Int)
    omega
/-- The square root of a whole number of 63 bits, cut to a whole number: there is one, and it is not negative. -/
theorem sqrt_any (n : Int) (h0 : 0 ≤ n) (h1 : n ≤ 9223372036854775807) : ∃ r k, double.sqrt (floatOfInt .f64 n) = some r ∧ floatToIntVal .f64 r .i64 = some k ∧ 0 ≤ k := by
  have hz : ∀ i : Int, double.nearest false 0 i = 0 := fun i => by simp [Format.nearest, Format.word]
  have r0 : double.read 0 = .number false 0 (-1074) := by decide
  have hfin : ∀ (mag : Nat) (place : Int), (mag ≠ 0 → place + mag.log2 ≤ 31) → ∃ k, floatToIntVal .f64 (double.nearest false mag place) .i64 = some k ∧ 0 ≤ k := by
    intro mag place h
    by_cases hm : mag = 0
    · subst hm
      rw [hz]
      exact toInt_val r0 (by decide) (by decide)
    · have h2 := near_le hm (h hm) (by decide)
      obtain ⟨m, i, h3, h4, h5⟩ := read_le (r := double.nearest false mag place) (K := 1055) (Nat.le_trans h2 (by decide)) (by decide) (by decide)
      exact toInt_val h3 h4 (by omega)
  have hrd : ∃ m i, double.read (floatOfInt .f64 n) = .number false m i ∧ m < 2 ^ 53 ∧ i ≤ 11 := by
    have e : floatOfInt .f64 n = double.nearest false n.natAbs 0 := by
      have : decide (n < 0) = false := by simpa using h0
      show double.write (.number (decide (n < 0)) n.natAbs 0) = _
      rw [this]
      rfl
    rw [e]
    by_cases hm : n.natAbs = 0
    · rw [hm, hz]
      exact ⟨0, _, r0, by decide, by decide⟩
    · have hl : n.natAbs.log2 < 63 := (Nat.log2_lt hm).2 (by omega)
      have h2 := near_le (mag := n.natAbs) (place := 0) (L := 62) hm (by omega) (by decide)
      obtain ⟨m, i, h3, h4, h5⟩ := read_le (r := double.nearest false n.natAbs 0) (K := 1086) (Nat.le_trans h2 (by decide)) (by decide) (by decide)
      exact ⟨m, i, h3, h4, by omega⟩
  obtain ⟨m, i, hr, hm, hi⟩ := hrd
  unfold Format.sqrt
  rw [hr]
  unfold Datum.root
  simp only
  by_cases hm0 : m = 0
  · rw [if_pos hm0]
    subst hm0
    obtain ⟨k, h2, h3⟩ := hfin 0 i (fun h => absurd rfl h)
    exact ⟨_, k, rfl, h2, h3⟩
  · rw [if_neg hm0, if_neg (by simp)]
    have ef : double.fractionBits = 52 := rfl
    rw [ef]
    generalize hmo : 2 * (52 + 2) - m.log2 + ((i - ((2 * (52 + 2) - m.log2 : Nat) : Int)) % 2).toNat = more
    have hml : m.log2 < 53 := (Nat.log2_lt hm0).2 hm
    have hmore : 56 ≤ more ∧ m.log2 + more ≤ 109 := by omega
    obtain ⟨k, h2, h3⟩ := hfin (2 * Datum.rootFrom (m <<< more) ((m <<< more).log2 / 2 + 1) 0 + (Datum.rootFrom (m <<< more) ((m <<< more).log2 / 2 + 1) 0 * Datum.rootFrom (m <<< more) ((m <<< more).log2 / 2 + 1) 0 != m <<< more).toNat) ((i - more) / 2 - 1) (by
      intro hne
      have hlog : (m <<< more).log2 ≤ 109 := by
        have h2 : m <<< more ≠ 0 := by
          rw [Nat.shiftLeft_eq]; exact Nat.mul_ne_zero hm0 (Nat.pos_iff_ne_zero.1 (Nat.two_pow_pos _))
        have h3 : (m <<< more).log2 < m.log2 + 1 + more := by
          rw [Nat.log2_lt h2, Nat.shiftLeft_eq, Nat.pow_add]
          exact Nat.mul_lt_mul_of_pos_right Nat.lt_log2_self (Nat.two_pow_pos _)
        omega
      have hrt := root_lt (m <<< more) ((m <<< more).log2 / 2 + 1) 0
      generalize Datum.rootFrom (m <<< more) ((m <<< more).log2 / 2 + 1) 0 = R at *
      have hR : R < 2 ^ 55 := by
        have : 2 ^ ((m <<< more).log2 / 2 + 1) ≤ 2 ^ 55 := Nat.pow_le_pow_right (by decide) (by omega)
        omega
      have hb : ((R * R != m <<< more).toNat : Nat) ≤ 1 := by cases (R * R != m <<< more) <;> simp
      have : (2 * R + (R * R != m <<< more).toNat).log2 < 56 := (Nat.log2_lt hne).2 (by omega)
      omega)
    exact ⟨_, k, rfl, h2, h3⟩
end Go.Proofs.YteofhfefbphjdaaGreatDoor
namespace Go.Proofs.YteofhfefbphjdaaGreatDoor
open Go.RowKit Go.WideShapes Go.ChangeShapes
theorem fti_le {r : Nat} {k : Int} (h : floatToIntVal .f64 r .i64 = some k) : k ≤ 9223372036854775807 := by
  unfold floatToIntVal at h
  split at h
  · split at h
    · rename_i hb
      cases h
      simpa [IntKind.max, IntKind.signed, IntKind.bits] using hb.2
    · cases h
  · cases h
theorem run_sqrt (x r : Nat) (hs : Ieee.double.sqrt x = some r) (w : World) : (callFunc 125 #[.float .f64 x]).run Tryz.prog w = .ok (.value (.float .f64 r)) w := by
  rw [run_callFunc_extern (fn := Tryz.f125) Tryz.func125 (by kernel_rfl) (by kernel_rfl) (by kernel_rfl) (by kernel_rfl : Extern.find Tryz.f125 = some Extern.MathSqrt.sqrt)]
  have h2 : FloatKind.f64.format.sqrt x = some r := hs
  have e : Extern.MathSqrt.sqrt #[.float .f64 x] = pure (.float .f64 r) := by
    show (match FloatKind.f64.format.sqrt x with
      | some r => pure (Value.float .f64 r)
      | none => do pure (Value.float .f64 (← choose (.nanBits .f64 x x)))) = _
    rw [h2]
  rw [e]
  rfl
theorem lib_Sqrt (x r : Nat) (hs : Ieee.double.sqrt x = some r) (w : World) : Calls Tryz.prog 106 #[.float .f64 x] w fun e w' => e = .returned (.float .f64 r) ∧ w = w' := by
  have h := run_sqrt x r hs
  go_enter Tryz.func106, Tryz.ntmps106
  go_wp2_with fail
  go_ret
  exact ⟨rfl, rfl⟩
set_option maxRecDepth 100000 in
set_option maxHeartbeats 1000000 in
theorem impl_rootOf (n : Int) (w : World) (h0 : 0 ≤ n) (h1 : n ≤ 1000000000000000000) : Calls Tryz.prog 83 #[.int .i64 n] w fun e w' => e = .returned (.int .i64 (rt n)) ∧ w = w' := by
  obtain ⟨r, k, hs, hf, hk⟩ := sqrt_any n h0 (by omega)
  have hk2 := fti_le hf
  have hcv := fun wv => run_convert_float_int (P := Tryz.prog) (w := wv) 140 2 .f64 .i64 r k (by rw [Tryz.underlying140]; rfl) Tryz.underlying2 hf
  go_enter Tryz.func83, Tryz.ntmps83
  go_wp2_with fail
  refine (lib_Sqrt _ _ hs _).mono ?_
  rintro e w1 ⟨rfl, rfl⟩
  go_wp2_with fail
  go_loop [3] (fun v => ∃ q : Int, v = .int .i64 q ∧ 0 ≤ q ∧ q ≤ 9223372036854775807) (fun v => (intOf v).toNat)
  case atStart => exact ⟨k, rfl, hk, hk2⟩
  case round =>
    clear hs hf hk hk2
    obtain ⟨q, rfl, hq, hq2⟩ := hrel
    by_cases hb : 3037000499 < q
    · go_wp2_with fail
      go_round
      case rel => exact ⟨q - 1, rfl, by omega, by omega⟩
      case measure => simp [intOf]; omega
    · have hsq := mul_bd' (a := q) (x := q) (M := 3037000499) (N := 3037000499) (by omega) (by omega)
      by_cases hc : n < q * q
      · have hq1 : q ≠ 0 := fun e => by subst e; omega
        go_wp2_with fail
        go_round
        case rel => exact ⟨q - 1, rfl, by omega, by omega⟩
        case measure => simp [intOf]; omega
      · have HQ := Lib.hid (show q * q ≤ n by omega)
        go_wp2_with fail
        clear hsq hc
        go_loop [3] (fun v => ∃ p : Int, v = .int .i64 p ∧ (0 ≤ p ∧ p ≤ 3037000499) ∧ Hid (p * p ≤ n)) (fun v => (3037000499 - intOf v).toNat)
        case atStart => exact ⟨q, rfl, ⟨hq, by omega⟩, HQ⟩
        case round =>
          obtain ⟨p, rfl, hp, HP⟩ := hrel
          have hp2 : p < 3037000499 := by
            rcases Int.lt_or_le p 3037000499 with h | h
            · exact h
            · have h3 : p = 3037000499 := by omega
              have := HP.out
              rw [h3] at this
              omega
          have hsq := mul_bd' (a := p + 1) (x := p + 1) (M := 3037000499) (N := 3037000499) (by omega) (by omega)
          by_cases hc : (p + 1) * (p + 1) ≤ n
          · go_wp2_with fail
            go_round
            case rel => exact ⟨p + 1, rfl, by omega, Lib.hid hc⟩
            case measure => simp [intOf]; omega
          · have HE := Lib.hid (rt_uniq h0 hp.1 HP.out (by omega))
            go_wp2_with fail
            go_ret
            exact ⟨ret_int HE.out, rfl⟩
end Go.Proofs.YteofhfefbphjdaaGreatDoor
