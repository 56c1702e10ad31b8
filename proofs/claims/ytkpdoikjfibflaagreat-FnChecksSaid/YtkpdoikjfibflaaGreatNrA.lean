/- Walks: the root of a number, rounded down, as the program finds it; lengths, squares of distances, places along a segment. No condition. -/
import Derived.Test.YtkpdoikjfibflaaGreatK
import Derived.Test.YtkpdoikjfibflaaGreatRoot
import Derived.Test.YtkpdoikjfibflaaGreatFlt
import Derived.Test.YtkpdoikjfibflaaGreatFloor
namespace Go.Proofs.YtkpdoikjfibflaaGreat
open Go.RowKit Go.WideShapes Go.ChangeShapes
theorem fti_le {r : Nat} {k : Int} (h : floatToIntVal .f64 r .i64 = some k) : k ≤ 9223372036854775807 := by
  unfold floatToIntVal at h
  split at h
  · split at h
    · rename_i hb
      cases h
      simpa [IntKind.max, IntKind.signed, IntKind.bits] using hb.2
    · cases h
  · cases h
theorem run_sqrt (x r : Nat) (hs : Ieee.double.sqrt x = some r) (w : World) : (callFunc 164 #[.float .f64 x]).run Tryz.prog w = .ok (.value (.float .f64 r)) w := by
  rw [run_callFunc_extern (fn := Tryz.f164) Tryz.func164 (by kernel_rfl) (by kernel_rfl) (by kernel_rfl) (by kernel_rfl : Extern.find Tryz.f164 = some Extern.MathSqrt.sqrt)]
  have h2 : FloatKind.f64.format.sqrt x = some r := hs
  have e : Extern.MathSqrt.sqrt #[.float .f64 x] = pure (.float .f64 r) := by
    show (match FloatKind.f64.format.sqrt x with
      | some r => pure (Value.float .f64 r)
      | none => do pure (Value.float .f64 (← choose (.nanBits .f64 x x)))) = _
    rw [h2]
  rw [e]
  rfl
theorem lib_Sqrt (x r : Nat) (hs : Ieee.double.sqrt x = some r) (w : World) : Calls Tryz.prog 157 #[.float .f64 x] w fun e w' => e = .returned (.float .f64 r) ∧ w = w' := by
  have h := run_sqrt x r hs
  go_enter Tryz.func157, Tryz.ntmps157
  go_wp2_with fail
  go_ret
  exact ⟨rfl, rfl⟩
set_option maxRecDepth 100000 in
set_option maxHeartbeats 1000000 in
theorem impl_rootOf (n : Int) (w : World) (h0 : 0 ≤ n) (h1 : n ≤ 1000000000000000000) : Calls Tryz.prog 142 #[.int .i64 n] w fun e w' => e = .returned (.int .i64 (rt n)) ∧ w = w' := by
  obtain ⟨r, k, hs, hf, hk⟩ := sqrt_any n h0 (by omega)
  have hk2 := fti_le hf
  have hcv := fun wv => run_convert_float_int (P := Tryz.prog) (w := wv) 169 2 .f64 .i64 r k (by rw [Tryz.underlying169]; rfl) Tryz.underlying2 hf
  go_enter Tryz.func142, Tryz.ntmps142
  go_wp2_with fail
  refine (lib_Sqrt _ _ hs _).mono ?_
  rintro e w1 ⟨rfl, rfl⟩
  go_wp2_with fail
  go_loop [3] (fun v => ∃ q : Int, v = .int .i64 q ∧ 0 ≤ q ∧ q ≤ 9223372036854775807) (fun v => (intOf v).toNat)
  case atStart => exact ⟨k, rfl, hk, hk2⟩
  case round =>
    clear hs hf hk hk2
    obtain ⟨q, rfl, hq, hq2⟩ := hrel
    by_cases hb : 3037000499 < q
    · go_wp2_with fail
      go_round
      case rel => exact ⟨q - 1, rfl, by omega, by omega⟩
      case measure => simp [intOf]; omega
    · have hsq := mul_bd' (a := q) (x := q) (M := 3037000499) (N := 3037000499) (by omega) (by omega)
      by_cases hc : n < q * q
      · have hq1 : q ≠ 0 := fun e => by subst e; omega
        go_wp2_with fail
        go_round
        case rel => exact ⟨q - 1, rfl, by omega, by omega⟩
        case measure => simp [intOf]; omega
      · have HQ := Lib.hid (show q * q ≤ n by omega)
        go_wp2_with fail
        clear hsq hc
        go_loop [3] (fun v => ∃ p : Int, v = .int .i64 p ∧ (0 ≤ p ∧ p ≤ 3037000499) ∧ Hid (p * p ≤ n)) (fun v => (3037000499 - intOf v).toNat)
        case atStart => exact ⟨q, rfl, ⟨hq, by omega⟩, HQ⟩
        case round =>
          obtain ⟨p, rfl, hp, HP⟩ := hrel
          have hp2 : p < 3037000499 := by
            rcases Int.lt_or_le p 3037000499 with h | h
            · exact h
            · have h3 : p = 3037000499 := by omega
              have := HP.out
              rw [h3] at this
              omega
          have hsq := mul_bd' (a := p + 1) (x := p + 1) (M := 3037000499) (N := 3037000499) (by omega) (by omega)
          by_cases hc : (p + 1) * (p + 1) ≤ n
          · go_wp2_with fail
            go_round
            case rel => exact ⟨p + 1, rfl, by omega, Lib.hid hc⟩
            case measure => simp [intOf]; omega
          · have HE := Lib.hid (rt_uniq h0 hp.1 HP.out (by omega))
            go_wp2_with fail
            go_ret
            exact ⟨ret_int HE.out, rfl⟩
end Go.Proofs.YtkpdoikjfibflaaGreat
