/- Walks: the square root, rounded down, as the reference finds it; the root of a product, with numbers of two parts. -/
import Derived.Test.YtkpdoikjfibflaaGreatGeo
import Derived.Test.YtkpdoikjfibflaaGreatK
import Derived.Outline
namespace Go.Proofs.YtkpdoikjfibflaaGreat
open Go.RowKit Go.WideShapes Go.ChangeShapes
theorem spec_Root (n : Int) (w : World) (h0 : 0 ≤ n) (h1 : n ≤ 1000000000000000000) : Calls Tryz.prog 152 #[.int .i64 n] w fun e w' => e = .returned (.int .i64 (rt n)) ∧ w = w' := by
  have hi := Lib.hid (show n < 1000000001 * 1000000001 by omega)
  go_enter Tryz.func152, Tryz.ntmps152
  go_wp2_with fail
  go_loop [3, 4] (fun u v => ∃ l h : Int, u = .int .i64 l ∧ v = .int .i64 h ∧ (0 ≤ l ∧ l < h ∧ h ≤ 1000000001) ∧ Hid (l * l ≤ n ∧ n < h * h)) (fun u v => (intOf v - intOf u).toNat)
  case atStart => exact ⟨0, 1000000001, rfl, rfl, by omega, Lib.hid ⟨by omega, hi.out⟩⟩
  case round =>
    obtain ⟨l, h, rfl, rfl, hb, HR⟩ := hrel
    by_cases hlt : l + 1 < h
    · obtain ⟨m, hm⟩ : ∃ m, m = (l + h) / 2 := ⟨_, rfl⟩
      have hmb : l < m ∧ m < h := by omega
      have hsq := mul_bd' (a := m) (x := m) (M := 1000000000) (N := 1000000000) (by omega) (by omega)
      by_cases hc : m * m ≤ n
      · have HR2 : Hid (m * m ≤ n ∧ n < h * h) := Lib.hid ⟨hc, HR.out.2⟩
        rw [hm] at hsq hc
        go_wp2_with fail
        go_round
        case rel => exact ⟨m, h, by rw [hm], rfl, by omega, HR2⟩
        case measure => simp [intOf]; omega
      · have HR2 : Hid (l * l ≤ n ∧ n < m * m) := Lib.hid ⟨HR.out.1, by omega⟩
        rw [hm] at hsq hc
        go_wp2_with fail
        go_round
        case rel => exact ⟨l, m, rfl, by rw [hm], by omega, HR2⟩
        case measure => simp [intOf]; omega
    · have HE := Lib.hid (rt_uniq h0 hb.1 HR.out.1 (by have := HR.out.2; rw [show l + 1 = h by omega]; exact this))
      go_wp2_with fail
      go_ret
      exact ⟨ret_int HE.out, rfl⟩
theorem wide_eq {u v p q : Int} (_hv : 0 ≤ v ∧ v < 1048576) (_hq : 0 ≤ q ∧ q < 1048576) (_hu : 0 ≤ u) (_hp : 0 ≤ p) :
    (u * 1048576 + v) * (p * 1048576 + q) / 1099511627776 = u * p + (u * q + v * p + v * q / 1048576) / 1048576 ∧
    (u * 1048576 + v) * (p * 1048576 + q) % 1099511627776 = (u * q + v * p + v * q / 1048576) % 1048576 * 1048576 + v * q % 1048576 := by
  have e : (u * 1048576 + v) * (p * 1048576 + q) = u * p * 1099511627776 + (u * q + v * p) * 1048576 + v * q := by grind
  rw [e]
  generalize u * p = a
  generalize u * q + v * p = b
  generalize v * q = c
  omega
set_option maxHeartbeats 1000000 in
theorem spec_Wide (x y : Int) (w : World) (hx : 0 ≤ x ∧ x ≤ 40000000000) (hy : 0 ≤ y ∧ y ≤ 40000000000000) :
    Calls Tryz.prog 162 #[.int .i64 x, .int .i64 y] w fun e w' => e = .returned (.tuple #[.int .i64 (x * y / 1099511627776), .int .i64 (x * y % 1099511627776)]) ∧ w = w' := by
  have hu : 0 ≤ x / 1048576 ∧ x / 1048576 ≤ 38147 := by omega
  have hv : 0 ≤ x % 1048576 ∧ x % 1048576 ≤ 1048575 := by omega
  have hp : 0 ≤ y / 1048576 ∧ y / 1048576 ≤ 38146973 := by omega
  have hq : 0 ≤ y % 1048576 ∧ y % 1048576 ≤ 1048575 := by omega
  have m1 := mul_bd' hu hp
  have m2 := mul_bd' hu hq
  have m3 := mul_bd' hv hp
  have m4 := mul_bd' hv hq
  have HE := Lib.hid (wide_eq (u := x / 1048576) (v := x % 1048576) (p := y / 1048576) (q := y % 1048576) (by omega) (by omega) hu.1 hp.1)
  have ex : x / 1048576 * 1048576 + x % 1048576 = x := by omega
  have ey : y / 1048576 * 1048576 + y % 1048576 = y := by omega
  rw [ex, ey] at HE
  clear ex ey
  go_enter Tryz.func162, Tryz.ntmps162
  go_wp2_with fail
  go_ret2
  exact ⟨ret_ii HE.out.1.symm HE.out.2.symm, rfl⟩
theorem wide_le (a b : Int) : (a / 1099511627776 < b / 1099511627776 ∨ a / 1099511627776 = b / 1099511627776 ∧ a % 1099511627776 ≤ b % 1099511627776) ↔ a ≤ b := by omega
end Go.Proofs.YtkpdoikjfibflaaGreat
