/- Plain laws: square roots of whole numbers, points on segments, distances from segments. No condition. Walks: the square root, rounded down, as the reference finds it; the root of a product, with numbers of two parts. -/
import Derived.Test.YteofhfefbphjdaaGreatDoorBase
import Derived.Test.YteofhfefbphjdaaGreatDoorK
import Derived.Outline
namespace Go.Proofs.YteofhfefbphjdaaGreatDoor
/-- The greatest number of at most k whose square is at most n. -/
def rtF (n : Nat) : Nat → Nat
  | 0 => 0
  | k + 1 => if (k + 1) * (k + 1) ≤ n then k + 1 else rtF n k
/-- The square root, rounded down. -/
def rtN (n : Nat) : Nat := rtF n n
theorem rtF_sq (n : Nat) : ∀ k, rtF n k * rtF n k ≤ n := by
  intro k
  induction k with
  | zero => simp [rtF]
  | succ k ih => unfold rtF; split <;> assumption
theorem rtF_max (n : Nat) : ∀ k j, j ≤ k → j * j ≤ n → j ≤ rtF n k := by
  intro k
  induction k with
  | zero => intro j h _; omega
  | succ k ih =>
    intro j h hj
    unfold rtF
    split
    · exact h
    · rename_i hn
      by_cases e : j = k + 1
      · subst e; exact absurd hj hn
      · exact ih j (by omega) hj
theorem rtN_sq (n : Nat) : rtN n * rtN n ≤ n := rtF_sq n n
theorem rtN_lt (n : Nat) : n < (rtN n + 1) * (rtN n + 1) := by
  rcases Nat.lt_or_ge n ((rtN n + 1) * (rtN n + 1)) with h | h
  · exact h
  · have h1 : rtN n + 1 ≤ n := Nat.le_trans (Nat.le_mul_self _) h
    have := rtF_max n n _ h1 h
    have e : rtN n = rtF n n := rfl
    omega
theorem sq_lt_sq {a b : Int} (hb : 0 ≤ b) (h : a * a < b * b) : a < b := by
  rcases Int.lt_or_le a b with h1 | h1
  · exact h1
  · have := Int.mul_le_mul h1 h1 hb (Int.le_trans hb h1); omega
theorem sq_le_sq {a b : Int} (ha : 0 ≤ a) (h : a ≤ b) : a * a ≤ b * b := Int.mul_le_mul h h ha (Int.le_trans ha h)
/-- The square root of a whole number, rounded down. -/
def rt (n : Int) : Int := (rtN n.toNat : Nat)
theorem rt_pos (n : Int) : 0 ≤ rt n := by unfold rt; omega
theorem rt_sq {n : Int} (h : 0 ≤ n) : rt n * rt n ≤ n := by
  have := rtN_sq n.toNat
  unfold rt
  have h2 : ((rtN n.toNat * rtN n.toNat : Nat) : Int) ≤ n := by omega
  rwa [Int.natCast_mul] at h2
theorem rt_lt {n : Int} (h : 0 ≤ n) : n < (rt n + 1) * (rt n + 1) := by
  have := rtN_lt n.toNat
  unfold rt
  have h2 : n < (((rtN n.toNat + 1) * (rtN n.toNat + 1) : Nat) : Int) := by omega
  rwa [Int.natCast_mul] at h2
theorem rt_uniq {n r : Int} (h : 0 ≤ n) (h0 : 0 ≤ r) (h1 : r * r ≤ n) (h2 : n < (r + 1) * (r + 1)) : r = rt n := by
  have a := rt_sq h
  have b := rt_lt h
  have c := rt_pos n
  have d : r < rt n + 1 := sq_lt_sq (by omega) (by omega)
  have e : rt n < r + 1 := sq_lt_sq (by omega) (by omega)
  omega
theorem rt_le_iff {n x : Int} (h : 0 ≤ n) (hx : 0 ≤ x) : x ≤ rt n ↔ x * x ≤ n := by
  constructor
  · intro hr; have := sq_le_sq hx hr; have := rt_sq h; omega
  · intro hq
    have := rt_lt h
    have : x < rt n + 1 := sq_lt_sq (by have := rt_pos n; omega) (by omega)
    omega
theorem rt_mono_bd {n B : Int} (h : 0 ≤ n) (hB : 0 ≤ B) (hn : n < (B + 1) * (B + 1)) : rt n ≤ B := by
  have := rt_sq h
  have : rt n < B + 1 := sq_lt_sq (by omega) (by omega)
  omega
theorem sq_nonneg (a : Int) : 0 ≤ a * a := by
  rcases Int.le_total 0 a with h | h
  · exact Int.mul_nonneg h h
  · have := Int.mul_nonneg (show 0 ≤ -a by omega) (show 0 ≤ -a by omega)
    rwa [Int.neg_mul_neg] at this
theorem rt_one {x y : Int} (h : ¬ (x = 0 ∧ y = 0)) : 1 ≤ rt (x * x + y * y) := by
  have hx := sq_nonneg x
  have hy := sq_nonneg y
  rw [rt_le_iff (by omega) (by decide)]
  have : ∀ z : Int, z ≠ 0 → 1 ≤ z * z := fun z hz => by
    have := sq_nonneg z
    have : z * z ≠ 0 := Int.mul_ne_zero hz hz
    omega
  by_cases h1 : x = 0
  · have := this y (fun e => h ⟨h1, e⟩); omega
  · have := this x h1; omega
/-- A point on the line through a segment lies within its box just if it lies between its ends. -/
theorem on_box {dx dy ux uy : Int} (hd : ¬ (dx = 0 ∧ dy = 0)) (hc : dx * uy - dy * ux = 0) :
    (ux * (ux - dx) + uy * (uy - dy) ≤ 0) ↔ (ux * (ux - dx) ≤ 0 ∧ uy * (uy - dy) ≤ 0) := by
  constructor
  · intro h
    have e1 : ux * (ux - dx) * (dy * dy) = uy * (uy - dy) * (dx * dx) := by grind
    by_cases hx : dx = 0
    · subst hx
      have hy : dy ≠ 0 := fun e => hd ⟨rfl, e⟩
      have : ux = 0 := by
        have : dy * ux = 0 := by omega
        rcases Int.mul_eq_zero.1 this with h | h
        · exact absurd h hy
        · exact h
      subst this
      simp at h ⊢
      exact h
    · by_cases hy : dy = 0
      · subst hy
        have : uy = 0 := by
          have : dx * uy = 0 := by omega
          rcases Int.mul_eq_zero.1 this with h | h
          · exact absurd h hx
          · exact h
        subst this
        simp at h ⊢
        exact h
      · have hxx : 0 < dx * dx := by have := sq_nonneg dx; have : dx * dx ≠ 0 := Int.mul_ne_zero hx hx; omega
        have hyy : 0 < dy * dy := by have := sq_nonneg dy; have : dy * dy ≠ 0 := Int.mul_ne_zero hy hy; omega
        generalize ux * (ux - dx) = X at *
        generalize uy * (uy - dy) = Y at *
        rcases Int.lt_or_le 0 X with hX | hX
        · have h1 : 0 < X * (dy * dy) := Int.mul_pos hX hyy
          have hY : Y < 0 := by omega
          have h2 : Y * (dx * dx) < 0 := by
            have := Int.mul_pos (show 0 < -Y by omega) hxx
            rw [Int.neg_mul] at this
            omega
          omega
        · refine ⟨hX, ?_⟩
          rcases Int.lt_or_le 0 Y with hY | hY
          · have h1 : 0 < Y * (dx * dx) := Int.mul_pos hY hxx
            have h2 : X < 0 := by omega
            have h3 : X * (dy * dy) < 0 := by
              have := Int.mul_pos (show 0 < -X by omega) hyy
              rw [Int.neg_mul] at this
              omega
            omega
          · exact hY
  · intro h; omega
theorem between_iff {a b p : Int} : (p - a) * ((p - a) - (b - a)) ≤ 0 ↔ (min a b ≤ p ∧ p ≤ max a b) := by
  have e : (p - a) * ((p - a) - (b - a)) = (p - a) * (p - b) := by congr 1; omega
  rw [e]
  rcases Int.lt_trichotomy p a with h1 | h1 | h1 <;> rcases Int.lt_trichotomy p b with h2 | h2 | h2
  · have := Int.mul_pos (show 0 < a - p by omega) (show 0 < b - p by omega)
    have e : (a - p) * (b - p) = (p - a) * (p - b) := by grind
    omega
  · subst h2; simp; omega
  · have := Int.mul_pos (show 0 < a - p by omega) (show 0 < p - b by omega)
    have e : (a - p) * (p - b) = -((p - a) * (p - b)) := by grind
    omega
  · subst h1; simp; omega
  · subst h1; subst h2; simp
  · subst h1; simp; omega
  · have := Int.mul_pos (show 0 < p - a by omega) (show 0 < b - p by omega)
    have e : (p - a) * (b - p) = -((p - a) * (p - b)) := by grind
    omega
  · subst h2; simp; omega
  · have := Int.mul_pos (show 0 < p - a by omega) (show 0 < p - b by omega)
    omega
/-- Within a distance of a segment: by the place of the nearest point, and by all three measures. -/
theorem near_iff {dx dy ux uy D : Int} :
    (if ux * dx + uy * dy ≤ 0 then ux * ux + uy * uy ≤ D else if dx * dx + dy * dy ≤ ux * dx + uy * dy then (ux - dx) * (ux - dx) + (uy - dy) * (uy - dy) ≤ D else (dx * uy - dy * ux) * (dx * uy - dy * ux) ≤ D * (dx * dx + dy * dy)) ↔
    (ux * ux + uy * uy ≤ D ∨ (ux - dx) * (ux - dx) + (uy - dy) * (uy - dy) ≤ D ∨ ((0 < ux * dx + uy * dy ∧ ux * dx + uy * dy < dx * dx + dy * dy) ∧ (dx * uy - dy * ux) * (dx * uy - dy * ux) ≤ D * (dx * dx + dy * dy))) := by
  have e1 : (ux - dx) * (ux - dx) + (uy - dy) * (uy - dy) = ux * ux + uy * uy + (dx * dx + dy * dy) - 2 * (ux * dx + uy * dy) := by grind
  have e2 : (dx * uy - dy * ux) * (dx * uy - dy * ux) + (ux * dx + uy * dy) * (ux * dx + uy * dy) = (ux * ux + uy * uy) * (dx * dx + dy * dy) := by grind
  have e3 : (dx * uy - dy * ux) * (dx * uy - dy * ux) + (ux * dx + uy * dy - (dx * dx + dy * dy)) * (ux * dx + uy * dy - (dx * dx + dy * dy)) = ((ux - dx) * (ux - dx) + (uy - dy) * (uy - dy)) * (dx * dx + dy * dy) := by grind
  have hm1 := sq_nonneg dx
  have hm2 := sq_nonneg dy
  have s1 := sq_nonneg (ux * dx + uy * dy)
  have s2 := sq_nonneg (ux * dx + uy * dy - (dx * dx + dy * dy))
  generalize (dx * uy - dy * ux) * (dx * uy - dy * ux) = C at *
  generalize hS : ux * dx + uy * dy = S at *
  generalize ux * ux + uy * uy = U at *
  generalize (ux - dx) * (ux - dx) + (uy - dy) * (uy - dy) = V at *
  have hM : 0 ≤ dx * dx + dy * dy := by omega
  generalize dx * dx + dy * dy = M at *
  split
  · omega
  · split
    · omega
    · constructor
      · intro h; exact .inr (.inr ⟨by omega, h⟩)
      · rintro (h | h | h)
        · have : U * M ≤ D * M := Int.mul_le_mul_of_nonneg_right h hM
          omega
        · have : V * M ≤ D * M := Int.mul_le_mul_of_nonneg_right h hM
          omega
        · exact h.2
end Go.Proofs.YteofhfefbphjdaaGreatDoor
namespace Go.Proofs.YteofhfefbphjdaaGreatDoor
open Go.RowKit Go.WideShapes Go.ChangeShapes
theorem spec_Root (n : Int) (w : World) (h0 : 0 ≤ n) (h1 : n ≤ 1000000000000000000) : Calls Tryz.prog 42 #[.int .i64 n] w fun e w' => e = .returned (.int .i64 (rt n)) ∧ w = w' := by
  have hi := Lib.hid (show n < 1000000001 * 1000000001 by omega)
  go_enter Tryz.func42, Tryz.ntmps42
  go_wp2_with fail
  go_loop [3, 4] (fun u v => ∃ l h : Int, u = .int .i64 l ∧ v = .int .i64 h ∧ (0 ≤ l ∧ l < h ∧ h ≤ 1000000001) ∧ Hid (l * l ≤ n ∧ n < h * h)) (fun u v => (intOf v - intOf u).toNat)
  case atStart => exact ⟨0, 1000000001, rfl, rfl, by omega, Lib.hid ⟨by omega, hi.out⟩⟩
  case round =>
    obtain ⟨l, h, rfl, rfl, hb, HR⟩ := hrel
    by_cases hlt : l + 1 < h
    · obtain ⟨m, hm⟩ : ∃ m, m = (l + h) / 2 := ⟨_, rfl⟩
      have hmb : l < m ∧ m < h := by omega
      have hsq := mul_bd' (a := m) (x := m) (M := 1000000000) (N := 1000000000) (by omega) (by omega)
      by_cases hc : m * m ≤ n
      · have HR2 : Hid (m * m ≤ n ∧ n < h * h) := Lib.hid ⟨hc, HR.out.2⟩
        rw [hm] at hsq hc
        go_wp2_with fail
        go_round
        case rel => exact ⟨m, h, by rw [hm], rfl, by omega, HR2⟩
        case measure => simp [intOf]; omega
      · have HR2 : Hid (l * l ≤ n ∧ n < m * m) := Lib.hid ⟨HR.out.1, by omega⟩
        rw [hm] at hsq hc
        go_wp2_with fail
        go_round
        case rel => exact ⟨l, m, rfl, by rw [hm], by omega, HR2⟩
        case measure => simp [intOf]; omega
    · have HE := Lib.hid (rt_uniq h0 hb.1 HR.out.1 (by have := HR.out.2; rw [show l + 1 = h by omega]; exact this))
      go_wp2_with fail
      go_ret
      exact ⟨ret_int HE.out, rfl⟩
theorem wide_eq {u v p q : Int} (_hv : 0 ≤ v ∧ v < 1048576) (_hq : 0 ≤ q ∧ q < 1048576) (_hu : 0 ≤ u) (_hp : 0 ≤ p) :
    (u * 1048576 + v) * (p * 1048576 + q) / 1099511627776 = u * p + (u * q + v * p + v * q / 1048576) / 1048576 ∧
    (u * 1048576 + v) * (p * 1048576 + q) % 1099511627776 = (u * q + v * p + v * q / 1048576) % 1048576 * 1048576 + v * q % 1048576 := by
  have e : (u * 1048576 + v) * (p * 1048576 + q) = u * p * 1099511627776 + (u * q + v * p) * 1048576 + v * q := by grind
  rw [e]
  generalize u * p = a
  generalize u * q + v * p = b
  generalize v * q = c
  omega
theorem wide_le (a b : Int) : (a / 1099511627776 < b / 1099511627776 ∨ a / 1099511627776 = b / 1099511627776 ∧ a % 1099511627776 ≤ b % 1099511627776) ↔ a ≤ b := by omega
end Go.Proofs.YteofhfefbphjdaaGreatDoor
