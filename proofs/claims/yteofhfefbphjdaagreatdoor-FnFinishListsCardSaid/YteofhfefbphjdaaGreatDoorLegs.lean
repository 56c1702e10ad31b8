/- Walks: lowest terms and division by parts, as the reference does them. Walks: the place and the time of a crossing: the division by parts. Walks: the place at which a leg crosses a line. Walks: the way in which a line is crossed between two points, as the program and the reference find it. Walks: the crossings of a line by a track, leg by leg, as the program lists them. -/
import Derived.Test.YteofhfefbphjdaaGreatDoorLow
import Derived.Test.YteofhfefbphjdaaGreatDoorEarly
import Derived.RegionTactic
import Derived.Deep.Cut
import Derived.Test.YteofhfefbphjdaaGreatDoorK
namespace Go.Proofs.YteofhfefbphjdaaGreatDoor
open Go.RowKit Go.WideShapes Go.ChangeShapes
theorem spec_Gcd (a b : Nat) (ha : a ≤ 4611686018427387904) (hb : b ≤ 4611686018427387904) (w : World) :
    Calls Tryz.prog 116 #[.int .i64 a, .int .i64 b] w fun e w' => e = .returned (.int .i64 ((Nat.gcd a b : Nat) : Int)) ∧ Q w w' := by
  go_enter Tryz.func116, Tryz.ntmps116
  go_wp2_with fail
  go_loopw [0, 1] (fun u v wr => ∃ x y : Nat, u = .int .i64 x ∧ v = .int .i64 y ∧ Hid (Nat.gcd x y = Nat.gcd a b) ∧ x ≤ 4611686018427387904 ∧ y ≤ 4611686018427387904 ∧ Q w wr) (fun _ v _ => (intOf v).toNat)
  case atStart => exact ⟨a, b, rfl, rfl, Lib.hid rfl, ha, hb, Q.refl _⟩
  case round =>
    obtain ⟨x, y, rfl, rfl, HG, hx, hy, hq⟩ := hrel
    by_cases h0 : y = 0
    · subst h0
      have hg : x = Nat.gcd a b := by have := HG.out; rwa [Nat.gcd_zero_right] at this
      have HH := Lib.hid hg
      clear hg HG
      go_wp2_with fail
      go_ret
      exact ⟨by rw [← HH.out]; rfl, hq⟩
    · have hyI : ¬ (y : Int) = 0 := by omega
      have hyp : (0 : Int) < (y : Int) := by omega
      have hl : x % y < y := Nat.mod_lt _ (by omega)
      have e1 : ((x : Int)) % (y : Int) = ((x % y : Nat) : Int) := by rw [← Int.natCast_emod]
      have HG2 : Hid (Nat.gcd y (x % y) = Nat.gcd a b) := Lib.hid (gcd_step.trans HG.out)
      generalize x % y = m at *
      go_wp2_with fail
      go_roundw
      case rel => exact ⟨y, m, by simp, by rw [e1], HG2, hy, by omega, hq⟩
      case measure => rw [e1]; simp [intOf]; omega
theorem spec_Abs (n : Int) (hn : -9223372036854775807 ≤ n ∧ n ≤ 9223372036854775807) (w : World) : Calls Tryz.prog 117 #[.int .i64 n] w fun e w' => e = .returned (.int .i64 (n.natAbs : Nat)) ∧ w = w' := by
  rcases Int.le_total 0 n with h | h
  · have h1 : -n ≤ n := by omega
    go_enter Tryz.func117, Tryz.ntmps117
    go_wp2_with fail
    go_ret
    exact ⟨ret_int (by omega), rfl⟩
  · have h1 : n ≤ -n := by omega
    go_enter Tryz.func117, Tryz.ntmps117
    go_wp2_with fail
    go_ret
    exact ⟨ret_int (by omega), rfl⟩
set_option maxHeartbeats 1000000 in
theorem spec_Ratio (a b : Nat) (ha : a ≤ 4611686018427387904) (hb : b ≤ 4611686018427387904) (hb0 : 0 < b) (w : World) :
    Calls Tryz.prog 103 #[.int .i64 a, .int .i64 b] w fun e w' => e = .returned (.agg #[.int .i64 ((a / Nat.gcd a b : Nat) : Int), .int .i64 ((b / Nat.gcd a b : Nat) : Int)]) ∧ Q w w' := by
  have K1 := Lib.hid (fun wv => spec_Abs a (by omega) wv)
  have k2 := fun wv => spec_Gcd a b ha hb wv
  obtain ⟨x, hx⟩ : ∃ x, x = Nat.gcd a b := ⟨_, rfl⟩
  have hxp : 0 < x := by rw [hx]; exact Nat.gcd_pos_of_pos_right _ hb0
  have hp1 : a / x ≤ 4611686018427387904 := Nat.le_trans (Nat.div_le_self _ _) ha
  have hp2 : b / x ≤ 4611686018427387904 := Nat.le_trans (Nat.div_le_self _ _) hb
  rw [← hx] at k2
  have HP := Lib.hid (show a / x = a / Nat.gcd a b ∧ b / x = b / Nat.gcd a b by rw [hx]; exact ⟨rfl, rfl⟩)
  have K2 := Lib.hid k2
  have hxI : ¬ (x : Int) = 0 := by omega
  have hxb : ((x : Int) == 0) = false := by simpa using hxI
  have e1 : ((a : Int)) / (x : Int) = ((a / x : Nat) : Int) := by rw [← Int.natCast_ediv]
  have e2 : ((b : Int)) / (x : Int) = ((b / x : Nat) : Int) := by rw [← Int.natCast_ediv]
  generalize a / x = p at *
  generalize b / x = q at *
  have e3 : wrap64 (p : Int) = (p : Int) := by unfold wrap64; omega
  have e4 : wrap64 (q : Int) = (q : Int) := by unfold wrap64; omega
  clear hx k2 hxp
  go_enter Tryz.func103, Tryz.ntmps103
  go_wp2_with (first | (go_at_call 117; refine (K1.out _).mono ?_; rintro e w' ⟨rfl, rfl⟩; simp only [Int.natAbs_natCast]) | (go_at_call 116; refine (K2.out _).mono ?_; rintro e w1 ⟨rfl, q1⟩; have B0 := q1.boxB; have cB := B0.cell; have fB := B0.frozen))
  go_region
  all_goals go_wp2_with fail
  have F := ((((B0.set_ 0 (.int .i64 p)).set_ 1 (.int .i64 q)).drew)).cell
  have Q1 : Q w w1 := Q.trans (by (repeat (first | assumption | exact Q.refl _ | refine Q.alloc ?_ _ | refine Q.drewN ?_ _ | refine Q.drew ?_))) q1
  refine bodyPost_ret (v := .agg #[.int .i64 p, .int .i64 q]) (by simp [results, Tryz.results103, go_sem, F]) rfl ⟨?_, ((Q1.setCell (Nat.le_refl _) _).setCell (Nat.le_refl _) _).drew⟩
  rw [HP.out.1, HP.out.2]
theorem part_step {n N D q r S : Nat} (h : q * D + r = n / (S * 1000) * N) : (1000 * q + (r * 1000 + n / S % 1000 * N) / D) * D + (r * 1000 + n / S % 1000 * N) % D = n / S * N := by
  have h1 := Nat.div_add_mod (r * 1000 + n / S % 1000 * N) D
  have h2 : n / S = n / (S * 1000) * 1000 + n / S % 1000 := by rw [← Nat.div_div_eq_div_mul]; omega
  generalize (r * 1000 + n / S % 1000 * N) / D = x at *
  generalize (r * 1000 + n / S % 1000 * N) % D = y at *
  have h3 : (1000 * q + x) * D = 1000 * (q * D) + D * x := by rw [Nat.add_mul, Nat.mul_assoc, Nat.mul_comm x D]
  have h4 : n / S * N = n / (S * 1000) * N * 1000 + n / S % 1000 * N := by
    conv => lhs; rw [h2]
    rw [Nat.add_mul, Nat.mul_right_comm]
  rw [h3, h4]
  omega
end Go.Proofs.YteofhfefbphjdaaGreatDoor
namespace Go.Proofs.YteofhfefbphjdaaGreatDoor
open Go.RowKit Go.WideShapes Go.ChangeShapes
theorem wrap64_nat {n : Nat} (h : n ≤ 1000000000) : wrap64 (n : Int) = (n : Int) := by unfold wrap64; omega
def dvS (n S : Nat) : Nat := if S = 0 then n else n / (S * 1000)
def DvI (n N D S q r : Nat) : Prop := (S = 1000000000 ∨ S = 1000000 ∨ S = 1000 ∨ S = 1 ∨ S = 0) ∧ q * D + r = dvS n S * N ∧ r < D
theorem dvS_next {n S : Nat} (hS : S = 1000000000 ∨ S = 1000000 ∨ S = 1000 ∨ S = 1) : dvS n (S / 1000) = n / S := by
  unfold dvS
  rcases hS with rfl | rfl | rfl | rfl <;> simp
theorem DvI.step {n N D S q r : Nat} (h : DvI n N D S q r) (hS : S ≠ 0) : DvI n N D (S / 1000) (1000 * q + (r * 1000 + n / S % 1000 * N) / D) ((r * 1000 + n / S % 1000 * N) % D) := by
  obtain ⟨h1, h2, h3⟩ := h
  have h4 : S = 1000000000 ∨ S = 1000000 ∨ S = 1000 ∨ S = 1 := by omega
  refine ⟨by omega, ?_, Nat.mod_lt _ (by omega)⟩
  rw [dvS_next h4]
  exact part_step (by rw [h2]; unfold dvS; rw [if_neg hS])
theorem DvI.bd {n N D S q r : Nat} (h : DvI n N D S q r) (hn : n ≤ 1000000000) (hND : N ≤ D) : (S ≠ 0 → q ≤ 1000000) ∧ q ≤ 1000000000 := by
  obtain ⟨h1, h2, h3⟩ := h
  have h5 : q ≤ dvS n S := by
    have h6 : q * D ≤ dvS n S * D := Nat.le_trans (by omega) (Nat.mul_le_mul_left (dvS n S) hND)
    exact Nat.le_of_mul_le_mul_right h6 (by omega)
  have h7 : dvS n S ≤ n := by
    unfold dvS
    split
    · exact Nat.le_refl _
    · exact Nat.div_le_self _ _
  refine ⟨fun hS => Nat.le_trans h5 ?_, by omega⟩
  unfold dvS
  rw [if_neg hS]
  have h8 : S * 1000 ≥ 1000 := by omega
  exact Nat.le_trans (Nat.div_le_div_left h8 (by decide)) (by omega)
theorem DvI.done {n N D q r : Nat} (h : DvI n N D 0 q r) : q = n * N / D ∧ r = n * N % D := by
  obtain ⟨h1, h2, h3⟩ := h
  have h2 : q * D + r = n * N := h2
  rw [← h2]
  have h4 : 0 < D := by omega
  exact ⟨by rw [Nat.add_comm, Nat.add_mul_div_right _ _ h4, Nat.div_eq_of_lt h3, Nat.zero_add], by rw [Nat.add_comm, Nat.add_mul_mod_self_right, Nat.mod_eq_of_lt h3]⟩
set_option maxHeartbeats 1000000 in
theorem spec_Divide (n N D : Nat) (hn : n ≤ 1000000000) (hND : N ≤ D) (hD0 : 0 < D) (hD : D ≤ 20000000000000) (w : World) :
    Calls Tryz.prog 104 #[.int .i64 n, .agg #[.int .i64 N, .int .i64 D]] w fun e w' => e = .returned (.tuple #[.int .i64 ((n * N / D : Nat) : Int), .int .i64 ((n * N % D : Nat) : Int)]) ∧ Q w w' := by
  go_enter Tryz.func104, Tryz.ntmps104
  go_wp2_with fail
  have B0 := Blk.new w 77 #[.int .i64 N, .int .i64 D]
  go_loopw [6, 7, 8] (fun u v s wr => ∃ S q r : Nat, u = .int .i64 q ∧ v = .int .i64 r ∧ s = .int .i64 S ∧ Hid (DvI n N D S q r) ∧ Blk wr w.heap.size 77 #[.int .i64 N, .int .i64 D] ∧ Q w wr) (fun _ _ s _ => (intOf s).toNat)
  case atStart => exact ⟨1000000000, 0, 0, rfl, rfl, rfl, Lib.hid ⟨by simp, by unfold dvS; rw [if_neg (by decide), Nat.div_eq_of_lt (by omega)]; simp, hD0⟩, B0, by (repeat (first | assumption | exact Q.refl _ | refine Q.alloc ?_ _ | refine Q.drewN ?_ _ | refine Q.drew ?_))⟩
  case round =>
    clear B0
    obtain ⟨S, q, r, rfl, rfl, rfl, HI, B0, hq⟩ := hrel
    have cB := B0.cell
    by_cases h0 : S = 0
    · subst h0
      have HE := Lib.hid HI.out.done
      clear HI
      go_wp2_with fail
      go_ret2
      refine ⟨?_, hq⟩
      rw [← HE.out.1, ← HE.out.2]
      rfl
    · have hSp : (1 : Int) ≤ (S : Int) := by omega
      have hSI : ¬ (S : Int) = 0 := by omega
      have hDI : ¬ (D : Int) = 0 := by omega
      have hbd := HI.out.bd hn hND
      have hq6 := hbd.1 h0
      have hrD := HI.out.2.2
      have HS := Lib.hid (HI.out.step h0)
      have e1 : (n : Int) / (S : Int) = ((n / S : Nat) : Int) := by rw [← Int.natCast_ediv]
      have hdg : n / S % 1000 ≤ 999 := by omega
      have hds : n / S ≤ 1000000000 := Nat.le_trans (Nat.div_le_self _ _) hn
      have hm : n / S % 1000 * N ≤ 999 * 20000000000000 := Nat.mul_le_mul hdg (by omega)
      have hx : (r * 1000 + n / S % 1000 * N) / D ≤ 1000000000 := by
        have := HI.out.step h0
        have := (this.bd hn hND).2
        omega
      have hS9 : S ≤ 1000000000 := by rcases HI.out.1 with h | h | h | h | h <;> omega
      clear hbd HI
      obtain ⟨k, hk⟩ : ∃ k, k = n / S := ⟨_, rfl⟩
      rw [← hk] at e1 hdg hds hm hx HS
      obtain ⟨dg, hdge⟩ : ∃ k2, k2 = k % 1000 := ⟨_, rfl⟩
      rw [← hdge] at hdg hm hx HS
      have e2 : (k : Int) % 1000 = (dg : Int) := by omega
      obtain ⟨m, hme⟩ : ∃ k2, k2 = dg * N := ⟨_, rfl⟩
      rw [← hme] at hm hx HS
      have e3 : (dg : Int) * (N : Int) = (m : Int) := by rw [hme, Int.natCast_mul]
      obtain ⟨p, hp⟩ : ∃ p, p = r * 1000 + m := ⟨_, rfl⟩
      rw [← hp] at hx HS
      have e4 : (r : Int) * 1000 + (m : Int) = (p : Int) := by omega
      have hpb : p ≤ 20000000000000 * 1000 + 999 * 20000000000000 := by omega
      have e5 : (p : Int) / (D : Int) = ((p / D : Nat) : Int) := by rw [← Int.natCast_ediv]
      have e6 : (p : Int) % (D : Int) = ((p % D : Nat) : Int) := by rw [← Int.natCast_emod]
      have e7 : (S : Int) / 1000 = ((S / 1000 : Nat) : Int) := by omega
      have hxl : p / D ≤ 1000000000 := hx
      generalize p / D = x at *
      generalize p % D = y at *
      clear hk hdge hme hp hrD hx
      have hSs : S / 1000 < S := by omega
      generalize S / 1000 = S2 at *
      have HS8 := Lib.hid (wrap64_nat (n := S2) (Nat.le_trans (Nat.le_of_lt hSs) hS9))
      have HSS := Lib.hid hSs
      clear hS9 hSs
      go_wp2_with fail
      refine wp_region_quiet_lit (by kernel_rfl) (by kernel_rfl) ?_
      repeat (any_goals (first | go_big_quiet_step ( fail) | quiet_step ( fail) | (refine wpQuiet_step (fun K hK => ?_); go_simp; split <;> (refine hK _ ?_; clear hK K))))
      all_goals (refine wpQuiet_nil ?_; intro _ hw'; obtain ⟨nq, hw''⟩ := hw'; subst hw'')
      all_goals go_wp2_with fail
      go_roundw
      case rel => exact ⟨S2, 1000 * q + x, y, by simp, by rw [e6], by rw [HS8.out], HS, B0.q (by (repeat (first | assumption | exact Q.refl _ | refine Q.alloc ?_ _ | refine Q.drewN ?_ _ | refine Q.drew ?_))), hq.trans (by (repeat (first | assumption | exact Q.refl _ | refine Q.alloc ?_ _ | refine Q.drewN ?_ _ | refine Q.drew ?_)))⟩
      case measure => rw [HS8.out]; simp [intOf]; exact HSS.out
end Go.Proofs.YteofhfefbphjdaaGreatDoor
namespace Go.Proofs.YteofhfefbphjdaaGreatDoor
open Go.RowKit Go.WideShapes Go.ChangeShapes
theorem crossV_bd {a b c d e f : Int} (hp : pt a b) (hq : pt c d) (hr : pt e f) : -8000000000000 ≤ crossV a b c d e f ∧ crossV a b c d e f ≤ 8000000000000 := by
  obtain ⟨h1, h2⟩ := hp
  obtain ⟨h3, h4⟩ := hq
  obtain ⟨h5, h6⟩ := hr
  have m1 := mul_2M (a := c - a) (b := f - b) (by omega) (by omega)
  have m2 := mul_2M (a := d - b) (b := e - a) (by omega) (by omega)
  unfold crossV
  omega
/-- One end is behind the line, the other is not. -/
def Xs (P R : Int) : Prop := (0 < P ∧ R ≤ 0) ∨ (P ≤ 0 ∧ 0 < R)
def plX (P : Int) : Nat := P.natAbs
def plY (P R : Int) : Nat := P.natAbs + R.natAbs
def plN (P R : Int) : Nat := plX P / Nat.gcd (plX P) (plY P R)
def plD (P R : Int) : Nat := plY P R / Nat.gcd (plX P) (plY P R)
theorem Xs_ne {a b c d e f g h : Int} (hx : Xs (crossV a b c d e f) (crossV a b c d g h)) : ¬ (e = g ∧ f = h) := by
  rintro ⟨rfl, rfl⟩
  rcases hx with hx | hx <;> omega
set_option maxHeartbeats 4000000 in
theorem impl_Place (a b c d e f g h : Int) (w : World) (hl : lnB a b c d = true) (hs : lnB e f g h = true) (hx : Xs (crossV a b c d e f) (crossV a b c d g h)) :
    Calls Tryz.prog 114 #[.agg #[.int .i64 e, .int .i64 f, .int .i64 g, .int .i64 h], .agg #[.int .i64 a, .int .i64 b, .int .i64 c, .int .i64 d]] w fun r w' => r = .returned (.tuple #[.agg #[.int .i64 ((plN (crossV a b c d e f) (crossV a b c d g h) : Nat) : Int), .int .i64 ((plD (crossV a b c d e f) (crossV a b c d g h) : Nat) : Int)], .int .i64 0]) ∧ Q w w' := by
  obtain ⟨hp, hq⟩ := lnB_pts hl
  obtain ⟨hr, ht⟩ := lnB_pts hs
  have k1 := fun wv => impl_IsSegment e f g h wv
  have k2 := fun wv => impl_IsSegment a b c d wv
  rw [hl] at k2
  rw [hs] at k1
  have k3 := fun wv => impl_cross a b c d e f wv hp hq hr
  have k4 := fun wv => impl_cross a b c d g h wv hp hq ht
  have b1 := crossV_bd hp hq hr
  have b2 := crossV_bd hp hq ht
  clear hp hq hr ht hl hs
  generalize crossV a b c d e f = P at *
  generalize crossV a b c d g h = R at *
  have HN : Hid (plN P R = plX P / Nat.gcd (plX P) (plY P R) ∧ plD P R = plY P R / Nat.gcd (plX P) (plY P R)) := Lib.hid ⟨rfl, rfl⟩
  have hX : plX P ≤ 4611686018427387904 := by unfold plX; omega
  have hY : plY P R ≤ 4611686018427387904 := by unfold plY; omega
  have hY0 : 0 < plY P R := by unfold plY; rcases hx with hx | hx <;> omega
  have k5 := fun wv => impl_lowest (plX P) (plY P R) hX hY hY0 wv
  rw [← HN.out.1, ← HN.out.2] at k5
  have e1 : max P (-P) = ((plX P : Nat) : Int) := by unfold plX; omega
  have e2 : max (P - R) (R - P) = ((plY P R : Nat) : Int) := by unfold plY; rcases hx with hx | hx <;> omega
  generalize plN P R = N at *
  generalize plD P R = D at *
  generalize plX P = X at *
  generalize plY P R = Y at *
  have K1 := Lib.hid k1
  have K2 := Lib.hid k2
  have K3 := Lib.hid k3
  have K4 := Lib.hid k4
  have K5 := Lib.hid k5
  clear k1 k2 k3 k4 k5 HN hX hY hY0
  obtain ⟨W, hW⟩ : ∃ W, W = ((w.alloc (.cells #[.int .i64 e, .int .i64 f, .int .i64 g, .int .i64 h] 118)).alloc (.cells #[.int .i64 a, .int .i64 b, .int .i64 c, .int .i64 d] 118)).alloc (.cells #[.int .i64 0, .int .i64 0] 77) := ⟨_, rfl⟩
  have B1 : Blk W w.heap.size 118 #[.int .i64 e, .int .i64 f, .int .i64 g, .int .i64 h] := by rw [hW]; exact ((Blk.new _ _ _).alloc _).alloc _
  have B2 : Blk W (w.heap.size + 1) 118 #[.int .i64 a, .int .i64 b, .int .i64 c, .int .i64 d] := by rw [hW]; exact Blk.alloc (by simpa using Blk.new (w.alloc (.cells #[.int .i64 e, .int .i64 f, .int .i64 g, .int .i64 h] 118)) 118 #[.int .i64 a, .int .i64 b, .int .i64 c, .int .i64 d]) _
  have B3 : Blk W (w.heap.size + 2) 77 #[.int .i64 0, .int .i64 0] := by rw [hW]; exact (by simpa using Blk.new ((w.alloc (.cells #[.int .i64 e, .int .i64 f, .int .i64 g, .int .i64 h] 118)).alloc (.cells #[.int .i64 a, .int .i64 b, .int .i64 c, .int .i64 d] 118)) 77 #[.int .i64 0, .int .i64 0])
  have Q0 : Q w W := by rw [hW]; exact (((Q.refl w).alloc _).alloc _).alloc _
  have hhx := Lib.hid hx
  clear hx
  subst hW
  have KK := Lib.hid (And.intro B1 (And.intro B2 B3))
  go_enter Tryz.func114, Tryz.ntmps114
  go_wp2_with (first | (have q0 := q1; go_at_call 76; refine (K2.out _).mono ?_; rintro r w2 ⟨rfl, q2⟩) | (go_at_call 76; refine (K1.out _).mono ?_; rintro r w1 ⟨rfl, q1⟩; have c2 := (B2.q q1).cell))
  replace B1 := (B1.q q1).q q2
  replace B2 := (B2.q q1).q q2
  replace B3 := (B3.q q1).q q2
  have Q2 := (Q0.trans q1).trans q2
  have l1 := later_cells B1.cell B1.lt
  have l2 := later_cells B2.cell B2.lt
  clear q0 q1 q2 c2 Q0 KK B1 B2 K1 K2
  refine wp_region_later_lit (by kernel_rfl) (by kernel_rfl) ?_
  repeat (any_goals (first | go_big_quiet_step ((go_at_call 127; first | with_reducible exact later_call (K3.out _) | exact later_call (K4.out _))) | quiet_step ((go_at_call 127; first | with_reducible exact later_call (K3.out _) | exact later_call (K4.out _))) | (refine wpQuiet_step (fun K hK => ?_); go_simp; split <;> (refine hK _ ?_; clear hK K))))
  all_goals (refine wpQuiet_nil ?_; rintro _ ⟨⟨w3, q3⟩, rfl⟩; try dsimp only)
  replace B3 := B3.q q3
  have Q3 := Q2.trans q3
  clear l1 l2 Q2 K3 K4 q3
  have cB := B3.cell
  have fB := B3.frozen
  obtain ⟨hA, hB⟩ | ⟨hA, hB⟩ := hhx.out
  · have hA2 : ¬ P < 0 := by omega
    have hB2 : ¬ 0 < R := by omega
    have hA3 : (P == 0) = false := by simp; omega
    go_wp2_with fail
    refine (K5.out _).mono ?_
    rintro r w5 ⟨rfl, q5⟩
    have B5 := B3.q q5
    have c5 := B5.cell
    have f5 := B5.frozen
    go_wp2_with fail
    have F := ((B5.set_ 0 (.int .i64 N)).set_ 1 (.int .i64 D)).cell
    refine bodyPost_ret (v := .tuple #[.agg #[.int .i64 N, .int .i64 D], .int .i64 0]) (by simp [results, Tryz.results114, go_sem, F]) rfl ⟨rfl, ((Q3.trans q5).setCell (by simp <;> omega) _).setCell (by simp <;> omega) _⟩
  · have hA2 : ¬ 0 < P := by omega
    have hB2 : ¬ R < 0 := by omega
    have hB3 : (R == 0) = false := by simp; omega
    by_cases hP : P = 0
    · have hP2 : ¬ P < 0 := by omega
      have hP3 : (P == 0) = true := by simpa using hP
      clear hP
      go_wp2_with fail
      refine (K5.out _).mono ?_
      rintro r w5 ⟨rfl, q5⟩
      have B5 := B3.q q5
      have c5 := B5.cell
      have f5 := B5.frozen
      go_wp2_with fail
      have F := ((B5.set_ 0 (.int .i64 N)).set_ 1 (.int .i64 D)).cell
      refine bodyPost_ret (v := .tuple #[.agg #[.int .i64 N, .int .i64 D], .int .i64 0]) (by simp [results, Tryz.results114, go_sem, F]) rfl ⟨rfl, ((Q3.trans q5).setCell (by simp <;> omega) _).setCell (by simp <;> omega) _⟩
    · have hA3 : (P == 0) = false := by simpa using hP
      have hP2 : P < 0 := by omega
      go_wp2_with fail
      refine (K5.out _).mono ?_
      rintro r w5 ⟨rfl, q5⟩
      have B5 := B3.q q5
      have c5 := B5.cell
      have f5 := B5.frozen
      go_wp2_with fail
      have F := ((B5.set_ 0 (.int .i64 N)).set_ 1 (.int .i64 D)).cell
      refine bodyPost_ret (v := .tuple #[.agg #[.int .i64 N, .int .i64 D], .int .i64 0]) (by simp [results, Tryz.results114, go_sem, F]) rfl ⟨rfl, ((Q3.trans q5).setCell (by simp <;> omega) _).setCell (by simp <;> omega) _⟩
theorem calls2 {P : Program} {F : FuncId} {k : IntKind} {x x' y y' : Int} {w : World} {Q : Ending → World → Prop} (h : Calls P F #[.int k x, .int k y] w Q) (hx : x' = x) (hy : y' = y) : Calls P F #[.int k x', .int k y'] w Q := by
  subst hx
  subst hy
  exact h
set_option maxHeartbeats 4000000 in
theorem spec_Place (a b c d e f g h : Int) (w : World) (hl : lnB a b c d = true) (hs : lnB e f g h = true) (hx : Xs (crossV a b c d e f) (crossV a b c d g h)) :
    Calls Tryz.prog 70 #[.agg #[.int .i64 e, .int .i64 f, .int .i64 g, .int .i64 h], .agg #[.int .i64 a, .int .i64 b, .int .i64 c, .int .i64 d]] w fun r w' => r = .returned (.tuple #[.agg #[.int .i64 ((plN (crossV a b c d e f) (crossV a b c d g h) : Nat) : Int), .int .i64 ((plD (crossV a b c d e f) (crossV a b c d g h) : Nat) : Int)], .bool true]) ∧ Q w w' := by
  obtain ⟨hp, hq⟩ := lnB_pts hl
  obtain ⟨hr, ht⟩ := lnB_pts hs
  have M1 := Lib.hid (fun wv => spec_Minus c d a b wv hq hp)
  have M2 := Lib.hid (fun wv => spec_Minus e f a b wv hr hp)
  have M3 := Lib.hid (fun wv => spec_Minus g h a b wv ht hp)
  have z1 : (-2000000 ≤ c - a ∧ c - a ≤ 2000000) ∧ (-2000000 ≤ d - b ∧ d - b ≤ 2000000) := by obtain ⟨⟨_, _⟩, _, _⟩ := hp; obtain ⟨⟨_, _⟩, _, _⟩ := hq; omega
  have z2 : (-2000000 ≤ e - a ∧ e - a ≤ 2000000) ∧ (-2000000 ≤ f - b ∧ f - b ≤ 2000000) := by obtain ⟨⟨_, _⟩, _, _⟩ := hp; obtain ⟨⟨_, _⟩, _, _⟩ := hr; omega
  have z3 : (-2000000 ≤ g - a ∧ g - a ≤ 2000000) ∧ (-2000000 ≤ h - b ∧ h - b ≤ 2000000) := by obtain ⟨⟨_, _⟩, _, _⟩ := hp; obtain ⟨⟨_, _⟩, _, _⟩ := ht; omega
  have k3 : ∀ wv, Calls Tryz.prog 101 #[.agg #[.int .i64 (c - a), .int .i64 (d - b)], .agg #[.int .i64 (e - a), .int .i64 (f - b)]] wv fun r w' => r = .returned (.int .i64 (crossV a b c d e f)) ∧ Q wv w' := fun wv => spec_Cross (c - a) (d - b) (e - a) (f - b) wv z1 z2
  have k4 : ∀ wv, Calls Tryz.prog 101 #[.agg #[.int .i64 (c - a), .int .i64 (d - b)], .agg #[.int .i64 (g - a), .int .i64 (h - b)]] wv fun r w' => r = .returned (.int .i64 (crossV a b c d g h)) ∧ Q wv w' := fun wv => spec_Cross (c - a) (d - b) (g - a) (h - b) wv z1 z3
  have b1 := crossV_bd hp hq hr
  have b2 := crossV_bd hp hq ht
  clear hp hq hr ht hl hs z1 z2 z3
  generalize crossV a b c d e f = P at *
  generalize crossV a b c d g h = R at *
  have HN : Hid (plN P R = plX P / Nat.gcd (plX P) (plY P R) ∧ plD P R = plY P R / Nat.gcd (plX P) (plY P R)) := Lib.hid ⟨rfl, rfl⟩
  have hX : plX P ≤ 4611686018427387904 := by unfold plX; omega
  have hY : plY P R ≤ 4611686018427387904 := by unfold plY; omega
  have hY0 : 0 < plY P R := by unfold plY; rcases hx with hx | hx <;> omega
  have k5 := fun wv => spec_Ratio (plX P) (plY P R) hX hY hY0 wv
  rw [← HN.out.1, ← HN.out.2] at k5
  have HX : Hid (plX P = P.natAbs ∧ plY P R = P.natAbs + R.natAbs) := Lib.hid ⟨rfl, rfl⟩
  have k6 := fun wv => spec_Sign P wv
  have k7 := fun wv => spec_Sign R wv
  have hM : sgn P * sgn R ≤ 0 ∧ -1 ≤ sgn P * sgn R := by
    rcases hx with ⟨h1, h2⟩ | ⟨h1, h2⟩
    · have e1 : sgn P = 1 := by unfold sgn; rw [if_pos h1]
      have e2 : sgn R = 0 ∨ sgn R = -1 := by unfold sgn; rw [if_neg (by omega)]; split <;> simp
      rcases e2 with e2 | e2 <;> rw [e1, e2] <;> decide
    · have e1 : sgn R = 1 := by unfold sgn; rw [if_pos h2]
      have e2 : sgn P = 0 ∨ sgn P = -1 := by unfold sgn; rw [if_neg (by omega)]; split <;> simp
      rcases e2 with e2 | e2 <;> rw [e1, e2] <;> decide
  generalize sgn P = SP at *
  generalize sgn R = SR at *
  obtain ⟨M, e3⟩ : ∃ M, SP * SR = M := ⟨_, rfl⟩
  rw [e3] at hM
  obtain ⟨hM1, hM2⟩ := hM
  have hM3 : ¬ 0 < M := by omega
  generalize plN P R = N at *
  generalize plD P R = D at *
  generalize plX P = X at *
  generalize plY P R = Y at *
  have K3 := Lib.hid k3
  have K4 := Lib.hid k4
  have K5 := Lib.hid k5
  have K6 := Lib.hid k6
  have K7 := Lib.hid k7
  clear k3 k4 k5 k6 k7 HN hX hY hY0
  obtain ⟨W, hW⟩ : ∃ W, W = ((w.alloc (.cells #[.int .i64 e, .int .i64 f, .int .i64 g, .int .i64 h] 118)).alloc (.cells #[.int .i64 a, .int .i64 b, .int .i64 c, .int .i64 d] 118)).alloc (.cells #[.int .i64 0, .int .i64 0] 77) := ⟨_, rfl⟩
  have B1 : Blk W w.heap.size 118 #[.int .i64 e, .int .i64 f, .int .i64 g, .int .i64 h] := by rw [hW]; exact ((Blk.new _ _ _).alloc _).alloc _
  have B2 : Blk W (w.heap.size + 1) 118 #[.int .i64 a, .int .i64 b, .int .i64 c, .int .i64 d] := by rw [hW]; exact Blk.alloc (by simpa using Blk.new (w.alloc (.cells #[.int .i64 e, .int .i64 f, .int .i64 g, .int .i64 h] 118)) 118 #[.int .i64 a, .int .i64 b, .int .i64 c, .int .i64 d]) _
  have B3 : Blk W (w.heap.size + 2) 77 #[.int .i64 0, .int .i64 0] := by rw [hW]; exact (by simpa using Blk.new ((w.alloc (.cells #[.int .i64 e, .int .i64 f, .int .i64 g, .int .i64 h] 118)).alloc (.cells #[.int .i64 a, .int .i64 b, .int .i64 c, .int .i64 d] 118)) 77 #[.int .i64 0, .int .i64 0])
  have Q0 : Q w W := by rw [hW]; exact (((Q.refl w).alloc _).alloc _).alloc _
  have l1 := later_cells B1.cell B1.lt
  have l2 := later_cells B2.cell B2.lt
  have hhx := Lib.hid hx
  clear hx
  subst hW
  go_enter Tryz.func70, Tryz.ntmps70
  go_wp2_with fail
  refine wp_region_later_lit (by kernel_rfl) (by kernel_rfl) ?_
  repeat (any_goals (first | go_big_quiet_step ((first | (go_at_call 41; first | with_reducible exact later_call (M1.out _) | with_reducible exact later_call (M2.out _)) | (go_at_call 101; exact later_call (K3.out _)))) | quiet_step ((first | (go_at_call 41; first | with_reducible exact later_call (M1.out _) | with_reducible exact later_call (M2.out _)) | (go_at_call 101; exact later_call (K3.out _)))) | (refine wpQuiet_step (fun K hK => ?_); go_simp; split <;> (refine hK _ ?_; clear hK K))))
  all_goals (refine wpQuiet_nil ?_; rintro _ ⟨⟨w3, q3⟩, rfl⟩; try dsimp only)
  replace B1 := B1.q q3
  replace B2 := B2.q q3
  replace B3 := B3.q q3
  replace Q0 := Q0.trans q3
  clear l1 l2 q3
  have l1 := later_cells B1.cell B1.lt
  have l2 := later_cells B2.cell B2.lt
  go_wp2_with fail
  refine wp_region_later_lit (by kernel_rfl) (by kernel_rfl) ?_
  repeat (any_goals (first | go_big_quiet_step ((first | (go_at_call 41; first | with_reducible exact later_call (M1.out _) | with_reducible exact later_call (M3.out _)) | (go_at_call 101; exact later_call (K4.out _)))) | quiet_step ((first | (go_at_call 41; first | with_reducible exact later_call (M1.out _) | with_reducible exact later_call (M3.out _)) | (go_at_call 101; exact later_call (K4.out _)))) | (refine wpQuiet_step (fun K hK => ?_); go_simp; split <;> (refine hK _ ?_; clear hK K))))
  all_goals (refine wpQuiet_nil ?_; rintro _ ⟨⟨w4, q4⟩, rfl⟩; try dsimp only)
  replace B3 := B3.q q4
  have Q3 := Q0.trans q4
  clear l1 l2 q4 Q0 B1 B2 K3 K4 M1 M2 M3
  have cB := B3.cell
  have fB := B3.frozen
  obtain ⟨hA, hB⟩ | ⟨hA, hB⟩ := hhx.out
  · have hA2 : ¬ P < 0 := by omega
    have hA3 : (P == 0) = false := by simp; omega
    by_cases hR : R < 0
    · go_wp2_with (first | (go_at_call 102; first | (with_reducible refine (K6.out _).mono ?_) | (with_reducible refine (K7.out _).mono ?_); rintro r w' ⟨rfl, rfl⟩) | (go_at_call 103; refine (calls2 (K5.out _) (by have := HX.out; omega) (by have := HX.out; omega)).mono ?_; rintro r w5 ⟨rfl, q5⟩; have B5 := B3.q q5; have c5 := B5.cell; have f5 := B5.frozen))
      have F := ((B5.set_ 0 (.int .i64 N)).set_ 1 (.int .i64 D)).cell
      refine bodyPost_ret (v := .tuple #[.agg #[.int .i64 N, .int .i64 D], .bool true]) (by simp [results, Tryz.results70, go_sem, F]) rfl ⟨rfl, ((Q3.trans q5).setCell (by simp <;> omega) _).setCell (by simp <;> omega) _⟩
    · go_wp2_with (first | (go_at_call 102; first | (with_reducible refine (K6.out _).mono ?_) | (with_reducible refine (K7.out _).mono ?_); rintro r w' ⟨rfl, rfl⟩) | (go_at_call 103; refine (calls2 (K5.out _) (by have := HX.out; omega) (by have := HX.out; omega)).mono ?_; rintro r w5 ⟨rfl, q5⟩; have B5 := B3.q q5; have c5 := B5.cell; have f5 := B5.frozen))
      have F := ((B5.set_ 0 (.int .i64 N)).set_ 1 (.int .i64 D)).cell
      refine bodyPost_ret (v := .tuple #[.agg #[.int .i64 N, .int .i64 D], .bool true]) (by simp [results, Tryz.results70, go_sem, F]) rfl ⟨rfl, ((Q3.trans q5).setCell (by simp <;> omega) _).setCell (by simp <;> omega) _⟩
  · have hB2 : ¬ R < 0 := by omega
    have hB3 : (R == 0) = false := by simp; omega
    by_cases hP : P = 0
    · have hP2 : ¬ P < 0 := by omega
      have hP3 : (P == 0) = true := by simpa using hP
      clear hP
      go_wp2_with (first | (go_at_call 102; first | (with_reducible refine (K6.out _).mono ?_) | (with_reducible refine (K7.out _).mono ?_); rintro r w' ⟨rfl, rfl⟩) | (go_at_call 103; refine (calls2 (K5.out _) (by have := HX.out; omega) (by have := HX.out; omega)).mono ?_; rintro r w5 ⟨rfl, q5⟩; have B5 := B3.q q5; have c5 := B5.cell; have f5 := B5.frozen))
      have F := ((B5.set_ 0 (.int .i64 N)).set_ 1 (.int .i64 D)).cell
      refine bodyPost_ret (v := .tuple #[.agg #[.int .i64 N, .int .i64 D], .bool true]) (by simp [results, Tryz.results70, go_sem, F]) rfl ⟨rfl, ((Q3.trans q5).setCell (by simp <;> omega) _).setCell (by simp <;> omega) _⟩
    · have hA3 : (P == 0) = false := by simpa using hP
      have hP2 : P < 0 := by omega
      go_wp2_with (first | (go_at_call 102; first | (with_reducible refine (K6.out _).mono ?_) | (with_reducible refine (K7.out _).mono ?_); rintro r w' ⟨rfl, rfl⟩) | (go_at_call 103; refine (calls2 (K5.out _) (by have := HX.out; omega) (by have := HX.out; omega)).mono ?_; rintro r w5 ⟨rfl, q5⟩; have B5 := B3.q q5; have c5 := B5.cell; have f5 := B5.frozen))
      have F := ((B5.set_ 0 (.int .i64 N)).set_ 1 (.int .i64 D)).cell
      refine bodyPost_ret (v := .tuple #[.agg #[.int .i64 N, .int .i64 D], .bool true]) (by simp [results, Tryz.results70, go_sem, F]) rfl ⟨rfl, ((Q3.trans q5).setCell (by simp <;> omega) _).setCell (by simp <;> omega) _⟩
end Go.Proofs.YteofhfefbphjdaaGreatDoor
namespace Go.Proofs.YteofhfefbphjdaaGreatDoor
open Go.RowKit Go.WideShapes Go.ChangeShapes
def wyV (P R M : Int) : Int := if decide (0 < P) = decide (0 < R) then 0 else if 0 < M then 0 else if 0 < R then 1 else -1
def wayV (a b c d e f g h : Int) : Int := wyV (crossV a b c d e f) (crossV a b c d g h) (sgn (crossV e f g h a b) * sgn (crossV e f g h c d))
theorem wayV_xs {a b c d e f g h : Int} (hw : wayV a b c d e f g h ≠ 0) : Xs (crossV a b c d e f) (crossV a b c d g h) := by
  unfold wayV wyV at hw
  generalize crossV a b c d e f = P at *
  generalize crossV a b c d g h = R at *
  unfold Xs
  by_cases h1 : 0 < P <;> by_cases h2 : 0 < R
  · simp [h1, h2] at hw
  · omega
  · omega
  · simp [h1, h2] at hw
theorem wayV_or (a b c d e f g h : Int) : wayV a b c d e f g h = 0 ∨ wayV a b c d e f g h = 1 ∨ wayV a b c d e f g h = -1 := by
  unfold wayV wyV
  repeat (first | (split) | omega)
theorem sgn_pos (n : Int) : (0 < sgn n ↔ 0 < n) ∧ -1 ≤ sgn n ∧ sgn n ≤ 1 := by
  unfold sgn
  split
  · omega
  · split <;> omega
theorem sgn_mul (x y : Int) : -1 ≤ sgn x * sgn y ∧ sgn x * sgn y ≤ 1 := by
  have h0 : ∀ x : Int, sgn x = 1 ∨ sgn x = -1 ∨ sgn x = 0 := by
    intro x
    unfold sgn
    split
    · exact .inl rfl
    · split
      · exact .inr (.inl rfl)
      · exact .inr (.inr rfl)
  have h1 := h0 x
  have h2 := h0 y
  rcases h1 with h1 | h1 | h1 <;> rcases h2 with h2 | h2 | h2 <;> rw [h1, h2] <;> decide
def bx3 (w : World) (a b c d e f g h : Int) : World := ((w.alloc (.cells #[.int .i64 a, .int .i64 b, .int .i64 c, .int .i64 d] 27)).alloc (.cells #[.int .i64 e, .int .i64 f] 25)).alloc (.cells #[.int .i64 g, .int .i64 h] 25)
theorem bx3_facts (w : World) (a b c d e f g h : Int) : Blk (bx3 w a b c d e f g h) w.heap.size 27 #[.int .i64 a, .int .i64 b, .int .i64 c, .int .i64 d] ∧ Blk (bx3 w a b c d e f g h) (w.heap.size + 1) 25 #[.int .i64 e, .int .i64 f] ∧ Blk (bx3 w a b c d e f g h) (w.heap.size + 2) 25 #[.int .i64 g, .int .i64 h] ∧ Q w (bx3 w a b c d e f g h) := by
  unfold bx3
  refine ⟨((Blk.new _ _ _).alloc _).alloc _, Blk.alloc (by simpa using Blk.new (w.alloc (.cells #[.int .i64 a, .int .i64 b, .int .i64 c, .int .i64 d] 27)) 25 #[.int .i64 e, .int .i64 f]) _, by simpa using Blk.new ((w.alloc (.cells #[.int .i64 a, .int .i64 b, .int .i64 c, .int .i64 d] 27)).alloc (.cells #[.int .i64 e, .int .i64 f] 25)) 25 #[.int .i64 g, .int .i64 h], (((Q.refl w).alloc _).alloc _).alloc _⟩
set_option maxHeartbeats 4000000 in
theorem impl_wayAcross (a b c d e f g h : Int) (w : World) (hp : pt a b) (hq : pt c d) (hr : pt e f) (ht : pt g h) :
    Calls Tryz.prog 113 #[.agg #[.int .i64 a, .int .i64 b, .int .i64 c, .int .i64 d], .agg #[.int .i64 e, .int .i64 f], .agg #[.int .i64 g, .int .i64 h]] w fun r w' => r = .returned (.int .i64 (wayV a b c d e f g h)) ∧ Q w w' := by
  have k1 := fun wv => impl_sideOf a b c d e f wv hp hq hr
  have k2 := fun wv => impl_sideOf a b c d g h wv hp hq ht
  have k3 := fun wv => impl_turn e f g h a b wv hr ht hp
  have k4 := fun wv => impl_turn e f g h c d wv hr ht hq
  have hm := sgn_mul (crossV e f g h a b) (crossV e f g h c d)
  have HV : Hid (wayV a b c d e f g h = wyV (crossV a b c d e f) (crossV a b c d g h) (sgn (crossV e f g h a b) * sgn (crossV e f g h c d))) := Lib.hid rfl
  have s1 := (sgn_pos (crossV a b c d e f)).1
  have s2 := (sgn_pos (crossV a b c d g h)).1
  generalize wayV a b c d e f g h = V at *
  generalize sgn (crossV a b c d e f) = SP at *
  generalize sgn (crossV a b c d g h) = SR at *
  generalize crossV a b c d e f = P at *
  generalize crossV a b c d g h = R at *
  generalize sgn (crossV e f g h a b) = T1 at *
  generalize sgn (crossV e f g h c d) = T2 at *
  obtain ⟨M, hM⟩ : ∃ M, T1 * T2 = M := ⟨_, rfl⟩
  rw [hM] at hm HV
  have K1 := Lib.hid k1
  have K2 := Lib.hid k2
  have K3 := Lib.hid k3
  have K4 := Lib.hid k4
  have HB := Lib.hid (bx3_facts w a b c d e f g h)
  obtain ⟨B1, B2, B3, Q0⟩ := HB.out
  have l1 := later_cells B1.cell B1.lt
  have l2 := later_cells B2.cell B2.lt
  have l3 := later_cells B3.cell B3.lt
  unfold bx3 at l1 l2 l3
  unfold bx3 at B1 B2 B3 Q0
  clear k1 k2 k3 k4 hp hq hr ht
  have HS := Lib.hid (And.intro s1 s2)
  clear s1 s2 HB
  go_enter Tryz.func113, Tryz.ntmps113
  go_wp2_with fail
  refine wp_region_later_lit (by kernel_rfl) (by kernel_rfl) ?_
  repeat (any_goals (first | go_big_quiet_step ((go_at_call 94; first | with_reducible exact later_call (K1.out _) | exact later_call (K2.out _))) | quiet_step ((go_at_call 94; first | with_reducible exact later_call (K1.out _) | exact later_call (K2.out _))) | (refine wpQuiet_step (fun K hK => ?_); go_simp; split <;> (refine hK _ ?_; clear hK K))))
  all_goals (refine wpQuiet_nil ?_; rintro _ ⟨⟨w2, q2⟩, rfl⟩; try dsimp only)
  clear l1 l2 l3
  have C1 := B1.q q2
  have C2 := B2.q q2
  have C3 := B3.q q2
  have l1 := later_cells C1.cell C1.lt
  have l2 := later_cells C2.cell C2.lt
  have l3 := later_cells C3.cell C3.lt
  have Q2 := Q0.trans q2
  clear C1 C2 C3 B1 B2 B3 Q0 q2 K1 K2
  by_cases h1 : 0 < P <;> by_cases h2 : 0 < R
  · have j1 : 0 < SP := HS.out.1.2 h1
    have j2 : 0 < SR := HS.out.2.2 h2
    have HE := Lib.hid (show V = 0 by rw [HV.out]; simp [wyV, h1, h2])
    clear h1 h2 HV HS
    go_wp2_with fail
    refine wp_region_later_lit (by kernel_rfl) (by kernel_rfl) ?_
    repeat (any_goals (first | go_big_quiet_step (fail) | quiet_step (fail) | (refine wpQuiet_step (fun K hK => ?_); go_simp; split <;> (refine hK _ ?_; clear hK K))))
    all_goals (refine wpQuiet_nil ?_; rintro _ ⟨⟨w4, q4⟩, rfl⟩; try dsimp only)
    all_goals go_wp2_with fail
    all_goals (go_ret; exact ⟨ret_int HE.out.symm, Q2.trans q4⟩)
  · have j1 : 0 < SP := HS.out.1.2 h1
    have j2 : ¬ 0 < SR := fun h => h2 (HS.out.2.1 h)
    by_cases hm0 : 0 < M
    · have HE := Lib.hid (show V = 0 by rw [HV.out]; simp [wyV, h1, h2, hm0])
      clear h1 h2 HV HS
      go_wp2_with fail
      refine wp_region_later_lit (by kernel_rfl) (by kernel_rfl) ?_
      repeat (any_goals (first | go_big_quiet_step ((go_at_call 111; first | with_reducible exact later_call (K3.out _) | exact later_call (K4.out _))) | quiet_step ((go_at_call 111; first | with_reducible exact later_call (K3.out _) | exact later_call (K4.out _))) | (refine wpQuiet_step (fun K hK => ?_); go_simp; split <;> (refine hK _ ?_; clear hK K))))
      all_goals (refine wpQuiet_nil ?_; rintro _ ⟨⟨w4, q4⟩, rfl⟩; try dsimp only)
      all_goals go_wp2_with fail
      all_goals (go_ret; exact ⟨ret_int HE.out.symm, Q2.trans q4⟩)
    · have HE := Lib.hid (show V = -1 by rw [HV.out]; simp [wyV, h1, h2, hm0])
      clear h1 h2 HV HS
      go_wp2_with fail
      refine wp_region_later_lit (by kernel_rfl) (by kernel_rfl) ?_
      repeat (any_goals (first | go_big_quiet_step ((go_at_call 111; first | with_reducible exact later_call (K3.out _) | exact later_call (K4.out _))) | quiet_step ((go_at_call 111; first | with_reducible exact later_call (K3.out _) | exact later_call (K4.out _))) | (refine wpQuiet_step (fun K hK => ?_); go_simp; split <;> (refine hK _ ?_; clear hK K))))
      all_goals (refine wpQuiet_nil ?_; rintro _ ⟨⟨w4, q4⟩, rfl⟩; try dsimp only)
      all_goals go_wp2_with fail
      all_goals (go_ret; exact ⟨ret_int HE.out.symm, Q2.trans q4⟩)
  · have j1 : ¬ 0 < SP := fun h => h1 (HS.out.1.1 h)
    have j2 : 0 < SR := HS.out.2.2 h2
    by_cases hm0 : 0 < M
    · have HE := Lib.hid (show V = 0 by rw [HV.out]; simp [wyV, h1, h2, hm0])
      clear h1 h2 HV HS
      go_wp2_with fail
      refine wp_region_later_lit (by kernel_rfl) (by kernel_rfl) ?_
      repeat (any_goals (first | go_big_quiet_step ((go_at_call 111; first | with_reducible exact later_call (K3.out _) | exact later_call (K4.out _))) | quiet_step ((go_at_call 111; first | with_reducible exact later_call (K3.out _) | exact later_call (K4.out _))) | (refine wpQuiet_step (fun K hK => ?_); go_simp; split <;> (refine hK _ ?_; clear hK K))))
      all_goals (refine wpQuiet_nil ?_; rintro _ ⟨⟨w4, q4⟩, rfl⟩; try dsimp only)
      all_goals go_wp2_with fail
      all_goals (go_ret; exact ⟨ret_int HE.out.symm, Q2.trans q4⟩)
    · have HE := Lib.hid (show V = 1 by rw [HV.out]; simp [wyV, h1, h2, hm0])
      clear h1 h2 HV HS
      go_wp2_with fail
      refine wp_region_later_lit (by kernel_rfl) (by kernel_rfl) ?_
      repeat (any_goals (first | go_big_quiet_step ((go_at_call 111; first | with_reducible exact later_call (K3.out _) | exact later_call (K4.out _))) | quiet_step ((go_at_call 111; first | with_reducible exact later_call (K3.out _) | exact later_call (K4.out _))) | (refine wpQuiet_step (fun K hK => ?_); go_simp; split <;> (refine hK _ ?_; clear hK K))))
      all_goals (refine wpQuiet_nil ?_; rintro _ ⟨⟨w4, q4⟩, rfl⟩; try dsimp only)
      all_goals go_wp2_with fail
      all_goals (go_ret; exact ⟨ret_int HE.out.symm, Q2.trans q4⟩)
  · have j1 : ¬ 0 < SP := fun h => h1 (HS.out.1.1 h)
    have j2 : ¬ 0 < SR := fun h => h2 (HS.out.2.1 h)
    have HE := Lib.hid (show V = 0 by rw [HV.out]; simp [wyV, h1, h2])
    clear h1 h2 HV HS
    have d1 : decide (0 < SP) = false := decide_eq_false j1
    have d2 : decide (0 < SR) = false := decide_eq_false j2
    clear j1 j2
    go_wp2_with fail
    refine wp_region_later_lit (by kernel_rfl) (by kernel_rfl) ?_
    repeat (any_goals (first | go_big_quiet_step (fail) | quiet_step (fail) | (refine wpQuiet_step (fun K hK => ?_); go_simp; split <;> (refine hK _ ?_; clear hK K))))
    all_goals (refine wpQuiet_nil ?_; rintro _ ⟨⟨w4, q4⟩, rfl⟩; try dsimp only)
    all_goals go_wp2_with fail
    all_goals (go_ret; exact ⟨ret_int HE.out.symm, Q2.trans q4⟩)
theorem spec_Before (a b c d e f : Int) (w : World) (hp : pt a b) (hq : pt c d) (hr : pt e f) :
    Calls Tryz.prog 99 #[.agg #[.int .i64 a, .int .i64 b, .int .i64 c, .int .i64 d], .agg #[.int .i64 e, .int .i64 f]] w fun r w' => r = .returned (.bool (!decide (0 < crossV a b c d e f))) ∧ Q w w' := by
  have k1 := fun wv => spec_l04Before a b c d e f wv hp hq hr
  have s1 := (sgn_pos (crossV a b c d e f)).1
  generalize sgn (crossV a b c d e f) = S at *
  generalize crossV a b c d e f = P at *
  have K1 := Lib.hid k1
  clear k1 hp hq hr
  by_cases h : 0 < P
  · have h2 : ¬ S ≤ 0 := by have := s1.2 h; omega
    have HE := Lib.hid (show (!decide (0 < P)) = false by simp [h])
    clear s1 h
    go_enter Tryz.func99, Tryz.ntmps99
    go_wp2_with (go_at_call 108; refine (K1.out _).mono ?_; rintro r w1 ⟨rfl, q1⟩)
    go_ret
    exact ⟨ret_bool (by first | (rw [HE.out]; done) | (rw [HE.out]; simp; omega)), Q.trans (by (repeat (first | assumption | exact Q.refl _ | refine Q.alloc ?_ _ | refine Q.drewN ?_ _ | refine Q.drew ?_))) q1⟩
  · have h2 : S ≤ 0 := by
      rcases Int.lt_or_le 0 S with h3 | h3
      · exact absurd (s1.1 h3) h
      · exact h3
    have HE := Lib.hid (show (!decide (0 < P)) = true by first | (simp; done) | (simp; omega))
    clear s1 h
    go_enter Tryz.func99, Tryz.ntmps99
    go_wp2_with (go_at_call 108; refine (K1.out _).mono ?_; rintro r w1 ⟨rfl, q1⟩)
    go_ret
    exact ⟨ret_bool (by first | (rw [HE.out]; done) | (rw [HE.out]; simp; omega)), Q.trans (by (repeat (first | assumption | exact Q.refl _ | refine Q.alloc ?_ _ | refine Q.drewN ?_ _ | refine Q.drew ?_))) q1⟩
set_option maxHeartbeats 4000000 in
theorem spec_Way (a b c d e f g h : Int) (w : World) (hp : pt a b) (hq : pt c d) (hr : pt e f) (ht : pt g h) :
    Calls Tryz.prog 69 #[.agg #[.int .i64 a, .int .i64 b, .int .i64 c, .int .i64 d], .agg #[.int .i64 e, .int .i64 f], .agg #[.int .i64 g, .int .i64 h]] w fun r w' => r = .returned (.int .i64 (wayV a b c d e f g h)) ∧ Q w w' := by
  have k1 := fun wv => spec_Before a b c d e f wv hp hq hr
  have k2 := fun wv => spec_Before a b c d g h wv hp hq ht
  have k3 := fun wv => spec_Turn e f g h a b wv hr ht hp
  have k4 := fun wv => spec_Turn e f g h c d wv hr ht hq
  have hm := sgn_mul (crossV e f g h a b) (crossV e f g h c d)
  have HV : Hid (wayV a b c d e f g h = wyV (crossV a b c d e f) (crossV a b c d g h) (sgn (crossV e f g h a b) * sgn (crossV e f g h c d))) := Lib.hid rfl
  generalize wayV a b c d e f g h = V at *
  generalize crossV a b c d e f = P at *
  generalize crossV a b c d g h = R at *
  generalize sgn (crossV e f g h a b) = T1 at *
  generalize sgn (crossV e f g h c d) = T2 at *
  obtain ⟨M, hM⟩ : ∃ M, T1 * T2 = M := ⟨_, rfl⟩
  rw [hM] at hm HV
  have K3 := Lib.hid k3
  have K4 := Lib.hid k4
  have HB := Lib.hid (bx3_facts w a b c d e f g h)
  obtain ⟨B1, B2, B3, Q0⟩ := HB.out
  have l1 := later_cells B1.cell B1.lt
  have l2 := later_cells B2.cell B2.lt
  have l3 := later_cells B3.cell B3.lt
  unfold bx3 at l1 l2 l3 B1 B2 B3 Q0
  clear k3 k4 hp hq hr ht HB
  by_cases h1 : 0 < P <;> by_cases h2 : 0 < R
  · rw [decide_eq_true h1] at k1
    rw [decide_eq_true h2] at k2
    have K1 := Lib.hid k1
    have K2 := Lib.hid k2
    have HE := Lib.hid (show V = 0 by rw [HV.out]; simp [wyV, h1, h2])
    clear h1 h2 HV k1 k2
    go_enter Tryz.func69, Tryz.ntmps69
    go_wp2_with fail
    refine wp_region_later_lit (by kernel_rfl) (by kernel_rfl) ?_
    repeat (any_goals (first | go_big_quiet_step ((first | (go_at_call 99; first | with_reducible exact later_call (K1.out _) | with_reducible exact later_call (K2.out _)))) | quiet_step ((first | (go_at_call 99; first | with_reducible exact later_call (K1.out _) | with_reducible exact later_call (K2.out _)))) | (refine wpQuiet_step (fun K hK => ?_); go_simp; split <;> (refine hK _ ?_; clear hK K))))
    all_goals (refine wpQuiet_nil ?_; rintro _ ⟨⟨w4, q4⟩, rfl⟩; try dsimp only)
    all_goals go_wp2_with fail
    all_goals (go_ret; exact ⟨ret_int HE.out.symm, Q0.trans q4⟩)
  · rw [decide_eq_true h1] at k1
    rw [decide_eq_false h2] at k2
    have K1 := Lib.hid k1
    have K2 := Lib.hid k2
    by_cases hm0 : 0 < M
    · have HE := Lib.hid (show V = 0 by rw [HV.out]; simp [wyV, h1, h2, hm0])
      clear h1 h2 HV k1 k2
      go_enter Tryz.func69, Tryz.ntmps69
      go_wp2_with fail
      refine wp_region_later_lit (by kernel_rfl) (by kernel_rfl) ?_
      repeat (any_goals (first | go_big_quiet_step ((first | (go_at_call 99; first | with_reducible exact later_call (K1.out _) | with_reducible exact later_call (K2.out _)) | (go_at_call 100; first | with_reducible exact later_call (K3.out _) | with_reducible exact later_call (K4.out _)))) | quiet_step ((first | (go_at_call 99; first | with_reducible exact later_call (K1.out _) | with_reducible exact later_call (K2.out _)) | (go_at_call 100; first | with_reducible exact later_call (K3.out _) | with_reducible exact later_call (K4.out _)))) | (refine wpQuiet_step (fun K hK => ?_); go_simp; split <;> (refine hK _ ?_; clear hK K))))
      all_goals (refine wpQuiet_nil ?_; rintro _ ⟨⟨w4, q4⟩, rfl⟩; try dsimp only)
      all_goals go_wp2_with fail
      all_goals (go_ret; exact ⟨ret_int HE.out.symm, Q0.trans q4⟩)
    · have HE := Lib.hid (show V = -1 by rw [HV.out]; simp [wyV, h1, h2, hm0])
      clear h1 h2 HV k1 k2
      go_enter Tryz.func69, Tryz.ntmps69
      go_wp2_with fail
      refine wp_region_later_lit (by kernel_rfl) (by kernel_rfl) ?_
      repeat (any_goals (first | go_big_quiet_step ((first | (go_at_call 99; first | with_reducible exact later_call (K1.out _) | with_reducible exact later_call (K2.out _)) | (go_at_call 100; first | with_reducible exact later_call (K3.out _) | with_reducible exact later_call (K4.out _)))) | quiet_step ((first | (go_at_call 99; first | with_reducible exact later_call (K1.out _) | with_reducible exact later_call (K2.out _)) | (go_at_call 100; first | with_reducible exact later_call (K3.out _) | with_reducible exact later_call (K4.out _)))) | (refine wpQuiet_step (fun K hK => ?_); go_simp; split <;> (refine hK _ ?_; clear hK K))))
      all_goals (refine wpQuiet_nil ?_; rintro _ ⟨⟨w4, q4⟩, rfl⟩; try dsimp only)
      have c1 := (B1.q q4).cell
      have c2 := (B2.q q4).cell
      have c3 := (B3.q q4).cell
      all_goals go_wp2_with (go_at_call 99; refine (K1.out _).mono ?_; rintro r w5 ⟨rfl, q5⟩)
      all_goals (go_ret; exact ⟨ret_int HE.out.symm, (Q0.trans q4).trans q5⟩)
  · rw [decide_eq_false h1] at k1
    rw [decide_eq_true h2] at k2
    have K1 := Lib.hid k1
    have K2 := Lib.hid k2
    by_cases hm0 : 0 < M
    · have HE := Lib.hid (show V = 0 by rw [HV.out]; simp [wyV, h1, h2, hm0])
      clear h1 h2 HV k1 k2
      go_enter Tryz.func69, Tryz.ntmps69
      go_wp2_with fail
      refine wp_region_later_lit (by kernel_rfl) (by kernel_rfl) ?_
      repeat (any_goals (first | go_big_quiet_step ((first | (go_at_call 99; first | with_reducible exact later_call (K1.out _) | with_reducible exact later_call (K2.out _)) | (go_at_call 100; first | with_reducible exact later_call (K3.out _) | with_reducible exact later_call (K4.out _)))) | quiet_step ((first | (go_at_call 99; first | with_reducible exact later_call (K1.out _) | with_reducible exact later_call (K2.out _)) | (go_at_call 100; first | with_reducible exact later_call (K3.out _) | with_reducible exact later_call (K4.out _)))) | (refine wpQuiet_step (fun K hK => ?_); go_simp; split <;> (refine hK _ ?_; clear hK K))))
      all_goals (refine wpQuiet_nil ?_; rintro _ ⟨⟨w4, q4⟩, rfl⟩; try dsimp only)
      all_goals go_wp2_with fail
      all_goals (go_ret; exact ⟨ret_int HE.out.symm, Q0.trans q4⟩)
    · have HE := Lib.hid (show V = 1 by rw [HV.out]; simp [wyV, h1, h2, hm0])
      clear h1 h2 HV k1 k2
      go_enter Tryz.func69, Tryz.ntmps69
      go_wp2_with fail
      refine wp_region_later_lit (by kernel_rfl) (by kernel_rfl) ?_
      repeat (any_goals (first | go_big_quiet_step ((first | (go_at_call 99; first | with_reducible exact later_call (K1.out _) | with_reducible exact later_call (K2.out _)) | (go_at_call 100; first | with_reducible exact later_call (K3.out _) | with_reducible exact later_call (K4.out _)))) | quiet_step ((first | (go_at_call 99; first | with_reducible exact later_call (K1.out _) | with_reducible exact later_call (K2.out _)) | (go_at_call 100; first | with_reducible exact later_call (K3.out _) | with_reducible exact later_call (K4.out _)))) | (refine wpQuiet_step (fun K hK => ?_); go_simp; split <;> (refine hK _ ?_; clear hK K))))
      all_goals (refine wpQuiet_nil ?_; rintro _ ⟨⟨w4, q4⟩, rfl⟩; try dsimp only)
      have c1 := (B1.q q4).cell
      have c2 := (B2.q q4).cell
      have c3 := (B3.q q4).cell
      all_goals go_wp2_with (go_at_call 99; refine (K1.out _).mono ?_; rintro r w5 ⟨rfl, q5⟩)
      all_goals (go_ret; exact ⟨ret_int HE.out.symm, (Q0.trans q4).trans q5⟩)
  · rw [decide_eq_false h1] at k1
    rw [decide_eq_false h2] at k2
    have K1 := Lib.hid k1
    have K2 := Lib.hid k2
    have HE := Lib.hid (show V = 0 by rw [HV.out]; simp [wyV, h1, h2])
    clear h1 h2 HV k1 k2
    go_enter Tryz.func69, Tryz.ntmps69
    go_wp2_with fail
    refine wp_region_later_lit (by kernel_rfl) (by kernel_rfl) ?_
    repeat (any_goals (first | go_big_quiet_step ((first | (go_at_call 99; first | with_reducible exact later_call (K1.out _) | with_reducible exact later_call (K2.out _)))) | quiet_step ((first | (go_at_call 99; first | with_reducible exact later_call (K1.out _) | with_reducible exact later_call (K2.out _)))) | (refine wpQuiet_step (fun K hK => ?_); go_simp; split <;> (refine hK _ ?_; clear hK K))))
    all_goals (refine wpQuiet_nil ?_; rintro _ ⟨⟨w4, q4⟩, rfl⟩; try dsimp only)
    all_goals go_wp2_with fail
    all_goals (go_ret; exact ⟨ret_int HE.out.symm, Q0.trans q4⟩)
end Go.Proofs.YteofhfefbphjdaaGreatDoor
namespace Go.Proofs.YteofhfefbphjdaaGreatDoor
open Go.RowKit Go.WideShapes Go.ChangeShapes
set_option maxHeartbeats 2000000 in
theorem impl_legSegment (A : Option Addr) (n c : Nat) (xs : List Int) (k : Nat) (w : World) (ha : Rd w A xs) (hn : xs.length = n * 3) (hk : k + 1 < n) (hn2 : n ≤ 40) :
    Calls Tryz.prog 112 #[.agg #[.slice A n c], .int .i64 k] w fun e w' => e = .returned (.agg #[.int .i64 (el xs (k * 3 + 1)), .int .i64 (el xs (k * 3 + 2)), .int .i64 (el xs ((k + 1) * 3 + 1)), .int .i64 (el xs ((k + 1) * 3 + 2))]) ∧ Q w w' := by
  obtain ⟨W, hW⟩ : ∃ W, W = (w.alloc (.cells #[.slice A n c] 43)).alloc (.cells #[.int .i64 0, .int .i64 0, .int .i64 0, .int .i64 0] 118) := ⟨_, rfl⟩
  have B1 : Blk W w.heap.size 43 #[.slice A n c] := by rw [hW]; exact (Blk.new _ _ _).alloc _
  have B2 : Blk W (w.heap.size + 1) 118 #[.int .i64 0, .int .i64 0, .int .i64 0, .int .i64 0] := by rw [hW]; exact (by simpa using Blk.new (w.alloc (.cells #[.slice A n c] 43)) 118 #[.int .i64 0, .int .i64 0, .int .i64 0, .int .i64 0])
  have Q0 : Q w W := by rw [hW]; exact ((Q.refl w).alloc _).alloc _
  have hR := ha.q Q0
  obtain ⟨bl, o, rfl, g0, g1, g2⟩ := hR.at3 hn (show k < n by omega)
  obtain ⟨_, _, hA, p0, p1, p2⟩ := hR.at3 hn hk
  cases hA
  have hkI : (k : Int) < (n : Int) := by omega
  have hkI2 : (k : Int) + 1 < (n : Int) := by omega
  have l0 := later_cell g0
  have l1 := later_cell g1
  have l2 := later_cell g2
  have m0 := later_cell p0
  have m1 := later_cell p1
  have m2 := later_cell p2
  have lb := later_cells B1.cell B1.lt
  generalize el xs (k * 3) = t0 at *
  generalize el xs (k * 3 + 1) = x0 at *
  generalize el xs (k * 3 + 2) = y0 at *
  generalize el xs ((k + 1) * 3) = t1 at *
  generalize el xs ((k + 1) * 3 + 1) = x1 at *
  generalize el xs ((k + 1) * 3 + 2) = y1 at *
  clear g0 g1 g2 p0 p1 p2 hR ha hn
  subst hW
  go_enter Tryz.func112, Tryz.ntmps112
  go_wp2_with fail
  refine wp_region_later_tail 14 (by kernel_rfl) (by kernel_rfl) ?_
  simp only [List.take_succ_cons, List.take_zero, List.drop_succ_cons, List.drop_zero]
  repeat (any_goals (first | go_big_quiet_step ((go_at_call 95; exact later_call (impl_pointOf _ _ _ _))) | quiet_step ((go_at_call 95; exact later_call (impl_pointOf _ _ _ _)))))
  refine wpQuiet_nil ?_
  rintro w3 ⟨⟨w4, q4⟩, hw⟩
  obtain rfl : w3 = w4 := hw
  clear l0 l1 l2 m0 m1 m2 lb
  have e4 := (B2.q q4).cell
  have z4 := (B2.q q4).frozen
  have Q4 : Q w w3 := Q0.trans q4
  go_wp2_with fail
  have bf := (((((B2.q q4).set_ 0 (.int .i64 x0)).set_ 1 (.int .i64 y0)).set_ 2 (.int .i64 x1)).set_ 3 (.int .i64 y1)).cell
  exact bodyPost_ret (v := .agg #[.int .i64 x0, .int .i64 y0, .int .i64 x1, .int .i64 y1]) (by simp [results, Tryz.results112, go_sem, bf]) rfl ⟨rfl, (((Q4.setCell (by simp) _).setCell (by simp) _).setCell (by simp) _).setCell (by simp) _⟩
def wyK (a b c d : Int) (xs : List Int) (k : Nat) : Int := wayV a b c d (el xs (k * 3 + 1)) (el xs (k * 3 + 2)) (el xs ((k + 1) * 3 + 1)) (el xs ((k + 1) * 3 + 2))
def nK (a b c d : Int) (xs : List Int) (k : Nat) : Nat := plN (crossV a b c d (el xs (k * 3 + 1)) (el xs (k * 3 + 2))) (crossV a b c d (el xs ((k + 1) * 3 + 1)) (el xs ((k + 1) * 3 + 2)))
def dK (a b c d : Int) (xs : List Int) (k : Nat) : Nat := plD (crossV a b c d (el xs (k * 3 + 1)) (el xs (k * 3 + 2))) (crossV a b c d (el xs ((k + 1) * 3 + 1)) (el xs ((k + 1) * 3 + 2)))
def dtK (xs : List Int) (k : Nat) : Nat := (el xs ((k + 1) * 3) - el xs (k * 3)).toNat
/-- The time of a crossing: begun milliseconds count whole. -/
def tmK (a b c d : Int) (xs : List Int) (k : Nat) : Int := el xs (k * 3) + ((dtK xs k * nK a b c d xs k / dK a b c d xs k : Nat) : Int) + if 0 < dtK xs k * nK a b c d xs k % dK a b c d xs k then 1 else 0
def crK (a b c d : Int) (xs : List Int) (k : Nat) : List Int := [tmK a b c d xs k, (k : Int), wyK a b c d xs k, ((nK a b c d xs k : Nat) : Int), ((dK a b c d xs k : Nat) : Int)]
def crL (a b c d : Int) (xs : List Int) : Nat → List Int
  | 0 => []
  | k + 1 => if wyK a b c d xs k = 0 then crL a b c d xs k else crL a b c d xs k ++ crK a b c d xs k
theorem crL_no {a b c d : Int} {xs : List Int} {k : Nat} (h : wyK a b c d xs k = 0) : crL a b c d xs (k + 1) = crL a b c d xs k := by rw [crL, if_pos h]
theorem crL_yes {a b c d : Int} {xs : List Int} {k : Nat} (h : wyK a b c d xs k ≠ 0) : crL a b c d xs (k + 1) = crL a b c d xs k ++ crK a b c d xs k := by rw [crL, if_neg h]
theorem crL_len (a b c d : Int) (xs : List Int) : ∀ k, ∃ m, (crL a b c d xs k).length = m * 5 ∧ m ≤ k
  | 0 => ⟨0, rfl, Nat.le_refl _⟩
  | k + 1 => by
    obtain ⟨m, h1, h2⟩ := crL_len a b c d xs k
    rw [crL]
    split
    · exact ⟨m, h1, by omega⟩
    · exact ⟨m + 1, by rw [List.length_append, h1]; simp [crK]; omega, by omega⟩
theorem trk_facts {xs : List Int} {n k : Nat} (hT : isTrk xs n = true) (hk : k + 1 < n) : n ≤ 40 ∧ (0 ≤ el xs (k * 3) ∧ el xs (k * 3) < el xs ((k + 1) * 3) ∧ el xs ((k + 1) * 3) ≤ 1000000000) ∧ ptB (el xs (k * 3 + 1)) (el xs (k * 3 + 2)) = true ∧ ptB (el xs ((k + 1) * 3 + 1)) (el xs ((k + 1) * 3 + 2)) = true := by
  unfold isTrk at hT
  rw [Bool.and_eq_true, decide_eq_true_eq] at hT
  have h1 := fixAt_yes (fixTo_at hT.2 (show k < n by omega))
  have h2 := fixAt_yes (fixTo_at hT.2 hk)
  refine ⟨hT.1.2, ⟨h1.1.1, ?_, h2.1.2⟩, h1.2.1, h2.2.1⟩
  rcases h2.2.2 with h | h
  · omega
  · simpa using h
theorem lnB_mk {e f g h : Int} (h1 : ptB e f = true) (h2 : ptB g h = true) (h3 : ¬ (e = g ∧ f = h)) : lnB e f g h = true := by
  unfold lnB
  rw [h1, h2]
  simp
  omega
theorem plD_pos {P R : Int} (hx : Xs P R) : 0 < plD P R ∧ plN P R ≤ plD P R := by
  unfold plD plN
  have hY : 0 < plY P R := by unfold plY; rcases hx with hx | hx <;> omega
  have hg : 0 < Nat.gcd (plX P) (plY P R) := Nat.gcd_pos_of_pos_right _ hY
  refine ⟨Nat.div_pos (Nat.le_of_dvd hY (Nat.gcd_dvd_right _ _)) hg, Nat.div_le_div_right ?_⟩
  unfold plX plY
  omega
theorem plD_le {P R : Int} (hP : -8000000000000 ≤ P ∧ P ≤ 8000000000000) (hR : -8000000000000 ≤ R ∧ R ≤ 8000000000000) : plD P R ≤ 16000000000000 := by
  unfold plD
  refine Nat.le_trans (Nat.div_le_self _ _) ?_
  unfold plY
  omega
theorem elCross : EltT 74 79 5 := EltT.mk (by_ := 40) (z := .agg #[.int .i64 0, .int .i64 0, .int .i64 0, .int .i64 0, .int .i64 0]) (by kernel_rfl) Tryz.underlying74 (by decide) rfl (by decide)
end Go.Proofs.YteofhfefbphjdaaGreatDoor
