/- Walks: the incidents of two tracks, as the program makes them; the law FnExactIncidentsOf. No condition. -/
import Derived.Test.YtkpdoikjfibflaaGreatUmT
import Derived.Deep.RegionHeld3
import Derived.Outline
namespace Go.Proofs.YtkpdoikjfibflaaGreat
open Go.RowKit Go.WideShapes Go.ChangeShapes
theorem rdD_two {w : World} {A1 A2 : Option Addr} {n c1 m c2 : Nat} {xs ys : List Int} (T : TypeId) (ha : Rd w A1 xs) (hn : xs.length = n * 3) (hn2 : n ≤ 9223372036854775807) (hb : Rd w A2 ys) (hm : ys.length = m * 3) (hm2 : m ≤ 9223372036854775807) :
    RdD (w.alloc (.cells #[.slice A1 n c1, .slice A2 m c2] T)) (some ⟨w.heap.size, 0, none⟩) [(n, xs), (m, ys)] := by
  have q : Q w (w.alloc (.cells #[.slice A1 n c1, .slice A2 m c2] T)) := (Q.refl w).alloc _
  have B := Blk.new w T #[.slice A1 n c1, .slice A2 m c2]
  refine ⟨[⟨A1, n, c1, xs⟩, ⟨A2, m, c2, ys⟩], ⟨w.heap.size, 0, fun _ => rfl, fun j hj => ?_⟩, rfl⟩
  match j, hj with
  | 0, _ => exact ⟨B.cell 0, ha.q q, hn, hn2⟩
  | 1, _ => exact ⟨B.cell 1, hb.q q, hm, hm2⟩
set_option maxHeartbeats 1000000 in
theorem impl_IncidentsOf (wx wy a b d s : Int) (A1 : Option Addr) (n c1 : Nat) (xs : List Int) (A2 : Option Addr) (m c2 : Nat) (ys : List Int) (w : World) (ha : Rd w A1 xs) (hn : xs.length = n * 3) (hn2 : n ≤ 9223372036854775807) (hb : Rd w A2 ys) (hm : ys.length = m * 3) (hm2 : m ≤ 9223372036854775807) :
    Calls Tryz.prog 11 #[.agg #[.int .i64 wx, .int .i64 wy], .agg #[.int .i64 a, .int .i64 b, .int .i64 d, .int .i64 s], .agg #[.slice A1 n c1], .agg #[.slice A2 m c2]] w (RS w 55 5 ((ioL wx wy a b d s xs n ys m).length / 5) (ioL wx wy a b d s xs n ys m) (ioC wx wy a b d s xs n ys m)) := by
  have Q0 : Q w ((((w.alloc (.cells #[.int .i64 wx, .int .i64 wy] 33)).alloc (.cells #[.int .i64 a, .int .i64 b, .int .i64 d, .int .i64 s] 35)).alloc (.cells #[.slice A1 n c1] 39)).alloc (.cells #[.slice A2 m c2] 39)) := by (repeat (first | assumption | exact Q.refl _ | refine Q.alloc ?_ _ | refine Q.drewN ?_ _ | refine Q.drew ?_))
  have K := Lib.hid (fun (c : Nat) (A : Option Addr) wv h => impl_AllIncidents wx wy a b d s A 2 c [(n, xs), (m, ys)] wv h rfl (by decide))
  rw [ai_two, ai_twoL] at K
  obtain ⟨k, _, hk⟩ := ioL_len wx wy a b d s xs n ys m
  generalize ioL wx wy a b d s xs n ys m = L at *
  generalize ioC wx wy a b d s xs n ys m = C at *
  have hr := rdD_two (c1 := c1) (c2 := c2) 39 (ha.q Q0) hn hn2 (hb.q Q0) hm hm2
  simp only [World.size_alloc] at hr
  have HR := Lib.hid hr
  clear hr
  have Q1 := Q0.alloc (.cells #[.slice A1 n c1, .slice A2 m c2] 39)
  have HK := Lib.hid hk
  clear hn hm hk ha hb hn2 hm2
  go_enter Tryz.func11, Tryz.ntmps11
  go_wp2_with fail
  refine (K.out _ _ _ HR.out).mono ?_
  rintro e w1 ⟨A, cc, rfl, ho, q1⟩
  go_wp2_with fail
  go_ret2
  exact RS.mk' (ho.mono Q1.size) (Q1.trans q1) (by rw [HK.out]; omega) (by decide)
theorem toWind_any (a b : Int) (w : World) : Calls Tryz.prog 8 #[.agg #[.int .i64 a, .int .i64 b]] w fun e w' => e = .returned (.agg #[.int .i64 a, .int .i64 b]) ∧ Q w w' := by
  go_enter Tryz.func8, Tryz.ntmps8
  go_wp2
  exact bodyPost_ret (v := .agg #[.int .i64 a, .int .i64 b]) (by simp [results, Tryz.results8, go_sem]) rfl ⟨rfl, (((Q.refl _).alloc _).alloc _).alloc _⟩
set_option maxRecDepth 100000 in
set_option maxHeartbeats 4000000 in
theorem law_FnExactIncidentsOf (a0x0 a0x1 : Int) (ha0 : ∀ y ∈ [a0x0, a0x1], -9223372036854775808 ≤ y ∧ y ≤ 9223372036854775807) (a1x0 a1x1 a1x2 a1x3 : Int) (ha1 : ∀ y ∈ [a1x0, a1x1, a1x2, a1x3], -9223372036854775808 ≤ y ∧ y ≤ 9223372036854775807) (a2A : Option Addr) (a2n a2c : Nat) (a2xs : List Int) (ha2l : a2xs.length = a2n * 3) (_ha2b : ∀ y ∈ a2xs, -9223372036854775808 ≤ y ∧ y ≤ 9223372036854775807) (ha2c : a2n ≤ a2c ∧ a2c ≤ maxLen) (a3A : Option Addr) (a3n a3c : Nat) (a3xs : List Int) (ha3l : a3xs.length = a3n * 3) (_ha3b : ∀ y ∈ a3xs, -9223372036854775808 ≤ y ∧ y ≤ 9223372036854775807) (ha3c : a3n ≤ a3c ∧ a3c ≤ maxLen) (w : World) (ha2 : Rd w a2A a2xs) (ha3 : Rd w a3A a3xs) :
    Calls Tryz.prog 3 #[.agg #[.int .i64 a0x0, .int .i64 a0x1], .agg #[.int .i64 a1x0, .int .i64 a1x1, .int .i64 a1x2, .int .i64 a1x3], .agg #[.slice a2A a2n a2c], .agg #[.slice a3A a3n a3c]] w fun e w' => e = .returned (.bool true) ∧ Below w.heap.size w w' := by
  have hn2 : a2n ≤ 9223372036854775807 := by have := ha2c; unfold maxLen at this; omega
  clear ha2c _ha2b
  have HL2 := Lib.hid ha2l
  clear ha2l
  have hn3 : a3n ≤ 9223372036854775807 := by have := ha3c; unfold maxLen at this; omega
  clear ha3c _ha3b
  have HL3 := Lib.hid ha3l
  clear ha3l
  have HB0 := Lib.hid ha0
  clear ha0
  have HB1 := Lib.hid ha1
  clear ha1
  have k0 := fun (a2A : Option Addr) (a2c : Nat) (a3A : Option Addr) (a3c : Nat) => spec_IncidentsOf a0x0 a0x1 a1x0 a1x1 a1x2 a1x3 a2A a2n a2c a2xs a3A a3n a3c a3xs
  have k1 := fun (a2A : Option Addr) (a2c : Nat) (a3A : Option Addr) (a3c : Nat) => impl_IncidentsOf a0x0 a0x1 a1x0 a1x1 a1x2 a1x3 a2A a2n a2c a2xs a3A a3n a3c a3xs
  obtain ⟨n0, hn0⟩ : ∃ n0, n0 = ((ioL a0x0 a0x1 a1x0 a1x1 a1x2 a1x3 a2xs a2n a3xs a3n).length / 5) := ⟨_, rfl⟩
  obtain ⟨L0, hL0⟩ : ∃ L0, L0 = ioL a0x0 a0x1 a1x0 a1x1 a1x2 a1x3 a2xs a2n a3xs a3n := ⟨_, rfl⟩
  obtain ⟨r1, hr1⟩ : ∃ r1, r1 = ioC a0x0 a0x1 a1x0 a1x1 a1x2 a1x3 a2xs a2n a3xs a3n := ⟨_, rfl⟩
  have hs0 : n0 ≤ 1048576 := by rw [hn0]; exact (by obtain ⟨c, h1, h2⟩ := ioL_len a0x0 a0x1 a1x0 a1x1 a1x2 a1x3 a2xs a2n a3xs a3n; omega)
  rw [← hn0, ← hL0, ← hr1] at k0 k1
  have K0 := Lib.hid k0
  have K1 := Lib.hid k1
  clear k0 k1 hn0 hL0 hr1
  rcases Nat.lt_or_ge (1048576) a2n with hsz2 | hsz2
  · skip
    go_enter Tryz.func3, Tryz.ntmps3
    have B0 := Blk.new w 23 #[.int .i64 a0x0, .int .i64 a0x1]
    have gB0 : w.heap.size + 0 < w.heap.size + 4 := by omega
    have B0 := B0.alloc (.cells #[.int .i64 a1x0, .int .i64 a1x1, .int .i64 a1x2, .int .i64 a1x3] 25)
    have B1 := Blk.new (w.alloc (.cells #[.int .i64 a0x0, .int .i64 a0x1] 23)) 25 #[.int .i64 a1x0, .int .i64 a1x1, .int .i64 a1x2, .int .i64 a1x3]
    have gB1 : w.heap.size + 1 < w.heap.size + 4 := by omega
    have eB1 : (w.alloc (.cells #[.int .i64 a0x0, .int .i64 a0x1] 23)).heap.size = w.heap.size + 1 := by simp
    rw [eB1] at B1
    clear eB1
    have B0 := B0.alloc (.cells #[.slice a2A a2n a2c] 28)
    have B1 := B1.alloc (.cells #[.slice a2A a2n a2c] 28)
    have B2 := Blk.new ((w.alloc (.cells #[.int .i64 a0x0, .int .i64 a0x1] 23)).alloc (.cells #[.int .i64 a1x0, .int .i64 a1x1, .int .i64 a1x2, .int .i64 a1x3] 25)) 28 #[.slice a2A a2n a2c]
    have gB2 : w.heap.size + 2 < w.heap.size + 4 := by omega
    have eB2 : ((w.alloc (.cells #[.int .i64 a0x0, .int .i64 a0x1] 23)).alloc (.cells #[.int .i64 a1x0, .int .i64 a1x1, .int .i64 a1x2, .int .i64 a1x3] 25)).heap.size = w.heap.size + 1 + 1 := by simp
    rw [eB2] at B2
    clear eB2
    have B0 := B0.alloc (.cells #[.slice a3A a3n a3c] 28)
    have B1 := B1.alloc (.cells #[.slice a3A a3n a3c] 28)
    have B2 := B2.alloc (.cells #[.slice a3A a3n a3c] 28)
    have B3 := Blk.new (((w.alloc (.cells #[.int .i64 a0x0, .int .i64 a0x1] 23)).alloc (.cells #[.int .i64 a1x0, .int .i64 a1x1, .int .i64 a1x2, .int .i64 a1x3] 25)).alloc (.cells #[.slice a2A a2n a2c] 28)) 28 #[.slice a3A a3n a3c]
    have gB3 : w.heap.size + 3 < w.heap.size + 4 := by omega
    have eB3 : (((w.alloc (.cells #[.int .i64 a0x0, .int .i64 a0x1] 23)).alloc (.cells #[.int .i64 a1x0, .int .i64 a1x1, .int .i64 a1x2, .int .i64 a1x3] 25)).alloc (.cells #[.slice a2A a2n a2c] 28)).heap.size = w.heap.size + 1 + 1 + 1 := by simp
    rw [eB3] at B3
    clear eB3
    have Q0 : Q w ((((w.alloc (.cells #[.int .i64 a0x0, .int .i64 a0x1] 23)).alloc (.cells #[.int .i64 a1x0, .int .i64 a1x1, .int .i64 a1x2, .int .i64 a1x3] 25)).alloc (.cells #[.slice a2A a2n a2c] 28)).alloc (.cells #[.slice a3A a3n a3c] 28)) := by (repeat (first | assumption | exact Q.refl _ | refine Q.alloc ?_ _ | refine Q.drewN ?_ _ | refine Q.drew ?_))
    have I2 := ha2
    replace I2 := I2.q Q0
    have I3 := ha3
    replace I3 := I3.q Q0
    have z0 : w.heap.size + 4 ≤ (((((w.alloc (.cells #[.int .i64 a0x0, .int .i64 a0x1] 23)).alloc (.cells #[.int .i64 a1x0, .int .i64 a1x1, .int .i64 a1x2, .int .i64 a1x3] 25)).alloc (.cells #[.slice a2A a2n a2c] 28)).alloc (.cells #[.slice a3A a3n a3c] 28))).heap.size := by simp
    go_wp2_with fail
    refine (szTrack_any a2A a2n a2c 1048576 _ (by omega) (by omega) hn2).mono ?_
    rintro e wz2 ⟨rfl, qz2⟩
    replace B0 := B0.q qz2
    replace B1 := B1.q qz2
    replace B2 := B2.q qz2
    replace B3 := B3.q qz2
    replace Q0 := Q0.trans qz2
    replace I2 := I2.q qz2
    replace I3 := I3.q qz2
    have zz2 := qz2.size
    rw [if_neg (by omega)]
    have cB0 := B0.cell
    have cB1 := B1.cell
    have cB2 := B2.cell
    have cB3 := B3.cell
    go_wp2_with fail
    clear cB0
    clear cB1
    clear cB2
    clear cB3
    go_ret
    exact ⟨rfl, Q0⟩
  · skip
    rcases Nat.lt_or_ge (1048576 - a2n) a3n with hsz3 | hsz3
    · skip
      go_enter Tryz.func3, Tryz.ntmps3
      have B0 := Blk.new w 23 #[.int .i64 a0x0, .int .i64 a0x1]
      have gB0 : w.heap.size + 0 < w.heap.size + 4 := by omega
      have B0 := B0.alloc (.cells #[.int .i64 a1x0, .int .i64 a1x1, .int .i64 a1x2, .int .i64 a1x3] 25)
      have B1 := Blk.new (w.alloc (.cells #[.int .i64 a0x0, .int .i64 a0x1] 23)) 25 #[.int .i64 a1x0, .int .i64 a1x1, .int .i64 a1x2, .int .i64 a1x3]
      have gB1 : w.heap.size + 1 < w.heap.size + 4 := by omega
      have eB1 : (w.alloc (.cells #[.int .i64 a0x0, .int .i64 a0x1] 23)).heap.size = w.heap.size + 1 := by simp
      rw [eB1] at B1
      clear eB1
      have B0 := B0.alloc (.cells #[.slice a2A a2n a2c] 28)
      have B1 := B1.alloc (.cells #[.slice a2A a2n a2c] 28)
      have B2 := Blk.new ((w.alloc (.cells #[.int .i64 a0x0, .int .i64 a0x1] 23)).alloc (.cells #[.int .i64 a1x0, .int .i64 a1x1, .int .i64 a1x2, .int .i64 a1x3] 25)) 28 #[.slice a2A a2n a2c]
      have gB2 : w.heap.size + 2 < w.heap.size + 4 := by omega
      have eB2 : ((w.alloc (.cells #[.int .i64 a0x0, .int .i64 a0x1] 23)).alloc (.cells #[.int .i64 a1x0, .int .i64 a1x1, .int .i64 a1x2, .int .i64 a1x3] 25)).heap.size = w.heap.size + 1 + 1 := by simp
      rw [eB2] at B2
      clear eB2
      have B0 := B0.alloc (.cells #[.slice a3A a3n a3c] 28)
      have B1 := B1.alloc (.cells #[.slice a3A a3n a3c] 28)
      have B2 := B2.alloc (.cells #[.slice a3A a3n a3c] 28)
      have B3 := Blk.new (((w.alloc (.cells #[.int .i64 a0x0, .int .i64 a0x1] 23)).alloc (.cells #[.int .i64 a1x0, .int .i64 a1x1, .int .i64 a1x2, .int .i64 a1x3] 25)).alloc (.cells #[.slice a2A a2n a2c] 28)) 28 #[.slice a3A a3n a3c]
      have gB3 : w.heap.size + 3 < w.heap.size + 4 := by omega
      have eB3 : (((w.alloc (.cells #[.int .i64 a0x0, .int .i64 a0x1] 23)).alloc (.cells #[.int .i64 a1x0, .int .i64 a1x1, .int .i64 a1x2, .int .i64 a1x3] 25)).alloc (.cells #[.slice a2A a2n a2c] 28)).heap.size = w.heap.size + 1 + 1 + 1 := by simp
      rw [eB3] at B3
      clear eB3
      have Q0 : Q w ((((w.alloc (.cells #[.int .i64 a0x0, .int .i64 a0x1] 23)).alloc (.cells #[.int .i64 a1x0, .int .i64 a1x1, .int .i64 a1x2, .int .i64 a1x3] 25)).alloc (.cells #[.slice a2A a2n a2c] 28)).alloc (.cells #[.slice a3A a3n a3c] 28)) := by (repeat (first | assumption | exact Q.refl _ | refine Q.alloc ?_ _ | refine Q.drewN ?_ _ | refine Q.drew ?_))
      have I2 := ha2
      replace I2 := I2.q Q0
      have I3 := ha3
      replace I3 := I3.q Q0
      have z0 : w.heap.size + 4 ≤ (((((w.alloc (.cells #[.int .i64 a0x0, .int .i64 a0x1] 23)).alloc (.cells #[.int .i64 a1x0, .int .i64 a1x1, .int .i64 a1x2, .int .i64 a1x3] 25)).alloc (.cells #[.slice a2A a2n a2c] 28)).alloc (.cells #[.slice a3A a3n a3c] 28))).heap.size := by simp
      go_wp2_with fail
      refine (szTrack_any a2A a2n a2c 1048576 _ (by omega) (by omega) hn2).mono ?_
      rintro e wz2 ⟨rfl, qz2⟩
      replace B0 := B0.q qz2
      replace B1 := B1.q qz2
      replace B2 := B2.q qz2
      replace B3 := B3.q qz2
      replace Q0 := Q0.trans qz2
      replace I2 := I2.q qz2
      replace I3 := I3.q qz2
      have zz2 := qz2.size
      rw [if_pos (by omega)]
      have cB0 := B0.cell
      have cB1 := B1.cell
      have cB2 := B2.cell
      have cB3 := B3.cell
      go_wp2_with fail
      clear cB0
      clear cB1
      clear cB2
      clear cB3
      refine (szTrack_any a3A a3n a3c (1048576 - (a2n : Int)) _ (by omega) (by omega) hn3).mono ?_
      rintro e wz3 ⟨rfl, qz3⟩
      replace B0 := B0.q qz3
      replace B1 := B1.q qz3
      replace B2 := B2.q qz3
      replace B3 := B3.q qz3
      replace Q0 := Q0.trans qz3
      replace I2 := I2.q qz3
      replace I3 := I3.q qz3
      have zz3 := qz3.size
      rw [if_neg (by omega)]
      have cB0 := B0.cell
      have cB1 := B1.cell
      have cB2 := B2.cell
      have cB3 := B3.cell
      go_wp2_with fail
      clear cB0
      clear cB1
      clear cB2
      clear cB3
      go_ret
      exact ⟨rfl, Q0⟩
    · skip
      go_enter Tryz.func3, Tryz.ntmps3
      have B0 := Blk.new w 23 #[.int .i64 a0x0, .int .i64 a0x1]
      have gB0 : w.heap.size + 0 < w.heap.size + 4 := by omega
      have B0 := B0.alloc (.cells #[.int .i64 a1x0, .int .i64 a1x1, .int .i64 a1x2, .int .i64 a1x3] 25)
      have B1 := Blk.new (w.alloc (.cells #[.int .i64 a0x0, .int .i64 a0x1] 23)) 25 #[.int .i64 a1x0, .int .i64 a1x1, .int .i64 a1x2, .int .i64 a1x3]
      have gB1 : w.heap.size + 1 < w.heap.size + 4 := by omega
      have eB1 : (w.alloc (.cells #[.int .i64 a0x0, .int .i64 a0x1] 23)).heap.size = w.heap.size + 1 := by simp
      rw [eB1] at B1
      clear eB1
      have B0 := B0.alloc (.cells #[.slice a2A a2n a2c] 28)
      have B1 := B1.alloc (.cells #[.slice a2A a2n a2c] 28)
      have B2 := Blk.new ((w.alloc (.cells #[.int .i64 a0x0, .int .i64 a0x1] 23)).alloc (.cells #[.int .i64 a1x0, .int .i64 a1x1, .int .i64 a1x2, .int .i64 a1x3] 25)) 28 #[.slice a2A a2n a2c]
      have gB2 : w.heap.size + 2 < w.heap.size + 4 := by omega
      have eB2 : ((w.alloc (.cells #[.int .i64 a0x0, .int .i64 a0x1] 23)).alloc (.cells #[.int .i64 a1x0, .int .i64 a1x1, .int .i64 a1x2, .int .i64 a1x3] 25)).heap.size = w.heap.size + 1 + 1 := by simp
      rw [eB2] at B2
      clear eB2
      have B0 := B0.alloc (.cells #[.slice a3A a3n a3c] 28)
      have B1 := B1.alloc (.cells #[.slice a3A a3n a3c] 28)
      have B2 := B2.alloc (.cells #[.slice a3A a3n a3c] 28)
      have B3 := Blk.new (((w.alloc (.cells #[.int .i64 a0x0, .int .i64 a0x1] 23)).alloc (.cells #[.int .i64 a1x0, .int .i64 a1x1, .int .i64 a1x2, .int .i64 a1x3] 25)).alloc (.cells #[.slice a2A a2n a2c] 28)) 28 #[.slice a3A a3n a3c]
      have gB3 : w.heap.size + 3 < w.heap.size + 4 := by omega
      have eB3 : (((w.alloc (.cells #[.int .i64 a0x0, .int .i64 a0x1] 23)).alloc (.cells #[.int .i64 a1x0, .int .i64 a1x1, .int .i64 a1x2, .int .i64 a1x3] 25)).alloc (.cells #[.slice a2A a2n a2c] 28)).heap.size = w.heap.size + 1 + 1 + 1 := by simp
      rw [eB3] at B3
      clear eB3
      have Q0 : Q w ((((w.alloc (.cells #[.int .i64 a0x0, .int .i64 a0x1] 23)).alloc (.cells #[.int .i64 a1x0, .int .i64 a1x1, .int .i64 a1x2, .int .i64 a1x3] 25)).alloc (.cells #[.slice a2A a2n a2c] 28)).alloc (.cells #[.slice a3A a3n a3c] 28)) := by (repeat (first | assumption | exact Q.refl _ | refine Q.alloc ?_ _ | refine Q.drewN ?_ _ | refine Q.drew ?_))
      have I2 := ha2
      replace I2 := I2.q Q0
      have I3 := ha3
      replace I3 := I3.q Q0
      have z0 : w.heap.size + 4 ≤ (((((w.alloc (.cells #[.int .i64 a0x0, .int .i64 a0x1] 23)).alloc (.cells #[.int .i64 a1x0, .int .i64 a1x1, .int .i64 a1x2, .int .i64 a1x3] 25)).alloc (.cells #[.slice a2A a2n a2c] 28)).alloc (.cells #[.slice a3A a3n a3c] 28))).heap.size := by simp
      go_wp2_with fail
      refine (szTrack_any a2A a2n a2c 1048576 _ (by omega) (by omega) hn2).mono ?_
      rintro e wz2 ⟨rfl, qz2⟩
      replace B0 := B0.q qz2
      replace B1 := B1.q qz2
      replace B2 := B2.q qz2
      replace B3 := B3.q qz2
      replace Q0 := Q0.trans qz2
      replace I2 := I2.q qz2
      replace I3 := I3.q qz2
      have zz2 := qz2.size
      rw [if_pos (by omega)]
      have cB0 := B0.cell
      have cB1 := B1.cell
      have cB2 := B2.cell
      have cB3 := B3.cell
      go_wp2_with fail
      clear cB0
      clear cB1
      clear cB2
      clear cB3
      refine (szTrack_any a3A a3n a3c (1048576 - (a2n : Int)) _ (by omega) (by omega) hn3).mono ?_
      rintro e wz3 ⟨rfl, qz3⟩
      replace B0 := B0.q qz3
      replace B1 := B1.q qz3
      replace B2 := B2.q qz3
      replace B3 := B3.q qz3
      replace Q0 := Q0.trans qz3
      replace I2 := I2.q qz3
      replace I3 := I3.q qz3
      have zz3 := qz3.size
      rw [if_pos (by omega)]
      have cB0 := B0.cell
      have cB1 := B1.cell
      have cB2 := B2.cell
      have cB3 := B3.cell
      go_wp2_with fail
      clear cB0
      clear cB1
      clear cB2
      clear cB3
      have cB0 := B0.cell
      have lB0 := B0.lt
      have cB1 := B1.cell
      have lB1 := B1.lt
      have cB2 := B2.cell
      have lB2 := B2.lt
      have cB3 := B3.cell
      have lB3 := B3.lt
      go_wp2_with fail
      clear cB0 lB0
      clear cB1 lB1
      clear cB2 lB2
      clear cB3 lB3
      have WQ1 := Q.refl (wz3)
      have hS1 : ∀ w', Q (wz3) w' → (Q (wz3) w' ∧ w'.cell? ⟨w.heap.size, 0, none⟩ = some (.int .i64 a0x0) ∧ w'.cell? ⟨w.heap.size, 1, none⟩ = some (.int .i64 a0x1) ∧ w'.cell? ⟨w.heap.size + 1, 0, none⟩ = some (.int .i64 a1x0) ∧ w'.cell? ⟨w.heap.size + 1, 1, none⟩ = some (.int .i64 a1x1) ∧ w'.cell? ⟨w.heap.size + 1, 2, none⟩ = some (.int .i64 a1x2) ∧ w'.cell? ⟨w.heap.size + 1, 3, none⟩ = some (.int .i64 a1x3) ∧ w'.cell? ⟨w.heap.size + 1 + 1, 0, none⟩ = some (.slice a2A a2n a2c) ∧ w'.cell? ⟨w.heap.size + 1 + 1 + 1, 0, none⟩ = some (.slice a3A a3n a3c)) := fun w' q => ⟨q, (B0.q q).cell _, (B0.q q).cell _, (B1.q q).cell _, (B1.q q).cell _, (B1.q q).cell _, (B1.q q).cell _, (B2.q q).cell _, (B3.q q).cell _⟩
      go_region_held3 (fun w' => Q (wz3) w' ∧ w'.cell? ⟨w.heap.size, 0, none⟩ = some (.int .i64 a0x0) ∧ w'.cell? ⟨w.heap.size, 1, none⟩ = some (.int .i64 a0x1) ∧ w'.cell? ⟨w.heap.size + 1, 0, none⟩ = some (.int .i64 a1x0) ∧ w'.cell? ⟨w.heap.size + 1, 1, none⟩ = some (.int .i64 a1x1) ∧ w'.cell? ⟨w.heap.size + 1, 2, none⟩ = some (.int .i64 a1x2) ∧ w'.cell? ⟨w.heap.size + 1, 3, none⟩ = some (.int .i64 a1x3) ∧ w'.cell? ⟨w.heap.size + 1 + 1, 0, none⟩ = some (.slice a2A a2n a2c) ∧ w'.cell? ⟨w.heap.size + 1 + 1 + 1, 0, none⟩ = some (.slice a3A a3n a3c)) (first | exact hS1 _ (by first | assumption | exact QR | exact (Q.refl _).drew) | (go_split_ands; exact hS1 _ (by first | assumption | exact QR | exact (Q.refl _).drew))) (first | (go_at_call 8; refine (toWind_any a0x0 a0x1 _).mono ?_; rintro e wr0 ⟨rfl, qr0⟩; have QR : Q (wz3) _ := Q.trans (by first | assumption | exact (Q.refl _).drew) qr0; have zr := QR.size) | (go_at_call 9; refine (toWatch_any a1x0 a1x1 a1x2 a1x3 _).mono ?_; rintro e wr1 ⟨rfl, qr1⟩; have QR : Q (wz3) _ := Q.trans (by first | assumption | exact (Q.refl _).drew) qr1; have zr := QR.size) | (go_at_call 10; refine (toTrack_any a2A a2n a2c a2xs _ (I2.q (by first | assumption | exact (Q.refl _).drew)) HL2.out (by omega)).mono ?_; rintro e wr2 ⟨A2s, c2s, rfl, o2s, qr2⟩; have QR : Q (wz3) _ := Q.trans (by first | assumption | exact (Q.refl _).drew) qr2; have zr := QR.size; skip) | (go_at_call 10; refine (toTrack_any a3A a3n a3c a3xs _ (I3.q (by first | assumption | exact (Q.refl _).drew)) HL3.out (by omega)).mono ?_; rintro e wr3 ⟨A3s, c3s, rfl, o3s, qr3⟩; have QR : Q (wz3) _ := Q.trans (by first | assumption | exact (Q.refl _).drew) qr3; have zr := QR.size; skip; replace o2s := o2s.q qr3) | (go_at_call 7; refine (K0.out A2s c2s A3s c3s _ o2s.rd HL2.out (by omega) o3s.rd HL3.out (by omega)).mono ?_; rintro e w1 ⟨Gs, ds, rfl, gs, qf1⟩; have QR : Q (wz3) _ := Q.trans (by first | assumption | exact (Q.refl _).drew) qf1))
      replace B0 := B0.q QR
      replace B1 := B1.q QR
      replace B2 := B2.q QR
      replace B3 := B3.q QR
      replace Q0 := Q0.trans QR
      replace I2 := I2.q QR
      replace I3 := I3.q QR
      have z1 := QR.size
      clear QR
      have fgs := gs.from
      have HGs := Lib.hid (show L0.length = n0 * 5 by simpa using gs.1)
      have cB0 := B0.cell
      have lB0 := B0.lt
      have cB1 := B1.cell
      have lB1 := B1.lt
      have cB2 := B2.cell
      have lB2 := B2.lt
      have cB3 := B3.cell
      have lB3 := B3.lt
      go_wp2_with fail
      clear cB0 lB0
      clear cB1 lB1
      clear cB2 lB2
      clear cB3 lB3
      refine (toTrack_any a2A a2n a2c a2xs _ I2 HL2.out (by omega)).mono ?_
      rintro e w2 ⟨A2i, c2i, rfl, o2i, q2⟩
      replace B0 := B0.q q2
      replace B1 := B1.q q2
      replace B2 := B2.q q2
      replace B3 := B3.q q2
      replace Q0 := Q0.trans q2
      replace I2 := I2.q q2
      replace I3 := I3.q q2
      replace gs := gs.q q2
      have z2 := q2.size
      have fo2i := o2i.from
      have cB0 := B0.cell
      have lB0 := B0.lt
      have cB1 := B1.cell
      have lB1 := B1.lt
      have cB2 := B2.cell
      have lB2 := B2.lt
      have cB3 := B3.cell
      have lB3 := B3.lt
      go_wp2_with fail
      clear cB0 lB0
      clear cB1 lB1
      clear cB2 lB2
      clear cB3 lB3
      have BX2 := Blk.new w2 39 #[.slice A2i a2n c2i]
      replace B0 := B0.q ((Q.refl _).alloc (.cells #[.slice A2i a2n c2i] 39))
      replace B1 := B1.q ((Q.refl _).alloc (.cells #[.slice A2i a2n c2i] 39))
      replace B2 := B2.q ((Q.refl _).alloc (.cells #[.slice A2i a2n c2i] 39))
      replace B3 := B3.q ((Q.refl _).alloc (.cells #[.slice A2i a2n c2i] 39))
      replace Q0 := Q0.trans ((Q.refl _).alloc (.cells #[.slice A2i a2n c2i] 39))
      replace I2 := I2.q ((Q.refl _).alloc (.cells #[.slice A2i a2n c2i] 39))
      replace I3 := I3.q ((Q.refl _).alloc (.cells #[.slice A2i a2n c2i] 39))
      replace gs := gs.q ((Q.refl _).alloc (.cells #[.slice A2i a2n c2i] 39))
      replace o2i := o2i.q ((Q.refl _).alloc (.cells #[.slice A2i a2n c2i] 39))
      have zx2 : w2.heap.size ≤ (w2.alloc (.cells #[.slice A2i a2n c2i] 39)).heap.size := by simp
      have gx2 : w2.heap.size < (w2.alloc (.cells #[.slice A2i a2n c2i] 39)).heap.size := by simp
      refine (toTrack_any a3A a3n a3c a3xs _ I3 HL3.out (by omega)).mono ?_
      rintro e w3 ⟨A3i, c3i, rfl, o3i, q3⟩
      replace B0 := B0.q q3
      replace B1 := B1.q q3
      replace B2 := B2.q q3
      replace B3 := B3.q q3
      replace Q0 := Q0.trans q3
      replace I2 := I2.q q3
      replace I3 := I3.q q3
      replace gs := gs.q q3
      replace o2i := o2i.q q3
      replace BX2 := BX2.q q3
      have z3 := q3.size
      have fo3i := o3i.from
      have cB0 := B0.cell
      have lB0 := B0.lt
      have cB1 := B1.cell
      have lB1 := B1.lt
      have cB2 := B2.cell
      have lB2 := B2.lt
      have cB3 := B3.cell
      have lB3 := B3.lt
      have cBX2 := BX2.cell
      have lBX2 := BX2.lt
      go_wp2_with fail
      clear cB0 lB0
      clear cB1 lB1
      clear cB2 lB2
      clear cB3 lB3
      clear cBX2 lBX2
      have BX3 := Blk.new w3 39 #[.slice A3i a3n c3i]
      replace B0 := B0.q ((Q.refl _).alloc (.cells #[.slice A3i a3n c3i] 39))
      replace B1 := B1.q ((Q.refl _).alloc (.cells #[.slice A3i a3n c3i] 39))
      replace B2 := B2.q ((Q.refl _).alloc (.cells #[.slice A3i a3n c3i] 39))
      replace B3 := B3.q ((Q.refl _).alloc (.cells #[.slice A3i a3n c3i] 39))
      replace Q0 := Q0.trans ((Q.refl _).alloc (.cells #[.slice A3i a3n c3i] 39))
      replace I2 := I2.q ((Q.refl _).alloc (.cells #[.slice A3i a3n c3i] 39))
      replace I3 := I3.q ((Q.refl _).alloc (.cells #[.slice A3i a3n c3i] 39))
      replace gs := gs.q ((Q.refl _).alloc (.cells #[.slice A3i a3n c3i] 39))
      replace o2i := o2i.q ((Q.refl _).alloc (.cells #[.slice A3i a3n c3i] 39))
      replace BX2 := BX2.q ((Q.refl _).alloc (.cells #[.slice A3i a3n c3i] 39))
      replace o3i := o3i.q ((Q.refl _).alloc (.cells #[.slice A3i a3n c3i] 39))
      have zx3 : w3.heap.size ≤ (w3.alloc (.cells #[.slice A3i a3n c3i] 39)).heap.size := by simp
      have gx3 : w3.heap.size < (w3.alloc (.cells #[.slice A3i a3n c3i] 39)).heap.size := by simp
      have WQ4 := Q.refl ((w3.alloc (.cells #[.slice A3i a3n c3i] 39)))
      have hS4 : ∀ w', Q ((w3.alloc (.cells #[.slice A3i a3n c3i] 39))) w' → (Q ((w3.alloc (.cells #[.slice A3i a3n c3i] 39))) w' ∧ w'.cell? ⟨w2.heap.size, 0, none⟩ = some (.slice A2i a2n c2i) ∧ w'.cell? ⟨w3.heap.size, 0, none⟩ = some (.slice A3i a3n c3i) ∧ w'.cell? ⟨w.heap.size, 0, none⟩ = some (.int .i64 a0x0) ∧ w'.cell? ⟨w.heap.size, 1, none⟩ = some (.int .i64 a0x1) ∧ w'.cell? ⟨w.heap.size + 1, 0, none⟩ = some (.int .i64 a1x0) ∧ w'.cell? ⟨w.heap.size + 1, 1, none⟩ = some (.int .i64 a1x1) ∧ w'.cell? ⟨w.heap.size + 1, 2, none⟩ = some (.int .i64 a1x2) ∧ w'.cell? ⟨w.heap.size + 1, 3, none⟩ = some (.int .i64 a1x3) ∧ w'.cell? ⟨w.heap.size + 1 + 1, 0, none⟩ = some (.slice a2A a2n a2c) ∧ w'.cell? ⟨w.heap.size + 1 + 1 + 1, 0, none⟩ = some (.slice a3A a3n a3c)) := fun w' q => ⟨q, (BX2.q q).cell _, (BX3.q q).cell _, (B0.q q).cell _, (B0.q q).cell _, (B1.q q).cell _, (B1.q q).cell _, (B1.q q).cell _, (B1.q q).cell _, (B2.q q).cell _, (B3.q q).cell _⟩
      go_region_held3 (fun w' => Q ((w3.alloc (.cells #[.slice A3i a3n c3i] 39))) w' ∧ w'.cell? ⟨w2.heap.size, 0, none⟩ = some (.slice A2i a2n c2i) ∧ w'.cell? ⟨w3.heap.size, 0, none⟩ = some (.slice A3i a3n c3i) ∧ w'.cell? ⟨w.heap.size, 0, none⟩ = some (.int .i64 a0x0) ∧ w'.cell? ⟨w.heap.size, 1, none⟩ = some (.int .i64 a0x1) ∧ w'.cell? ⟨w.heap.size + 1, 0, none⟩ = some (.int .i64 a1x0) ∧ w'.cell? ⟨w.heap.size + 1, 1, none⟩ = some (.int .i64 a1x1) ∧ w'.cell? ⟨w.heap.size + 1, 2, none⟩ = some (.int .i64 a1x2) ∧ w'.cell? ⟨w.heap.size + 1, 3, none⟩ = some (.int .i64 a1x3) ∧ w'.cell? ⟨w.heap.size + 1 + 1, 0, none⟩ = some (.slice a2A a2n a2c) ∧ w'.cell? ⟨w.heap.size + 1 + 1 + 1, 0, none⟩ = some (.slice a3A a3n a3c)) (first | exact hS4 _ (by first | assumption | exact QR | exact (Q.refl _).drew) | (go_split_ands; exact hS4 _ (by first | assumption | exact QR | exact (Q.refl _).drew))) (first | (go_at_call 8; refine (toWind_any a0x0 a0x1 _).mono ?_; rintro e wr0 ⟨rfl, qr0⟩; have QR : Q ((w3.alloc (.cells #[.slice A3i a3n c3i] 39))) _ := Q.trans (by first | assumption | exact (Q.refl _).drew) qr0; have zr := QR.size) | (go_at_call 9; refine (toWatch_any a1x0 a1x1 a1x2 a1x3 _).mono ?_; rintro e wr1 ⟨rfl, qr1⟩; have QR : Q ((w3.alloc (.cells #[.slice A3i a3n c3i] 39))) _ := Q.trans (by first | assumption | exact (Q.refl _).drew) qr1; have zr := QR.size) | (go_at_call 11; refine (K1.out A2i c2i A3i c3i _ (o2i.q (by first | assumption | exact (Q.refl _).drew)).rd HL2.out (by omega) (o3i.q (by first | assumption | exact (Q.refl _).drew)).rd HL3.out (by omega)).mono ?_; rintro e w4 ⟨Gi, di, rfl, gi, qf4⟩; have QR : Q ((w3.alloc (.cells #[.slice A3i a3n c3i] 39))) _ := Q.trans (by first | assumption | exact (Q.refl _).drew) qf4))
      replace B0 := B0.q QR
      replace B1 := B1.q QR
      replace B2 := B2.q QR
      replace B3 := B3.q QR
      replace Q0 := Q0.trans QR
      replace I2 := I2.q QR
      replace I3 := I3.q QR
      replace gs := gs.q QR
      replace o2i := o2i.q QR
      replace BX2 := BX2.q QR
      replace o3i := o3i.q QR
      replace BX3 := BX3.q QR
      have z4 := QR.size
      clear QR
      have fgi := gi.from
      have HGi := Lib.hid (show L0.length = n0 * 5 by simpa using gi.1)
      have cB0 := B0.cell
      have lB0 := B0.lt
      have cB1 := B1.cell
      have lB1 := B1.lt
      have cB2 := B2.cell
      have lB2 := B2.lt
      have cB3 := B3.cell
      have lB3 := B3.lt
      have cBX2 := BX2.cell
      have lBX2 := BX2.lt
      have cBX3 := BX3.cell
      have lBX3 := BX3.lt
      go_wp2_with fail
      clear cB0 lB0
      clear cB1 lB1
      clear cB2 lB2
      clear cB3 lB3
      clear cBX2 lBX2
      clear cBX3 lBX3
      refine (eqIncidentS_same Gi Gs n0 di ds L0 _ gi.rd gs.rd HGi.out (by omega)).mono ?_
      rintro e w5 ⟨rfl, q5⟩
      replace B0 := B0.q q5
      replace B1 := B1.q q5
      replace B2 := B2.q q5
      replace B3 := B3.q q5
      replace Q0 := Q0.trans q5
      replace I2 := I2.q q5
      replace I3 := I3.q q5
      replace gs := gs.q q5
      replace o2i := o2i.q q5
      replace BX2 := BX2.q q5
      replace o3i := o3i.q q5
      replace BX3 := BX3.q q5
      replace gi := gi.q q5
      have z5 := q5.size
      have cB0 := B0.cell
      have lB0 := B0.lt
      have cB1 := B1.cell
      have lB1 := B1.lt
      have cB2 := B2.cell
      have lB2 := B2.lt
      have cB3 := B3.cell
      have lB3 := B3.lt
      have cBX2 := BX2.cell
      have lBX2 := BX2.lt
      have cBX3 := BX3.cell
      have lBX3 := BX3.lt
      go_wp2_with fail
      clear cB0 lB0
      clear cB1 lB1
      clear cB2 lB2
      clear cB3 lB3
      clear cBX2 lBX2
      clear cBX3 lBX3
      have hS6 : ∀ w', Q w5 w' → (Q w5 w' ∧ w'.cell? ⟨w2.heap.size, 0, none⟩ = some (.slice A2i a2n c2i) ∧ w'.cell? ⟨w3.heap.size, 0, none⟩ = some (.slice A3i a3n c3i) ∧ w'.cell? ⟨w.heap.size, 0, none⟩ = some (.int .i64 a0x0) ∧ w'.cell? ⟨w.heap.size, 1, none⟩ = some (.int .i64 a0x1) ∧ w'.cell? ⟨w.heap.size + 1, 0, none⟩ = some (.int .i64 a1x0) ∧ w'.cell? ⟨w.heap.size + 1, 1, none⟩ = some (.int .i64 a1x1) ∧ w'.cell? ⟨w.heap.size + 1, 2, none⟩ = some (.int .i64 a1x2) ∧ w'.cell? ⟨w.heap.size + 1, 3, none⟩ = some (.int .i64 a1x3) ∧ w'.cell? ⟨w.heap.size + 1 + 1, 0, none⟩ = some (.slice a2A a2n a2c) ∧ w'.cell? ⟨w.heap.size + 1 + 1 + 1, 0, none⟩ = some (.slice a3A a3n a3c)) := fun w' q => ⟨q, (BX2.q q).cell _, (BX3.q q).cell _, (B0.q q).cell _, (B0.q q).cell _, (B1.q q).cell _, (B1.q q).cell _, (B1.q q).cell _, (B1.q q).cell _, (B2.q q).cell _, (B3.q q).cell _⟩
      go_region_held3 (fun w' => Q w5 w' ∧ w'.cell? ⟨w2.heap.size, 0, none⟩ = some (.slice A2i a2n c2i) ∧ w'.cell? ⟨w3.heap.size, 0, none⟩ = some (.slice A3i a3n c3i) ∧ w'.cell? ⟨w.heap.size, 0, none⟩ = some (.int .i64 a0x0) ∧ w'.cell? ⟨w.heap.size, 1, none⟩ = some (.int .i64 a0x1) ∧ w'.cell? ⟨w.heap.size + 1, 0, none⟩ = some (.int .i64 a1x0) ∧ w'.cell? ⟨w.heap.size + 1, 1, none⟩ = some (.int .i64 a1x1) ∧ w'.cell? ⟨w.heap.size + 1, 2, none⟩ = some (.int .i64 a1x2) ∧ w'.cell? ⟨w.heap.size + 1, 3, none⟩ = some (.int .i64 a1x3) ∧ w'.cell? ⟨w.heap.size + 1 + 1, 0, none⟩ = some (.slice a2A a2n a2c) ∧ w'.cell? ⟨w.heap.size + 1 + 1 + 1, 0, none⟩ = some (.slice a3A a3n a3c)) (first | exact hS6 _ (by first | assumption | exact QR | exact (Q.refl _).drew) | (go_split_ands; exact hS6 _ (by first | assumption | exact QR | exact (Q.refl _).drew))) (first | (go_at_call 10; refine (toTrack_any a2A a2n a2c a2xs _ (I2.q (by first | assumption | exact (Q.refl _).drew)) HL2.out (by omega)).mono ?_; rintro e wr6 ⟨A2q6, c2q6, rfl, o2q6, qr6⟩; have QR : Q w5 _ := Q.trans (by first | assumption | exact (Q.refl _).drew) qr6) | (go_at_call 13; refine (eqTrack_same A2i A2q6 a2n c2i c2q6 a2xs _ (o2i.q (by first | assumption | exact (Q.refl _).drew)).rd o2q6.rd HL2.out (by omega)).mono ?_; rintro e w6 ⟨rfl, qf6⟩; have QR : Q w5 _ := Q.trans (by first | assumption | exact (Q.refl _).drew) qf6))
      replace B0 := B0.q QR
      replace B1 := B1.q QR
      replace B2 := B2.q QR
      replace B3 := B3.q QR
      replace Q0 := Q0.trans QR
      replace I2 := I2.q QR
      replace I3 := I3.q QR
      replace gs := gs.q QR
      replace o2i := o2i.q QR
      replace BX2 := BX2.q QR
      replace o3i := o3i.q QR
      replace BX3 := BX3.q QR
      replace gi := gi.q QR
      have z6 := QR.size
      clear QR
      have cB0 := B0.cell
      have lB0 := B0.lt
      have cB1 := B1.cell
      have lB1 := B1.lt
      have cB2 := B2.cell
      have lB2 := B2.lt
      have cB3 := B3.cell
      have lB3 := B3.lt
      have cBX2 := BX2.cell
      have lBX2 := BX2.lt
      have cBX3 := BX3.cell
      have lBX3 := BX3.lt
      go_wp2_with fail
      clear cB0 lB0
      clear cB1 lB1
      clear cB2 lB2
      clear cB3 lB3
      clear cBX2 lBX2
      clear cBX3 lBX3
      have hS7 : ∀ w', Q w6 w' → (Q w6 w' ∧ w'.cell? ⟨w2.heap.size, 0, none⟩ = some (.slice A2i a2n c2i) ∧ w'.cell? ⟨w3.heap.size, 0, none⟩ = some (.slice A3i a3n c3i) ∧ w'.cell? ⟨w.heap.size, 0, none⟩ = some (.int .i64 a0x0) ∧ w'.cell? ⟨w.heap.size, 1, none⟩ = some (.int .i64 a0x1) ∧ w'.cell? ⟨w.heap.size + 1, 0, none⟩ = some (.int .i64 a1x0) ∧ w'.cell? ⟨w.heap.size + 1, 1, none⟩ = some (.int .i64 a1x1) ∧ w'.cell? ⟨w.heap.size + 1, 2, none⟩ = some (.int .i64 a1x2) ∧ w'.cell? ⟨w.heap.size + 1, 3, none⟩ = some (.int .i64 a1x3) ∧ w'.cell? ⟨w.heap.size + 1 + 1, 0, none⟩ = some (.slice a2A a2n a2c) ∧ w'.cell? ⟨w.heap.size + 1 + 1 + 1, 0, none⟩ = some (.slice a3A a3n a3c)) := fun w' q => ⟨q, (BX2.q q).cell _, (BX3.q q).cell _, (B0.q q).cell _, (B0.q q).cell _, (B1.q q).cell _, (B1.q q).cell _, (B1.q q).cell _, (B1.q q).cell _, (B2.q q).cell _, (B3.q q).cell _⟩
      go_region_held3 (fun w' => Q w6 w' ∧ w'.cell? ⟨w2.heap.size, 0, none⟩ = some (.slice A2i a2n c2i) ∧ w'.cell? ⟨w3.heap.size, 0, none⟩ = some (.slice A3i a3n c3i) ∧ w'.cell? ⟨w.heap.size, 0, none⟩ = some (.int .i64 a0x0) ∧ w'.cell? ⟨w.heap.size, 1, none⟩ = some (.int .i64 a0x1) ∧ w'.cell? ⟨w.heap.size + 1, 0, none⟩ = some (.int .i64 a1x0) ∧ w'.cell? ⟨w.heap.size + 1, 1, none⟩ = some (.int .i64 a1x1) ∧ w'.cell? ⟨w.heap.size + 1, 2, none⟩ = some (.int .i64 a1x2) ∧ w'.cell? ⟨w.heap.size + 1, 3, none⟩ = some (.int .i64 a1x3) ∧ w'.cell? ⟨w.heap.size + 1 + 1, 0, none⟩ = some (.slice a2A a2n a2c) ∧ w'.cell? ⟨w.heap.size + 1 + 1 + 1, 0, none⟩ = some (.slice a3A a3n a3c)) (first | exact hS7 _ (by first | assumption | exact QR | exact (Q.refl _).drew) | (go_split_ands; exact hS7 _ (by first | assumption | exact QR | exact (Q.refl _).drew))) (first | (go_at_call 10; refine (toTrack_any a3A a3n a3c a3xs _ (I3.q (by first | assumption | exact (Q.refl _).drew)) HL3.out (by omega)).mono ?_; rintro e wr7 ⟨A3q7, c3q7, rfl, o3q7, qr7⟩; have QR : Q w6 _ := Q.trans (by first | assumption | exact (Q.refl _).drew) qr7) | (go_at_call 13; refine (eqTrack_same A3i A3q7 a3n c3i c3q7 a3xs _ (o3i.q (by first | assumption | exact (Q.refl _).drew)).rd o3q7.rd HL3.out (by omega)).mono ?_; rintro e w7 ⟨rfl, qf7⟩; have QR : Q w6 _ := Q.trans (by first | assumption | exact (Q.refl _).drew) qf7))
      replace B0 := B0.q QR
      replace B1 := B1.q QR
      replace B2 := B2.q QR
      replace B3 := B3.q QR
      replace Q0 := Q0.trans QR
      replace I2 := I2.q QR
      replace I3 := I3.q QR
      replace gs := gs.q QR
      replace o2i := o2i.q QR
      replace BX2 := BX2.q QR
      replace o3i := o3i.q QR
      replace BX3 := BX3.q QR
      replace gi := gi.q QR
      have z7 := QR.size
      clear QR
      have cB0 := B0.cell
      have lB0 := B0.lt
      have cB1 := B1.cell
      have lB1 := B1.lt
      have cB2 := B2.cell
      have lB2 := B2.lt
      have cB3 := B3.cell
      have lB3 := B3.lt
      have cBX2 := BX2.cell
      have lBX2 := BX2.lt
      have cBX3 := BX3.cell
      have lBX3 := BX3.lt
      go_wp2_with fail
      clear cB0 lB0
      clear cB1 lB1
      clear cB2 lB2
      clear cB3 lB3
      clear cBX2 lBX2
      clear cBX3 lBX3
      refine (markTrack_any A2i a2n c2i _ a2xs 1 _ o2i (by omega) (by omega)).mono ?_
      rintro e w8 ⟨rfl, mo2i, G8⟩
      have z8 := G8.size
      first | replace B0 := Blk.markU B0 fo2i (by omega) G8 | replace B0 := Blk.markU2 B0 fo2i (by omega) G8
      first | replace B1 := Blk.markU B1 fo2i (by omega) G8 | replace B1 := Blk.markU2 B1 fo2i (by omega) G8
      first | replace B2 := Blk.markU B2 fo2i (by omega) G8 | replace B2 := Blk.markU2 B2 fo2i (by omega) G8
      first | replace B3 := Blk.markU B3 fo2i (by omega) G8 | replace B3 := Blk.markU2 B3 fo2i (by omega) G8
      replace Q0 := Q0.markU fo2i (by omega) G8
      replace I2 := Rd.markU ha2 I2 (fun p hp => by have := fo2i p hp; omega) G8
      replace I3 := Rd.markU ha3 I3 (fun p hp => by have := fo2i p hp; omega) G8
      replace gs := gs.far G8 (by first | exact far_lt fgs fo2i (by omega) | exact (far_lt fo2i fgs (by omega)).symm)
      first | replace BX2 := Blk.markU BX2 fo2i (by omega) G8 | replace BX2 := Blk.markU2 BX2 fo2i (by omega) G8
      replace o3i := o3i.far G8 (by first | exact far_lt fo3i fo2i (by omega) | exact (far_lt fo2i fo3i (by omega)).symm)
      first | replace BX3 := Blk.markU BX3 fo2i (by omega) G8 | replace BX3 := Blk.markU2 BX3 fo2i (by omega) G8
      replace gi := gi.far G8 (by first | exact far_lt fgi fo2i (by omega) | exact (far_lt fo2i fgi (by omega)).symm)
      replace o2i := mo2i
      have cB0 := B0.cell
      have lB0 := B0.lt
      have cB1 := B1.cell
      have lB1 := B1.lt
      have cB2 := B2.cell
      have lB2 := B2.lt
      have cB3 := B3.cell
      have lB3 := B3.lt
      have cBX2 := BX2.cell
      have lBX2 := BX2.lt
      have cBX3 := BX3.cell
      have lBX3 := BX3.lt
      go_wp2_with fail
      clear cB0 lB0
      clear cB1 lB1
      clear cB2 lB2
      clear cB3 lB3
      clear cBX2 lBX2
      clear cBX3 lBX3
      refine (markTrack_any A3i a3n c3i _ a3xs (1 + (a2n : Int) * 3) _ o3i (by omega) (by omega)).mono ?_
      rintro e w9 ⟨rfl, mo3i, G9⟩
      have z9 := G9.size
      first | replace B0 := Blk.markU B0 fo3i (by omega) G9 | replace B0 := Blk.markU2 B0 fo3i (by omega) G9
      first | replace B1 := Blk.markU B1 fo3i (by omega) G9 | replace B1 := Blk.markU2 B1 fo3i (by omega) G9
      first | replace B2 := Blk.markU B2 fo3i (by omega) G9 | replace B2 := Blk.markU2 B2 fo3i (by omega) G9
      first | replace B3 := Blk.markU B3 fo3i (by omega) G9 | replace B3 := Blk.markU2 B3 fo3i (by omega) G9
      replace Q0 := Q0.markU fo3i (by omega) G9
      replace I2 := Rd.markU ha2 I2 (fun p hp => by have := fo3i p hp; omega) G9
      replace I3 := Rd.markU ha3 I3 (fun p hp => by have := fo3i p hp; omega) G9
      replace gs := gs.far G9 (by first | exact far_lt fgs fo3i (by omega) | exact (far_lt fo3i fgs (by omega)).symm)
      replace o2i := o2i.far G9 (by first | exact far_lt fo2i fo3i (by omega) | exact (far_lt fo3i fo2i (by omega)).symm)
      first | replace BX2 := Blk.markU BX2 fo3i (by omega) G9 | replace BX2 := Blk.markU2 BX2 fo3i (by omega) G9
      first | replace BX3 := Blk.markU BX3 fo3i (by omega) G9 | replace BX3 := Blk.markU2 BX3 fo3i (by omega) G9
      replace gi := gi.far G9 (by first | exact far_lt fgi fo3i (by omega) | exact (far_lt fo3i fgi (by omega)).symm)
      replace o3i := mo3i
      have cB0 := B0.cell
      have lB0 := B0.lt
      have cB1 := B1.cell
      have lB1 := B1.lt
      have cB2 := B2.cell
      have lB2 := B2.lt
      have cB3 := B3.cell
      have lB3 := B3.lt
      have cBX2 := BX2.cell
      have lBX2 := BX2.lt
      have cBX3 := BX3.cell
      have lBX3 := BX3.lt
      go_wp2_with fail
      clear cB0 lB0
      clear cB1 lB1
      clear cB2 lB2
      clear cB3 lB3
      clear cBX2 lBX2
      clear cBX3 lBX3
      refine (eqIncidentS_same Gi Gs n0 di ds L0 _ gi.rd gs.rd HGi.out (by omega)).mono ?_
      rintro e w10 ⟨rfl, q10⟩
      replace B0 := B0.q q10
      replace B1 := B1.q q10
      replace B2 := B2.q q10
      replace B3 := B3.q q10
      replace Q0 := Q0.trans q10
      replace I2 := I2.q q10
      replace I3 := I3.q q10
      replace gs := gs.q q10
      replace o2i := o2i.q q10
      replace BX2 := BX2.q q10
      replace o3i := o3i.q q10
      replace BX3 := BX3.q q10
      replace gi := gi.q q10
      have z10 := q10.size
      have cB0 := B0.cell
      have lB0 := B0.lt
      have cB1 := B1.cell
      have lB1 := B1.lt
      have cB2 := B2.cell
      have lB2 := B2.lt
      have cB3 := B3.cell
      have lB3 := B3.lt
      have cBX2 := BX2.cell
      have lBX2 := BX2.lt
      have cBX3 := BX3.cell
      have lBX3 := BX3.lt
      go_wp2_with fail
      clear cB0 lB0
      clear cB1 lB1
      clear cB2 lB2
      clear cB3 lB3
      clear cBX2 lBX2
      clear cBX3 lBX3
      refine (markIncidentS_any Gi n0 di _ L0 1 _ gi (by omega) (by omega)).mono ?_
      rintro e w11 ⟨rfl, mgi, G11⟩
      have z11 := G11.size
      first | replace B0 := Blk.markU B0 fgi (by omega) G11 | replace B0 := Blk.markU2 B0 fgi (by omega) G11
      first | replace B1 := Blk.markU B1 fgi (by omega) G11 | replace B1 := Blk.markU2 B1 fgi (by omega) G11
      first | replace B2 := Blk.markU B2 fgi (by omega) G11 | replace B2 := Blk.markU2 B2 fgi (by omega) G11
      first | replace B3 := Blk.markU B3 fgi (by omega) G11 | replace B3 := Blk.markU2 B3 fgi (by omega) G11
      replace Q0 := Q0.markU fgi (by omega) G11
      replace I2 := Rd.markU ha2 I2 (fun p hp => by have := fgi p hp; omega) G11
      replace I3 := Rd.markU ha3 I3 (fun p hp => by have := fgi p hp; omega) G11
      replace gs := gs.far G11 (by first | exact far_lt fgs fgi (by omega) | exact (far_lt fgi fgs (by omega)).symm)
      replace o2i := o2i.far G11 (by first | exact far_lt fo2i fgi (by omega) | exact (far_lt fgi fo2i (by omega)).symm)
      first | replace BX2 := Blk.markU BX2 fgi (by omega) G11 | replace BX2 := Blk.markU2 BX2 fgi (by omega) G11
      replace o3i := o3i.far G11 (by first | exact far_lt fo3i fgi (by omega) | exact (far_lt fgi fo3i (by omega)).symm)
      first | replace BX3 := Blk.markU BX3 fgi (by omega) G11 | replace BX3 := Blk.markU2 BX3 fgi (by omega) G11
      replace gi := mgi
      have cB0 := B0.cell
      have lB0 := B0.lt
      have cB1 := B1.cell
      have lB1 := B1.lt
      have cB2 := B2.cell
      have lB2 := B2.lt
      have cB3 := B3.cell
      have lB3 := B3.lt
      have cBX2 := BX2.cell
      have lBX2 := BX2.lt
      have cBX3 := BX3.cell
      have lBX3 := BX3.lt
      go_wp2_with fail
      clear cB0 lB0
      clear cB1 lB1
      clear cB2 lB2
      clear cB3 lB3
      clear cBX2 lBX2
      clear cBX3 lBX3
      refine (heldIncidentS_any Gi n0 di 1 _ gi.rd (by omega) (by omega)).mono ?_
      rintro e w12 ⟨rfl, q12⟩
      replace B0 := B0.q q12
      replace B1 := B1.q q12
      replace B2 := B2.q q12
      replace B3 := B3.q q12
      replace Q0 := Q0.trans q12
      replace I2 := I2.q q12
      replace I3 := I3.q q12
      replace gs := gs.q q12
      replace o2i := o2i.q q12
      replace BX2 := BX2.q q12
      replace o3i := o3i.q q12
      replace BX3 := BX3.q q12
      replace gi := gi.q q12
      have z12 := q12.size
      have cB0 := B0.cell
      have lB0 := B0.lt
      have cB1 := B1.cell
      have lB1 := B1.lt
      have cB2 := B2.cell
      have lB2 := B2.lt
      have cB3 := B3.cell
      have lB3 := B3.lt
      have cBX2 := BX2.cell
      have lBX2 := BX2.lt
      have cBX3 := BX3.cell
      have lBX3 := BX3.lt
      go_wp2_with fail
      clear cB0 lB0
      clear cB1 lB1
      clear cB2 lB2
      clear cB3 lB3
      clear cBX2 lBX2
      clear cBX3 lBX3
      clear o2i
      clear o3i
      have WQ13 := Q.refl (w12)
      have hS13 : ∀ w', Q (w12) w' → (Q (w12) w' ∧ w'.cell? ⟨w2.heap.size, 0, none⟩ = some (.slice A2i a2n c2i) ∧ w'.cell? ⟨w3.heap.size, 0, none⟩ = some (.slice A3i a3n c3i) ∧ w'.cell? ⟨w.heap.size, 0, none⟩ = some (.int .i64 a0x0) ∧ w'.cell? ⟨w.heap.size, 1, none⟩ = some (.int .i64 a0x1) ∧ w'.cell? ⟨w.heap.size + 1, 0, none⟩ = some (.int .i64 a1x0) ∧ w'.cell? ⟨w.heap.size + 1, 1, none⟩ = some (.int .i64 a1x1) ∧ w'.cell? ⟨w.heap.size + 1, 2, none⟩ = some (.int .i64 a1x2) ∧ w'.cell? ⟨w.heap.size + 1, 3, none⟩ = some (.int .i64 a1x3) ∧ w'.cell? ⟨w.heap.size + 1 + 1, 0, none⟩ = some (.slice a2A a2n a2c) ∧ w'.cell? ⟨w.heap.size + 1 + 1 + 1, 0, none⟩ = some (.slice a3A a3n a3c)) := fun w' q => ⟨q, (BX2.q q).cell _, (BX3.q q).cell _, (B0.q q).cell _, (B0.q q).cell _, (B1.q q).cell _, (B1.q q).cell _, (B1.q q).cell _, (B1.q q).cell _, (B2.q q).cell _, (B3.q q).cell _⟩
      go_region_held3 (fun w' => Q (w12) w' ∧ w'.cell? ⟨w2.heap.size, 0, none⟩ = some (.slice A2i a2n c2i) ∧ w'.cell? ⟨w3.heap.size, 0, none⟩ = some (.slice A3i a3n c3i) ∧ w'.cell? ⟨w.heap.size, 0, none⟩ = some (.int .i64 a0x0) ∧ w'.cell? ⟨w.heap.size, 1, none⟩ = some (.int .i64 a0x1) ∧ w'.cell? ⟨w.heap.size + 1, 0, none⟩ = some (.int .i64 a1x0) ∧ w'.cell? ⟨w.heap.size + 1, 1, none⟩ = some (.int .i64 a1x1) ∧ w'.cell? ⟨w.heap.size + 1, 2, none⟩ = some (.int .i64 a1x2) ∧ w'.cell? ⟨w.heap.size + 1, 3, none⟩ = some (.int .i64 a1x3) ∧ w'.cell? ⟨w.heap.size + 1 + 1, 0, none⟩ = some (.slice a2A a2n a2c) ∧ w'.cell? ⟨w.heap.size + 1 + 1 + 1, 0, none⟩ = some (.slice a3A a3n a3c)) (first | exact hS13 _ (by first | assumption | exact QR | exact (Q.refl _).drew) | (go_split_ands; exact hS13 _ (by first | assumption | exact QR | exact (Q.refl _).drew))) (first | (go_at_call 8; refine (toWind_any a0x0 a0x1 _).mono ?_; rintro e wr0 ⟨rfl, qr0⟩; have QR : Q (w12) _ := Q.trans (by first | assumption | exact (Q.refl _).drew) qr0; have zr := QR.size) | (go_at_call 9; refine (toWatch_any a1x0 a1x1 a1x2 a1x3 _).mono ?_; rintro e wr1 ⟨rfl, qr1⟩; have QR : Q (w12) _ := Q.trans (by first | assumption | exact (Q.refl _).drew) qr1; have zr := QR.size) | (go_at_call 10; refine (toTrack_any a2A a2n a2c a2xs _ (I2.q (by first | assumption | exact (Q.refl _).drew)) HL2.out (by omega)).mono ?_; rintro e wr2 ⟨A2h, c2h, rfl, o2h, qr2⟩; have QR : Q (w12) _ := Q.trans (by first | assumption | exact (Q.refl _).drew) qr2; have zr := QR.size; skip) | (go_at_call 10; refine (toTrack_any a3A a3n a3c a3xs _ (I3.q (by first | assumption | exact (Q.refl _).drew)) HL3.out (by omega)).mono ?_; rintro e wr3 ⟨A3h, c3h, rfl, o3h, qr3⟩; have QR : Q (w12) _ := Q.trans (by first | assumption | exact (Q.refl _).drew) qr3; have zr := QR.size; skip; replace o2h := o2h.q qr3) | (go_at_call 11; refine (K1.out A2h c2h A3h c3h _ o2h.rd HL2.out (by omega) o3h.rd HL3.out (by omega)).mono ?_; rintro e w13 ⟨Gh, dh, rfl, gh, qf13⟩; have QR : Q (w12) _ := Q.trans (by first | assumption | exact (Q.refl _).drew) qf13))
      replace B0 := B0.q QR
      replace B1 := B1.q QR
      replace B2 := B2.q QR
      replace B3 := B3.q QR
      replace Q0 := Q0.trans QR
      replace I2 := I2.q QR
      replace I3 := I3.q QR
      replace gs := gs.q QR
      replace BX2 := BX2.q QR
      replace BX3 := BX3.q QR
      replace gi := gi.q QR
      have z13 := QR.size
      clear QR
      have fgh := gh.from
      have HGh := Lib.hid (show L0.length = n0 * 5 by simpa using gh.1)
      have cB0 := B0.cell
      have lB0 := B0.lt
      have cB1 := B1.cell
      have lB1 := B1.lt
      have cB2 := B2.cell
      have lB2 := B2.lt
      have cB3 := B3.cell
      have lB3 := B3.lt
      have cBX2 := BX2.cell
      have lBX2 := BX2.lt
      have cBX3 := BX3.cell
      have lBX3 := BX3.lt
      go_wp2_with fail
      clear cB0 lB0
      clear cB1 lB1
      clear cB2 lB2
      clear cB3 lB3
      clear cBX2 lBX2
      clear cBX3 lBX3
      refine (eqIncidentS_same Gh Gs n0 dh ds L0 _ gh.rd gs.rd HGh.out (by omega)).mono ?_
      rintro e w14 ⟨rfl, q14⟩
      replace B0 := B0.q q14
      replace B1 := B1.q q14
      replace B2 := B2.q q14
      replace B3 := B3.q q14
      replace Q0 := Q0.trans q14
      replace I2 := I2.q q14
      replace I3 := I3.q q14
      replace gs := gs.q q14
      replace BX2 := BX2.q q14
      replace BX3 := BX3.q q14
      replace gi := gi.q q14
      replace gh := gh.q q14
      have z14 := q14.size
      have cB0 := B0.cell
      have lB0 := B0.lt
      have cB1 := B1.cell
      have lB1 := B1.lt
      have cB2 := B2.cell
      have lB2 := B2.lt
      have cB3 := B3.cell
      have lB3 := B3.lt
      have cBX2 := BX2.cell
      have lBX2 := BX2.lt
      have cBX3 := BX3.cell
      have lBX3 := BX3.lt
      go_wp2_with fail
      clear cB0 lB0
      clear cB1 lB1
      clear cB2 lB2
      clear cB3 lB3
      clear cBX2 lBX2
      clear cBX3 lBX3
      refine (heldIncidentS_any Gi n0 di 1 _ gi.rd (by omega) (by omega)).mono ?_
      rintro e w15 ⟨rfl, q15⟩
      replace B0 := B0.q q15
      replace B1 := B1.q q15
      replace B2 := B2.q q15
      replace B3 := B3.q q15
      replace Q0 := Q0.trans q15
      replace I2 := I2.q q15
      replace I3 := I3.q q15
      replace gs := gs.q q15
      replace BX2 := BX2.q q15
      replace BX3 := BX3.q q15
      replace gi := gi.q q15
      replace gh := gh.q q15
      have z15 := q15.size
      have cB0 := B0.cell
      have lB0 := B0.lt
      have cB1 := B1.cell
      have lB1 := B1.lt
      have cB2 := B2.cell
      have lB2 := B2.lt
      have cB3 := B3.cell
      have lB3 := B3.lt
      have cBX2 := BX2.cell
      have lBX2 := BX2.lt
      have cBX3 := BX3.cell
      have lBX3 := BX3.lt
      go_wp2_with fail
      clear cB0 lB0
      clear cB1 lB1
      clear cB2 lB2
      clear cB3 lB3
      clear cBX2 lBX2
      clear cBX3 lBX3
      go_ret
      exact ⟨rfl, Q0⟩
end Go.Proofs.YtkpdoikjfibflaaGreat
