/- Walks: the law FnExactNearTimes. No condition. -/
import Derived.Test.YtadljkdjlpmllaaNrT
import Derived.Deep.RegionHeld3
import Derived.Outline
namespace Go.Proofs.Ytadljkdjlpmllaa
open Go.RowKit Go.WideShapes Go.ChangeShapes
set_option maxRecDepth 100000 in
set_option maxHeartbeats 4000000 in
theorem law_FnExactNearTimes (a0x0 a0x1 a0x2 a0x3 : Int) (ha0 : ∀ y ∈ [a0x0, a0x1, a0x2, a0x3], -9223372036854775808 ≤ y ∧ y ≤ 9223372036854775807) (a1A : Option Addr) (a1n a1c : Nat) (a1xs : List Int) (ha1l : a1xs.length = a1n * 3) (_ha1b : ∀ y ∈ a1xs, -9223372036854775808 ≤ y ∧ y ≤ 9223372036854775807) (ha1c : a1n ≤ a1c ∧ a1c ≤ maxLen) (a2A : Option Addr) (a2n a2c : Nat) (a2xs : List Int) (ha2l : a2xs.length = a2n * 3) (_ha2b : ∀ y ∈ a2xs, -9223372036854775808 ≤ y ∧ y ≤ 9223372036854775807) (ha2c : a2n ≤ a2c ∧ a2c ≤ maxLen) (w : World) (ha1 : Rd w a1A a1xs) (ha2 : Rd w a2A a2xs) :
    Calls Try.prog 3 #[.agg #[.int .i64 a0x0, .int .i64 a0x1, .int .i64 a0x2, .int .i64 a0x3], .agg #[.slice a1A a1n a1c], .agg #[.slice a2A a2n a2c]] w fun e w' => e = .returned (.bool true) ∧ Below w.heap.size w w' := by
  have hn1 : a1n ≤ 9223372036854775807 := by have := ha1c; unfold maxLen at this; omega
  clear ha1c _ha1b
  have HL1 := Lib.hid ha1l
  clear ha1l
  have hn2 : a2n ≤ 9223372036854775807 := by have := ha2c; unfold maxLen at this; omega
  clear ha2c _ha2b
  have HL2 := Lib.hid ha2l
  clear ha2l
  have HB0 := Lib.hid ha0
  clear ha0
  have k0 := fun (a1A : Option Addr) (a1c : Nat) (a2A : Option Addr) (a2c : Nat) => spec_NearTimes a0x0 a0x1 a0x2 a0x3 a1A a1n a1c a1xs a2A a2n a2c a2xs
  have k1 := fun (a1A : Option Addr) (a1c : Nat) (a2A : Option Addr) (a2c : Nat) => impl_NearTimes a0x0 a0x1 a0x2 a0x3 a1A a1n a1c a1xs a2A a2n a2c a2xs
  obtain ⟨n0, hn0⟩ : ∃ n0, n0 = (ntL a0x0 a0x1 a0x2 a0x3 a1xs a1n a2xs a2n).length := ⟨_, rfl⟩
  obtain ⟨L0, hL0⟩ : ∃ L0, L0 = ntL a0x0 a0x1 a0x2 a0x3 a1xs a1n a2xs a2n := ⟨_, rfl⟩
  obtain ⟨r1, hr1⟩ : ∃ r1, r1 = ctimC a0x0 a0x1 a0x2 a0x3 a1xs a1n a2xs a2n := ⟨_, rfl⟩
  have hs0 : n0 ≤ 1048576 := by rw [hn0]; exact (by have := ntL_len a0x0 a0x1 a0x2 a0x3 a1xs a1n a2xs a2n; omega)
  rw [← hn0, ← hL0, ← hr1] at k0 k1
  have K0 := Lib.hid k0
  have K1 := Lib.hid k1
  clear k0 k1 hn0 hL0 hr1
  rcases Nat.lt_or_ge (1048576) a1n with hsz1 | hsz1
  · skip
    go_enter Try.func3, Try.ntmps3
    have B0 := Blk.new w 23 #[.int .i64 a0x0, .int .i64 a0x1, .int .i64 a0x2, .int .i64 a0x3]
    have gB0 : w.heap.size + 0 < w.heap.size + 3 := by omega
    have B0 := B0.alloc (.cells #[.slice a1A a1n a1c] 26)
    have B1 := Blk.new (w.alloc (.cells #[.int .i64 a0x0, .int .i64 a0x1, .int .i64 a0x2, .int .i64 a0x3] 23)) 26 #[.slice a1A a1n a1c]
    have gB1 : w.heap.size + 1 < w.heap.size + 3 := by omega
    have eB1 : (w.alloc (.cells #[.int .i64 a0x0, .int .i64 a0x1, .int .i64 a0x2, .int .i64 a0x3] 23)).heap.size = w.heap.size + 1 := by simp
    rw [eB1] at B1
    clear eB1
    have B0 := B0.alloc (.cells #[.slice a2A a2n a2c] 26)
    have B1 := B1.alloc (.cells #[.slice a2A a2n a2c] 26)
    have B2 := Blk.new ((w.alloc (.cells #[.int .i64 a0x0, .int .i64 a0x1, .int .i64 a0x2, .int .i64 a0x3] 23)).alloc (.cells #[.slice a1A a1n a1c] 26)) 26 #[.slice a2A a2n a2c]
    have gB2 : w.heap.size + 2 < w.heap.size + 3 := by omega
    have eB2 : ((w.alloc (.cells #[.int .i64 a0x0, .int .i64 a0x1, .int .i64 a0x2, .int .i64 a0x3] 23)).alloc (.cells #[.slice a1A a1n a1c] 26)).heap.size = w.heap.size + 1 + 1 := by simp
    rw [eB2] at B2
    clear eB2
    have Q0 : Q w (((w.alloc (.cells #[.int .i64 a0x0, .int .i64 a0x1, .int .i64 a0x2, .int .i64 a0x3] 23)).alloc (.cells #[.slice a1A a1n a1c] 26)).alloc (.cells #[.slice a2A a2n a2c] 26)) := by (repeat (first | assumption | exact Q.refl _ | refine Q.alloc ?_ _ | refine Q.drewN ?_ _ | refine Q.drew ?_))
    have I1 := ha1
    replace I1 := I1.q Q0
    have I2 := ha2
    replace I2 := I2.q Q0
    have z0 : w.heap.size + 3 ≤ ((((w.alloc (.cells #[.int .i64 a0x0, .int .i64 a0x1, .int .i64 a0x2, .int .i64 a0x3] 23)).alloc (.cells #[.slice a1A a1n a1c] 26)).alloc (.cells #[.slice a2A a2n a2c] 26))).heap.size := by simp
    go_wp2_with fail
    refine (szTrack_any a1A a1n a1c 1048576 _ (by omega) (by omega) hn1).mono ?_
    rintro e wz1 ⟨rfl, qz1⟩
    replace B0 := B0.q qz1
    replace B1 := B1.q qz1
    replace B2 := B2.q qz1
    replace Q0 := Q0.trans qz1
    replace I1 := I1.q qz1
    replace I2 := I2.q qz1
    have zz1 := qz1.size
    rw [if_neg (by omega)]
    have cB0 := B0.cell
    have cB1 := B1.cell
    have cB2 := B2.cell
    go_wp2_with fail
    clear cB0
    clear cB1
    clear cB2
    go_ret
    exact ⟨rfl, Q0⟩
  · skip
    rcases Nat.lt_or_ge (1048576 - a1n) a2n with hsz2 | hsz2
    · skip
      go_enter Try.func3, Try.ntmps3
      have B0 := Blk.new w 23 #[.int .i64 a0x0, .int .i64 a0x1, .int .i64 a0x2, .int .i64 a0x3]
      have gB0 : w.heap.size + 0 < w.heap.size + 3 := by omega
      have B0 := B0.alloc (.cells #[.slice a1A a1n a1c] 26)
      have B1 := Blk.new (w.alloc (.cells #[.int .i64 a0x0, .int .i64 a0x1, .int .i64 a0x2, .int .i64 a0x3] 23)) 26 #[.slice a1A a1n a1c]
      have gB1 : w.heap.size + 1 < w.heap.size + 3 := by omega
      have eB1 : (w.alloc (.cells #[.int .i64 a0x0, .int .i64 a0x1, .int .i64 a0x2, .int .i64 a0x3] 23)).heap.size = w.heap.size + 1 := by simp
      rw [eB1] at B1
      clear eB1
      have B0 := B0.alloc (.cells #[.slice a2A a2n a2c] 26)
      have B1 := B1.alloc (.cells #[.slice a2A a2n a2c] 26)
      have B2 := Blk.new ((w.alloc (.cells #[.int .i64 a0x0, .int .i64 a0x1, .int .i64 a0x2, .int .i64 a0x3] 23)).alloc (.cells #[.slice a1A a1n a1c] 26)) 26 #[.slice a2A a2n a2c]
      have gB2 : w.heap.size + 2 < w.heap.size + 3 := by omega
      have eB2 : ((w.alloc (.cells #[.int .i64 a0x0, .int .i64 a0x1, .int .i64 a0x2, .int .i64 a0x3] 23)).alloc (.cells #[.slice a1A a1n a1c] 26)).heap.size = w.heap.size + 1 + 1 := by simp
      rw [eB2] at B2
      clear eB2
      have Q0 : Q w (((w.alloc (.cells #[.int .i64 a0x0, .int .i64 a0x1, .int .i64 a0x2, .int .i64 a0x3] 23)).alloc (.cells #[.slice a1A a1n a1c] 26)).alloc (.cells #[.slice a2A a2n a2c] 26)) := by (repeat (first | assumption | exact Q.refl _ | refine Q.alloc ?_ _ | refine Q.drewN ?_ _ | refine Q.drew ?_))
      have I1 := ha1
      replace I1 := I1.q Q0
      have I2 := ha2
      replace I2 := I2.q Q0
      have z0 : w.heap.size + 3 ≤ ((((w.alloc (.cells #[.int .i64 a0x0, .int .i64 a0x1, .int .i64 a0x2, .int .i64 a0x3] 23)).alloc (.cells #[.slice a1A a1n a1c] 26)).alloc (.cells #[.slice a2A a2n a2c] 26))).heap.size := by simp
      go_wp2_with fail
      refine (szTrack_any a1A a1n a1c 1048576 _ (by omega) (by omega) hn1).mono ?_
      rintro e wz1 ⟨rfl, qz1⟩
      replace B0 := B0.q qz1
      replace B1 := B1.q qz1
      replace B2 := B2.q qz1
      replace Q0 := Q0.trans qz1
      replace I1 := I1.q qz1
      replace I2 := I2.q qz1
      have zz1 := qz1.size
      rw [if_pos (by omega)]
      have cB0 := B0.cell
      have cB1 := B1.cell
      have cB2 := B2.cell
      go_wp2_with fail
      clear cB0
      clear cB1
      clear cB2
      refine (szTrack_any a2A a2n a2c (1048576 - (a1n : Int)) _ (by omega) (by omega) hn2).mono ?_
      rintro e wz2 ⟨rfl, qz2⟩
      replace B0 := B0.q qz2
      replace B1 := B1.q qz2
      replace B2 := B2.q qz2
      replace Q0 := Q0.trans qz2
      replace I1 := I1.q qz2
      replace I2 := I2.q qz2
      have zz2 := qz2.size
      rw [if_neg (by omega)]
      have cB0 := B0.cell
      have cB1 := B1.cell
      have cB2 := B2.cell
      go_wp2_with fail
      clear cB0
      clear cB1
      clear cB2
      go_ret
      exact ⟨rfl, Q0⟩
    · skip
      go_enter Try.func3, Try.ntmps3
      have B0 := Blk.new w 23 #[.int .i64 a0x0, .int .i64 a0x1, .int .i64 a0x2, .int .i64 a0x3]
      have gB0 : w.heap.size + 0 < w.heap.size + 3 := by omega
      have B0 := B0.alloc (.cells #[.slice a1A a1n a1c] 26)
      have B1 := Blk.new (w.alloc (.cells #[.int .i64 a0x0, .int .i64 a0x1, .int .i64 a0x2, .int .i64 a0x3] 23)) 26 #[.slice a1A a1n a1c]
      have gB1 : w.heap.size + 1 < w.heap.size + 3 := by omega
      have eB1 : (w.alloc (.cells #[.int .i64 a0x0, .int .i64 a0x1, .int .i64 a0x2, .int .i64 a0x3] 23)).heap.size = w.heap.size + 1 := by simp
      rw [eB1] at B1
      clear eB1
      have B0 := B0.alloc (.cells #[.slice a2A a2n a2c] 26)
      have B1 := B1.alloc (.cells #[.slice a2A a2n a2c] 26)
      have B2 := Blk.new ((w.alloc (.cells #[.int .i64 a0x0, .int .i64 a0x1, .int .i64 a0x2, .int .i64 a0x3] 23)).alloc (.cells #[.slice a1A a1n a1c] 26)) 26 #[.slice a2A a2n a2c]
      have gB2 : w.heap.size + 2 < w.heap.size + 3 := by omega
      have eB2 : ((w.alloc (.cells #[.int .i64 a0x0, .int .i64 a0x1, .int .i64 a0x2, .int .i64 a0x3] 23)).alloc (.cells #[.slice a1A a1n a1c] 26)).heap.size = w.heap.size + 1 + 1 := by simp
      rw [eB2] at B2
      clear eB2
      have Q0 : Q w (((w.alloc (.cells #[.int .i64 a0x0, .int .i64 a0x1, .int .i64 a0x2, .int .i64 a0x3] 23)).alloc (.cells #[.slice a1A a1n a1c] 26)).alloc (.cells #[.slice a2A a2n a2c] 26)) := by (repeat (first | assumption | exact Q.refl _ | refine Q.alloc ?_ _ | refine Q.drewN ?_ _ | refine Q.drew ?_))
      have I1 := ha1
      replace I1 := I1.q Q0
      have I2 := ha2
      replace I2 := I2.q Q0
      have z0 : w.heap.size + 3 ≤ ((((w.alloc (.cells #[.int .i64 a0x0, .int .i64 a0x1, .int .i64 a0x2, .int .i64 a0x3] 23)).alloc (.cells #[.slice a1A a1n a1c] 26)).alloc (.cells #[.slice a2A a2n a2c] 26))).heap.size := by simp
      go_wp2_with fail
      refine (szTrack_any a1A a1n a1c 1048576 _ (by omega) (by omega) hn1).mono ?_
      rintro e wz1 ⟨rfl, qz1⟩
      replace B0 := B0.q qz1
      replace B1 := B1.q qz1
      replace B2 := B2.q qz1
      replace Q0 := Q0.trans qz1
      replace I1 := I1.q qz1
      replace I2 := I2.q qz1
      have zz1 := qz1.size
      rw [if_pos (by omega)]
      have cB0 := B0.cell
      have cB1 := B1.cell
      have cB2 := B2.cell
      go_wp2_with fail
      clear cB0
      clear cB1
      clear cB2
      refine (szTrack_any a2A a2n a2c (1048576 - (a1n : Int)) _ (by omega) (by omega) hn2).mono ?_
      rintro e wz2 ⟨rfl, qz2⟩
      replace B0 := B0.q qz2
      replace B1 := B1.q qz2
      replace B2 := B2.q qz2
      replace Q0 := Q0.trans qz2
      replace I1 := I1.q qz2
      replace I2 := I2.q qz2
      have zz2 := qz2.size
      rw [if_pos (by omega)]
      have cB0 := B0.cell
      have cB1 := B1.cell
      have cB2 := B2.cell
      go_wp2_with fail
      clear cB0
      clear cB1
      clear cB2
      have cB0 := B0.cell
      have lB0 := B0.lt
      have cB1 := B1.cell
      have lB1 := B1.lt
      have cB2 := B2.cell
      have lB2 := B2.lt
      go_wp2_with fail
      clear cB0 lB0
      clear cB1 lB1
      clear cB2 lB2
      have WQ1 := Q.refl (wz2)
      have hS1 : ∀ w', Q (wz2) w' → (Q (wz2) w' ∧ w'.cell? ⟨w.heap.size, 0, none⟩ = some (.int .i64 a0x0) ∧ w'.cell? ⟨w.heap.size, 1, none⟩ = some (.int .i64 a0x1) ∧ w'.cell? ⟨w.heap.size, 2, none⟩ = some (.int .i64 a0x2) ∧ w'.cell? ⟨w.heap.size, 3, none⟩ = some (.int .i64 a0x3) ∧ w'.cell? ⟨w.heap.size + 1, 0, none⟩ = some (.slice a1A a1n a1c) ∧ w'.cell? ⟨w.heap.size + 1 + 1, 0, none⟩ = some (.slice a2A a2n a2c)) := fun w' q => ⟨q, (B0.q q).cell _, (B0.q q).cell _, (B0.q q).cell _, (B0.q q).cell _, (B1.q q).cell _, (B2.q q).cell _⟩
      go_region_held3 (fun w' => Q (wz2) w' ∧ w'.cell? ⟨w.heap.size, 0, none⟩ = some (.int .i64 a0x0) ∧ w'.cell? ⟨w.heap.size, 1, none⟩ = some (.int .i64 a0x1) ∧ w'.cell? ⟨w.heap.size, 2, none⟩ = some (.int .i64 a0x2) ∧ w'.cell? ⟨w.heap.size, 3, none⟩ = some (.int .i64 a0x3) ∧ w'.cell? ⟨w.heap.size + 1, 0, none⟩ = some (.slice a1A a1n a1c) ∧ w'.cell? ⟨w.heap.size + 1 + 1, 0, none⟩ = some (.slice a2A a2n a2c)) (first | exact hS1 _ (by first | assumption | exact QR | exact (Q.refl _).drew) | (go_split_ands; exact hS1 _ (by first | assumption | exact QR | exact (Q.refl _).drew))) (first | (go_at_call 6; refine (toWatch_any a0x0 a0x1 a0x2 a0x3 _).mono ?_; rintro e wr0 ⟨rfl, qr0⟩; have QR : Q (wz2) _ := Q.trans (by first | assumption | exact (Q.refl _).drew) qr0; have zr := QR.size) | (go_at_call 7; refine (toTrack_any a1A a1n a1c a1xs _ (I1.q (by first | assumption | exact (Q.refl _).drew)) HL1.out (by omega)).mono ?_; rintro e wr1 ⟨A1s, c1s, rfl, o1s, qr1⟩; have QR : Q (wz2) _ := Q.trans (by first | assumption | exact (Q.refl _).drew) qr1; have zr := QR.size; skip) | (go_at_call 7; refine (toTrack_any a2A a2n a2c a2xs _ (I2.q (by first | assumption | exact (Q.refl _).drew)) HL2.out (by omega)).mono ?_; rintro e wr2 ⟨A2s, c2s, rfl, o2s, qr2⟩; have QR : Q (wz2) _ := Q.trans (by first | assumption | exact (Q.refl _).drew) qr2; have zr := QR.size; skip; replace o1s := o1s.q qr2) | (go_at_call 5; refine (K0.out A1s c1s A2s c2s _ o1s.rd HL1.out (by omega) o2s.rd HL2.out (by omega)).mono ?_; rintro e w1 ⟨Gs, ds, rfl, gs, qf1⟩; have QR : Q (wz2) _ := Q.trans (by first | assumption | exact (Q.refl _).drew) qf1))
      replace B0 := B0.q QR
      replace B1 := B1.q QR
      replace B2 := B2.q QR
      replace Q0 := Q0.trans QR
      replace I1 := I1.q QR
      replace I2 := I2.q QR
      have z1 := QR.size
      clear QR
      have fgs := gs.from
      have HGs := Lib.hid (show L0.length = n0 * 1 by simpa using gs.1)
      have cB0 := B0.cell
      have lB0 := B0.lt
      have cB1 := B1.cell
      have lB1 := B1.lt
      have cB2 := B2.cell
      have lB2 := B2.lt
      go_wp2_with fail
      clear cB0 lB0
      clear cB1 lB1
      clear cB2 lB2
      refine (toTrack_any a1A a1n a1c a1xs _ I1 HL1.out (by omega)).mono ?_
      rintro e w2 ⟨A1i, c1i, rfl, o1i, q2⟩
      replace B0 := B0.q q2
      replace B1 := B1.q q2
      replace B2 := B2.q q2
      replace Q0 := Q0.trans q2
      replace I1 := I1.q q2
      replace I2 := I2.q q2
      replace gs := gs.q q2
      have z2 := q2.size
      have fo1i := o1i.from
      have cB0 := B0.cell
      have lB0 := B0.lt
      have cB1 := B1.cell
      have lB1 := B1.lt
      have cB2 := B2.cell
      have lB2 := B2.lt
      go_wp2_with fail
      clear cB0 lB0
      clear cB1 lB1
      clear cB2 lB2
      have BX1 := Blk.new w2 35 #[.slice A1i a1n c1i]
      replace B0 := B0.q ((Q.refl _).alloc (.cells #[.slice A1i a1n c1i] 35))
      replace B1 := B1.q ((Q.refl _).alloc (.cells #[.slice A1i a1n c1i] 35))
      replace B2 := B2.q ((Q.refl _).alloc (.cells #[.slice A1i a1n c1i] 35))
      replace Q0 := Q0.trans ((Q.refl _).alloc (.cells #[.slice A1i a1n c1i] 35))
      replace I1 := I1.q ((Q.refl _).alloc (.cells #[.slice A1i a1n c1i] 35))
      replace I2 := I2.q ((Q.refl _).alloc (.cells #[.slice A1i a1n c1i] 35))
      replace gs := gs.q ((Q.refl _).alloc (.cells #[.slice A1i a1n c1i] 35))
      replace o1i := o1i.q ((Q.refl _).alloc (.cells #[.slice A1i a1n c1i] 35))
      have zx1 : w2.heap.size ≤ (w2.alloc (.cells #[.slice A1i a1n c1i] 35)).heap.size := by simp
      have gx1 : w2.heap.size < (w2.alloc (.cells #[.slice A1i a1n c1i] 35)).heap.size := by simp
      refine (toTrack_any a2A a2n a2c a2xs _ I2 HL2.out (by omega)).mono ?_
      rintro e w3 ⟨A2i, c2i, rfl, o2i, q3⟩
      replace B0 := B0.q q3
      replace B1 := B1.q q3
      replace B2 := B2.q q3
      replace Q0 := Q0.trans q3
      replace I1 := I1.q q3
      replace I2 := I2.q q3
      replace gs := gs.q q3
      replace o1i := o1i.q q3
      replace BX1 := BX1.q q3
      have z3 := q3.size
      have fo2i := o2i.from
      have cB0 := B0.cell
      have lB0 := B0.lt
      have cB1 := B1.cell
      have lB1 := B1.lt
      have cB2 := B2.cell
      have lB2 := B2.lt
      have cBX1 := BX1.cell
      have lBX1 := BX1.lt
      go_wp2_with fail
      clear cB0 lB0
      clear cB1 lB1
      clear cB2 lB2
      clear cBX1 lBX1
      have BX2 := Blk.new w3 35 #[.slice A2i a2n c2i]
      replace B0 := B0.q ((Q.refl _).alloc (.cells #[.slice A2i a2n c2i] 35))
      replace B1 := B1.q ((Q.refl _).alloc (.cells #[.slice A2i a2n c2i] 35))
      replace B2 := B2.q ((Q.refl _).alloc (.cells #[.slice A2i a2n c2i] 35))
      replace Q0 := Q0.trans ((Q.refl _).alloc (.cells #[.slice A2i a2n c2i] 35))
      replace I1 := I1.q ((Q.refl _).alloc (.cells #[.slice A2i a2n c2i] 35))
      replace I2 := I2.q ((Q.refl _).alloc (.cells #[.slice A2i a2n c2i] 35))
      replace gs := gs.q ((Q.refl _).alloc (.cells #[.slice A2i a2n c2i] 35))
      replace o1i := o1i.q ((Q.refl _).alloc (.cells #[.slice A2i a2n c2i] 35))
      replace BX1 := BX1.q ((Q.refl _).alloc (.cells #[.slice A2i a2n c2i] 35))
      replace o2i := o2i.q ((Q.refl _).alloc (.cells #[.slice A2i a2n c2i] 35))
      have zx2 : w3.heap.size ≤ (w3.alloc (.cells #[.slice A2i a2n c2i] 35)).heap.size := by simp
      have gx2 : w3.heap.size < (w3.alloc (.cells #[.slice A2i a2n c2i] 35)).heap.size := by simp
      have WQ4 := Q.refl ((w3.alloc (.cells #[.slice A2i a2n c2i] 35)))
      have hS4 : ∀ w', Q ((w3.alloc (.cells #[.slice A2i a2n c2i] 35))) w' → (Q ((w3.alloc (.cells #[.slice A2i a2n c2i] 35))) w' ∧ w'.cell? ⟨w2.heap.size, 0, none⟩ = some (.slice A1i a1n c1i) ∧ w'.cell? ⟨w3.heap.size, 0, none⟩ = some (.slice A2i a2n c2i) ∧ w'.cell? ⟨w.heap.size, 0, none⟩ = some (.int .i64 a0x0) ∧ w'.cell? ⟨w.heap.size, 1, none⟩ = some (.int .i64 a0x1) ∧ w'.cell? ⟨w.heap.size, 2, none⟩ = some (.int .i64 a0x2) ∧ w'.cell? ⟨w.heap.size, 3, none⟩ = some (.int .i64 a0x3) ∧ w'.cell? ⟨w.heap.size + 1, 0, none⟩ = some (.slice a1A a1n a1c) ∧ w'.cell? ⟨w.heap.size + 1 + 1, 0, none⟩ = some (.slice a2A a2n a2c)) := fun w' q => ⟨q, (BX1.q q).cell _, (BX2.q q).cell _, (B0.q q).cell _, (B0.q q).cell _, (B0.q q).cell _, (B0.q q).cell _, (B1.q q).cell _, (B2.q q).cell _⟩
      go_region_held3 (fun w' => Q ((w3.alloc (.cells #[.slice A2i a2n c2i] 35))) w' ∧ w'.cell? ⟨w2.heap.size, 0, none⟩ = some (.slice A1i a1n c1i) ∧ w'.cell? ⟨w3.heap.size, 0, none⟩ = some (.slice A2i a2n c2i) ∧ w'.cell? ⟨w.heap.size, 0, none⟩ = some (.int .i64 a0x0) ∧ w'.cell? ⟨w.heap.size, 1, none⟩ = some (.int .i64 a0x1) ∧ w'.cell? ⟨w.heap.size, 2, none⟩ = some (.int .i64 a0x2) ∧ w'.cell? ⟨w.heap.size, 3, none⟩ = some (.int .i64 a0x3) ∧ w'.cell? ⟨w.heap.size + 1, 0, none⟩ = some (.slice a1A a1n a1c) ∧ w'.cell? ⟨w.heap.size + 1 + 1, 0, none⟩ = some (.slice a2A a2n a2c)) (first | exact hS4 _ (by first | assumption | exact QR | exact (Q.refl _).drew) | (go_split_ands; exact hS4 _ (by first | assumption | exact QR | exact (Q.refl _).drew))) (first | (go_at_call 6; refine (toWatch_any a0x0 a0x1 a0x2 a0x3 _).mono ?_; rintro e wr0 ⟨rfl, qr0⟩; have QR : Q ((w3.alloc (.cells #[.slice A2i a2n c2i] 35))) _ := Q.trans (by first | assumption | exact (Q.refl _).drew) qr0; have zr := QR.size) | (go_at_call 8; refine (K1.out A1i c1i A2i c2i _ (o1i.q (by first | assumption | exact (Q.refl _).drew)).rd HL1.out (by omega) (o2i.q (by first | assumption | exact (Q.refl _).drew)).rd HL2.out (by omega)).mono ?_; rintro e w4 ⟨Gi, di, rfl, gi, qf4⟩; have QR : Q ((w3.alloc (.cells #[.slice A2i a2n c2i] 35))) _ := Q.trans (by first | assumption | exact (Q.refl _).drew) qf4))
      replace B0 := B0.q QR
      replace B1 := B1.q QR
      replace B2 := B2.q QR
      replace Q0 := Q0.trans QR
      replace I1 := I1.q QR
      replace I2 := I2.q QR
      replace gs := gs.q QR
      replace o1i := o1i.q QR
      replace BX1 := BX1.q QR
      replace o2i := o2i.q QR
      replace BX2 := BX2.q QR
      have z4 := QR.size
      clear QR
      have fgi := gi.from
      have HGi := Lib.hid (show L0.length = n0 * 1 by simpa using gi.1)
      have cB0 := B0.cell
      have lB0 := B0.lt
      have cB1 := B1.cell
      have lB1 := B1.lt
      have cB2 := B2.cell
      have lB2 := B2.lt
      have cBX1 := BX1.cell
      have lBX1 := BX1.lt
      have cBX2 := BX2.cell
      have lBX2 := BX2.lt
      go_wp2_with fail
      clear cB0 lB0
      clear cB1 lB1
      clear cB2 lB2
      clear cBX1 lBX1
      clear cBX2 lBX2
      refine (eqInt64S_same Gi Gs n0 di ds L0 _ gi.rd gs.rd (by rw [HGi.out]; omega) (by omega)).mono ?_
      rintro e w5 ⟨rfl, q5⟩
      replace B0 := B0.q q5
      replace B1 := B1.q q5
      replace B2 := B2.q q5
      replace Q0 := Q0.trans q5
      replace I1 := I1.q q5
      replace I2 := I2.q q5
      replace gs := gs.q q5
      replace o1i := o1i.q q5
      replace BX1 := BX1.q q5
      replace o2i := o2i.q q5
      replace BX2 := BX2.q q5
      replace gi := gi.q q5
      have z5 := q5.size
      have cB0 := B0.cell
      have lB0 := B0.lt
      have cB1 := B1.cell
      have lB1 := B1.lt
      have cB2 := B2.cell
      have lB2 := B2.lt
      have cBX1 := BX1.cell
      have lBX1 := BX1.lt
      have cBX2 := BX2.cell
      have lBX2 := BX2.lt
      go_wp2_with fail
      clear cB0 lB0
      clear cB1 lB1
      clear cB2 lB2
      clear cBX1 lBX1
      clear cBX2 lBX2
      have hS6 : ∀ w', Q w5 w' → (Q w5 w' ∧ w'.cell? ⟨w2.heap.size, 0, none⟩ = some (.slice A1i a1n c1i) ∧ w'.cell? ⟨w3.heap.size, 0, none⟩ = some (.slice A2i a2n c2i) ∧ w'.cell? ⟨w.heap.size, 0, none⟩ = some (.int .i64 a0x0) ∧ w'.cell? ⟨w.heap.size, 1, none⟩ = some (.int .i64 a0x1) ∧ w'.cell? ⟨w.heap.size, 2, none⟩ = some (.int .i64 a0x2) ∧ w'.cell? ⟨w.heap.size, 3, none⟩ = some (.int .i64 a0x3) ∧ w'.cell? ⟨w.heap.size + 1, 0, none⟩ = some (.slice a1A a1n a1c) ∧ w'.cell? ⟨w.heap.size + 1 + 1, 0, none⟩ = some (.slice a2A a2n a2c)) := fun w' q => ⟨q, (BX1.q q).cell _, (BX2.q q).cell _, (B0.q q).cell _, (B0.q q).cell _, (B0.q q).cell _, (B0.q q).cell _, (B1.q q).cell _, (B2.q q).cell _⟩
      go_region_held3 (fun w' => Q w5 w' ∧ w'.cell? ⟨w2.heap.size, 0, none⟩ = some (.slice A1i a1n c1i) ∧ w'.cell? ⟨w3.heap.size, 0, none⟩ = some (.slice A2i a2n c2i) ∧ w'.cell? ⟨w.heap.size, 0, none⟩ = some (.int .i64 a0x0) ∧ w'.cell? ⟨w.heap.size, 1, none⟩ = some (.int .i64 a0x1) ∧ w'.cell? ⟨w.heap.size, 2, none⟩ = some (.int .i64 a0x2) ∧ w'.cell? ⟨w.heap.size, 3, none⟩ = some (.int .i64 a0x3) ∧ w'.cell? ⟨w.heap.size + 1, 0, none⟩ = some (.slice a1A a1n a1c) ∧ w'.cell? ⟨w.heap.size + 1 + 1, 0, none⟩ = some (.slice a2A a2n a2c)) (first | exact hS6 _ (by first | assumption | exact QR | exact (Q.refl _).drew) | (go_split_ands; exact hS6 _ (by first | assumption | exact QR | exact (Q.refl _).drew))) (first | (go_at_call 7; refine (toTrack_any a1A a1n a1c a1xs _ (I1.q (by first | assumption | exact (Q.refl _).drew)) HL1.out (by omega)).mono ?_; rintro e wr6 ⟨A1q6, c1q6, rfl, o1q6, qr6⟩; have QR : Q w5 _ := Q.trans (by first | assumption | exact (Q.refl _).drew) qr6) | (go_at_call 10; refine (eqTrack_same A1i A1q6 a1n c1i c1q6 a1xs _ (o1i.q (by first | assumption | exact (Q.refl _).drew)).rd o1q6.rd HL1.out (by omega)).mono ?_; rintro e w6 ⟨rfl, qf6⟩; have QR : Q w5 _ := Q.trans (by first | assumption | exact (Q.refl _).drew) qf6))
      replace B0 := B0.q QR
      replace B1 := B1.q QR
      replace B2 := B2.q QR
      replace Q0 := Q0.trans QR
      replace I1 := I1.q QR
      replace I2 := I2.q QR
      replace gs := gs.q QR
      replace o1i := o1i.q QR
      replace BX1 := BX1.q QR
      replace o2i := o2i.q QR
      replace BX2 := BX2.q QR
      replace gi := gi.q QR
      have z6 := QR.size
      clear QR
      have cB0 := B0.cell
      have lB0 := B0.lt
      have cB1 := B1.cell
      have lB1 := B1.lt
      have cB2 := B2.cell
      have lB2 := B2.lt
      have cBX1 := BX1.cell
      have lBX1 := BX1.lt
      have cBX2 := BX2.cell
      have lBX2 := BX2.lt
      go_wp2_with fail
      clear cB0 lB0
      clear cB1 lB1
      clear cB2 lB2
      clear cBX1 lBX1
      clear cBX2 lBX2
      have hS7 : ∀ w', Q w6 w' → (Q w6 w' ∧ w'.cell? ⟨w2.heap.size, 0, none⟩ = some (.slice A1i a1n c1i) ∧ w'.cell? ⟨w3.heap.size, 0, none⟩ = some (.slice A2i a2n c2i) ∧ w'.cell? ⟨w.heap.size, 0, none⟩ = some (.int .i64 a0x0) ∧ w'.cell? ⟨w.heap.size, 1, none⟩ = some (.int .i64 a0x1) ∧ w'.cell? ⟨w.heap.size, 2, none⟩ = some (.int .i64 a0x2) ∧ w'.cell? ⟨w.heap.size, 3, none⟩ = some (.int .i64 a0x3) ∧ w'.cell? ⟨w.heap.size + 1, 0, none⟩ = some (.slice a1A a1n a1c) ∧ w'.cell? ⟨w.heap.size + 1 + 1, 0, none⟩ = some (.slice a2A a2n a2c)) := fun w' q => ⟨q, (BX1.q q).cell _, (BX2.q q).cell _, (B0.q q).cell _, (B0.q q).cell _, (B0.q q).cell _, (B0.q q).cell _, (B1.q q).cell _, (B2.q q).cell _⟩
      go_region_held3 (fun w' => Q w6 w' ∧ w'.cell? ⟨w2.heap.size, 0, none⟩ = some (.slice A1i a1n c1i) ∧ w'.cell? ⟨w3.heap.size, 0, none⟩ = some (.slice A2i a2n c2i) ∧ w'.cell? ⟨w.heap.size, 0, none⟩ = some (.int .i64 a0x0) ∧ w'.cell? ⟨w.heap.size, 1, none⟩ = some (.int .i64 a0x1) ∧ w'.cell? ⟨w.heap.size, 2, none⟩ = some (.int .i64 a0x2) ∧ w'.cell? ⟨w.heap.size, 3, none⟩ = some (.int .i64 a0x3) ∧ w'.cell? ⟨w.heap.size + 1, 0, none⟩ = some (.slice a1A a1n a1c) ∧ w'.cell? ⟨w.heap.size + 1 + 1, 0, none⟩ = some (.slice a2A a2n a2c)) (first | exact hS7 _ (by first | assumption | exact QR | exact (Q.refl _).drew) | (go_split_ands; exact hS7 _ (by first | assumption | exact QR | exact (Q.refl _).drew))) (first | (go_at_call 7; refine (toTrack_any a2A a2n a2c a2xs _ (I2.q (by first | assumption | exact (Q.refl _).drew)) HL2.out (by omega)).mono ?_; rintro e wr7 ⟨A2q7, c2q7, rfl, o2q7, qr7⟩; have QR : Q w6 _ := Q.trans (by first | assumption | exact (Q.refl _).drew) qr7) | (go_at_call 10; refine (eqTrack_same A2i A2q7 a2n c2i c2q7 a2xs _ (o2i.q (by first | assumption | exact (Q.refl _).drew)).rd o2q7.rd HL2.out (by omega)).mono ?_; rintro e w7 ⟨rfl, qf7⟩; have QR : Q w6 _ := Q.trans (by first | assumption | exact (Q.refl _).drew) qf7))
      replace B0 := B0.q QR
      replace B1 := B1.q QR
      replace B2 := B2.q QR
      replace Q0 := Q0.trans QR
      replace I1 := I1.q QR
      replace I2 := I2.q QR
      replace gs := gs.q QR
      replace o1i := o1i.q QR
      replace BX1 := BX1.q QR
      replace o2i := o2i.q QR
      replace BX2 := BX2.q QR
      replace gi := gi.q QR
      have z7 := QR.size
      clear QR
      have cB0 := B0.cell
      have lB0 := B0.lt
      have cB1 := B1.cell
      have lB1 := B1.lt
      have cB2 := B2.cell
      have lB2 := B2.lt
      have cBX1 := BX1.cell
      have lBX1 := BX1.lt
      have cBX2 := BX2.cell
      have lBX2 := BX2.lt
      go_wp2_with fail
      clear cB0 lB0
      clear cB1 lB1
      clear cB2 lB2
      clear cBX1 lBX1
      clear cBX2 lBX2
      refine (markTrack_any A1i a1n c1i _ a1xs 1 _ o1i (by omega) (by omega)).mono ?_
      rintro e w8 ⟨rfl, mo1i, G8⟩
      have z8 := G8.size
      first | replace B0 := Blk.markU B0 fo1i (by omega) G8 | replace B0 := Blk.markU2 B0 fo1i (by omega) G8
      first | replace B1 := Blk.markU B1 fo1i (by omega) G8 | replace B1 := Blk.markU2 B1 fo1i (by omega) G8
      first | replace B2 := Blk.markU B2 fo1i (by omega) G8 | replace B2 := Blk.markU2 B2 fo1i (by omega) G8
      replace Q0 := Q0.markU fo1i (by omega) G8
      replace I1 := Rd.markU ha1 I1 (fun p hp => by have := fo1i p hp; omega) G8
      replace I2 := Rd.markU ha2 I2 (fun p hp => by have := fo1i p hp; omega) G8
      replace gs := gs.far G8 (by first | exact far_lt fgs fo1i (by omega) | exact (far_lt fo1i fgs (by omega)).symm)
      first | replace BX1 := Blk.markU BX1 fo1i (by omega) G8 | replace BX1 := Blk.markU2 BX1 fo1i (by omega) G8
      replace o2i := o2i.far G8 (by first | exact far_lt fo2i fo1i (by omega) | exact (far_lt fo1i fo2i (by omega)).symm)
      first | replace BX2 := Blk.markU BX2 fo1i (by omega) G8 | replace BX2 := Blk.markU2 BX2 fo1i (by omega) G8
      replace gi := gi.far G8 (by first | exact far_lt fgi fo1i (by omega) | exact (far_lt fo1i fgi (by omega)).symm)
      replace o1i := mo1i
      have cB0 := B0.cell
      have lB0 := B0.lt
      have cB1 := B1.cell
      have lB1 := B1.lt
      have cB2 := B2.cell
      have lB2 := B2.lt
      have cBX1 := BX1.cell
      have lBX1 := BX1.lt
      have cBX2 := BX2.cell
      have lBX2 := BX2.lt
      go_wp2_with fail
      clear cB0 lB0
      clear cB1 lB1
      clear cB2 lB2
      clear cBX1 lBX1
      clear cBX2 lBX2
      refine (markTrack_any A2i a2n c2i _ a2xs (1 + (a1n : Int) * 3) _ o2i (by omega) (by omega)).mono ?_
      rintro e w9 ⟨rfl, mo2i, G9⟩
      have z9 := G9.size
      first | replace B0 := Blk.markU B0 fo2i (by omega) G9 | replace B0 := Blk.markU2 B0 fo2i (by omega) G9
      first | replace B1 := Blk.markU B1 fo2i (by omega) G9 | replace B1 := Blk.markU2 B1 fo2i (by omega) G9
      first | replace B2 := Blk.markU B2 fo2i (by omega) G9 | replace B2 := Blk.markU2 B2 fo2i (by omega) G9
      replace Q0 := Q0.markU fo2i (by omega) G9
      replace I1 := Rd.markU ha1 I1 (fun p hp => by have := fo2i p hp; omega) G9
      replace I2 := Rd.markU ha2 I2 (fun p hp => by have := fo2i p hp; omega) G9
      replace gs := gs.far G9 (by first | exact far_lt fgs fo2i (by omega) | exact (far_lt fo2i fgs (by omega)).symm)
      replace o1i := o1i.far G9 (by first | exact far_lt fo1i fo2i (by omega) | exact (far_lt fo2i fo1i (by omega)).symm)
      first | replace BX1 := Blk.markU BX1 fo2i (by omega) G9 | replace BX1 := Blk.markU2 BX1 fo2i (by omega) G9
      first | replace BX2 := Blk.markU BX2 fo2i (by omega) G9 | replace BX2 := Blk.markU2 BX2 fo2i (by omega) G9
      replace gi := gi.far G9 (by first | exact far_lt fgi fo2i (by omega) | exact (far_lt fo2i fgi (by omega)).symm)
      replace o2i := mo2i
      have cB0 := B0.cell
      have lB0 := B0.lt
      have cB1 := B1.cell
      have lB1 := B1.lt
      have cB2 := B2.cell
      have lB2 := B2.lt
      have cBX1 := BX1.cell
      have lBX1 := BX1.lt
      have cBX2 := BX2.cell
      have lBX2 := BX2.lt
      go_wp2_with fail
      clear cB0 lB0
      clear cB1 lB1
      clear cB2 lB2
      clear cBX1 lBX1
      clear cBX2 lBX2
      refine (eqInt64S_same Gi Gs n0 di ds L0 _ gi.rd gs.rd (by rw [HGi.out]; omega) (by omega)).mono ?_
      rintro e w10 ⟨rfl, q10⟩
      replace B0 := B0.q q10
      replace B1 := B1.q q10
      replace B2 := B2.q q10
      replace Q0 := Q0.trans q10
      replace I1 := I1.q q10
      replace I2 := I2.q q10
      replace gs := gs.q q10
      replace o1i := o1i.q q10
      replace BX1 := BX1.q q10
      replace o2i := o2i.q q10
      replace BX2 := BX2.q q10
      replace gi := gi.q q10
      have z10 := q10.size
      have cB0 := B0.cell
      have lB0 := B0.lt
      have cB1 := B1.cell
      have lB1 := B1.lt
      have cB2 := B2.cell
      have lB2 := B2.lt
      have cBX1 := BX1.cell
      have lBX1 := BX1.lt
      have cBX2 := BX2.cell
      have lBX2 := BX2.lt
      go_wp2_with fail
      clear cB0 lB0
      clear cB1 lB1
      clear cB2 lB2
      clear cBX1 lBX1
      clear cBX2 lBX2
      refine (markInt64S_any Gi n0 di _ L0 1 _ gi (by omega) (by omega)).mono ?_
      rintro e w11 ⟨rfl, mgi, G11⟩
      have z11 := G11.size
      first | replace B0 := Blk.markU B0 fgi (by omega) G11 | replace B0 := Blk.markU2 B0 fgi (by omega) G11
      first | replace B1 := Blk.markU B1 fgi (by omega) G11 | replace B1 := Blk.markU2 B1 fgi (by omega) G11
      first | replace B2 := Blk.markU B2 fgi (by omega) G11 | replace B2 := Blk.markU2 B2 fgi (by omega) G11
      replace Q0 := Q0.markU fgi (by omega) G11
      replace I1 := Rd.markU ha1 I1 (fun p hp => by have := fgi p hp; omega) G11
      replace I2 := Rd.markU ha2 I2 (fun p hp => by have := fgi p hp; omega) G11
      replace gs := gs.far G11 (by first | exact far_lt fgs fgi (by omega) | exact (far_lt fgi fgs (by omega)).symm)
      replace o1i := o1i.far G11 (by first | exact far_lt fo1i fgi (by omega) | exact (far_lt fgi fo1i (by omega)).symm)
      first | replace BX1 := Blk.markU BX1 fgi (by omega) G11 | replace BX1 := Blk.markU2 BX1 fgi (by omega) G11
      replace o2i := o2i.far G11 (by first | exact far_lt fo2i fgi (by omega) | exact (far_lt fgi fo2i (by omega)).symm)
      first | replace BX2 := Blk.markU BX2 fgi (by omega) G11 | replace BX2 := Blk.markU2 BX2 fgi (by omega) G11
      replace gi := mgi
      have cB0 := B0.cell
      have lB0 := B0.lt
      have cB1 := B1.cell
      have lB1 := B1.lt
      have cB2 := B2.cell
      have lB2 := B2.lt
      have cBX1 := BX1.cell
      have lBX1 := BX1.lt
      have cBX2 := BX2.cell
      have lBX2 := BX2.lt
      go_wp2_with fail
      clear cB0 lB0
      clear cB1 lB1
      clear cB2 lB2
      clear cBX1 lBX1
      clear cBX2 lBX2
      refine (heldInt64S_any Gi n0 di 1 _ gi.rd (by omega) (by omega)).mono ?_
      rintro e w12 ⟨rfl, q12⟩
      replace B0 := B0.q q12
      replace B1 := B1.q q12
      replace B2 := B2.q q12
      replace Q0 := Q0.trans q12
      replace I1 := I1.q q12
      replace I2 := I2.q q12
      replace gs := gs.q q12
      replace o1i := o1i.q q12
      replace BX1 := BX1.q q12
      replace o2i := o2i.q q12
      replace BX2 := BX2.q q12
      replace gi := gi.q q12
      have z12 := q12.size
      have cB0 := B0.cell
      have lB0 := B0.lt
      have cB1 := B1.cell
      have lB1 := B1.lt
      have cB2 := B2.cell
      have lB2 := B2.lt
      have cBX1 := BX1.cell
      have lBX1 := BX1.lt
      have cBX2 := BX2.cell
      have lBX2 := BX2.lt
      go_wp2_with fail
      clear cB0 lB0
      clear cB1 lB1
      clear cB2 lB2
      clear cBX1 lBX1
      clear cBX2 lBX2
      clear o1i
      clear o2i
      have WQ13 := Q.refl (w12)
      have hS13 : ∀ w', Q (w12) w' → (Q (w12) w' ∧ w'.cell? ⟨w2.heap.size, 0, none⟩ = some (.slice A1i a1n c1i) ∧ w'.cell? ⟨w3.heap.size, 0, none⟩ = some (.slice A2i a2n c2i) ∧ w'.cell? ⟨w.heap.size, 0, none⟩ = some (.int .i64 a0x0) ∧ w'.cell? ⟨w.heap.size, 1, none⟩ = some (.int .i64 a0x1) ∧ w'.cell? ⟨w.heap.size, 2, none⟩ = some (.int .i64 a0x2) ∧ w'.cell? ⟨w.heap.size, 3, none⟩ = some (.int .i64 a0x3) ∧ w'.cell? ⟨w.heap.size + 1, 0, none⟩ = some (.slice a1A a1n a1c) ∧ w'.cell? ⟨w.heap.size + 1 + 1, 0, none⟩ = some (.slice a2A a2n a2c)) := fun w' q => ⟨q, (BX1.q q).cell _, (BX2.q q).cell _, (B0.q q).cell _, (B0.q q).cell _, (B0.q q).cell _, (B0.q q).cell _, (B1.q q).cell _, (B2.q q).cell _⟩
      go_region_held3 (fun w' => Q (w12) w' ∧ w'.cell? ⟨w2.heap.size, 0, none⟩ = some (.slice A1i a1n c1i) ∧ w'.cell? ⟨w3.heap.size, 0, none⟩ = some (.slice A2i a2n c2i) ∧ w'.cell? ⟨w.heap.size, 0, none⟩ = some (.int .i64 a0x0) ∧ w'.cell? ⟨w.heap.size, 1, none⟩ = some (.int .i64 a0x1) ∧ w'.cell? ⟨w.heap.size, 2, none⟩ = some (.int .i64 a0x2) ∧ w'.cell? ⟨w.heap.size, 3, none⟩ = some (.int .i64 a0x3) ∧ w'.cell? ⟨w.heap.size + 1, 0, none⟩ = some (.slice a1A a1n a1c) ∧ w'.cell? ⟨w.heap.size + 1 + 1, 0, none⟩ = some (.slice a2A a2n a2c)) (first | exact hS13 _ (by first | assumption | exact QR | exact (Q.refl _).drew) | (go_split_ands; exact hS13 _ (by first | assumption | exact QR | exact (Q.refl _).drew))) (first | (go_at_call 6; refine (toWatch_any a0x0 a0x1 a0x2 a0x3 _).mono ?_; rintro e wr0 ⟨rfl, qr0⟩; have QR : Q (w12) _ := Q.trans (by first | assumption | exact (Q.refl _).drew) qr0; have zr := QR.size) | (go_at_call 7; refine (toTrack_any a1A a1n a1c a1xs _ (I1.q (by first | assumption | exact (Q.refl _).drew)) HL1.out (by omega)).mono ?_; rintro e wr1 ⟨A1h, c1h, rfl, o1h, qr1⟩; have QR : Q (w12) _ := Q.trans (by first | assumption | exact (Q.refl _).drew) qr1; have zr := QR.size; skip) | (go_at_call 7; refine (toTrack_any a2A a2n a2c a2xs _ (I2.q (by first | assumption | exact (Q.refl _).drew)) HL2.out (by omega)).mono ?_; rintro e wr2 ⟨A2h, c2h, rfl, o2h, qr2⟩; have QR : Q (w12) _ := Q.trans (by first | assumption | exact (Q.refl _).drew) qr2; have zr := QR.size; skip; replace o1h := o1h.q qr2) | (go_at_call 8; refine (K1.out A1h c1h A2h c2h _ o1h.rd HL1.out (by omega) o2h.rd HL2.out (by omega)).mono ?_; rintro e w13 ⟨Gh, dh, rfl, gh, qf13⟩; have QR : Q (w12) _ := Q.trans (by first | assumption | exact (Q.refl _).drew) qf13))
      replace B0 := B0.q QR
      replace B1 := B1.q QR
      replace B2 := B2.q QR
      replace Q0 := Q0.trans QR
      replace I1 := I1.q QR
      replace I2 := I2.q QR
      replace gs := gs.q QR
      replace BX1 := BX1.q QR
      replace BX2 := BX2.q QR
      replace gi := gi.q QR
      have z13 := QR.size
      clear QR
      have fgh := gh.from
      have HGh := Lib.hid (show L0.length = n0 * 1 by simpa using gh.1)
      have cB0 := B0.cell
      have lB0 := B0.lt
      have cB1 := B1.cell
      have lB1 := B1.lt
      have cB2 := B2.cell
      have lB2 := B2.lt
      have cBX1 := BX1.cell
      have lBX1 := BX1.lt
      have cBX2 := BX2.cell
      have lBX2 := BX2.lt
      go_wp2_with fail
      clear cB0 lB0
      clear cB1 lB1
      clear cB2 lB2
      clear cBX1 lBX1
      clear cBX2 lBX2
      refine (eqInt64S_same Gh Gs n0 dh ds L0 _ gh.rd gs.rd (by rw [HGh.out]; omega) (by omega)).mono ?_
      rintro e w14 ⟨rfl, q14⟩
      replace B0 := B0.q q14
      replace B1 := B1.q q14
      replace B2 := B2.q q14
      replace Q0 := Q0.trans q14
      replace I1 := I1.q q14
      replace I2 := I2.q q14
      replace gs := gs.q q14
      replace BX1 := BX1.q q14
      replace BX2 := BX2.q q14
      replace gi := gi.q q14
      replace gh := gh.q q14
      have z14 := q14.size
      have cB0 := B0.cell
      have lB0 := B0.lt
      have cB1 := B1.cell
      have lB1 := B1.lt
      have cB2 := B2.cell
      have lB2 := B2.lt
      have cBX1 := BX1.cell
      have lBX1 := BX1.lt
      have cBX2 := BX2.cell
      have lBX2 := BX2.lt
      go_wp2_with fail
      clear cB0 lB0
      clear cB1 lB1
      clear cB2 lB2
      clear cBX1 lBX1
      clear cBX2 lBX2
      refine (heldInt64S_any Gi n0 di 1 _ gi.rd (by omega) (by omega)).mono ?_
      rintro e w15 ⟨rfl, q15⟩
      replace B0 := B0.q q15
      replace B1 := B1.q q15
      replace B2 := B2.q q15
      replace Q0 := Q0.trans q15
      replace I1 := I1.q q15
      replace I2 := I2.q q15
      replace gs := gs.q q15
      replace BX1 := BX1.q q15
      replace BX2 := BX2.q q15
      replace gi := gi.q q15
      replace gh := gh.q q15
      have z15 := q15.size
      have cB0 := B0.cell
      have lB0 := B0.lt
      have cB1 := B1.cell
      have lB1 := B1.lt
      have cB2 := B2.cell
      have lB2 := B2.lt
      have cBX1 := BX1.cell
      have lBX1 := BX1.lt
      have cBX2 := BX2.cell
      have lBX2 := BX2.lt
      go_wp2_with fail
      clear cB0 lB0
      clear cB1 lB1
      clear cB2 lB2
      clear cBX1 lBX1
      clear cBX2 lBX2
      go_ret
      exact ⟨rfl, Q0⟩
end Go.Proofs.Ytadljkdjlpmllaa
