/- Walks: the law IsEarly's own walk. -/
import Derived.Test.YtlmaecmjpbgegaaEarly
import Derived.Deep.RegionHeld3
namespace Go.Proofs.Ytlmaecmjpbgegaa
open Go.RowKit Go.WideShapes Go.ChangeShapes
theorem toPoint_any (a b : Int) (w : World) : Calls Try.prog 65 #[.agg #[.int .i64 a, .int .i64 b]] w fun e w' => e = .returned (.agg #[.int .i64 a, .int .i64 b]) ∧ Q w w' := by
  go_enter Try.func65, Try.ntmps65
  go_wp2
  exact bodyPost_ret (v := .agg #[.int .i64 a, .int .i64 b]) (by simp [results, Try.results65, go_sem]) rfl ⟨rfl, (((Q.refl _).alloc _).alloc _).alloc _⟩
set_option maxHeartbeats 1000000 in
theorem toLine_any (a b c d : Int) (w : World) : Calls Try.prog 25 #[.agg #[.int .i64 a, .int .i64 b, .int .i64 c, .int .i64 d]] w fun e w' => e = .returned (.agg #[.int .i64 a, .int .i64 b, .int .i64 c, .int .i64 d]) ∧ Q w w' := by
  have K1 := Lib.hid (fun wv => toPoint_any a b wv)
  have K2 := Lib.hid (fun wv => toPoint_any c d wv)
  go_enter Try.func25, Try.ntmps25
  go_wp2_with (first | (have q0 := q1; go_at_call 65; refine (K2.out _).mono ?_; rintro e w2 ⟨rfl, q2⟩; have C0 := ((B0.far (p := ⟨w.heap.size + 2, 0, none⟩) (by simp) (.int .i64 a)).far (p := ⟨w.heap.size + 2, 1, none⟩) (by simp) (.int .i64 b)).q q2; have C1 := ((B1.far (p := ⟨w.heap.size + 2, 0, none⟩) (by simp) (.int .i64 a)).far (p := ⟨w.heap.size + 2, 1, none⟩) (by simp) (.int .i64 b)).q q2; have C2 := ((B2.set_ 0 (.int .i64 a)).set_ 1 (.int .i64 b)).q q2; have y0 := C0.cell; have y1 := C1.cell; have y2 := C2.cell; have v1 := C1.frozen; have v2 := C2.frozen) | (go_at_call 65; refine (K1.out _).mono ?_; rintro e w1 ⟨rfl, q1⟩; have B0 := q1.boxB3; have B1 : Blk w1 (w.heap.size + 1) _ _ := (by simpa using q1.boxB2); have B2 : Blk w1 (w.heap.size + 2) _ _ := (by simpa using q1.boxB); have x0 := B0.cell; have x2 := B2.cell; have z2 := B2.frozen))
  have F := ((((((C1.far (p := ⟨w.heap.size + 2, 2, none⟩) (by simp) (.int .i64 c)).far (p := ⟨w.heap.size + 2, 3, none⟩) (by simp) (.int .i64 d)).set_ 0 (.int .i64 a)).set_ 1 (.int .i64 b)).set_ 2 (.int .i64 c)).set_ 3 (.int .i64 d)).cell
  have Q1 : Q w w1 := Q.trans (by (repeat (first | assumption | exact Q.refl _ | refine Q.alloc ?_ _ | refine Q.drewN ?_ _ | refine Q.drew ?_))) q1
  have Q2 : Q w w2 := Q.trans ((Q1.setCell (p := ⟨w.heap.size + 2, 0, none⟩) (by simp <;> omega) _).setCell (p := ⟨w.heap.size + 2, 1, none⟩) (by simp <;> omega) _) q2
  have HQ := Lib.hid Q2
  clear Q1 Q2 q1 q2 q0 x0 x2 z2 y0 y1 y2 v1 v2 B0 B1 B2 C0 C1 C2 K1 K2
  refine bodyPost_ret (v := .agg #[.int .i64 a, .int .i64 b, .int .i64 c, .int .i64 d]) ?_ rfl ⟨rfl, ?_⟩
  · simp [results, Try.results25, go_sem, F]
  · exact ((((((HQ.out.setCell (by simp <;> omega) _).setCell (by simp <;> omega) _).setCell (by simp <;> omega) _).setCell (by simp <;> omega) _).setCell (by simp <;> omega) _).setCell (by simp <;> omega) _)
set_option maxRecDepth 100000 in
set_option maxHeartbeats 4000000 in
theorem law_FnExactIsEarly (a0x0 a0x1 a0x2 a0x3 : Int) (ha0 : ∀ y ∈ [a0x0, a0x1, a0x2, a0x3], -9223372036854775808 ≤ y ∧ y ≤ 9223372036854775807) (a1A : Option Addr) (a1n a1c : Nat) (a1xs : List Int) (ha1l : a1xs.length = a1n * 3) (ha1b : ∀ y ∈ a1xs, -9223372036854775808 ≤ y ∧ y ≤ 9223372036854775807) (ha1c : a1n ≤ a1c ∧ a1c ≤ maxLen) (a2 : Int) (ha2 : -9223372036854775808 ≤ a2 ∧ a2 ≤ 9223372036854775807) (w : World) (ha1 : Rd w a1A a1xs) :
    Calls Try.prog 4 #[.agg #[.int .i64 a0x0, .int .i64 a0x1, .int .i64 a0x2, .int .i64 a0x3], .agg #[.slice a1A a1n a1c], .int .i64 a2] w fun e w' => e = .returned (.bool true) ∧ Below w.heap.size w w' := by
  have hn1 : a1n ≤ 9223372036854775807 := by have := ha1c; unfold maxLen at this; omega
  clear ha1c ha1b
  have HL1 := Lib.hid ha1l
  clear ha1l
  have HB0 := Lib.hid ha0
  clear ha0
  have HB2 := Lib.hid ha2
  clear ha2
  have k0 := fun (a1A : Option Addr) (a1c : Nat) => spec_IsEarly a0x0 a0x1 a0x2 a0x3 a1A a1n a1c a1xs a2
  have k1 := fun (a1A : Option Addr) (a1c : Nat) => impl_IsEarly a0x0 a0x1 a0x2 a0x3 a1A a1n a1c a1xs a2
  obtain ⟨r0, hr0⟩ : ∃ r0, r0 = earB a0x0 a0x1 a0x2 a0x3 a1xs a1n a2 := ⟨_, rfl⟩
  obtain ⟨r1, hr1⟩ : ∃ r1, r1 = stC a0x0 a0x1 a0x2 a0x3 a1xs a1n a2 := ⟨_, rfl⟩
  rw [← hr0, ← hr1] at k0 k1
  have K0 := Lib.hid k0
  have K1 := Lib.hid k1
  clear k0 k1 hr0 hr1
  rcases Nat.lt_or_ge (1048576) a1n with hsz1 | hsz1
  · skip
    go_enter Try.func4, Try.ntmps4
    have B0 := Blk.new w 45 #[.int .i64 a0x0, .int .i64 a0x1, .int .i64 a0x2, .int .i64 a0x3]
    have gB0 : w.heap.size + 0 < w.heap.size + 2 := by omega
    have B0 := B0.alloc (.cells #[.slice a1A a1n a1c] 26)
    have B1 := Blk.new (w.alloc (.cells #[.int .i64 a0x0, .int .i64 a0x1, .int .i64 a0x2, .int .i64 a0x3] 45)) 26 #[.slice a1A a1n a1c]
    have gB1 : w.heap.size + 1 < w.heap.size + 2 := by omega
    have eB1 : (w.alloc (.cells #[.int .i64 a0x0, .int .i64 a0x1, .int .i64 a0x2, .int .i64 a0x3] 45)).heap.size = w.heap.size + 1 := by simp
    rw [eB1] at B1
    clear eB1
    have Q0 : Q w ((w.alloc (.cells #[.int .i64 a0x0, .int .i64 a0x1, .int .i64 a0x2, .int .i64 a0x3] 45)).alloc (.cells #[.slice a1A a1n a1c] 26)) := by (repeat (first | assumption | exact Q.refl _ | refine Q.alloc ?_ _ | refine Q.drewN ?_ _ | refine Q.drew ?_))
    have I1 := ha1
    replace I1 := I1.q Q0
    have z0 : w.heap.size + 2 ≤ (((w.alloc (.cells #[.int .i64 a0x0, .int .i64 a0x1, .int .i64 a0x2, .int .i64 a0x3] 45)).alloc (.cells #[.slice a1A a1n a1c] 26))).heap.size := by simp
    go_wp2_with fail
    refine (szTrack_any a1A a1n a1c 1048576 _ (by omega) (by omega) hn1).mono ?_
    rintro e wz1 ⟨rfl, qz1⟩
    replace B0 := B0.q qz1
    replace B1 := B1.q qz1
    replace Q0 := Q0.trans qz1
    replace I1 := I1.q qz1
    have zz1 := qz1.size
    rw [if_neg (by omega)]
    have cB0 := B0.cell
    have cB1 := B1.cell
    go_wp2_with fail
    clear cB0
    clear cB1
    go_ret
    exact ⟨rfl, Q0⟩
  · skip
    go_enter Try.func4, Try.ntmps4
    have B0 := Blk.new w 45 #[.int .i64 a0x0, .int .i64 a0x1, .int .i64 a0x2, .int .i64 a0x3]
    have gB0 : w.heap.size + 0 < w.heap.size + 2 := by omega
    have B0 := B0.alloc (.cells #[.slice a1A a1n a1c] 26)
    have B1 := Blk.new (w.alloc (.cells #[.int .i64 a0x0, .int .i64 a0x1, .int .i64 a0x2, .int .i64 a0x3] 45)) 26 #[.slice a1A a1n a1c]
    have gB1 : w.heap.size + 1 < w.heap.size + 2 := by omega
    have eB1 : (w.alloc (.cells #[.int .i64 a0x0, .int .i64 a0x1, .int .i64 a0x2, .int .i64 a0x3] 45)).heap.size = w.heap.size + 1 := by simp
    rw [eB1] at B1
    clear eB1
    have Q0 : Q w ((w.alloc (.cells #[.int .i64 a0x0, .int .i64 a0x1, .int .i64 a0x2, .int .i64 a0x3] 45)).alloc (.cells #[.slice a1A a1n a1c] 26)) := by (repeat (first | assumption | exact Q.refl _ | refine Q.alloc ?_ _ | refine Q.drewN ?_ _ | refine Q.drew ?_))
    have I1 := ha1
    replace I1 := I1.q Q0
    have z0 : w.heap.size + 2 ≤ (((w.alloc (.cells #[.int .i64 a0x0, .int .i64 a0x1, .int .i64 a0x2, .int .i64 a0x3] 45)).alloc (.cells #[.slice a1A a1n a1c] 26))).heap.size := by simp
    go_wp2_with fail
    refine (szTrack_any a1A a1n a1c 1048576 _ (by omega) (by omega) hn1).mono ?_
    rintro e wz1 ⟨rfl, qz1⟩
    replace B0 := B0.q qz1
    replace B1 := B1.q qz1
    replace Q0 := Q0.trans qz1
    replace I1 := I1.q qz1
    have zz1 := qz1.size
    rw [if_pos (by omega)]
    have cB0 := B0.cell
    have cB1 := B1.cell
    go_wp2_with fail
    clear cB0
    clear cB1
    have cB0 := B0.cell
    have lB0 := B0.lt
    have cB1 := B1.cell
    have lB1 := B1.lt
    go_wp2_with fail
    clear cB0 lB0
    clear cB1 lB1
    have WQ1 := Q.refl (wz1)
    have hS1 : ∀ w', Q (wz1) w' → (Q (wz1) w' ∧ w'.cell? ⟨w.heap.size, 0, none⟩ = some (.int .i64 a0x0) ∧ w'.cell? ⟨w.heap.size, 1, none⟩ = some (.int .i64 a0x1) ∧ w'.cell? ⟨w.heap.size, 2, none⟩ = some (.int .i64 a0x2) ∧ w'.cell? ⟨w.heap.size, 3, none⟩ = some (.int .i64 a0x3) ∧ w'.cell? ⟨w.heap.size + 1, 0, none⟩ = some (.slice a1A a1n a1c)) := fun w' q => ⟨q, (B0.q q).cell _, (B0.q q).cell _, (B0.q q).cell _, (B0.q q).cell _, (B1.q q).cell _⟩
    go_region_held3 (fun w' => Q (wz1) w' ∧ w'.cell? ⟨w.heap.size, 0, none⟩ = some (.int .i64 a0x0) ∧ w'.cell? ⟨w.heap.size, 1, none⟩ = some (.int .i64 a0x1) ∧ w'.cell? ⟨w.heap.size, 2, none⟩ = some (.int .i64 a0x2) ∧ w'.cell? ⟨w.heap.size, 3, none⟩ = some (.int .i64 a0x3) ∧ w'.cell? ⟨w.heap.size + 1, 0, none⟩ = some (.slice a1A a1n a1c)) (first | exact hS1 _ (by first | assumption | exact QR | exact (Q.refl _).drew) | (go_split_ands; exact hS1 _ (by first | assumption | exact QR | exact (Q.refl _).drew))) (first | (go_at_call 25; refine (toLine_any a0x0 a0x1 a0x2 a0x3 _).mono ?_; rintro e wr0 ⟨rfl, qr0⟩; have QR : Q (wz1) _ := Q.trans (by first | assumption | exact (Q.refl _).drew) qr0; have zr := QR.size) | (go_at_call 17; refine (toTrack_any a1A a1n a1c a1xs _ (I1.q (by first | assumption | exact (Q.refl _).drew)) HL1.out (by omega)).mono ?_; rintro e wr1 ⟨A1s, c1s, rfl, o1s, qr1⟩; have QR : Q (wz1) _ := Q.trans (by first | assumption | exact (Q.refl _).drew) qr1; have zr := QR.size; skip) | (go_at_call 24; refine (K0.out A1s c1s _ o1s.rd HL1.out (by omega)).mono ?_; rintro e w1 ⟨rfl, qf1⟩; have QR : Q (wz1) _ := Q.trans (by first | assumption | exact (Q.refl _).drew) qf1))
    replace B0 := B0.q QR
    replace B1 := B1.q QR
    replace Q0 := Q0.trans QR
    replace I1 := I1.q QR
    have z1 := QR.size
    clear QR
    have cB0 := B0.cell
    have lB0 := B0.lt
    have cB1 := B1.cell
    have lB1 := B1.lt
    go_wp2_with fail
    clear cB0 lB0
    clear cB1 lB1
    refine (toTrack_any a1A a1n a1c a1xs _ I1 HL1.out (by omega)).mono ?_
    rintro e w2 ⟨A1i, c1i, rfl, o1i, q2⟩
    replace B0 := B0.q q2
    replace B1 := B1.q q2
    replace Q0 := Q0.trans q2
    replace I1 := I1.q q2
    have z2 := q2.size
    have fo1i := o1i.from
    have cB0 := B0.cell
    have lB0 := B0.lt
    have cB1 := B1.cell
    have lB1 := B1.lt
    go_wp2_with fail
    clear cB0 lB0
    clear cB1 lB1
    have BX1 := Blk.new w2 35 #[.slice A1i a1n c1i]
    replace B0 := B0.q ((Q.refl _).alloc (.cells #[.slice A1i a1n c1i] 35))
    replace B1 := B1.q ((Q.refl _).alloc (.cells #[.slice A1i a1n c1i] 35))
    replace Q0 := Q0.trans ((Q.refl _).alloc (.cells #[.slice A1i a1n c1i] 35))
    replace I1 := I1.q ((Q.refl _).alloc (.cells #[.slice A1i a1n c1i] 35))
    replace o1i := o1i.q ((Q.refl _).alloc (.cells #[.slice A1i a1n c1i] 35))
    have zx1 : w2.heap.size ≤ (w2.alloc (.cells #[.slice A1i a1n c1i] 35)).heap.size := by simp
    have gx1 : w2.heap.size < (w2.alloc (.cells #[.slice A1i a1n c1i] 35)).heap.size := by simp
    have WQ3 := Q.refl ((w2.alloc (.cells #[.slice A1i a1n c1i] 35)))
    have hS3 : ∀ w', Q ((w2.alloc (.cells #[.slice A1i a1n c1i] 35))) w' → (Q ((w2.alloc (.cells #[.slice A1i a1n c1i] 35))) w' ∧ w'.cell? ⟨w2.heap.size, 0, none⟩ = some (.slice A1i a1n c1i) ∧ w'.cell? ⟨w.heap.size, 0, none⟩ = some (.int .i64 a0x0) ∧ w'.cell? ⟨w.heap.size, 1, none⟩ = some (.int .i64 a0x1) ∧ w'.cell? ⟨w.heap.size, 2, none⟩ = some (.int .i64 a0x2) ∧ w'.cell? ⟨w.heap.size, 3, none⟩ = some (.int .i64 a0x3) ∧ w'.cell? ⟨w.heap.size + 1, 0, none⟩ = some (.slice a1A a1n a1c)) := fun w' q => ⟨q, (BX1.q q).cell _, (B0.q q).cell _, (B0.q q).cell _, (B0.q q).cell _, (B0.q q).cell _, (B1.q q).cell _⟩
    go_region_held3 (fun w' => Q ((w2.alloc (.cells #[.slice A1i a1n c1i] 35))) w' ∧ w'.cell? ⟨w2.heap.size, 0, none⟩ = some (.slice A1i a1n c1i) ∧ w'.cell? ⟨w.heap.size, 0, none⟩ = some (.int .i64 a0x0) ∧ w'.cell? ⟨w.heap.size, 1, none⟩ = some (.int .i64 a0x1) ∧ w'.cell? ⟨w.heap.size, 2, none⟩ = some (.int .i64 a0x2) ∧ w'.cell? ⟨w.heap.size, 3, none⟩ = some (.int .i64 a0x3) ∧ w'.cell? ⟨w.heap.size + 1, 0, none⟩ = some (.slice a1A a1n a1c)) (first | exact hS3 _ (by first | assumption | exact QR | exact (Q.refl _).drew) | (go_split_ands; exact hS3 _ (by first | assumption | exact QR | exact (Q.refl _).drew))) (first | (go_at_call 25; refine (toLine_any a0x0 a0x1 a0x2 a0x3 _).mono ?_; rintro e wr0 ⟨rfl, qr0⟩; have QR : Q ((w2.alloc (.cells #[.slice A1i a1n c1i] 35))) _ := Q.trans (by first | assumption | exact (Q.refl _).drew) qr0; have zr := QR.size) | (go_at_call 26; refine (K1.out A1i c1i _ (o1i.q (by first | assumption | exact (Q.refl _).drew)).rd HL1.out (by omega)).mono ?_; rintro e w3 ⟨rfl, qf3⟩; have QR : Q ((w2.alloc (.cells #[.slice A1i a1n c1i] 35))) _ := Q.trans (by first | assumption | exact (Q.refl _).drew) qf3))
    replace B0 := B0.q QR
    replace B1 := B1.q QR
    replace Q0 := Q0.trans QR
    replace I1 := I1.q QR
    replace o1i := o1i.q QR
    replace BX1 := BX1.q QR
    have z3 := QR.size
    clear QR
    have cB0 := B0.cell
    have lB0 := B0.lt
    have cB1 := B1.cell
    have lB1 := B1.lt
    have cBX1 := BX1.cell
    have lBX1 := BX1.lt
    go_wp2_with fail
    clear cB0 lB0
    clear cB1 lB1
    clear cBX1 lBX1
    have hS4 : ∀ w', Q w3 w' → (Q w3 w' ∧ w'.cell? ⟨w2.heap.size, 0, none⟩ = some (.slice A1i a1n c1i) ∧ w'.cell? ⟨w.heap.size, 0, none⟩ = some (.int .i64 a0x0) ∧ w'.cell? ⟨w.heap.size, 1, none⟩ = some (.int .i64 a0x1) ∧ w'.cell? ⟨w.heap.size, 2, none⟩ = some (.int .i64 a0x2) ∧ w'.cell? ⟨w.heap.size, 3, none⟩ = some (.int .i64 a0x3) ∧ w'.cell? ⟨w.heap.size + 1, 0, none⟩ = some (.slice a1A a1n a1c)) := fun w' q => ⟨q, (BX1.q q).cell _, (B0.q q).cell _, (B0.q q).cell _, (B0.q q).cell _, (B0.q q).cell _, (B1.q q).cell _⟩
    go_region_held3 (fun w' => Q w3 w' ∧ w'.cell? ⟨w2.heap.size, 0, none⟩ = some (.slice A1i a1n c1i) ∧ w'.cell? ⟨w.heap.size, 0, none⟩ = some (.int .i64 a0x0) ∧ w'.cell? ⟨w.heap.size, 1, none⟩ = some (.int .i64 a0x1) ∧ w'.cell? ⟨w.heap.size, 2, none⟩ = some (.int .i64 a0x2) ∧ w'.cell? ⟨w.heap.size, 3, none⟩ = some (.int .i64 a0x3) ∧ w'.cell? ⟨w.heap.size + 1, 0, none⟩ = some (.slice a1A a1n a1c)) (first | exact hS4 _ (by first | assumption | exact QR | exact (Q.refl _).drew) | (go_split_ands; exact hS4 _ (by first | assumption | exact QR | exact (Q.refl _).drew))) (first | (go_at_call 17; refine (toTrack_any a1A a1n a1c a1xs _ (I1.q (by first | assumption | exact (Q.refl _).drew)) HL1.out (by omega)).mono ?_; rintro e wr4 ⟨A1q4, c1q4, rfl, o1q4, qr4⟩; have QR : Q w3 _ := Q.trans (by first | assumption | exact (Q.refl _).drew) qr4) | (go_at_call 20; refine (eqTrack_same A1i A1q4 a1n c1i c1q4 a1xs _ (o1i.q (by first | assumption | exact (Q.refl _).drew)).rd o1q4.rd HL1.out (by omega)).mono ?_; rintro e w4 ⟨rfl, qf4⟩; have QR : Q w3 _ := Q.trans (by first | assumption | exact (Q.refl _).drew) qf4))
    replace B0 := B0.q QR
    replace B1 := B1.q QR
    replace Q0 := Q0.trans QR
    replace I1 := I1.q QR
    replace o1i := o1i.q QR
    replace BX1 := BX1.q QR
    have z4 := QR.size
    clear QR
    have cB0 := B0.cell
    have lB0 := B0.lt
    have cB1 := B1.cell
    have lB1 := B1.lt
    have cBX1 := BX1.cell
    have lBX1 := BX1.lt
    go_wp2_with fail
    clear cB0 lB0
    clear cB1 lB1
    clear cBX1 lBX1
    go_ret
    exact ⟨rfl, Q0⟩
end Go.Proofs.Ytlmaecmjpbgegaa
