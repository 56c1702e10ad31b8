/- Walks: the law that the program's StartOf returns what the reference's returns. -/
import Derived.Test.YtckmlioklnjboaaStO
import Derived.Deep.RegionHeld3
namespace Go.Proofs.Ytckmlioklnjboaa
open Go.RowKit Go.WideShapes Go.ChangeShapes
set_option maxRecDepth 100000 in
set_option maxHeartbeats 400000000 in
theorem law_FnExactStartOf (a0x0 a0x1 a0x2 a0x3 : Int) (ha0 : ∀ y ∈ [a0x0, a0x1, a0x2, a0x3], -9223372036854775808 ≤ y ∧ y ≤ 9223372036854775807) (a1A : Option Addr) (a1n a1c : Nat) (a1xs : List Int) (ha1l : a1xs.length = a1n * 3) (_ha1b : ∀ y ∈ a1xs, -9223372036854775808 ≤ y ∧ y ≤ 9223372036854775807) (ha1c : a1n ≤ a1c ∧ a1c ≤ maxLen) (a2 : Int) (ha2 : -9223372036854775808 ≤ a2 ∧ a2 ≤ 9223372036854775807) (a3 : Int) (ha3 : -9223372036854775808 ≤ a3 ∧ a3 ≤ 9223372036854775807) (w : World) (ha1 : Rd w a1A a1xs) :
    Calls Try.prog 3 #[.agg #[.int .i64 a0x0, .int .i64 a0x1, .int .i64 a0x2, .int .i64 a0x3], .agg #[.slice a1A a1n a1c], .int .i64 a2, .int .i64 a3] w fun e w' => e = .returned (.bool true) ∧ Below w.heap.size w w' := by
  have hn1 : a1n ≤ 9223372036854775807 := by have := ha1c; unfold maxLen at this; omega
  clear ha1c _ha1b
  have HL1 := Lib.hid ha1l
  clear ha1l
  have HB0 := Lib.hid ha0
  clear ha0
  have HB2 := Lib.hid ha2
  clear ha2
  have HB3 := Lib.hid ha3
  clear ha3
  have k0 := fun (a1A : Option Addr) (a1c : Nat) => spec_StartOf a0x0 a0x1 a0x2 a0x3 a1A a1n a1c a1xs a2 a3
  have k1 := fun (a1A : Option Addr) (a1c : Nat) => impl_StartOf a0x0 a0x1 a0x2 a0x3 a1A a1n a1c a1xs a2 a3
  obtain ⟨p0, hp0⟩ : ∃ p0, p0 = soV a0x0 a0x1 a0x2 a0x3 a1xs a1n a2 a3 := ⟨_, rfl⟩
  obtain ⟨r1, hr1⟩ : ∃ r1, r1 = stK a0x0 a0x1 a0x2 a0x3 a1xs a1n a2 a3 := ⟨_, rfl⟩
  rw [← hp0, ← hr1] at k0 k1
  clear hp0
  obtain ⟨v0, v1, v2, v3⟩ := p0
  simp only [stVal] at k0 k1
  have K0 := Lib.hid k0
  have K1 := Lib.hid k1
  clear k0 k1 hr1
  rcases Nat.lt_or_ge (1048576) a1n with hsz1 | hsz1
  · skip
    go_enter Try.func3, Try.ntmps3
    have B0 := Blk.new w 25 #[.int .i64 a0x0, .int .i64 a0x1, .int .i64 a0x2, .int .i64 a0x3]
    have gB0 : w.heap.size + 0 < w.heap.size + 2 := by omega
    have B0 := B0.alloc (.cells #[.slice a1A a1n a1c] 28)
    have B1 := Blk.new (w.alloc (.cells #[.int .i64 a0x0, .int .i64 a0x1, .int .i64 a0x2, .int .i64 a0x3] 25)) 28 #[.slice a1A a1n a1c]
    have gB1 : w.heap.size + 1 < w.heap.size + 2 := by omega
    have eB1 : (w.alloc (.cells #[.int .i64 a0x0, .int .i64 a0x1, .int .i64 a0x2, .int .i64 a0x3] 25)).heap.size = w.heap.size + 1 := by simp
    rw [eB1] at B1
    clear eB1
    have Q0 : Q w ((w.alloc (.cells #[.int .i64 a0x0, .int .i64 a0x1, .int .i64 a0x2, .int .i64 a0x3] 25)).alloc (.cells #[.slice a1A a1n a1c] 28)) := by (repeat (first | assumption | exact Q.refl _ | refine Q.alloc ?_ _ | refine Q.drewN ?_ _ | refine Q.drew ?_))
    have I1 := ha1
    replace I1 := I1.q Q0
    have z0 : w.heap.size + 2 ≤ (((w.alloc (.cells #[.int .i64 a0x0, .int .i64 a0x1, .int .i64 a0x2, .int .i64 a0x3] 25)).alloc (.cells #[.slice a1A a1n a1c] 28))).heap.size := by simp
    go_wp2_with fail
    refine (szTrack_any a1A a1n a1c 1048576 _ (by omega) (by omega) hn1).mono ?_
    rintro e wz1 ⟨rfl, qz1⟩
    replace B0 := B0.q qz1
    replace B1 := B1.q qz1
    replace Q0 := Q0.trans qz1
    replace I1 := I1.q qz1
    have zz1 := qz1.size
    rw [if_neg (by omega)]
    have cB0 := B0.cell
    have cB1 := B1.cell
    go_wp2_with fail
    clear cB0
    clear cB1
    go_ret
    exact ⟨rfl, Q0⟩
  · skip
    go_enter Try.func3, Try.ntmps3
    have B0 := Blk.new w 25 #[.int .i64 a0x0, .int .i64 a0x1, .int .i64 a0x2, .int .i64 a0x3]
    have gB0 : w.heap.size + 0 < w.heap.size + 2 := by omega
    have B0 := B0.alloc (.cells #[.slice a1A a1n a1c] 28)
    have B1 := Blk.new (w.alloc (.cells #[.int .i64 a0x0, .int .i64 a0x1, .int .i64 a0x2, .int .i64 a0x3] 25)) 28 #[.slice a1A a1n a1c]
    have gB1 : w.heap.size + 1 < w.heap.size + 2 := by omega
    have eB1 : (w.alloc (.cells #[.int .i64 a0x0, .int .i64 a0x1, .int .i64 a0x2, .int .i64 a0x3] 25)).heap.size = w.heap.size + 1 := by simp
    rw [eB1] at B1
    clear eB1
    have Q0 : Q w ((w.alloc (.cells #[.int .i64 a0x0, .int .i64 a0x1, .int .i64 a0x2, .int .i64 a0x3] 25)).alloc (.cells #[.slice a1A a1n a1c] 28)) := by (repeat (first | assumption | exact Q.refl _ | refine Q.alloc ?_ _ | refine Q.drewN ?_ _ | refine Q.drew ?_))
    have I1 := ha1
    replace I1 := I1.q Q0
    have z0 : w.heap.size + 2 ≤ (((w.alloc (.cells #[.int .i64 a0x0, .int .i64 a0x1, .int .i64 a0x2, .int .i64 a0x3] 25)).alloc (.cells #[.slice a1A a1n a1c] 28))).heap.size := by simp
    go_wp2_with fail
    refine (szTrack_any a1A a1n a1c 1048576 _ (by omega) (by omega) hn1).mono ?_
    rintro e wz1 ⟨rfl, qz1⟩
    replace B0 := B0.q qz1
    replace B1 := B1.q qz1
    replace Q0 := Q0.trans qz1
    replace I1 := I1.q qz1
    have zz1 := qz1.size
    rw [if_pos (by omega)]
    have cB0 := B0.cell
    have cB1 := B1.cell
    go_wp2_with fail
    clear cB0
    clear cB1
    have cB0 := B0.cell
    have lB0 := B0.lt
    have cB1 := B1.cell
    have lB1 := B1.lt
    go_wp2_with fail
    clear cB0 lB0
    clear cB1 lB1
    go_cut [10, 11] from 10 (fun p q wx => ∃ g, p = .pointer (some ⟨g, 0, none⟩) ∧ q = .int .i64 r1 ∧ Blk wx g 31 #[.int .i64 v0, .int .i64 v1, .int .i64 v2, .bool v3] ∧ Q (wz1) wx)
    case first =>
      have cB0 := B0.cell
      have lB0 := B0.lt
      have cB1 := B1.cell
      have lB1 := B1.lt
      have hS1 : ∀ w', Q (wz1) w' → (Q (wz1) w' ∧ w'.cell? ⟨w.heap.size, 0, none⟩ = some (.int .i64 a0x0) ∧ w'.cell? ⟨w.heap.size, 1, none⟩ = some (.int .i64 a0x1) ∧ w'.cell? ⟨w.heap.size, 2, none⟩ = some (.int .i64 a0x2) ∧ w'.cell? ⟨w.heap.size, 3, none⟩ = some (.int .i64 a0x3) ∧ w'.cell? ⟨w.heap.size + 1, 0, none⟩ = some (.slice a1A a1n a1c)) := fun w' q => ⟨q, (B0.q q).cell _, (B0.q q).cell _, (B0.q q).cell _, (B0.q q).cell _, (B1.q q).cell _⟩
      go_region_held3 (fun w' => Q (wz1) w' ∧ w'.cell? ⟨w.heap.size, 0, none⟩ = some (.int .i64 a0x0) ∧ w'.cell? ⟨w.heap.size, 1, none⟩ = some (.int .i64 a0x1) ∧ w'.cell? ⟨w.heap.size, 2, none⟩ = some (.int .i64 a0x2) ∧ w'.cell? ⟨w.heap.size, 3, none⟩ = some (.int .i64 a0x3) ∧ w'.cell? ⟨w.heap.size + 1, 0, none⟩ = some (.slice a1A a1n a1c)) (first | exact hS1 _ (by with_reducible first | exact QR | exact QR.alloc _ | exact QR.set4 (by first | assumption | omega) _ _ _ _ | assumption | exact Q.alloc (by assumption) _ | exact (Q.refl _).drew | exact (Q.refl _).drew.alloc _ | exact ((Q.refl _).alloc _).drew | exact Q.refl _) | (go_split_ands; exact hS1 _ (by with_reducible first | exact QR | exact QR.alloc _ | exact QR.set4 (by first | assumption | omega) _ _ _ _ | assumption | exact Q.alloc (by assumption) _ | exact (Q.refl _).drew | exact (Q.refl _).drew.alloc _ | exact ((Q.refl _).alloc _).drew | exact Q.refl _))) (first | (go_at_call 9; refine (toLine_any a0x0 a0x1 a0x2 a0x3 _).mono ?_; rintro e wr0 ⟨rfl, qr0⟩; have QR : Q (wz1) _ := Q.trans (by with_reducible first | assumption | exact Q.alloc (by assumption) _ | exact (Q.refl _).alloc _ | exact (Q.refl _).drew | exact Q.drew (by assumption) | exact (Q.refl _).drew.alloc _ | exact ((Q.refl _).alloc _).drew | exact Q.refl _) qr0; have zr0 := QR.size; (with_reducible first | replace BV := BV.q qr0 | have BV := qr0.boxB | have BV := Blk.q (Blk.drew (Blk.new _ _ _)) qr0 | skip); have cB0r0 := (B0.q QR).cell; have lB0r0 := (B0.q QR).lt; have cB1r0 := (B1.q QR).cell; have lB1r0 := (B1.q QR).lt) | (go_at_call 10; refine Calls.mono (toTrack_any a1A a1n a1c a1xs _ ?_ HL1.out (by omega)) ?_; exact I1.q (by with_reducible first | assumption | exact Q.alloc (by assumption) _ | exact (Q.refl _).alloc _ | exact (Q.refl _).drew | exact Q.drew (by assumption) | exact (Q.refl _).drew.alloc _ | exact ((Q.refl _).alloc _).drew | exact Q.refl _); rintro e wr1 ⟨A1s, c1s, rfl, o1s, qr1⟩; have QR : Q (wz1) _ := Q.trans (by with_reducible first | assumption | exact Q.alloc (by assumption) _ | exact (Q.refl _).alloc _ | exact (Q.refl _).drew | exact Q.drew (by assumption) | exact (Q.refl _).drew.alloc _ | exact ((Q.refl _).alloc _).drew | exact Q.refl _) qr1; have zr1 := QR.size; (with_reducible first | replace BV := BV.q qr1 | have BV := qr1.boxB | have BV := Blk.q (Blk.drew (Blk.new _ _ _)) qr1 | skip); have cB0r1 := (B0.q QR).cell; have lB0r1 := (B0.q QR).lt; have cB1r1 := (B1.q QR).cell; have lB1r1 := (B1.q QR).lt) | (go_at_call 8; refine Calls.mono (K0.out A1s c1s _ ?_ HL1.out (by omega)) ?_; (with_reducible first | exact o1s.rd | exact (o1s.q (by with_reducible first | assumption | exact Q.alloc (by assumption) _ | exact (Q.refl _).alloc _ | exact (Q.refl _).drew | exact Q.drew (by assumption) | exact (Q.refl _).drew.alloc _ | exact ((Q.refl _).alloc _).drew | exact Q.refl _)).rd); rintro e w1 ⟨rfl, qf1⟩; have QR : Q (wz1) _ := Q.trans (by with_reducible first | assumption | exact Q.alloc (by assumption) _ | exact (Q.refl _).alloc _ | exact (Q.refl _).drew | exact Q.drew (by assumption) | exact (Q.refl _).drew.alloc _ | exact ((Q.refl _).alloc _).drew | exact Q.refl _) qf1; have zf := QR.size; (with_reducible first | replace BV := BV.q qf1 | have BV := qf1.boxB | have BV := Blk.q (Blk.drew (Blk.new _ _ _)) qf1 | skip); have cB0f := (B0.q QR).cell; have lB0f := (B0.q QR).lt; have cB1f := (B1.q QR).cell; have lB1f := (B1.q QR).lt; try (have cV := BV.cell; have fV := BV.frozen; have tV := BV.lt)))
      all_goals (go_wp2_with fail; go_meet)
      all_goals first | exact ⟨_, rfl, rfl, Blk.new _ _ _, QR.alloc _⟩ | exact ⟨_, rfl, rfl, (Blk.new _ _ _).drew, (QR.alloc _).drew⟩ | exact ⟨_, rfl, rfl, BV.set4 _ _ _ _, QR.set4 (by first | assumption | exact Nat.le_refl _ | omega) _ _ _ _⟩
    case rest =>
    obtain ⟨gvs, rfl, rfl, BVs, QR⟩ := hcut
    rename_i wv1
    replace B0 := B0.q QR
    replace B1 := B1.q QR
    replace Q0 := Q0.trans QR
    replace I1 := I1.q QR
    have z1 := QR.size
    clear QR
    have cB0 := B0.cell
    have lB0 := B0.lt
    have cB1 := B1.cell
    have lB1 := B1.lt
    have cBVs := BVs.cell
    have lBVs := BVs.lt
    go_wp2_with fail
    clear cB0 lB0
    clear cB1 lB1
    clear cBVs lBVs
    refine (toTrack_any a1A a1n a1c a1xs _ I1 HL1.out (by omega)).mono ?_
    rintro e w2 ⟨A1i, c1i, rfl, o1i, q2⟩
    replace B0 := B0.q q2
    replace B1 := B1.q q2
    replace Q0 := Q0.trans q2
    replace I1 := I1.q q2
    replace BVs := BVs.q q2
    have z2 := q2.size
    have fo1i := o1i.from
    have cB0 := B0.cell
    have lB0 := B0.lt
    have cB1 := B1.cell
    have lB1 := B1.lt
    have cBVs := BVs.cell
    have lBVs := BVs.lt
    go_wp2_with fail
    clear cB0 lB0
    clear cB1 lB1
    clear cBVs lBVs
    have BX1 := Blk.new w2 40 #[.slice A1i a1n c1i]
    replace B0 := B0.q ((Q.refl _).alloc (.cells #[.slice A1i a1n c1i] 40))
    replace B1 := B1.q ((Q.refl _).alloc (.cells #[.slice A1i a1n c1i] 40))
    replace Q0 := Q0.trans ((Q.refl _).alloc (.cells #[.slice A1i a1n c1i] 40))
    replace I1 := I1.q ((Q.refl _).alloc (.cells #[.slice A1i a1n c1i] 40))
    replace BVs := BVs.q ((Q.refl _).alloc (.cells #[.slice A1i a1n c1i] 40))
    replace o1i := o1i.q ((Q.refl _).alloc (.cells #[.slice A1i a1n c1i] 40))
    have zx1 : w2.heap.size ≤ (w2.alloc (.cells #[.slice A1i a1n c1i] 40)).heap.size := by simp
    have gx1 : w2.heap.size < (w2.alloc (.cells #[.slice A1i a1n c1i] 40)).heap.size := by simp
    generalize (w2.alloc (.cells #[.slice A1i a1n c1i] 40)) = wgi at *
    go_cut [13, 14] from 13 (fun p q wx => ∃ g, p = .pointer (some ⟨g, 0, none⟩) ∧ q = .int .i64 r1 ∧ Blk wx g 31 #[.int .i64 v0, .int .i64 v1, .int .i64 v2, .bool v3] ∧ Q (wgi) wx)
    case first =>
      have cB0 := B0.cell
      have lB0 := B0.lt
      have cB1 := B1.cell
      have lB1 := B1.lt
      have cBVs := BVs.cell
      have lBVs := BVs.lt
      have cBX1 := BX1.cell
      have lBX1 := BX1.lt
      have hS3 : ∀ w', Q (wgi) w' → (Q (wgi) w' ∧ w'.cell? ⟨w2.heap.size, 0, none⟩ = some (.slice A1i a1n c1i) ∧ w'.cell? ⟨w.heap.size, 0, none⟩ = some (.int .i64 a0x0) ∧ w'.cell? ⟨w.heap.size, 1, none⟩ = some (.int .i64 a0x1) ∧ w'.cell? ⟨w.heap.size, 2, none⟩ = some (.int .i64 a0x2) ∧ w'.cell? ⟨w.heap.size, 3, none⟩ = some (.int .i64 a0x3) ∧ w'.cell? ⟨w.heap.size + 1, 0, none⟩ = some (.slice a1A a1n a1c)) := fun w' q => ⟨q, (BX1.q q).cell _, (B0.q q).cell _, (B0.q q).cell _, (B0.q q).cell _, (B0.q q).cell _, (B1.q q).cell _⟩
      go_region_held3 (fun w' => Q (wgi) w' ∧ w'.cell? ⟨w2.heap.size, 0, none⟩ = some (.slice A1i a1n c1i) ∧ w'.cell? ⟨w.heap.size, 0, none⟩ = some (.int .i64 a0x0) ∧ w'.cell? ⟨w.heap.size, 1, none⟩ = some (.int .i64 a0x1) ∧ w'.cell? ⟨w.heap.size, 2, none⟩ = some (.int .i64 a0x2) ∧ w'.cell? ⟨w.heap.size, 3, none⟩ = some (.int .i64 a0x3) ∧ w'.cell? ⟨w.heap.size + 1, 0, none⟩ = some (.slice a1A a1n a1c)) (first | exact hS3 _ (by with_reducible first | exact QR | exact QR.alloc _ | exact QR.set4 (by first | assumption | omega) _ _ _ _ | assumption | exact Q.alloc (by assumption) _ | exact (Q.refl _).drew | exact (Q.refl _).drew.alloc _ | exact ((Q.refl _).alloc _).drew | exact Q.refl _) | (go_split_ands; exact hS3 _ (by with_reducible first | exact QR | exact QR.alloc _ | exact QR.set4 (by first | assumption | omega) _ _ _ _ | assumption | exact Q.alloc (by assumption) _ | exact (Q.refl _).drew | exact (Q.refl _).drew.alloc _ | exact ((Q.refl _).alloc _).drew | exact Q.refl _))) (first | (go_at_call 9; refine (toLine_any a0x0 a0x1 a0x2 a0x3 _).mono ?_; rintro e wr0 ⟨rfl, qr0⟩; have QR : Q (wgi) _ := Q.trans (by with_reducible first | assumption | exact Q.alloc (by assumption) _ | exact (Q.refl _).alloc _ | exact (Q.refl _).drew | exact Q.drew (by assumption) | exact (Q.refl _).drew.alloc _ | exact ((Q.refl _).alloc _).drew | exact Q.refl _) qr0; have zr0 := QR.size; (with_reducible first | replace BV := BV.q qr0 | have BV := qr0.boxB | have BV := Blk.q (Blk.drew (Blk.new _ _ _)) qr0 | skip); have cB0r0 := (B0.q QR).cell; have lB0r0 := (B0.q QR).lt; have cB1r0 := (B1.q QR).cell; have lB1r0 := (B1.q QR).lt; have cBVsr0 := (BVs.q QR).cell; have lBVsr0 := (BVs.q QR).lt; have cBX1r0 := (BX1.q QR).cell; have lBX1r0 := (BX1.q QR).lt) | (go_at_call 11; refine Calls.mono (K1.out A1i c1i _ ?_ HL1.out (by omega)) ?_; (with_reducible first | exact o1i.rd | exact (o1i.q (by with_reducible first | assumption | exact Q.alloc (by assumption) _ | exact (Q.refl _).alloc _ | exact (Q.refl _).drew | exact Q.drew (by assumption) | exact (Q.refl _).drew.alloc _ | exact ((Q.refl _).alloc _).drew | exact Q.refl _)).rd); rintro e w3 ⟨rfl, qf3⟩; have QR : Q (wgi) _ := Q.trans (by with_reducible first | assumption | exact Q.alloc (by assumption) _ | exact (Q.refl _).alloc _ | exact (Q.refl _).drew | exact Q.drew (by assumption) | exact (Q.refl _).drew.alloc _ | exact ((Q.refl _).alloc _).drew | exact Q.refl _) qf3; have zf := QR.size; (with_reducible first | replace BV := BV.q qf3 | have BV := qf3.boxB | have BV := Blk.q (Blk.drew (Blk.new _ _ _)) qf3 | skip); have cB0f := (B0.q QR).cell; have lB0f := (B0.q QR).lt; have cB1f := (B1.q QR).cell; have lB1f := (B1.q QR).lt; have cBVsf := (BVs.q QR).cell; have lBVsf := (BVs.q QR).lt; have cBX1f := (BX1.q QR).cell; have lBX1f := (BX1.q QR).lt; try (have cV := BV.cell; have fV := BV.frozen; have tV := BV.lt)))
      all_goals (go_wp2_with fail; go_meet)
      all_goals first | exact ⟨_, rfl, rfl, Blk.new _ _ _, QR.alloc _⟩ | exact ⟨_, rfl, rfl, (Blk.new _ _ _).drew, (QR.alloc _).drew⟩ | exact ⟨_, rfl, rfl, BV.set4 _ _ _ _, QR.set4 (by first | assumption | exact Nat.le_refl _ | omega) _ _ _ _⟩
    case rest =>
    obtain ⟨gvi, rfl, rfl, BVi, QR⟩ := hcut
    rename_i wv3
    replace B0 := B0.q QR
    replace B1 := B1.q QR
    replace Q0 := Q0.trans QR
    replace I1 := I1.q QR
    replace BVs := BVs.q QR
    replace o1i := o1i.q QR
    replace BX1 := BX1.q QR
    have z3 := QR.size
    clear QR
    have cB0 := B0.cell
    have lB0 := B0.lt
    have cB1 := B1.cell
    have lB1 := B1.lt
    have cBVs := BVs.cell
    have lBVs := BVs.lt
    have cBX1 := BX1.cell
    have lBX1 := BX1.lt
    have cBVi := BVi.cell
    have lBVi := BVi.lt
    go_wp2_with fail
    clear cB0 lB0
    clear cB1 lB1
    clear cBVs lBVs
    clear cBX1 lBX1
    clear cBVi lBVi
    refine (eqStart_same (v0, v1, v2, v3) _).mono ?_
    rintro e w4 ⟨rfl, q4⟩
    replace B0 := B0.q q4
    replace B1 := B1.q q4
    replace Q0 := Q0.trans q4
    replace I1 := I1.q q4
    replace BVs := BVs.q q4
    replace o1i := o1i.q q4
    replace BX1 := BX1.q q4
    replace BVi := BVi.q q4
    have z4 := q4.size
    have cB0 := B0.cell
    have lB0 := B0.lt
    have cB1 := B1.cell
    have lB1 := B1.lt
    have cBVs := BVs.cell
    have lBVs := BVs.lt
    have cBX1 := BX1.cell
    have lBX1 := BX1.lt
    have cBVi := BVi.cell
    have lBVi := BVi.lt
    go_wp2_with fail
    clear cB0 lB0
    clear cB1 lB1
    clear cBVs lBVs
    clear cBX1 lBX1
    clear cBVi lBVi
    have hS5 : ∀ w', Q w4 w' → (Q w4 w' ∧ w'.cell? ⟨w2.heap.size, 0, none⟩ = some (.slice A1i a1n c1i) ∧ w'.cell? ⟨w.heap.size, 0, none⟩ = some (.int .i64 a0x0) ∧ w'.cell? ⟨w.heap.size, 1, none⟩ = some (.int .i64 a0x1) ∧ w'.cell? ⟨w.heap.size, 2, none⟩ = some (.int .i64 a0x2) ∧ w'.cell? ⟨w.heap.size, 3, none⟩ = some (.int .i64 a0x3) ∧ w'.cell? ⟨w.heap.size + 1, 0, none⟩ = some (.slice a1A a1n a1c)) := fun w' q => ⟨q, (BX1.q q).cell _, (B0.q q).cell _, (B0.q q).cell _, (B0.q q).cell _, (B0.q q).cell _, (B1.q q).cell _⟩
    go_region_held3 (fun w' => Q w4 w' ∧ w'.cell? ⟨w2.heap.size, 0, none⟩ = some (.slice A1i a1n c1i) ∧ w'.cell? ⟨w.heap.size, 0, none⟩ = some (.int .i64 a0x0) ∧ w'.cell? ⟨w.heap.size, 1, none⟩ = some (.int .i64 a0x1) ∧ w'.cell? ⟨w.heap.size, 2, none⟩ = some (.int .i64 a0x2) ∧ w'.cell? ⟨w.heap.size, 3, none⟩ = some (.int .i64 a0x3) ∧ w'.cell? ⟨w.heap.size + 1, 0, none⟩ = some (.slice a1A a1n a1c)) (first | exact hS5 _ (by first | assumption | exact QR | exact (Q.refl _).drew) | (go_split_ands; exact hS5 _ (by first | assumption | exact QR | exact (Q.refl _).drew))) (first | (go_at_call 10; refine (toTrack_any a1A a1n a1c a1xs _ (I1.q (by first | assumption | exact (Q.refl _).drew)) HL1.out (by omega)).mono ?_; rintro e wr5 ⟨A1q5, c1q5, rfl, o1q5, qr5⟩; have QR : Q w4 _ := Q.trans (by first | assumption | exact (Q.refl _).drew) qr5) | (go_at_call 13; refine (eqTrack_same A1i A1q5 a1n c1i c1q5 a1xs _ (o1i.q (by first | assumption | exact (Q.refl _).drew)).rd o1q5.rd HL1.out (by omega)).mono ?_; rintro e w5 ⟨rfl, qf5⟩; have QR : Q w4 _ := Q.trans (by first | assumption | exact (Q.refl _).drew) qf5))
    replace B0 := B0.q QR
    replace B1 := B1.q QR
    replace Q0 := Q0.trans QR
    replace I1 := I1.q QR
    replace BVs := BVs.q QR
    replace o1i := o1i.q QR
    replace BX1 := BX1.q QR
    replace BVi := BVi.q QR
    have z5 := QR.size
    clear QR
    have cB0 := B0.cell
    have lB0 := B0.lt
    have cB1 := B1.cell
    have lB1 := B1.lt
    have cBVs := BVs.cell
    have lBVs := BVs.lt
    have cBX1 := BX1.cell
    have lBX1 := BX1.lt
    have cBVi := BVi.cell
    have lBVi := BVi.lt
    go_wp2_with fail
    clear cB0 lB0
    clear cB1 lB1
    clear cBVs lBVs
    clear cBX1 lBX1
    clear cBVi lBVi
    go_ret
    exact ⟨rfl, Q0⟩
end Go.Proofs.Ytckmlioklnjboaa
