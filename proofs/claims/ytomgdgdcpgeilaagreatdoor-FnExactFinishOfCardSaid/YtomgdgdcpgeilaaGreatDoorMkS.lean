/- Walks: the law that the program's FinishOf returns what the reference's returns, for all arguments. No condition. -/
import Derived.Test.YtomgdgdcpgeilaaGreatDoorMkZ
import Derived.Test.YtomgdgdcpgeilaaGreatDoorMkR
import Derived.Deep.RegionHeld3
namespace Go.Proofs.YtomgdgdcpgeilaaGreatDoor
open Go.RowKit Go.WideShapes Go.ChangeShapes
theorem eqFin_same (x y z : Int) (w : World) : Calls Tryz.prog 13 #[.agg #[.int .i64 x, .int .i64 y, .int .i64 z], .agg #[.int .i64 x, .int .i64 y, .int .i64 z]] w fun e w' => e = .returned (.bool true) ∧ Q w w' := by
  go_enter Tryz.func13, Tryz.ntmps13
  go_wp2_with fail
  go_ret
  exact ⟨rfl, by (repeat (first | assumption | exact Q.refl _ | refine Q.alloc ?_ _ | refine Q.drewN ?_ _ | refine Q.drew ?_))⟩
set_option maxRecDepth 100000 in
set_option maxHeartbeats 16000000 in
theorem law_FnExactFinishOf (a b c d p q r s : Int) (A0 : Option Addr) (n0 c0 : Nat) (ms : List Mk) (hn0 : ms.length = n0) (hc0 : n0 ≤ c0 ∧ c0 ≤ maxLen) (A : Option Addr) (n cc : Nat) (xs : List Int) (hn : xs.length = n * 3) (_hb : ∀ y ∈ xs, -9223372036854775808 ≤ y ∧ y ≤ 9223372036854775807) (hcc : n ≤ cc ∧ cc ≤ maxLen) (t : Int) (_ht : -9223372036854775808 ≤ t ∧ t ≤ 9223372036854775807) (fl : Int) (_hf : -9223372036854775808 ≤ fl ∧ fl ≤ 9223372036854775807) (w : World) (hm0 : RdM w A0 ms) (ha : Rd w A xs) :
    Calls Tryz.prog 3 #[.agg #[.int .i64 a, .int .i64 b, .int .i64 c, .int .i64 d, .int .i64 p, .int .i64 q, .int .i64 r, .int .i64 s, .slice A0 n0 c0], .agg #[.slice A n cc], .int .i64 t, .int .i64 fl] w fun e w' => e = .returned (.bool true) ∧ Below w.heap.size w w' := by
  have hn02 : n0 ≤ 9223372036854775807 := by have := hc0; unfold maxLen at this; omega
  have hn2 : n ≤ 9223372036854775807 := by have := hcc; unfold maxLen at this; omega
  have kz := fun wv (h : RdM wv A0 ms) => szCourse_any a b c d p q r s A0 n0 c0 ms 1048576 wv h hn0 (by decide) (by decide) hn02
  obtain ⟨W, hW⟩ : ∃ W, W = (w.alloc (.cells #[.int .i64 a, .int .i64 b, .int .i64 c, .int .i64 d, .int .i64 p, .int .i64 q, .int .i64 r, .int .i64 s, .slice A0 n0 c0] 28)).alloc (.cells #[.slice A n cc] 31) := ⟨_, rfl⟩
  have B0 : Blk W w.heap.size 28 #[.int .i64 a, .int .i64 b, .int .i64 c, .int .i64 d, .int .i64 p, .int .i64 q, .int .i64 r, .int .i64 s, .slice A0 n0 c0] := by rw [hW]; exact (Blk.new _ _ _).alloc _
  have B1 : Blk W (w.heap.size + 1) 31 #[.slice A n cc] := by rw [hW]; exact Blk.new1 _ _ _ _
  have Q0 : Q w W := by rw [hW]; (repeat (first | assumption | exact Q.refl _ | refine Q.alloc ?_ _ | refine Q.drewN ?_ _ | refine Q.drew ?_))
  have HW := Lib.hid hW
  clear hW _hb _ht _hf
  by_cases h1 : ((n0 + tmN ms : Nat) : Int) ≤ 1048576
  · rw [if_pos h1] at kz
    have KZ := Lib.hid kz
    have ky := fun wv => szTrack_any A n cc (1048576 - ((n0 + tmN ms : Nat) : Int)) wv (by omega) (by omega) hn2
    have hlo : ¬ 1048576 - ((n0 + tmN ms : Nat) : Int) < 0 := by omega
    by_cases h2 : (n : Int) ≤ 1048576 - ((n0 + tmN ms : Nat) : Int)
    · rw [if_pos h2] at ky
      have hlo2 : ¬ 1048576 - ((n0 + tmN ms : Nat) : Int) - (n : Int) < 0 := by omega
      have hn0s : n0 ≤ 1048576 := by omega
      have hns : n ≤ 1048576 := by omega
      generalize 1048576 - ((n0 + tmN ms : Nat) : Int) = R1 at *
      generalize R1 - (n : Int) = R2 at *
      have KY := Lib.hid ky
      have KTC := Lib.hid (fun wv (h : RdM wv A0 ms) => toCourse_any a b c d p q r s A0 n0 c0 ms wv h hn0 hn0s)
      have KTT := Lib.hid (fun wv (h : Rd wv A xs) => toTrack_any A n cc xs wv h hn hns)
      have ks := fun (A5 : Option Addr) (A6 : Option Addr) (c6 : Nat) wv (h1 : RdM wv A5 ms) (h2 : Rd wv A6 xs) => spec_FinishOf a b c d p q r s A5 n0 n0 ms A6 n c6 xs t fl wv h1 hn0 hn02 h2 hn hn2
      have ki := fun (A5 : Option Addr) (A6 : Option Addr) (c6 : Nat) wv (h1 : RdM wv A5 ms) (h2 : Rd wv A6 xs) => impl_FinishOf a b c d p q r s A5 n0 n0 ms A6 n c6 xs t fl wv h1 hn0 (Nat.le_refl _) hn02 h2 hn hn2
      generalize ffV a b c d p q r s ms xs n t fl = FV at *
      generalize ffK a b c d p q r s ms xs n t fl = KK at *
      obtain ⟨v0, v1, v2⟩ := FV
      simp only at ks ki
      have KS := Lib.hid ks
      have KI := Lib.hid ki
      have KE := Lib.hid (fun wv => eqFin_same v0 v1 v2 wv)
      have KEC := Lib.hid (fun (A B : Option Addr) (c1 c2 : Nat) wv (h1 : RdM wv A ms) (h2 : RdM wv B ms) => eqCourse_same a b c d p q r s A B n0 c1 c2 ms wv h1 h2 hn0 hn02)
      have KET := Lib.hid (fun (A B : Option Addr) (c1 c2 : Nat) wv (h1 : Rd wv A xs) (h2 : Rd wv B xs) => eqTrack_same A B n c1 c2 xs wv h1 h2 hn hn2)
      clear ky kz ks ki h1 h2 hn hn0 hc0 hcc
      go_enter Tryz.func3, Tryz.ntmps3
      go_wp2_with fail
      rw [← HW.out]
      refine (KZ.out _ (hm0.q Q0)).mono ?_
      rintro e1 w1 ⟨rfl, q1⟩
      replace B0 := B0.q q1
      replace B1 := B1.q q1
      replace Q0 := Q0.trans q1
      clear q1
      have c0' := B0.cell
      have c1' := B1.cell
      have l0 := B0.lt
      have l1 := B1.lt
      go_wp2_with fail
      refine (KY.out _).mono ?_
      rintro e2 w2 ⟨rfl, q2⟩
      clear c0' c1' l0 l1
      replace B0 := B0.q q2
      replace B1 := B1.q q2
      replace Q0 := Q0.trans q2
      clear q2
      have hm2 := hm0.q Q0
      have ha2 := ha.q Q0
      have l0 := B0.lt
      have l1 := B1.lt
      go_upto_region 8 with (fail)
      go_cut [10, 11] from 16 (fun x y wx => ∃ g, x = .pointer (some ⟨g, 0, none⟩) ∧ y = .int .i64 KK ∧ w2.heap.size ≤ g ∧ Blk wx g 35 #[.int .i64 v0, .int .i64 v1, .int .i64 v2] ∧ Q w2 wx)
      case first =>
        have hS : ∀ w', Q w2 w' → (Q w2 w' ∧ w'.cell? ⟨w.heap.size, 0, none⟩ = some (.int .i64 a) ∧ w'.cell? ⟨w.heap.size, 1, none⟩ = some (.int .i64 b) ∧ w'.cell? ⟨w.heap.size, 2, none⟩ = some (.int .i64 c) ∧ w'.cell? ⟨w.heap.size, 3, none⟩ = some (.int .i64 d) ∧ w'.cell? ⟨w.heap.size, 4, none⟩ = some (.int .i64 p) ∧ w'.cell? ⟨w.heap.size, 5, none⟩ = some (.int .i64 q) ∧ w'.cell? ⟨w.heap.size, 6, none⟩ = some (.int .i64 r) ∧ w'.cell? ⟨w.heap.size, 7, none⟩ = some (.int .i64 s) ∧ w'.cell? ⟨w.heap.size, 8, none⟩ = some (.slice A0 n0 c0) ∧ w'.cell? ⟨w.heap.size + 1, 0, none⟩ = some (.slice A n cc)) := fun w' q => ⟨q, (B0.q q).cell 0, (B0.q q).cell 1, (B0.q q).cell 2, (B0.q q).cell 3, (B0.q q).cell 4, (B0.q q).cell 5, (B0.q q).cell 6, (B0.q q).cell 7, (B0.q q).cell 8, (B1.q q).cell 0⟩
        go_region_held3 (fun w' => Q w2 w' ∧ w'.cell? ⟨w.heap.size, 0, none⟩ = some (.int .i64 a) ∧ w'.cell? ⟨w.heap.size, 1, none⟩ = some (.int .i64 b) ∧ w'.cell? ⟨w.heap.size, 2, none⟩ = some (.int .i64 c) ∧ w'.cell? ⟨w.heap.size, 3, none⟩ = some (.int .i64 d) ∧ w'.cell? ⟨w.heap.size, 4, none⟩ = some (.int .i64 p) ∧ w'.cell? ⟨w.heap.size, 5, none⟩ = some (.int .i64 q) ∧ w'.cell? ⟨w.heap.size, 6, none⟩ = some (.int .i64 r) ∧ w'.cell? ⟨w.heap.size, 7, none⟩ = some (.int .i64 s) ∧ w'.cell? ⟨w.heap.size, 8, none⟩ = some (.slice A0 n0 c0) ∧ w'.cell? ⟨w.heap.size + 1, 0, none⟩ = some (.slice A n cc)) (first | with_reducible exact hS _ QR | (with_reducible refine hS _ ?_; ((repeat (first | with_reducible assumption | with_reducible exact Q.refl _ | with_reducible refine Q.alloc ?_ _ | with_reducible refine Q.setCell ?_ (by (try simp only); first | with_reducible exact Nat.le_refl _ | with_reducible assumption | omega) _ | with_reducible refine Q.drew ?_)); done)) | (go_split_ands; first | with_reducible exact hS _ QR | (with_reducible refine hS _ ?_; ((repeat (first | with_reducible assumption | with_reducible exact Q.refl _ | with_reducible refine Q.alloc ?_ _ | with_reducible refine Q.setCell ?_ (by (try simp only); first | with_reducible exact Nat.le_refl _ | with_reducible assumption | omega) _ | with_reducible refine Q.drew ?_)); done)))) (first | (go_at_call 10; with_reducible refine Calls.mono (KTC.out _ ?h1) ?_; (case h1 => (refine hm2.q ?_; ((repeat (first | with_reducible assumption | with_reducible exact Q.refl _ | with_reducible refine Q.alloc ?_ _ | with_reducible refine Q.setCell ?_ (by (try simp only); first | with_reducible exact Nat.le_refl _ | with_reducible assumption | omega) _ | with_reducible refine Q.drew ?_)); done))); rintro e wr0 ⟨A5, rfl, r5, qr0⟩; have QR : Q w2 wr0 := Q.trans (by ((repeat (first | with_reducible assumption | with_reducible exact Q.refl _ | with_reducible refine Q.alloc ?_ _ | with_reducible refine Q.setCell ?_ (by (try simp only); first | with_reducible exact Nat.le_refl _ | with_reducible assumption | omega) _ | with_reducible refine Q.drew ?_)); done)) qr0; have zr := QR.size; (first | (have QC0 : Q wr1 wr0 := ?hb; (case hb => (refine Q.trans ?_ qr0; ((repeat (first | with_reducible assumption | with_reducible exact Q.refl _ | with_reducible refine Q.alloc ?_ _ | with_reducible refine Q.setCell ?_ (by (try simp only); first | with_reducible exact Nat.le_refl _ | with_reducible assumption | omega) _ | with_reducible refine Q.drew ?_)); done)))) | skip); (with_reducible first | replace BV := BV.q qr0 | have BV := qr0.boxB | have BV := Blk.q (Blk.drew (Blk.new _ _ _)) qr0 | skip); try (have cV := BV.cell; have fV := BV.frozen; have tV := BV.lt)) | (go_at_call 11; with_reducible refine Calls.mono (KTT.out _ ?h1) ?_; (case h1 => (refine ha2.q ?_; ((repeat (first | with_reducible assumption | with_reducible exact Q.refl _ | with_reducible refine Q.alloc ?_ _ | with_reducible refine Q.setCell ?_ (by (try simp only); first | with_reducible exact Nat.le_refl _ | with_reducible assumption | omega) _ | with_reducible refine Q.drew ?_)); done))); rintro e wr1 ⟨A6, c6, rfl, o6, qr1⟩; have QR : Q w2 wr1 := Q.trans (by ((repeat (first | with_reducible assumption | with_reducible exact Q.refl _ | with_reducible refine Q.alloc ?_ _ | with_reducible refine Q.setCell ?_ (by (try simp only); first | with_reducible exact Nat.le_refl _ | with_reducible assumption | omega) _ | with_reducible refine Q.drew ?_)); done)) qr1; have zr := QR.size; (first | (have QC1 : Q wr0 wr1 := ?hb; (case hb => (refine Q.trans ?_ qr1; ((repeat (first | with_reducible assumption | with_reducible exact Q.refl _ | with_reducible refine Q.alloc ?_ _ | with_reducible refine Q.setCell ?_ (by (try simp only); first | with_reducible exact Nat.le_refl _ | with_reducible assumption | omega) _ | with_reducible refine Q.drew ?_)); done)))) | skip); (with_reducible first | replace BV := BV.q qr1 | have BV := qr1.boxB | have BV := Blk.q (Blk.drew (Blk.new _ _ _)) qr1 | skip); try (have cV := BV.cell; have fV := BV.frozen; have tV := BV.lt)) | (go_at_call 9; with_reducible refine Calls.mono (KS.out _ _ _ _ ?h1 ?h2) ?_; (case h1 => (refine r5.q ?_; ((repeat (first | with_reducible assumption | with_reducible exact Q.refl _ | with_reducible refine Q.alloc ?_ _ | with_reducible refine Q.setCell ?_ (by (try simp only); first | with_reducible exact Nat.le_refl _ | with_reducible assumption | omega) _ | with_reducible refine Q.drew ?_)); done))); (case h2 => (refine (o6.rd).q ?_; ((repeat (first | with_reducible assumption | with_reducible exact Q.refl _ | with_reducible refine Q.alloc ?_ _ | with_reducible refine Q.setCell ?_ (by (try simp only); first | with_reducible exact Nat.le_refl _ | with_reducible assumption | omega) _ | with_reducible refine Q.drew ?_)); done))); rintro e wr2 ⟨rfl, qr2⟩; have QR : Q w2 wr2 := Q.trans (by ((repeat (first | with_reducible assumption | with_reducible exact Q.refl _ | with_reducible refine Q.alloc ?_ _ | with_reducible refine Q.setCell ?_ (by (try simp only); first | with_reducible exact Nat.le_refl _ | with_reducible assumption | omega) _ | with_reducible refine Q.drew ?_)); done)) qr2; have zr := QR.size; (with_reducible first | replace BV := BV.q qr2 | have BV := qr2.boxB | have BV := Blk.q (Blk.drew (Blk.new _ _ _)) qr2 | skip); try (have cV := BV.cell; have fV := BV.frozen; have tV := BV.lt)))
        all_goals (go_wp2_with fail; go_meet)
        all_goals (first | (have PS := BV.set3 (.int .i64 v0) (.int .i64 v1) (.int .i64 v2)) | skip)
        all_goals refine ⟨_, rfl, rfl, ?_, ?_, ?_⟩
        all_goals first
          | with_reducible exact Nat.le_refl _
          | with_reducible exact zr
          | omega
          | with_reducible exact Blk.new _ _ _
          | with_reducible exact PS
          | with_reducible exact QR.alloc _
          | with_reducible exact QR.set3 (by first | with_reducible exact Nat.le_refl _ | omega) _ _ _
      case rest =>
        obtain ⟨g, rfl, rfl, hg, BV, QX⟩ := hcut
        replace B0 := B0.q QX
        replace B1 := B1.q QX
        replace Q0 := Q0.trans QX
        clear hm2 ha2 l0 l1 QX hg
        have c0' := B0.cell
        have l0 := B0.lt
        go_wp2_with fail
        refine (KTC.out _ (hm0.q Q0)).mono ?_
        rintro e3 w3 ⟨A7, rfl, r7, q3⟩
        clear c0' l0
        have BC := Blk.new w3 43 #[.int .i64 a, .int .i64 b, .int .i64 c, .int .i64 d, .int .i64 p, .int .i64 q, .int .i64 r, .int .i64 s, .slice A7 n0 n0]
        have q4 : Q w3 (w3.alloc (.cells #[.int .i64 a, .int .i64 b, .int .i64 c, .int .i64 d, .int .i64 p, .int .i64 q, .int .i64 r, .int .i64 s, .slice A7 n0 n0] 43)) := by (repeat (first | assumption | exact Q.refl _ | refine Q.alloc ?_ _ | refine Q.drewN ?_ _ | refine Q.drew ?_))
        replace B0 := (B0.q q3).q q4
        replace B1 := (B1.q q3).q q4
        replace BV := (BV.q q3).q q4
        replace Q0 := (Q0.trans q3).trans q4
        replace r7 := r7.q q4
        have lC := BC.lt
        have c1' := B1.cell
        have l1 := B1.lt
        go_upto_region 10 with (fail)
        generalize w3.alloc (.cells #[.int .i64 a, .int .i64 b, .int .i64 c, .int .i64 d, .int .i64 p, .int .i64 q, .int .i64 r, .int .i64 s, .slice A7 n0 n0] 43) = w4 at *
        go_wp2_with fail
        refine (KTT.out _ (ha.q Q0)).mono ?_
        rintro e5 w5 ⟨A8, c8, rfl, o8, q5⟩
        clear c1' l1
        have BT := Blk.new w5 47 #[.slice A8 n c8]
        have q6 : Q w5 (w5.alloc (.cells #[.slice A8 n c8] 47)) := by (repeat (first | assumption | exact Q.refl _ | refine Q.alloc ?_ _ | refine Q.drewN ?_ _ | refine Q.drew ?_))
        have r8 := (o8.rd).q q6
        replace B0 := (B0.q q5).q q6
        replace B1 := (B1.q q5).q q6
        replace BV := (BV.q q5).q q6
        replace BC := (BC.q q5).q q6
        replace Q0 := (Q0.trans q5).trans q6
        replace r7 := (r7.q q5).q q6
        have cC := BC.cell
        have lC' := BC.lt
        have cT := BT.cell
        have lT := BT.lt
        go_upto_region 11 with (fail)
        generalize w5.alloc (.cells #[.slice A8 n c8] 47) = w6 at *
        go_wp2_with fail
        refine (KI.out _ _ _ _ r7 r8).mono ?_
        rintro e7 w7 ⟨rfl, q7⟩
        clear cC lC' cT lT
        replace B0 := B0.q q7
        replace B1 := B1.q q7
        replace BV := BV.q q7
        replace BC := BC.q q7
        replace BT := BT.q q7
        replace Q0 := Q0.trans q7
        replace r7 := r7.q q7
        replace r8 := r8.q q7
        have q8 : Q w7 (w7.alloc (.cells #[.int .i64 v0, .int .i64 v1, .int .i64 v2] 35)) := by (repeat (first | assumption | exact Q.refl _ | refine Q.alloc ?_ _ | refine Q.drewN ?_ _ | refine Q.drew ?_))
        have BW := Blk.new w7 35 #[.int .i64 v0, .int .i64 v1, .int .i64 v2]
        replace B0 := B0.q q8
        replace B1 := B1.q q8
        replace BV := BV.q q8
        replace BC := BC.q q8
        replace BT := BT.q q8
        replace Q0 := Q0.trans q8
        replace r7 := r7.q q8
        replace r8 := r8.q q8
        have cV := BV.cell
        have lV := BV.lt
        have cW := BW.cell
        have lW := BW.lt
        go_upto_region 12 with (fail)
        generalize w7.alloc (.cells #[.int .i64 v0, .int .i64 v1, .int .i64 v2] 35) = w8 at *
        go_wp2_with fail
        refine (KE.out _).mono ?_
        rintro e9 w9 ⟨rfl, q9⟩
        clear cV lV cW lW BV BW
        replace B0 := B0.q q9
        replace B1 := B1.q q9
        replace BC := BC.q q9
        replace BT := BT.q q9
        replace Q0 := Q0.trans q9
        replace r7 := r7.q q9
        replace r8 := r8.q q9
        have hm9 := hm0.q Q0
        go_upto_region 14 with (fail)
        have hS : ∀ w', Q w9 w' → (Q w9 w' ∧ w'.cell? ⟨w3.heap.size, 0, none⟩ = some (.int .i64 a) ∧ w'.cell? ⟨w3.heap.size, 1, none⟩ = some (.int .i64 b) ∧ w'.cell? ⟨w3.heap.size, 2, none⟩ = some (.int .i64 c) ∧ w'.cell? ⟨w3.heap.size, 3, none⟩ = some (.int .i64 d) ∧ w'.cell? ⟨w3.heap.size, 4, none⟩ = some (.int .i64 p) ∧ w'.cell? ⟨w3.heap.size, 5, none⟩ = some (.int .i64 q) ∧ w'.cell? ⟨w3.heap.size, 6, none⟩ = some (.int .i64 r) ∧ w'.cell? ⟨w3.heap.size, 7, none⟩ = some (.int .i64 s) ∧ w'.cell? ⟨w3.heap.size, 8, none⟩ = some (.slice A7 n0 n0) ∧ w'.cell? ⟨w.heap.size, 0, none⟩ = some (.int .i64 a) ∧ w'.cell? ⟨w.heap.size, 1, none⟩ = some (.int .i64 b) ∧ w'.cell? ⟨w.heap.size, 2, none⟩ = some (.int .i64 c) ∧ w'.cell? ⟨w.heap.size, 3, none⟩ = some (.int .i64 d) ∧ w'.cell? ⟨w.heap.size, 4, none⟩ = some (.int .i64 p) ∧ w'.cell? ⟨w.heap.size, 5, none⟩ = some (.int .i64 q) ∧ w'.cell? ⟨w.heap.size, 6, none⟩ = some (.int .i64 r) ∧ w'.cell? ⟨w.heap.size, 7, none⟩ = some (.int .i64 s) ∧ w'.cell? ⟨w.heap.size, 8, none⟩ = some (.slice A0 n0 c0)) := fun w' q => ⟨q, (BC.q q).cell 0, (BC.q q).cell 1, (BC.q q).cell 2, (BC.q q).cell 3, (BC.q q).cell 4, (BC.q q).cell 5, (BC.q q).cell 6, (BC.q q).cell 7, (BC.q q).cell 8, (B0.q q).cell 0, (B0.q q).cell 1, (B0.q q).cell 2, (B0.q q).cell 3, (B0.q q).cell 4, (B0.q q).cell 5, (B0.q q).cell 6, (B0.q q).cell 7, (B0.q q).cell 8⟩
        go_region_held3 (fun w' => Q w9 w' ∧ w'.cell? ⟨w3.heap.size, 0, none⟩ = some (.int .i64 a) ∧ w'.cell? ⟨w3.heap.size, 1, none⟩ = some (.int .i64 b) ∧ w'.cell? ⟨w3.heap.size, 2, none⟩ = some (.int .i64 c) ∧ w'.cell? ⟨w3.heap.size, 3, none⟩ = some (.int .i64 d) ∧ w'.cell? ⟨w3.heap.size, 4, none⟩ = some (.int .i64 p) ∧ w'.cell? ⟨w3.heap.size, 5, none⟩ = some (.int .i64 q) ∧ w'.cell? ⟨w3.heap.size, 6, none⟩ = some (.int .i64 r) ∧ w'.cell? ⟨w3.heap.size, 7, none⟩ = some (.int .i64 s) ∧ w'.cell? ⟨w3.heap.size, 8, none⟩ = some (.slice A7 n0 n0) ∧ w'.cell? ⟨w.heap.size, 0, none⟩ = some (.int .i64 a) ∧ w'.cell? ⟨w.heap.size, 1, none⟩ = some (.int .i64 b) ∧ w'.cell? ⟨w.heap.size, 2, none⟩ = some (.int .i64 c) ∧ w'.cell? ⟨w.heap.size, 3, none⟩ = some (.int .i64 d) ∧ w'.cell? ⟨w.heap.size, 4, none⟩ = some (.int .i64 p) ∧ w'.cell? ⟨w.heap.size, 5, none⟩ = some (.int .i64 q) ∧ w'.cell? ⟨w.heap.size, 6, none⟩ = some (.int .i64 r) ∧ w'.cell? ⟨w.heap.size, 7, none⟩ = some (.int .i64 s) ∧ w'.cell? ⟨w.heap.size, 8, none⟩ = some (.slice A0 n0 c0)) (first | with_reducible exact hS _ QR | (with_reducible refine hS _ ?_; ((repeat (first | with_reducible assumption | with_reducible exact Q.refl _ | with_reducible refine Q.alloc ?_ _ | with_reducible refine Q.setCell ?_ (by (try simp only); first | with_reducible exact Nat.le_refl _ | with_reducible assumption | omega) _ | with_reducible refine Q.drew ?_)); done)) | (go_split_ands; first | with_reducible exact hS _ QR | (with_reducible refine hS _ ?_; ((repeat (first | with_reducible assumption | with_reducible exact Q.refl _ | with_reducible refine Q.alloc ?_ _ | with_reducible refine Q.setCell ?_ (by (try simp only); first | with_reducible exact Nat.le_refl _ | with_reducible assumption | omega) _ | with_reducible refine Q.drew ?_)); done)))) (first | (go_at_call 10; with_reducible refine Calls.mono (KTC.out _ ?h1) ?_; (case h1 => (refine hm9.q ?_; ((repeat (first | with_reducible assumption | with_reducible exact Q.refl _ | with_reducible refine Q.alloc ?_ _ | with_reducible refine Q.setCell ?_ (by (try simp only); first | with_reducible exact Nat.le_refl _ | with_reducible assumption | omega) _ | with_reducible refine Q.drew ?_)); done))); rintro e wa ⟨A9, rfl, r9, qa⟩; have QR : Q w9 wa := Q.trans (by ((repeat (first | with_reducible assumption | with_reducible exact Q.refl _ | with_reducible refine Q.alloc ?_ _ | with_reducible refine Q.setCell ?_ (by (try simp only); first | with_reducible exact Nat.le_refl _ | with_reducible assumption | omega) _ | with_reducible refine Q.drew ?_)); done)) qa) | (go_at_call 14; with_reducible refine Calls.mono (KEC.out _ _ _ _ _ ?h1 ?h2) ?_; (case h1 => (refine r7.q ?_; ((repeat (first | with_reducible assumption | with_reducible exact Q.refl _ | with_reducible refine Q.alloc ?_ _ | with_reducible refine Q.setCell ?_ (by (try simp only); first | with_reducible exact Nat.le_refl _ | with_reducible assumption | omega) _ | with_reducible refine Q.drew ?_)); done))); (case h2 => (refine r9.q ?_; ((repeat (first | with_reducible assumption | with_reducible exact Q.refl _ | with_reducible refine Q.alloc ?_ _ | with_reducible refine Q.setCell ?_ (by (try simp only); first | with_reducible exact Nat.le_refl _ | with_reducible assumption | omega) _ | with_reducible refine Q.drew ?_)); done))); rintro e wb ⟨rfl, qb⟩; have QR : Q w9 wb := Q.trans (by ((repeat (first | with_reducible assumption | with_reducible exact Q.refl _ | with_reducible refine Q.alloc ?_ _ | with_reducible refine Q.setCell ?_ (by (try simp only); first | with_reducible exact Nat.le_refl _ | with_reducible assumption | omega) _ | with_reducible refine Q.drew ?_)); done)) qb))
        replace B1 := B1.q QR
        replace BT := BT.q QR
        replace Q0 := Q0.trans QR
        replace r8 := r8.q QR
        clear QR hS
        go_upto_region 16 with (fail)
        have ha10 := ha.q Q0
        have cT := BT.cell
        have lT := BT.lt
        have c1' := B1.cell
        have l1 := B1.lt
        have hS : ∀ w', Q wb w' → (Q wb w' ∧ w'.cell? ⟨w5.heap.size, 0, none⟩ = some (.slice A8 n c8) ∧ w'.cell? ⟨w.heap.size + 1, 0, none⟩ = some (.slice A n cc)) := fun w' q => ⟨q, (BT.q q).cell 0, (B1.q q).cell 0⟩
        go_region_held3 (fun w' => Q wb w' ∧ w'.cell? ⟨w5.heap.size, 0, none⟩ = some (.slice A8 n c8) ∧ w'.cell? ⟨w.heap.size + 1, 0, none⟩ = some (.slice A n cc)) (first | with_reducible exact hS _ QR | (with_reducible refine hS _ ?_; ((repeat (first | with_reducible assumption | with_reducible exact Q.refl _ | with_reducible refine Q.alloc ?_ _ | with_reducible refine Q.setCell ?_ (by (try simp only); first | with_reducible exact Nat.le_refl _ | with_reducible assumption | omega) _ | with_reducible refine Q.drew ?_)); done)) | (go_split_ands; first | with_reducible exact hS _ QR | (with_reducible refine hS _ ?_; ((repeat (first | with_reducible assumption | with_reducible exact Q.refl _ | with_reducible refine Q.alloc ?_ _ | with_reducible refine Q.setCell ?_ (by (try simp only); first | with_reducible exact Nat.le_refl _ | with_reducible assumption | omega) _ | with_reducible refine Q.drew ?_)); done)))) (first | (go_at_call 11; with_reducible refine Calls.mono (KTT.out _ ?h1) ?_; (case h1 => (refine ha10.q ?_; ((repeat (first | with_reducible assumption | with_reducible exact Q.refl _ | with_reducible refine Q.alloc ?_ _ | with_reducible refine Q.setCell ?_ (by (try simp only); first | with_reducible exact Nat.le_refl _ | with_reducible assumption | omega) _ | with_reducible refine Q.drew ?_)); done))); rintro e wc ⟨A9, c9, rfl, o9, qc⟩; have QR : Q wb wc := Q.trans (by ((repeat (first | with_reducible assumption | with_reducible exact Q.refl _ | with_reducible refine Q.alloc ?_ _ | with_reducible refine Q.setCell ?_ (by (try simp only); first | with_reducible exact Nat.le_refl _ | with_reducible assumption | omega) _ | with_reducible refine Q.drew ?_)); done)) qc) | (go_at_call 15; with_reducible refine Calls.mono (KET.out _ _ _ _ _ ?h1 ?h2) ?_; (case h1 => (refine r8.q ?_; ((repeat (first | with_reducible assumption | with_reducible exact Q.refl _ | with_reducible refine Q.alloc ?_ _ | with_reducible refine Q.setCell ?_ (by (try simp only); first | with_reducible exact Nat.le_refl _ | with_reducible assumption | omega) _ | with_reducible refine Q.drew ?_)); done))); (case h2 => (refine (o9.rd).q ?_; ((repeat (first | with_reducible assumption | with_reducible exact Q.refl _ | with_reducible refine Q.alloc ?_ _ | with_reducible refine Q.setCell ?_ (by (try simp only); first | with_reducible exact Nat.le_refl _ | with_reducible assumption | omega) _ | with_reducible refine Q.drew ?_)); done))); rintro e wd ⟨rfl, qd⟩; have QR : Q wb wd := Q.trans (by ((repeat (first | with_reducible assumption | with_reducible exact Q.refl _ | with_reducible refine Q.alloc ?_ _ | with_reducible refine Q.setCell ?_ (by (try simp only); first | with_reducible exact Nat.le_refl _ | with_reducible assumption | omega) _ | with_reducible refine Q.drew ?_)); done)) qd))
        replace Q0 := Q0.trans QR
        go_wp2_with fail
        go_ret
        exact ⟨rfl, Q0⟩
    · rw [if_neg h2] at ky
      generalize 1048576 - ((n0 + tmN ms : Nat) : Int) = R1 at *
      have KY := Lib.hid ky
      clear ky kz h1 h2
      go_enter Tryz.func3, Tryz.ntmps3
      go_wp2_with fail
      rw [← HW.out]
      refine (KZ.out _ (hm0.q Q0)).mono ?_
      rintro e1 w1 ⟨rfl, q1⟩
      replace B0 := B0.q q1
      replace B1 := B1.q q1
      replace Q0 := Q0.trans q1
      clear q1
      have c0' := B0.cell
      have c1' := B1.cell
      have l0 := B0.lt
      have l1 := B1.lt
      go_wp2_with fail
      refine (KY.out _).mono ?_
      rintro e2 w2 ⟨rfl, q2⟩
      go_wp2_with fail
      go_ret
      exact ⟨rfl, Q0.trans q2⟩
  · rw [if_neg h1] at kz
    have KZ := Lib.hid kz
    clear kz h1
    go_enter Tryz.func3, Tryz.ntmps3
    go_wp2_with fail
    rw [← HW.out]
    refine (KZ.out _ (hm0.q Q0)).mono ?_
    rintro e1 w1 ⟨rfl, q1⟩
    replace B0 := B0.q q1
    replace B1 := B1.q q1
    replace Q0 := Q0.trans q1
    clear q1
    have c0' := B0.cell
    have c1' := B1.cell
    have l0 := B0.lt
    have l1 := B1.lt
    go_wp2_with fail
    go_ret
    exact ⟨rfl, Q0⟩
end Go.Proofs.YtomgdgdcpgeilaaGreatDoor
