/- Walks: the incidents of all pairs of tracks, as the reference makes them, for all arguments; the law FnExactAllIncidents. No condition. -/
import Derived.Test.YtkpdoikjfibflaaGreatUmW
import Derived.Deep.RegionHeld3
import Derived.Outline
namespace Go.Proofs.YtkpdoikjfibflaaGreat
open Go.RowKit Go.WideShapes Go.ChangeShapes Go.Shelf
theorem allT_mk {D : List (Nat × List Int)} (h : ∀ k, k < D.length → isTrk (dx D k) (dn D k) = true) : allT D = true := by
  unfold allT
  exact List.all_eq_true.2 fun k hk => h k (List.mem_range.1 hk)
theorem aiIn_len {wx wy a b d s : Int} {D : List (Nat × List Int)} {i : Nat} : ∀ (j : Nat) (L : List Int), aiIn wx wy a b d s D i j = some L → ∃ c, c ≤ 401 * j ∧ L.length = c * 5
  | 0, L, h => by injection h with h; subst h; exact ⟨0, by omega, rfl⟩
  | j + 1, L, h => by
    rw [aiIn] at h
    cases h1 : aiIn wx wy a b d s D i j with
    | none => rw [h1] at h; cases h
    | some L1 =>
      rw [h1] at h
      cases h2 : kTm s D i (i + 1 + j) with
      | none => rw [h2] at h; cases h
      | some T =>
        rw [h2] at h
        injection h with h
        subst h
        obtain ⟨c, hc, hl⟩ := aiIn_len j L1 h1
        obtain ⟨e, he, hl'⟩ := prL_len wx wy a b d D i (i + 1 + j) T
        have := kTm_len h2
        exact ⟨c + e, by omega, by rw [List.length_append, hl, hl']; omega⟩
theorem aiTo_len {wx wy a b d s : Int} {D : List (Nat × List Int)} {n : Nat} (hn : n ≤ 16) : ∀ (i : Nat) (L : List Int), aiTo wx wy a b d s D n i = some L → ∃ c, c ≤ 6416 * i ∧ L.length = c * 5
  | 0, L, h => by injection h with h; subst h; exact ⟨0, by omega, rfl⟩
  | i + 1, L, h => by
    rw [aiTo] at h
    cases h1 : aiTo wx wy a b d s D n i with
    | none => rw [h1] at h; cases h
    | some L1 =>
      rw [h1] at h
      cases h2 : aiIn wx wy a b d s D i (n - 1 - i) with
      | none => rw [h2] at h; cases h
      | some M =>
        rw [h2] at h
        injection h with h
        subst h
        obtain ⟨c, hc, hl⟩ := aiTo_len hn i L1 h1
        obtain ⟨e, he, hl'⟩ := aiIn_len _ M h2
        exact ⟨c + e, by omega, by rw [List.length_append, hl, hl']; omega⟩
theorem aiL_len (wx wy a b d s : Int) (D : List (Nat × List Int)) : ∃ c, c ≤ 102656 ∧ (aiL wx wy a b d s D).length = c * 5 := by
  unfold aiL
  split
  · rename_i hC
    have h16 : D.length ≤ 16 := by
      rcases Nat.lt_or_ge 16 D.length with h | h
      · rw [(aiC_3 h).1] at hC; cases hC
      · exact h
    cases h : aiTo wx wy a b d s D D.length D.length with
    | none => exact ⟨0, by omega, rfl⟩
    | some X =>
      obtain ⟨c, hc, hl⟩ := aiTo_len h16 _ X h
      refine ⟨c, by omega, ?_⟩
      show (srtL X (X.length / 5)).length = c * 5
      rw [srtL_len, hl]
      omega
  · exact ⟨0, by omega, rfl⟩
set_option maxHeartbeats 1000000 in
theorem spec_AllIncidents (wx wy a b d s : Int) (A : Option Addr) (n c : Nat) (D : List (Nat × List Int)) (w : World) (ha : RdD w A D) (hD : D.length = n) (hn2 : n ≤ 9223372036854775807) :
    Calls Tryz.prog 24 #[.agg #[.int .i64 wx, .int .i64 wy], .agg #[.int .i64 a, .int .i64 b, .int .i64 d, .int .i64 s], .slice A n c] w (RS w 55 5 ((aiL wx wy a b d s D).length / 5) (aiL wx wy a b d s D) (aiC wx wy a b d s D)) := by
  by_cases h16 : n ≤ 16
  · by_cases hv : wnB wx wy = true ∧ isWat a b d s = true ∧ allT D = true
    · exact spec_AllMain wx wy a b d s A n c D w ha hD hn2 h16 hv.1 hv.2.1 hv.2.2
    · obtain ⟨e1, e2⟩ := aiC_1 (by omega) hv
      rw [e1, e2]
      clear e1 e2
      have k1 := fun wv => spec_IsWind wx wy wv
      have k2 := fun wv => spec_IsWatch a b d s wv
      obtain ⟨B0, B1⟩ := bxWW w wx wy a b d s
      have Q0 : Q w ((w.alloc (.cells #[.int .i64 wx, .int .i64 wy] 33)).alloc (.cells #[.int .i64 a, .int .i64 b, .int .i64 d, .int .i64 s] 35)) := by (repeat (first | assumption | exact Q.refl _ | refine Q.alloc ?_ _ | refine Q.drewN ?_ _ | refine Q.drew ?_))
      have hnI : (n : Int) ≤ 16 := by omega
      cases hw : wnB wx wy
      · rw [hw] at k1
        have K1 := Lib.hid k1
        clear k1 k2 hv hw hD
        go_enter Tryz.func24, Tryz.ntmps24
        go_wp2_with fail
        refine (K1.out _).mono ?_
        rintro e w1 ⟨rfl, q1⟩
        go_wp2_with fail
        go_ret2
        exact RS.nil _ _ _ _ _ (Q0.trans q1)
      · rw [hw] at k1 hv
        have K1 := Lib.hid k1
        cases hx : isWat a b d s
        · rw [hx] at k2
          have K2 := Lib.hid k2
          clear k1 k2 hv hw hx hD
          go_enter Tryz.func24, Tryz.ntmps24
          go_wp2_with fail
          refine (K1.out _).mono ?_
          rintro e w1 ⟨rfl, q1⟩
          replace B1 := B1.q q1
          replace Q0 := Q0.trans q1
          have c1' := B1.cell
          have l1' := B1.lt
          go_wp2_with fail
          refine (K2.out _).mono ?_
          rintro e w2 ⟨rfl, q2⟩
          go_wp2_with fail
          go_ret2
          exact RS.nil _ _ _ _ _ (Q0.trans q2)
        · rw [hx] at k2 hv
          have K2 := Lib.hid k2
          have HT := Lib.hid (show ¬ ∀ k, k < n → isTrk (dx D k) (dn D k) = true from fun h => hv ⟨rfl, rfl, allT_mk (by rw [hD]; exact h)⟩)
          have HD := Lib.hid hD
          clear k1 k2 hv hw hx hD
          go_enter Tryz.func24, Tryz.ntmps24
          go_wp2_with fail
          refine (K1.out _).mono ?_
          rintro e w1 ⟨rfl, q1⟩
          replace B1 := B1.q q1
          replace Q0 := Q0.trans q1
          have c1' := B1.cell
          have l1' := B1.lt
          go_wp2_with fail
          refine (K2.out _).mono ?_
          rintro e w3 ⟨rfl, q2⟩
          replace Q0 := Q0.trans q2
          clear c1' l1' q1 q2 K1 K2 B0 B1
          go_wp2_with fail
          go_loopw [8] (fun i wr => ∃ k : Nat, k ≤ n ∧ i = .int .i64 k ∧ Hid (∀ j, j < k → isTrk (dx D j) (dn D j) = true) ∧ Q w3 wr) (fun i _ => n - (intOf i).toNat)
          case atStart => exact ⟨0, Nat.zero_le _, rfl, Lib.hid (fun j h => absurd h (Nat.not_lt_zero _)), by (repeat (first | assumption | exact Q.refl _ | refine Q.alloc ?_ _ | refine Q.drewN ?_ _ | refine Q.drew ?_))⟩
          case round =>
            obtain ⟨k, hk, rfl, HK, hq⟩ := hrel
            by_cases hlt : k < n
            · have hltI : (k : Int) < (n : Int) := by omega
              obtain ⟨bl, o, B, cb, rfl, g0, hr, hx, hm⟩ := (ha.q (Q0.trans hq)).at_ HD.out hlt
              have k2 := (fun wv (h : Rd wv B (dx D k)) => spec_IsTrack B (dn D k) cb (dx D k) wv h hx hm)
              obtain ⟨E, hE⟩ : ∃ E, E = isTrk (dx D k) (dn D k) := ⟨_, rfl⟩
              rw [← hE] at k2
              have HE := Lib.hid hE
              obtain ⟨mm, hme⟩ : ∃ mm, mm = dn D k := ⟨_, rfl⟩
              rw [← hme] at g0 k2 hm
              obtain ⟨ys, hye⟩ : ∃ ys, ys = dx D k := ⟨_, rfl⟩
              rw [← hye] at hr k2
              have K2 := Lib.hid k2
              clear hE hme hye hx k2
              cases E
              · go_wp2_with (go_at_call 48; refine (K2.out _ (hr.q (by (repeat (first | assumption | exact Q.refl _ | refine Q.alloc ?_ _ | refine Q.drewN ?_ _ | refine Q.drew ?_))))).mono ?_; rintro e w2 ⟨rfl, q2⟩)
                go_ret2
                exact RS.nil _ _ _ _ _ (Q0.trans (hq.trans (Q.trans (by (repeat (first | assumption | exact Q.refl _ | refine Q.alloc ?_ _ | refine Q.drewN ?_ _ | refine Q.drew ?_))) q2)))
              · go_wp2_with (go_at_call 48; refine (K2.out _ (hr.q (by (repeat (first | assumption | exact Q.refl _ | refine Q.alloc ?_ _ | refine Q.drewN ?_ _ | refine Q.drew ?_))))).mono ?_; rintro e w2 ⟨rfl, q2⟩)
                go_roundw
                case rel => exact ⟨k + 1, by omega, by go_num, Lib.hid (fun j hj => if h : j < k then HK.out j h else (show j = k by omega) ▸ HE.out.symm), hq.trans (Q.trans (by (repeat (first | assumption | exact Q.refl _ | refine Q.alloc ?_ _ | refine Q.drewN ?_ _ | refine Q.drew ?_))) q2)⟩
                case measure => simp [intOf]; omega
            · obtain rfl : k = n := by omega
              exact absurd HK.out HT.out
  · obtain ⟨e1, e2⟩ := aiC_3 (wx := wx) (wy := wy) (a := a) (b := b) (d := d) (s := s) (D := D) (by omega)
    rw [e1, e2]
    have hnI : (16 : Int) < (n : Int) := by omega
    have Q0 : Q w ((w.alloc (.cells #[.int .i64 wx, .int .i64 wy] 33)).alloc (.cells #[.int .i64 a, .int .i64 b, .int .i64 d, .int .i64 s] 35)) := by (repeat (first | assumption | exact Q.refl _ | refine Q.alloc ?_ _ | refine Q.drewN ?_ _ | refine Q.drew ?_))
    clear e1 e2 hD ha
    go_enter Tryz.func24, Tryz.ntmps24
    go_wp2_with fail
    go_ret2
    exact RS.nil _ _ _ _ _ Q0
set_option maxRecDepth 100000 in
set_option maxHeartbeats 4000000 in
theorem law_FnExactAllIncidents (a0x0 a0x1 : Int) (ha0 : ∀ y ∈ [a0x0, a0x1], -9223372036854775808 ≤ y ∧ y ≤ 9223372036854775807) (a1x0 a1x1 a1x2 a1x3 : Int) (ha1 : ∀ y ∈ [a1x0, a1x1, a1x2, a1x3], -9223372036854775808 ≤ y ∧ y ≤ 9223372036854775807) (a2A : Option Addr) (a2n a2c : Nat) (a2d : List (Nat × List Int)) (ha2l : a2d.length = a2n) (ha2c : a2n ≤ a2c ∧ a2c ≤ maxLen) (w : World) (ha2 : RdD w a2A a2d) :
    Calls Tryz.prog 5 #[.agg #[.int .i64 a0x0, .int .i64 a0x1], .agg #[.int .i64 a1x0, .int .i64 a1x1, .int .i64 a1x2, .int .i64 a1x3], .slice a2A a2n a2c] w fun e w' => e = .returned (.bool true) ∧ Below w.heap.size w w' := by
  have hn2 : a2n ≤ 9223372036854775807 := by have := ha2c; unfold maxLen at this; omega
  clear ha2c
  have HL2 := Lib.hid ha2l
  clear ha2l
  have HB0 := Lib.hid ha0
  clear ha0
  have HB1 := Lib.hid ha1
  clear ha1
  have k0 := fun (a2A : Option Addr) (a2c : Nat) => spec_AllIncidents a0x0 a0x1 a1x0 a1x1 a1x2 a1x3 a2A a2n a2c a2d
  have k1 := fun (a2A : Option Addr) (a2c : Nat) => impl_AllIncidents a0x0 a0x1 a1x0 a1x1 a1x2 a1x3 a2A a2n a2c a2d
  obtain ⟨n0, hn0⟩ : ∃ n0, n0 = ((aiL a0x0 a0x1 a1x0 a1x1 a1x2 a1x3 a2d).length / 5) := ⟨_, rfl⟩
  obtain ⟨L0, hL0⟩ : ∃ L0, L0 = aiL a0x0 a0x1 a1x0 a1x1 a1x2 a1x3 a2d := ⟨_, rfl⟩
  obtain ⟨r1, hr1⟩ : ∃ r1, r1 = aiC a0x0 a0x1 a1x0 a1x1 a1x2 a1x3 a2d := ⟨_, rfl⟩
  have hs0 : n0 ≤ 1048576 := by rw [hn0]; exact (by obtain ⟨c, h1, h2⟩ := aiL_len a0x0 a0x1 a1x0 a1x1 a1x2 a1x3 a2d; omega)
  rw [← hn0, ← hL0, ← hr1] at k0 k1
  have K0 := Lib.hid k0
  have K1 := Lib.hid k1
  clear k0 k1 hn0 hL0 hr1
  rcases Nat.lt_or_ge (1048576) (a2n + tot a2d) with hsz2 | hsz2
  · skip
    go_enter Tryz.func5, Tryz.ntmps5
    have B0 := Blk.new w 23 #[.int .i64 a0x0, .int .i64 a0x1]
    have gB0 : w.heap.size + 0 < w.heap.size + 2 := by omega
    have B0 := B0.alloc (.cells #[.int .i64 a1x0, .int .i64 a1x1, .int .i64 a1x2, .int .i64 a1x3] 25)
    have B1 := Blk.new (w.alloc (.cells #[.int .i64 a0x0, .int .i64 a0x1] 23)) 25 #[.int .i64 a1x0, .int .i64 a1x1, .int .i64 a1x2, .int .i64 a1x3]
    have gB1 : w.heap.size + 1 < w.heap.size + 2 := by omega
    have eB1 : (w.alloc (.cells #[.int .i64 a0x0, .int .i64 a0x1] 23)).heap.size = w.heap.size + 1 := by simp
    rw [eB1] at B1
    clear eB1
    have Q0 : Q w ((w.alloc (.cells #[.int .i64 a0x0, .int .i64 a0x1] 23)).alloc (.cells #[.int .i64 a1x0, .int .i64 a1x1, .int .i64 a1x2, .int .i64 a1x3] 25)) := by (repeat (first | assumption | exact Q.refl _ | refine Q.alloc ?_ _ | refine Q.drewN ?_ _ | refine Q.drew ?_))
    have I2 := ha2
    replace I2 := I2.q Q0
    have z0 : w.heap.size + 2 ≤ (((w.alloc (.cells #[.int .i64 a0x0, .int .i64 a0x1] 23)).alloc (.cells #[.int .i64 a1x0, .int .i64 a1x1, .int .i64 a1x2, .int .i64 a1x3] 25))).heap.size := by simp
    go_wp2_with fail
    refine (szTrackS_any a2A a2n a2c a2d 1048576 _ I2 HL2.out (by omega) (by omega) hn2).mono ?_
    rintro e wz2 ⟨rfl, qz2⟩
    replace B0 := B0.q qz2
    replace B1 := B1.q qz2
    replace Q0 := Q0.trans qz2
    replace I2 := I2.q qz2
    have zz2 := qz2.size
    rw [if_neg (by omega)]
    have cB0 := B0.cell
    have cB1 := B1.cell
    go_wp2_with fail
    clear cB0
    clear cB1
    go_ret
    exact ⟨rfl, Q0⟩
  · skip
    go_enter Tryz.func5, Tryz.ntmps5
    have B0 := Blk.new w 23 #[.int .i64 a0x0, .int .i64 a0x1]
    have gB0 : w.heap.size + 0 < w.heap.size + 2 := by omega
    have B0 := B0.alloc (.cells #[.int .i64 a1x0, .int .i64 a1x1, .int .i64 a1x2, .int .i64 a1x3] 25)
    have B1 := Blk.new (w.alloc (.cells #[.int .i64 a0x0, .int .i64 a0x1] 23)) 25 #[.int .i64 a1x0, .int .i64 a1x1, .int .i64 a1x2, .int .i64 a1x3]
    have gB1 : w.heap.size + 1 < w.heap.size + 2 := by omega
    have eB1 : (w.alloc (.cells #[.int .i64 a0x0, .int .i64 a0x1] 23)).heap.size = w.heap.size + 1 := by simp
    rw [eB1] at B1
    clear eB1
    have Q0 : Q w ((w.alloc (.cells #[.int .i64 a0x0, .int .i64 a0x1] 23)).alloc (.cells #[.int .i64 a1x0, .int .i64 a1x1, .int .i64 a1x2, .int .i64 a1x3] 25)) := by (repeat (first | assumption | exact Q.refl _ | refine Q.alloc ?_ _ | refine Q.drewN ?_ _ | refine Q.drew ?_))
    have I2 := ha2
    replace I2 := I2.q Q0
    have z0 : w.heap.size + 2 ≤ (((w.alloc (.cells #[.int .i64 a0x0, .int .i64 a0x1] 23)).alloc (.cells #[.int .i64 a1x0, .int .i64 a1x1, .int .i64 a1x2, .int .i64 a1x3] 25))).heap.size := by simp
    go_wp2_with fail
    refine (szTrackS_any a2A a2n a2c a2d 1048576 _ I2 HL2.out (by omega) (by omega) hn2).mono ?_
    rintro e wz2 ⟨rfl, qz2⟩
    replace B0 := B0.q qz2
    replace B1 := B1.q qz2
    replace Q0 := Q0.trans qz2
    replace I2 := I2.q qz2
    have zz2 := qz2.size
    rw [if_pos (by omega)]
    have cB0 := B0.cell
    have cB1 := B1.cell
    go_wp2_with fail
    clear cB0
    clear cB1
    have cB0 := B0.cell
    have lB0 := B0.lt
    have cB1 := B1.cell
    have lB1 := B1.lt
    go_wp2_with fail
    clear cB0 lB0
    clear cB1 lB1
    have WQ1 := Q.refl (wz2)
    have hS1 : ∀ w', Q (wz2) w' → (Q (wz2) w' ∧ w'.cell? ⟨w.heap.size, 0, none⟩ = some (.int .i64 a0x0) ∧ w'.cell? ⟨w.heap.size, 1, none⟩ = some (.int .i64 a0x1) ∧ w'.cell? ⟨w.heap.size + 1, 0, none⟩ = some (.int .i64 a1x0) ∧ w'.cell? ⟨w.heap.size + 1, 1, none⟩ = some (.int .i64 a1x1) ∧ w'.cell? ⟨w.heap.size + 1, 2, none⟩ = some (.int .i64 a1x2) ∧ w'.cell? ⟨w.heap.size + 1, 3, none⟩ = some (.int .i64 a1x3)) := fun w' q => ⟨q, (B0.q q).cell _, (B0.q q).cell _, (B1.q q).cell _, (B1.q q).cell _, (B1.q q).cell _, (B1.q q).cell _⟩
    go_region_held3 (fun w' => Q (wz2) w' ∧ w'.cell? ⟨w.heap.size, 0, none⟩ = some (.int .i64 a0x0) ∧ w'.cell? ⟨w.heap.size, 1, none⟩ = some (.int .i64 a0x1) ∧ w'.cell? ⟨w.heap.size + 1, 0, none⟩ = some (.int .i64 a1x0) ∧ w'.cell? ⟨w.heap.size + 1, 1, none⟩ = some (.int .i64 a1x1) ∧ w'.cell? ⟨w.heap.size + 1, 2, none⟩ = some (.int .i64 a1x2) ∧ w'.cell? ⟨w.heap.size + 1, 3, none⟩ = some (.int .i64 a1x3)) (first | exact hS1 _ (by first | assumption | exact QR | exact (Q.refl _).drew) | (go_split_ands; exact hS1 _ (by first | assumption | exact QR | exact (Q.refl _).drew))) (first | (go_at_call 8; refine (toWind_any a0x0 a0x1 _).mono ?_; rintro e wr0 ⟨rfl, qr0⟩; have QR : Q (wz2) _ := Q.trans (by first | assumption | exact (Q.refl _).drew) qr0; have zr := QR.size) | (go_at_call 9; refine (toWatch_any a1x0 a1x1 a1x2 a1x3 _).mono ?_; rintro e wr1 ⟨rfl, qr1⟩; have QR : Q (wz2) _ := Q.trans (by first | assumption | exact (Q.refl _).drew) qr1; have zr := QR.size) | (go_at_call 25; refine (toTrackS_any a2A a2n a2c a2d _ (I2.q (by first | assumption | exact (Q.refl _).drew)) HL2.out (by omega) (by omega)).mono ?_; rintro e wr2 ⟨A2s, c2s, rfl, o2s, qr2⟩; have QR : Q (wz2) _ := Q.trans (by first | assumption | exact (Q.refl _).drew) qr2; have zr := QR.size) | (go_at_call 24; refine (K0.out A2s c2s _ o2s.rd HL2.out (by omega)).mono ?_; rintro e w1 ⟨Gs, ds, rfl, gs, qf1⟩; have QR : Q (wz2) _ := Q.trans (by first | assumption | exact (Q.refl _).drew) qf1))
    replace B0 := B0.q QR
    replace B1 := B1.q QR
    replace Q0 := Q0.trans QR
    replace I2 := I2.q QR
    have z1 := QR.size
    clear QR
    have fgs := gs.from
    have HGs := Lib.hid (show L0.length = n0 * 5 by simpa using gs.1)
    have cB0 := B0.cell
    have lB0 := B0.lt
    have cB1 := B1.cell
    have lB1 := B1.lt
    go_wp2_with fail
    clear cB0 lB0
    clear cB1 lB1
    refine (toTrackS_any a2A a2n a2c a2d _ I2 HL2.out (by omega) (by omega)).mono ?_
    rintro e w2 ⟨A2i, c2i, rfl, o2i, q2⟩
    replace B0 := B0.q q2
    replace B1 := B1.q q2
    replace Q0 := Q0.trans q2
    replace I2 := I2.q q2
    replace gs := gs.q q2
    have z2 := q2.size
    have fo2i := o2i.from
    have cB0 := B0.cell
    have lB0 := B0.lt
    have cB1 := B1.cell
    have lB1 := B1.lt
    go_wp2_with fail
    clear cB0 lB0
    clear cB1 lB1
    have WQ3 := Q.refl (w2)
    have hS3 : ∀ w', Q (w2) w' → (Q (w2) w' ∧ w'.cell? ⟨w.heap.size, 0, none⟩ = some (.int .i64 a0x0) ∧ w'.cell? ⟨w.heap.size, 1, none⟩ = some (.int .i64 a0x1) ∧ w'.cell? ⟨w.heap.size + 1, 0, none⟩ = some (.int .i64 a1x0) ∧ w'.cell? ⟨w.heap.size + 1, 1, none⟩ = some (.int .i64 a1x1) ∧ w'.cell? ⟨w.heap.size + 1, 2, none⟩ = some (.int .i64 a1x2) ∧ w'.cell? ⟨w.heap.size + 1, 3, none⟩ = some (.int .i64 a1x3)) := fun w' q => ⟨q, (B0.q q).cell _, (B0.q q).cell _, (B1.q q).cell _, (B1.q q).cell _, (B1.q q).cell _, (B1.q q).cell _⟩
    go_region_held3 (fun w' => Q (w2) w' ∧ w'.cell? ⟨w.heap.size, 0, none⟩ = some (.int .i64 a0x0) ∧ w'.cell? ⟨w.heap.size, 1, none⟩ = some (.int .i64 a0x1) ∧ w'.cell? ⟨w.heap.size + 1, 0, none⟩ = some (.int .i64 a1x0) ∧ w'.cell? ⟨w.heap.size + 1, 1, none⟩ = some (.int .i64 a1x1) ∧ w'.cell? ⟨w.heap.size + 1, 2, none⟩ = some (.int .i64 a1x2) ∧ w'.cell? ⟨w.heap.size + 1, 3, none⟩ = some (.int .i64 a1x3)) (first | exact hS3 _ (by first | assumption | exact QR | exact (Q.refl _).drew) | (go_split_ands; exact hS3 _ (by first | assumption | exact QR | exact (Q.refl _).drew))) (first | (go_at_call 8; refine (toWind_any a0x0 a0x1 _).mono ?_; rintro e wr0 ⟨rfl, qr0⟩; have QR : Q (w2) _ := Q.trans (by first | assumption | exact (Q.refl _).drew) qr0; have zr := QR.size) | (go_at_call 9; refine (toWatch_any a1x0 a1x1 a1x2 a1x3 _).mono ?_; rintro e wr1 ⟨rfl, qr1⟩; have QR : Q (w2) _ := Q.trans (by first | assumption | exact (Q.refl _).drew) qr1; have zr := QR.size) | (go_at_call 26; refine (K1.out A2i c2i _ (o2i.q (by first | assumption | exact (Q.refl _).drew)).rd HL2.out (by omega)).mono ?_; rintro e w3 ⟨Gi, di, rfl, gi, qf3⟩; have QR : Q (w2) _ := Q.trans (by first | assumption | exact (Q.refl _).drew) qf3))
    replace B0 := B0.q QR
    replace B1 := B1.q QR
    replace Q0 := Q0.trans QR
    replace I2 := I2.q QR
    replace gs := gs.q QR
    replace o2i := o2i.q QR
    have z3 := QR.size
    clear QR
    have fgi := gi.from
    have HGi := Lib.hid (show L0.length = n0 * 5 by simpa using gi.1)
    have cB0 := B0.cell
    have lB0 := B0.lt
    have cB1 := B1.cell
    have lB1 := B1.lt
    go_wp2_with fail
    clear cB0 lB0
    clear cB1 lB1
    refine (eqIncidentS_same Gi Gs n0 di ds L0 _ gi.rd gs.rd HGi.out (by omega)).mono ?_
    rintro e w4 ⟨rfl, q4⟩
    replace B0 := B0.q q4
    replace B1 := B1.q q4
    replace Q0 := Q0.trans q4
    replace I2 := I2.q q4
    replace gs := gs.q q4
    replace o2i := o2i.q q4
    replace gi := gi.q q4
    have z4 := q4.size
    have cB0 := B0.cell
    have lB0 := B0.lt
    have cB1 := B1.cell
    have lB1 := B1.lt
    go_wp2_with fail
    clear cB0 lB0
    clear cB1 lB1
    refine (toTrackS_any a2A a2n a2c a2d _ I2 HL2.out (by omega) (by omega)).mono ?_
    rintro e w5 ⟨A2e, c2e, rfl, o2e, q5⟩
    replace B0 := B0.q q5
    replace B1 := B1.q q5
    replace Q0 := Q0.trans q5
    replace I2 := I2.q q5
    replace gs := gs.q q5
    replace o2i := o2i.q q5
    replace gi := gi.q q5
    have z5 := q5.size
    have fo2e := o2e.from
    have cB0 := B0.cell
    have lB0 := B0.lt
    have cB1 := B1.cell
    have lB1 := B1.lt
    go_wp2_with fail
    clear cB0 lB0
    clear cB1 lB1
    refine (eqTrackS_same A2i A2e a2n c2i c2e a2d _ o2i.rd o2e.rd HL2.out (by omega)).mono ?_
    rintro e w6 ⟨rfl, q6⟩
    replace B0 := B0.q q6
    replace B1 := B1.q q6
    replace Q0 := Q0.trans q6
    replace I2 := I2.q q6
    replace gs := gs.q q6
    replace o2i := o2i.q q6
    replace gi := gi.q q6
    replace o2e := o2e.q q6
    have z6 := q6.size
    have cB0 := B0.cell
    have lB0 := B0.lt
    have cB1 := B1.cell
    have lB1 := B1.lt
    go_wp2_with fail
    clear cB0 lB0
    clear cB1 lB1
    clear o2e
    refine (markTrackS_any A2i a2n c2i _ _ a2d 1 _ o2i (by omega) (by omega) (by omega)).mono ?_
    rintro e w7 ⟨rfl, G7⟩
    have z7 := G7.size
    replace B0 := Blk.markD B0 (.inl (by omega)) G7
    replace B1 := Blk.markD B1 (.inl (by omega)) G7
    replace Q0 := Q0.markD (by omega) G7
    replace I2 := ha2.q Q0
    replace gs := gs.markD (fun a ha => by have := fgs a ha; first | exact .inr (by omega) | exact .inl (by omega)) G7
    replace gi := gi.markD (fun a ha => by have := fgi a ha; first | exact .inr (by omega) | exact .inl (by omega)) G7
    clear o2i
    have cB0 := B0.cell
    have lB0 := B0.lt
    have cB1 := B1.cell
    have lB1 := B1.lt
    go_wp2_with fail
    clear cB0 lB0
    clear cB1 lB1
    refine (eqIncidentS_same Gi Gs n0 di ds L0 _ gi.rd gs.rd HGi.out (by omega)).mono ?_
    rintro e w8 ⟨rfl, q8⟩
    replace B0 := B0.q q8
    replace B1 := B1.q q8
    replace Q0 := Q0.trans q8
    replace I2 := I2.q q8
    replace gs := gs.q q8
    replace gi := gi.q q8
    have z8 := q8.size
    have cB0 := B0.cell
    have lB0 := B0.lt
    have cB1 := B1.cell
    have lB1 := B1.lt
    go_wp2_with fail
    clear cB0 lB0
    clear cB1 lB1
    refine (markIncidentS_any Gi n0 di _ L0 1 _ gi (by omega) (by omega)).mono ?_
    rintro e w9 ⟨rfl, mgi, G9⟩
    have z9 := G9.size
    first | replace B0 := Blk.markU B0 fgi (by omega) G9 | replace B0 := Blk.markU2 B0 fgi (by omega) G9
    first | replace B1 := Blk.markU B1 fgi (by omega) G9 | replace B1 := Blk.markU2 B1 fgi (by omega) G9
    replace Q0 := Q0.markU fgi (by omega) G9
    replace I2 := ha2.q Q0
    replace gs := gs.far G9 (by first | exact far_lt fgs fgi (by omega) | exact (far_lt fgi fgs (by omega)).symm)
    replace gi := mgi
    have cB0 := B0.cell
    have lB0 := B0.lt
    have cB1 := B1.cell
    have lB1 := B1.lt
    go_wp2_with fail
    clear cB0 lB0
    clear cB1 lB1
    refine (heldIncidentS_any Gi n0 di 1 _ gi.rd (by omega) (by omega)).mono ?_
    rintro e w10 ⟨rfl, q10⟩
    replace B0 := B0.q q10
    replace B1 := B1.q q10
    replace Q0 := Q0.trans q10
    replace I2 := I2.q q10
    replace gs := gs.q q10
    replace gi := gi.q q10
    have z10 := q10.size
    have cB0 := B0.cell
    have lB0 := B0.lt
    have cB1 := B1.cell
    have lB1 := B1.lt
    go_wp2_with fail
    clear cB0 lB0
    clear cB1 lB1
    have WQ11 := Q.refl (w10)
    have hS11 : ∀ w', Q (w10) w' → (Q (w10) w' ∧ w'.cell? ⟨w.heap.size, 0, none⟩ = some (.int .i64 a0x0) ∧ w'.cell? ⟨w.heap.size, 1, none⟩ = some (.int .i64 a0x1) ∧ w'.cell? ⟨w.heap.size + 1, 0, none⟩ = some (.int .i64 a1x0) ∧ w'.cell? ⟨w.heap.size + 1, 1, none⟩ = some (.int .i64 a1x1) ∧ w'.cell? ⟨w.heap.size + 1, 2, none⟩ = some (.int .i64 a1x2) ∧ w'.cell? ⟨w.heap.size + 1, 3, none⟩ = some (.int .i64 a1x3)) := fun w' q => ⟨q, (B0.q q).cell _, (B0.q q).cell _, (B1.q q).cell _, (B1.q q).cell _, (B1.q q).cell _, (B1.q q).cell _⟩
    go_region_held3 (fun w' => Q (w10) w' ∧ w'.cell? ⟨w.heap.size, 0, none⟩ = some (.int .i64 a0x0) ∧ w'.cell? ⟨w.heap.size, 1, none⟩ = some (.int .i64 a0x1) ∧ w'.cell? ⟨w.heap.size + 1, 0, none⟩ = some (.int .i64 a1x0) ∧ w'.cell? ⟨w.heap.size + 1, 1, none⟩ = some (.int .i64 a1x1) ∧ w'.cell? ⟨w.heap.size + 1, 2, none⟩ = some (.int .i64 a1x2) ∧ w'.cell? ⟨w.heap.size + 1, 3, none⟩ = some (.int .i64 a1x3)) (first | exact hS11 _ (by first | assumption | exact QR | exact (Q.refl _).drew) | (go_split_ands; exact hS11 _ (by first | assumption | exact QR | exact (Q.refl _).drew))) (first | (go_at_call 8; refine (toWind_any a0x0 a0x1 _).mono ?_; rintro e wr0 ⟨rfl, qr0⟩; have QR : Q (w10) _ := Q.trans (by first | assumption | exact (Q.refl _).drew) qr0; have zr := QR.size) | (go_at_call 9; refine (toWatch_any a1x0 a1x1 a1x2 a1x3 _).mono ?_; rintro e wr1 ⟨rfl, qr1⟩; have QR : Q (w10) _ := Q.trans (by first | assumption | exact (Q.refl _).drew) qr1; have zr := QR.size) | (go_at_call 25; refine (toTrackS_any a2A a2n a2c a2d _ (I2.q (by first | assumption | exact (Q.refl _).drew)) HL2.out (by omega) (by omega)).mono ?_; rintro e wr2 ⟨A2h, c2h, rfl, o2h, qr2⟩; have QR : Q (w10) _ := Q.trans (by first | assumption | exact (Q.refl _).drew) qr2; have zr := QR.size) | (go_at_call 26; refine (K1.out A2h c2h _ o2h.rd HL2.out (by omega)).mono ?_; rintro e w11 ⟨Gh, dh, rfl, gh, qf11⟩; have QR : Q (w10) _ := Q.trans (by first | assumption | exact (Q.refl _).drew) qf11))
    replace B0 := B0.q QR
    replace B1 := B1.q QR
    replace Q0 := Q0.trans QR
    replace I2 := I2.q QR
    replace gs := gs.q QR
    replace gi := gi.q QR
    have z11 := QR.size
    clear QR
    have fgh := gh.from
    have HGh := Lib.hid (show L0.length = n0 * 5 by simpa using gh.1)
    have cB0 := B0.cell
    have lB0 := B0.lt
    have cB1 := B1.cell
    have lB1 := B1.lt
    go_wp2_with fail
    clear cB0 lB0
    clear cB1 lB1
    refine (eqIncidentS_same Gh Gs n0 dh ds L0 _ gh.rd gs.rd HGh.out (by omega)).mono ?_
    rintro e w12 ⟨rfl, q12⟩
    replace B0 := B0.q q12
    replace B1 := B1.q q12
    replace Q0 := Q0.trans q12
    replace I2 := I2.q q12
    replace gs := gs.q q12
    replace gi := gi.q q12
    replace gh := gh.q q12
    have z12 := q12.size
    have cB0 := B0.cell
    have lB0 := B0.lt
    have cB1 := B1.cell
    have lB1 := B1.lt
    go_wp2_with fail
    clear cB0 lB0
    clear cB1 lB1
    refine (heldIncidentS_any Gi n0 di 1 _ gi.rd (by omega) (by omega)).mono ?_
    rintro e w13 ⟨rfl, q13⟩
    replace B0 := B0.q q13
    replace B1 := B1.q q13
    replace Q0 := Q0.trans q13
    replace I2 := I2.q q13
    replace gs := gs.q q13
    replace gi := gi.q q13
    replace gh := gh.q q13
    have z13 := q13.size
    have cB0 := B0.cell
    have lB0 := B0.lt
    have cB1 := B1.cell
    have lB1 := B1.lt
    go_wp2_with fail
    clear cB0 lB0
    clear cB1 lB1
    go_ret
    exact ⟨rfl, Q0⟩
end Go.Proofs.YtkpdoikjfibflaaGreat
