/- Walks: the incidents of all pairs of tracks, as the reference makes them, for all arguments; the law FnExactAllIncidents. No condition. -/
import Derived.Test.YtkpdoikjfibflaaGreatDoorUmW
import Derived.Deep.RegionHeld3
import Derived.Outline
namespace Go.Proofs.YtkpdoikjfibflaaGreatDoor
open Go.RowKit Go.WideShapes Go.ChangeShapes Go.Shelf
theorem allT_mk {D : List (Nat × List Int)} (h : ∀ k, k < D.length → isTrk (dx D k) (dn D k) = true) : allT D = true := by
  unfold allT
  exact List.all_eq_true.2 fun k hk => h k (List.mem_range.1 hk)
theorem aiIn_len {wx wy a b d s : Int} {D : List (Nat × List Int)} {i : Nat} : ∀ (j : Nat) (L : List Int), aiIn wx wy a b d s D i j = some L → ∃ c, c ≤ 401 * j ∧ L.length = c * 5
  | 0, L, h => by injection h with h; subst h; exact ⟨0, by omega, rfl⟩
  | j + 1, L, h => by
    rw [aiIn] at h
    cases h1 : aiIn wx wy a b d s D i j with
    | none => rw [h1] at h; cases h
    | some L1 =>
      rw [h1] at h
      cases h2 : kTm s D i (i + 1 + j) with
      | none => rw [h2] at h; cases h
      | some T =>
        rw [h2] at h
        injection h with h
        subst h
        obtain ⟨c, hc, hl⟩ := aiIn_len j L1 h1
        obtain ⟨e, he, hl'⟩ := prL_len wx wy a b d D i (i + 1 + j) T
        have := kTm_len h2
        exact ⟨c + e, by omega, by rw [List.length_append, hl, hl']; omega⟩
theorem aiTo_len {wx wy a b d s : Int} {D : List (Nat × List Int)} {n : Nat} (hn : n ≤ 16) : ∀ (i : Nat) (L : List Int), aiTo wx wy a b d s D n i = some L → ∃ c, c ≤ 6416 * i ∧ L.length = c * 5
  | 0, L, h => by injection h with h; subst h; exact ⟨0, by omega, rfl⟩
  | i + 1, L, h => by
    rw [aiTo] at h
    cases h1 : aiTo wx wy a b d s D n i with
    | none => rw [h1] at h; cases h
    | some L1 =>
      rw [h1] at h
      cases h2 : aiIn wx wy a b d s D i (n - 1 - i) with
      | none => rw [h2] at h; cases h
      | some M =>
        rw [h2] at h
        injection h with h
        subst h
        obtain ⟨c, hc, hl⟩ := aiTo_len hn i L1 h1
        obtain ⟨e, he, hl'⟩ := aiIn_len _ M h2
        exact ⟨c + e, by omega, by rw [List.length_append, hl, hl']; omega⟩
theorem aiL_len (wx wy a b d s : Int) (D : List (Nat × List Int)) : ∃ c, c ≤ 102656 ∧ (aiL wx wy a b d s D).length = c * 5 := by
  unfold aiL
  split
  · rename_i hC
    have h16 : D.length ≤ 16 := by
      rcases Nat.lt_or_ge 16 D.length with h | h
      · rw [(aiC_3 h).1] at hC; cases hC
      · exact h
    cases h : aiTo wx wy a b d s D D.length D.length with
    | none => exact ⟨0, by omega, rfl⟩
    | some X =>
      obtain ⟨c, hc, hl⟩ := aiTo_len h16 _ X h
      refine ⟨c, by omega, ?_⟩
      show (srtL X (X.length / 5)).length = c * 5
      rw [srtL_len, hl]
      omega
  · exact ⟨0, by omega, rfl⟩
set_option maxHeartbeats 1000000 in
theorem spec_AllIncidents (wx wy a b d s : Int) (A : Option Addr) (n c : Nat) (D : List (Nat × List Int)) (w : World) (ha : RdD w A D) (hD : D.length = n) (hn2 : n ≤ 9223372036854775807) :
    Calls Tryz.prog 7 #[.agg #[.int .i64 wx, .int .i64 wy], .agg #[.int .i64 a, .int .i64 b, .int .i64 d, .int .i64 s], .slice A n c] w (RS w 42 5 ((aiL wx wy a b d s D).length / 5) (aiL wx wy a b d s D) (aiC wx wy a b d s D)) := by
  by_cases h16 : n ≤ 16
  · by_cases hv : wnB wx wy = true ∧ isWat a b d s = true ∧ allT D = true
    · exact spec_AllMain wx wy a b d s A n c D w ha hD hn2 h16 hv.1 hv.2.1 hv.2.2
    · obtain ⟨e1, e2⟩ := aiC_1 (by omega) hv
      rw [e1, e2]
      clear e1 e2
      have k1 := fun wv => spec_IsWind wx wy wv
      have k2 := fun wv => spec_IsWatch a b d s wv
      obtain ⟨B0, B1⟩ := bxWW w wx wy a b d s
      have Q0 : Q w ((w.alloc (.cells #[.int .i64 wx, .int .i64 wy] 25)).alloc (.cells #[.int .i64 a, .int .i64 b, .int .i64 d, .int .i64 s] 27)) := by (repeat (first | assumption | exact Q.refl _ | refine Q.alloc ?_ _ | refine Q.drewN ?_ _ | refine Q.drew ?_))
      have hnI : (n : Int) ≤ 16 := by omega
      cases hw : wnB wx wy
      · rw [hw] at k1
        have K1 := Lib.hid k1
        clear k1 k2 hv hw hD
        go_enter Tryz.func7, Tryz.ntmps7
        go_wp2_with fail
        refine (K1.out _).mono ?_
        rintro e w1 ⟨rfl, q1⟩
        go_wp2_with fail
        go_ret2
        exact RS.nil _ _ _ _ _ (Q0.trans q1)
      · rw [hw] at k1 hv
        have K1 := Lib.hid k1
        cases hx : isWat a b d s
        · rw [hx] at k2
          have K2 := Lib.hid k2
          clear k1 k2 hv hw hx hD
          go_enter Tryz.func7, Tryz.ntmps7
          go_wp2_with fail
          refine (K1.out _).mono ?_
          rintro e w1 ⟨rfl, q1⟩
          replace B1 := B1.q q1
          replace Q0 := Q0.trans q1
          have c1' := B1.cell
          have l1' := B1.lt
          go_wp2_with fail
          refine (K2.out _).mono ?_
          rintro e w2 ⟨rfl, q2⟩
          go_wp2_with fail
          go_ret2
          exact RS.nil _ _ _ _ _ (Q0.trans q2)
        · rw [hx] at k2 hv
          have K2 := Lib.hid k2
          have HT := Lib.hid (show ¬ ∀ k, k < n → isTrk (dx D k) (dn D k) = true from fun h => hv ⟨rfl, rfl, allT_mk (by rw [hD]; exact h)⟩)
          have HD := Lib.hid hD
          clear k1 k2 hv hw hx hD
          go_enter Tryz.func7, Tryz.ntmps7
          go_wp2_with fail
          refine (K1.out _).mono ?_
          rintro e w1 ⟨rfl, q1⟩
          replace B1 := B1.q q1
          replace Q0 := Q0.trans q1
          have c1' := B1.cell
          have l1' := B1.lt
          go_wp2_with fail
          refine (K2.out _).mono ?_
          rintro e w3 ⟨rfl, q2⟩
          replace Q0 := Q0.trans q2
          clear c1' l1' q1 q2 K1 K2 B0 B1
          go_wp2_with fail
          go_loopw [8] (fun i wr => ∃ k : Nat, k ≤ n ∧ i = .int .i64 k ∧ Hid (∀ j, j < k → isTrk (dx D j) (dn D j) = true) ∧ Q w3 wr) (fun i _ => n - (intOf i).toNat)
          case atStart => exact ⟨0, Nat.zero_le _, rfl, Lib.hid (fun j h => absurd h (Nat.not_lt_zero _)), by (repeat (first | assumption | exact Q.refl _ | refine Q.alloc ?_ _ | refine Q.drewN ?_ _ | refine Q.drew ?_))⟩
          case round =>
            obtain ⟨k, hk, rfl, HK, hq⟩ := hrel
            by_cases hlt : k < n
            · have hltI : (k : Int) < (n : Int) := by omega
              obtain ⟨bl, o, B, cb, rfl, g0, hr, hx, hm⟩ := (ha.q (Q0.trans hq)).at_ HD.out hlt
              have k2 := (fun wv (h : Rd wv B (dx D k)) => spec_IsTrack B (dn D k) cb (dx D k) wv h hx hm)
              obtain ⟨E, hE⟩ : ∃ E, E = isTrk (dx D k) (dn D k) := ⟨_, rfl⟩
              rw [← hE] at k2
              have HE := Lib.hid hE
              obtain ⟨mm, hme⟩ : ∃ mm, mm = dn D k := ⟨_, rfl⟩
              rw [← hme] at g0 k2 hm
              obtain ⟨ys, hye⟩ : ∃ ys, ys = dx D k := ⟨_, rfl⟩
              rw [← hye] at hr k2
              have K2 := Lib.hid k2
              clear hE hme hye hx k2
              cases E
              · go_wp2_with (go_at_call 25; refine (K2.out _ (hr.q (by (repeat (first | assumption | exact Q.refl _ | refine Q.alloc ?_ _ | refine Q.drewN ?_ _ | refine Q.drew ?_))))).mono ?_; rintro e w2 ⟨rfl, q2⟩)
                go_ret2
                exact RS.nil _ _ _ _ _ (Q0.trans (hq.trans (Q.trans (by (repeat (first | assumption | exact Q.refl _ | refine Q.alloc ?_ _ | refine Q.drewN ?_ _ | refine Q.drew ?_))) q2)))
              · go_wp2_with (go_at_call 25; refine (K2.out _ (hr.q (by (repeat (first | assumption | exact Q.refl _ | refine Q.alloc ?_ _ | refine Q.drewN ?_ _ | refine Q.drew ?_))))).mono ?_; rintro e w2 ⟨rfl, q2⟩)
                go_roundw
                case rel => exact ⟨k + 1, by omega, by go_num, Lib.hid (fun j hj => if h : j < k then HK.out j h else (show j = k by omega) ▸ HE.out.symm), hq.trans (Q.trans (by (repeat (first | assumption | exact Q.refl _ | refine Q.alloc ?_ _ | refine Q.drewN ?_ _ | refine Q.drew ?_))) q2)⟩
                case measure => simp [intOf]; omega
            · obtain rfl : k = n := by omega
              exact absurd HK.out HT.out
  · obtain ⟨e1, e2⟩ := aiC_3 (wx := wx) (wy := wy) (a := a) (b := b) (d := d) (s := s) (D := D) (by omega)
    rw [e1, e2]
    have hnI : (16 : Int) < (n : Int) := by omega
    have Q0 : Q w ((w.alloc (.cells #[.int .i64 wx, .int .i64 wy] 25)).alloc (.cells #[.int .i64 a, .int .i64 b, .int .i64 d, .int .i64 s] 27)) := by (repeat (first | assumption | exact Q.refl _ | refine Q.alloc ?_ _ | refine Q.drewN ?_ _ | refine Q.drew ?_))
    clear e1 e2 hD ha
    go_enter Tryz.func7, Tryz.ntmps7
    go_wp2_with fail
    go_ret2
    exact RS.nil _ _ _ _ _ Q0

end Go.Proofs.YtkpdoikjfibflaaGreatDoor
