/- Walks: symMerge of incidents where one of the two stretches is one row. No condition. -/
import Derived.Test.YtkpdoikjfibflaaGreatDoorSoB
namespace Go.Proofs.YtkpdoikjfibflaaGreatDoor
open Go.RowKit Go.WideShapes Go.ChangeShapes Go.Shelf
theorem rot_up {a k : Nat} (f : Nat → Nat) (h : a ≤ k) : rotF a (a + 1) (k + 1) f ∘ swpF k (k + 1) = rotF a (a + 1) (k + 1 + 1) f := by
  funext x
  show rotF a (a + 1) (k + 1) f (swpF k (k + 1) x) = rotF a (a + 1) (k + 1 + 1) f x
  unfold rotF swpF
  grind
theorem rot_down {k m : Nat} (f : Nat → Nat) (h : k + 1 ≤ m) : rotF (k + 1) m (m + 1) f ∘ swpF (k + 1) k = rotF k m (m + 1) f := by
  funext x
  show rotF (k + 1) m (m + 1) f (swpF (k + 1) k x) = rotF k m (m + 1) f x
  unfold rotF swpF
  grind
set_option maxRecDepth 100000 in
set_option maxHeartbeats 2000000 in
theorem run_symL (B g N c : Nat) (X : List Int) (f : Nat → Nat) (a m b : Nat) (w : World) (h : SO w B g N c X f) (hK : KB X N) (hN : N ≤ 1000000000) (hm : m = a + 1) (hmb : m < b) (hb : b ≤ N) (hs : Srt (keyI X) f m b) (hl : Low f a m b) :
    Calls Tryz.prog 60 #[.slice (some ⟨g, 0, none⟩) N c, .int .i64 a, .int .i64 m, .int .i64 b, .func (.func 22) #[] #[]] w fun e w' => e = .returned (.tuple #[]) ∧ ∃ f', Sorts (keyI X) a b f f' ∧ SO w' B g N c X f' ∧ w.grownBy w' (some g) := by
  have HK := Lib.hid hK
  have HS := Lib.hid hs
  have HL := Lib.hid hl
  have HM := Lib.hid hm
  have hNI : (N : Int) ≤ 1000000000 := by omega
  have haI : (a : Int) ≤ 1000000000 := by omega
  have hmI : (m : Int) ≤ 1000000000 := by omega
  have hbI : (b : Int) ≤ 1000000000 := by omega
  have haN : (a : Int) < (N : Int) := by omega
  have hma : (m : Int) - (a : Int) = 1 := by omega
  have ham : a < m := by omega
  clear hK hs hl hm
  obtain ⟨f1, hf1⟩ : ∃ f1, f1 = f := ⟨_, rfl⟩
  subst hf1
  go_enter Tryz.func60, Tryz.ntmps60
  go_wp2_with fail
  go_loopw [10, 11, 12] (fun s t _ wr => ∃ (i j : Nat), s = .int .i64 i ∧ t = .int .i64 j ∧ m ≤ i ∧ i ≤ j ∧ j ≤ b ∧ Hid (LowR (keyI X) f1 a m b i j) ∧ SO wr B g N c X f1 ∧ w.grownBy wr (some g)) (fun s t _ _ => (intOf t).toNat - (intOf s).toNat)
  case atStart => exact ⟨m, b, rfl, rfl, Nat.le_refl _, by omega, Nat.le_refl _, Lib.hid (LowR.start _ _ _ _ _ (by omega)), h, grown_refl _ _⟩
  case round =>
    obtain ⟨i, j, rfl, rfl, hmi, hij, hjb, HR, h1, hg⟩ := hrel
    clear h
    have hiI : (i : Int) ≤ 1000000000 := by omega
    have hjI : (j : Int) ≤ 1000000000 := by omega
    by_cases hlt : i < j
    · have hltI : (i : Int) < (j : Int) := by omega
      obtain ⟨d, hd⟩ : ∃ d, d = (i + j) / 2 := ⟨_, rfl⟩
      have hdE : ((i : Int) + (j : Int)) / 2 = (d : Int) := by omega
      have hdN : (d : Int) < (N : Int) := by omega
      have hdi : i ≤ d := by omega
      have hdj : d < j := by omega
      clear hd
      obtain ⟨x0, x1, x2, x3, x4⟩ := h1.cells (show d < N by omega)
      obtain ⟨y0, y1, y2, y3, y4⟩ := h1.cells (show a < N by omega)
      have k1 := HK.out (f1 (d)) (h1.lt _ (by omega))
      have k2 := HK.out (f1 (a)) (h1.lt _ (by omega))
      unfold keyI at k1 k2
      have HUP := Lib.hid (fun (hk : el X (f1 d * 5) < el X (f1 a * 5)) => HR.out.up HS.out hdi hdj hk)
      have HDN := Lib.hid (fun (hk : ¬ el X (f1 d * 5) < el X (f1 a * 5)) => HR.out.down HS.out hdi hdj hk)
      have HH := Lib.hid h1
      clear h1 HR
      generalize el X (f1 (d) * 5) = X0 at *
      generalize el X (f1 (d) * 5 + 1) = X1 at *
      generalize el X (f1 (d) * 5 + 2) = X2 at *
      generalize el X (f1 (d) * 5 + 3) = X3 at *
      generalize el X (f1 (d) * 5 + 4) = X4 at *
      generalize el X (f1 (a) * 5) = Y0 at *
      generalize el X (f1 (a) * 5 + 1) = Y1 at *
      generalize el X (f1 (a) * 5 + 2) = Y2 at *
      generalize el X (f1 (a) * 5 + 3) = Y3 at *
      generalize el X (f1 (a) * 5 + 4) = Y4 at *
      have KC := Lib.hid (fun wv => impl_cmpI X0 X1 X2 X3 X4 Y0 Y1 Y2 Y3 Y4 wv k1 k2)
      have lx0 := later_cell x0
      have ly0 := later_cell y0
      have lx1 := later_cell x1
      have ly1 := later_cell y1
      have lx2 := later_cell x2
      have ly2 := later_cell y2
      have lx3 := later_cell x3
      have ly3 := later_cell y3
      have lx4 := later_cell x4
      have ly4 := later_cell y4
      by_cases hlt2 : X0 < Y0
      · go_wp2_with fail
        refine wp_region_later_lit (by kernel_rfl) (by kernel_rfl) ?_
        repeat (any_goals (first | go_big_quiet_step ((go_at_call 22; exact later_call (KC.out _))) | quiet_step ((go_at_call 22; exact later_call (KC.out _))) | (refine wpQuiet_step (fun K hK => ?_); go_simp; split <;> (refine hK _ ?_; clear hK K))))
        refine wpQuiet_nil ?_
        rintro w3 ⟨⟨w3x, q3⟩, hwx⟩
        obtain rfl : w3 = w3x := hwx
        clear lx0 ly0 lx1 ly1 lx2 ly2 lx3 ly3 lx4 ly4
        go_wp2_with fail
        go_roundw
        case rel => exact ⟨d + 1, j, by go_num, rfl, by omega, by omega, hjb, Lib.hid (HUP.out hlt2), HH.out.q q3, grown_q hg q3⟩
        case measure => simp [intOf]; omega
      · have hge : ¬ X0 - Y0 < 0 := by omega
        have hgb : decide (X0 - Y0 < 0) = false := decide_eq_false hge
        go_wp2_with fail
        refine wp_region_later_lit (by kernel_rfl) (by kernel_rfl) ?_
        repeat (any_goals (first | go_big_quiet_step ((go_at_call 22; exact later_call (KC.out _))) | quiet_step ((go_at_call 22; exact later_call (KC.out _))) | (refine wpQuiet_step (fun K hK => ?_); go_simp; split <;> (refine hK _ ?_; clear hK K))))
        refine wpQuiet_nil ?_
        rintro w3 ⟨⟨w3x, q3⟩, hwx⟩
        obtain rfl : w3 = w3x := hwx
        clear lx0 ly0 lx1 ly1 lx2 ly2 lx3 ly3 lx4 ly4
        go_wp2_with fail
        go_roundw
        case rel => exact ⟨i, d, rfl, by go_num, hmi, by omega, by omega, Lib.hid (HDN.out hlt2), HH.out.q q3, grown_q hg q3⟩
        case measure => simp [intOf]; omega
    · obtain rfl : i = j := by omega
      have hge : ¬ (i : Int) < (i : Int) := by omega
      have HF := Lib.hid (show Sorts (keyI X) a b f1 (rotF a (a + 1) i f1) from by
        have h1 := HR.out
        have h2 := HS.out
        have h3 := HL.out
        rw [HM.out] at h1 h2 h3
        exact one_left h2 h3 h1)
      clear HR
      go_wp2_with fail
      go_loopw [13] (fun s wr => ∃ k : Nat, s = .int .i64 k ∧ a ≤ k ∧ k + 1 ≤ i ∧ SO wr B g N c X (rotF a (a + 1) (k + 1) f1) ∧ w.grownBy wr (some g)) (fun s _ => i - (intOf s).toNat)
      case atStart => exact ⟨a, rfl, Nat.le_refl _, by omega, by rw [rot_no f1 (.inr rfl)]; exact h1, hg⟩
      case round =>
        obtain ⟨k, rfl, hak, hki, h2, hg2⟩ := hrel
        clear h1 hg
        have hkI : (k : Int) ≤ 1000000000 := by omega
        by_cases hlt : k + 1 < i
        · have hltI : (k : Int) < (i : Int) - 1 := by omega
          have hE := Lib.hid (rot_up f1 hak)
          have hk1 : (k : Int) < (N : Int) := by omega
          have hk2 : (k : Int) + 1 < (N : Int) := by omega
          have hk3 : (0 : Int) ≤ (k : Int) + 1 := by omega
          generalize rotF a (a + 1) (k + 1) f1 = g1 at *
          obtain ⟨x0, x1, x2, x3, x4⟩ := h2.cells (show k < N by omega)
          obtain ⟨y0, y1, y2, y3, y4⟩ := h2.cells (show k + 1 < N by omega)
          have HSW := Lib.hid (h2.swap (j := k) (k := k + 1) (by omega) (by omega))
          have fz := h2.frozen
          clear h2
          generalize el X (g1 k * 5) = X0 at *
          generalize el X (g1 k * 5 + 1) = X1 at *
          generalize el X (g1 k * 5 + 2) = X2 at *
          generalize el X (g1 k * 5 + 3) = X3 at *
          generalize el X (g1 k * 5 + 4) = X4 at *
          generalize el X (g1 (k + 1) * 5) = Y0 at *
          generalize el X (g1 (k + 1) * 5 + 1) = Y1 at *
          generalize el X (g1 (k + 1) * 5 + 2) = Y2 at *
          generalize el X (g1 (k + 1) * 5 + 3) = Y3 at *
          generalize el X (g1 (k + 1) * 5 + 4) = Y4 at *
          go_wp2_with fail
          go_region
          all_goals go_wp2_with fail
          all_goals go_roundw
          case rel =>
            refine ⟨k + 1, by go_num, by omega, by omega, ?_, ?_⟩
            · rw [← hE.out]
              with_reducible exact HSW.out.q ((Q.refl _).drew)
            · with_reducible exact grown_q (grown_swap hg2 _ _ _ _ _ _ _ _ _ _ _ _) ((Q.refl _).drew)
          case measure => simp [intOf]; omega
        · have HIK := Lib.hid (show i = k + 1 by omega)
          have hge2 : ¬ (k : Int) < (i : Int) - 1 := by omega
          clear hlt hki
          go_wp2_with fail
          refine bodyPost_ret (results_none rfl _ _ _) rfl ?_
          exact ⟨rfl, _, HF.out, by rw [HIK.out]; exact h2, hg2⟩
set_option maxRecDepth 100000 in
set_option maxHeartbeats 2000000 in
theorem run_symR (B g N c : Nat) (X : List Int) (f : Nat → Nat) (a m b : Nat) (w : World) (h : SO w B g N c X f) (hK : KB X N) (hN : N ≤ 1000000000) (ham : a + 1 < m) (hbm : b = m + 1) (hb : b ≤ N) (hs : Srt (keyI X) f a m) (hl : Low f a m b) :
    Calls Tryz.prog 60 #[.slice (some ⟨g, 0, none⟩) N c, .int .i64 a, .int .i64 m, .int .i64 b, .func (.func 22) #[] #[]] w fun e w' => e = .returned (.tuple #[]) ∧ ∃ f', Sorts (keyI X) a b f f' ∧ SO w' B g N c X f' ∧ w.grownBy w' (some g) := by
  have HK := Lib.hid hK
  have HS := Lib.hid hs
  have HL := Lib.hid hl
  have HM := Lib.hid hbm
  have hNI : (N : Int) ≤ 1000000000 := by omega
  have haI : (a : Int) ≤ 1000000000 := by omega
  have hmI : (m : Int) ≤ 1000000000 := by omega
  have hbI : (b : Int) ≤ 1000000000 := by omega
  have hmN : (m : Int) < (N : Int) := by omega
  have hma : ¬ (m : Int) - (a : Int) = 1 := by omega
  have hma2 : ((m : Int) - (a : Int) == 1) = false := by simpa using hma
  clear hma
  have hbm1 : (b : Int) - (m : Int) = 1 := by omega
  have hmb : m < N := by omega
  clear hK hs hl hbm
  obtain ⟨f1, hf1⟩ : ∃ f1, f1 = f := ⟨_, rfl⟩
  subst hf1
  go_enter Tryz.func60, Tryz.ntmps60
  go_wp2_with fail
  go_loopw [14, 15, 16] (fun s t _ wr => ∃ (i j : Nat), s = .int .i64 i ∧ t = .int .i64 j ∧ a ≤ i ∧ i ≤ j ∧ j ≤ m ∧ Hid (HighR (keyI X) f1 a m i j) ∧ SO wr B g N c X f1 ∧ w.grownBy wr (some g)) (fun s t _ _ => (intOf t).toNat - (intOf s).toNat)
  case atStart => exact ⟨a, m, rfl, rfl, Nat.le_refl _, by omega, Nat.le_refl _, Lib.hid (HighR.start _ _ _ _ (by omega)), h, grown_refl _ _⟩
  case round =>
    obtain ⟨i, j, rfl, rfl, hai, hij, hjm, HR, h1, hg⟩ := hrel
    clear h
    have hiI : (i : Int) ≤ 1000000000 := by omega
    have hjI : (j : Int) ≤ 1000000000 := by omega
    by_cases hlt : i < j
    · have hltI : (i : Int) < (j : Int) := by omega
      obtain ⟨d, hd⟩ : ∃ d, d = (i + j) / 2 := ⟨_, rfl⟩
      have hdE : ((i : Int) + (j : Int)) / 2 = (d : Int) := by omega
      have hdN : (d : Int) < (N : Int) := by omega
      have hdi : i ≤ d := by omega
      have hdj : d < j := by omega
      clear hd
      obtain ⟨x0, x1, x2, x3, x4⟩ := h1.cells (show m < N by omega)
      obtain ⟨y0, y1, y2, y3, y4⟩ := h1.cells (show d < N by omega)
      have k1 := HK.out (f1 (m)) (h1.lt _ (by omega))
      have k2 := HK.out (f1 (d)) (h1.lt _ (by omega))
      unfold keyI at k1 k2
      have HUP := Lib.hid (fun (hk : ¬ el X (f1 m * 5) < el X (f1 d * 5)) => HR.out.up HS.out hdi hdj hk)
      have HDN := Lib.hid (fun (hk : el X (f1 m * 5) < el X (f1 d * 5)) => HR.out.down HS.out hdi hdj hk)
      have HH := Lib.hid h1
      clear h1 HR
      generalize el X (f1 (m) * 5) = X0 at *
      generalize el X (f1 (m) * 5 + 1) = X1 at *
      generalize el X (f1 (m) * 5 + 2) = X2 at *
      generalize el X (f1 (m) * 5 + 3) = X3 at *
      generalize el X (f1 (m) * 5 + 4) = X4 at *
      generalize el X (f1 (d) * 5) = Y0 at *
      generalize el X (f1 (d) * 5 + 1) = Y1 at *
      generalize el X (f1 (d) * 5 + 2) = Y2 at *
      generalize el X (f1 (d) * 5 + 3) = Y3 at *
      generalize el X (f1 (d) * 5 + 4) = Y4 at *
      have KC := Lib.hid (fun wv => impl_cmpI X0 X1 X2 X3 X4 Y0 Y1 Y2 Y3 Y4 wv k1 k2)
      have lx0 := later_cell x0
      have ly0 := later_cell y0
      have lx1 := later_cell x1
      have ly1 := later_cell y1
      have lx2 := later_cell x2
      have ly2 := later_cell y2
      have lx3 := later_cell x3
      have ly3 := later_cell y3
      have lx4 := later_cell x4
      have ly4 := later_cell y4
      by_cases hlt2 : X0 < Y0
      · have hlt3 : X0 - Y0 < 0 := by omega
        have hgb3 : decide (X0 - Y0 < 0) = true := decide_eq_true hlt3
        go_wp2_with fail
        refine wp_region_later_lit (by kernel_rfl) (by kernel_rfl) ?_
        repeat (any_goals (first | go_big_quiet_step ((go_at_call 22; exact later_call (KC.out _))) | quiet_step ((go_at_call 22; exact later_call (KC.out _))) | (refine wpQuiet_step (fun K hK => ?_); go_simp; split <;> (refine hK _ ?_; clear hK K))))
        refine wpQuiet_nil ?_
        rintro w3 ⟨⟨w3x, q3⟩, hwx⟩
        obtain rfl : w3 = w3x := hwx
        clear lx0 ly0 lx1 ly1 lx2 ly2 lx3 ly3 lx4 ly4
        go_wp2_with fail
        go_roundw
        case rel => exact ⟨i, d, rfl, by go_num, hai, by omega, by omega, Lib.hid (HDN.out hlt2), HH.out.q q3, grown_q hg q3⟩
        case measure => simp [intOf]; omega
      · have hge : ¬ X0 - Y0 < 0 := by omega
        have hgb : decide (X0 - Y0 < 0) = false := decide_eq_false hge
        go_wp2_with fail
        refine wp_region_later_lit (by kernel_rfl) (by kernel_rfl) ?_
        repeat (any_goals (first | go_big_quiet_step ((go_at_call 22; exact later_call (KC.out _))) | quiet_step ((go_at_call 22; exact later_call (KC.out _))) | (refine wpQuiet_step (fun K hK => ?_); go_simp; split <;> (refine hK _ ?_; clear hK K))))
        refine wpQuiet_nil ?_
        rintro w3 ⟨⟨w3x, q3⟩, hwx⟩
        obtain rfl : w3 = w3x := hwx
        clear lx0 ly0 lx1 ly1 lx2 ly2 lx3 ly3 lx4 ly4
        go_wp2_with fail
        go_roundw
        case rel => exact ⟨d + 1, j, by go_num, rfl, by omega, by omega, hjm, Lib.hid (HUP.out hlt2), HH.out.q q3, grown_q hg q3⟩
        case measure => simp [intOf]; omega
    · obtain rfl : i = j := by omega
      have hge : ¬ (i : Int) < (i : Int) := by omega
      have HF := Lib.hid (show Sorts (keyI X) a b f1 (rotF i m (m + 1) f1) from by
        have h2 := HS.out
        have h3 := HL.out
        rw [HM.out] at h3 ⊢
        exact one_right h2 h3 HR.out)
      clear HR
      go_wp2_with fail
      go_loopw [17] (fun s wr => ∃ k : Nat, s = .int .i64 k ∧ i ≤ k ∧ k ≤ m ∧ SO wr B g N c X (rotF k m (m + 1) f1) ∧ w.grownBy wr (some g)) (fun s _ => (intOf s).toNat)
      case atStart => exact ⟨m, rfl, hjm, Nat.le_refl _, by rw [rot_no f1 (.inl rfl)]; exact h1, hg⟩
      case round =>
        obtain ⟨k0, rfl, hik, hkm, h2, hg2⟩ := hrel
        clear h1 hg
        by_cases hlt : i < k0
        · obtain ⟨k, rfl⟩ : ∃ k, k0 = k + 1 := ⟨k0 - 1, by omega⟩
          have hltI : (i : Int) < (k : Int) + 1 := by omega
          have hE := Lib.hid (rot_down (k := k) f1 hkm)
          have hk1 : (k : Int) < (N : Int) := by omega
          have hk2 : (k : Int) + 1 < (N : Int) := by omega
          have hk3 : (0 : Int) ≤ (k : Int) + 1 := by omega
          have hkw : IntKind.i64.wrap (k : Int) = (k : Int) := by rw [IntKind.wrap_i64]; omega
          generalize rotF (k + 1) m (m + 1) f1 = g1 at *
          obtain ⟨x0, x1, x2, x3, x4⟩ := h2.cells (show k + 1 < N by omega)
          obtain ⟨y0, y1, y2, y3, y4⟩ := h2.cells (show k < N by omega)
          have HSW := Lib.hid (h2.swap (j := k + 1) (k := k) (by omega) (by omega))
          have fz := h2.frozen
          clear h2
          generalize el X (g1 (k + 1) * 5) = X0 at *
          generalize el X (g1 (k + 1) * 5 + 1) = X1 at *
          generalize el X (g1 (k + 1) * 5 + 2) = X2 at *
          generalize el X (g1 (k + 1) * 5 + 3) = X3 at *
          generalize el X (g1 (k + 1) * 5 + 4) = X4 at *
          generalize el X (g1 k * 5) = Y0 at *
          generalize el X (g1 k * 5 + 1) = Y1 at *
          generalize el X (g1 k * 5 + 2) = Y2 at *
          generalize el X (g1 k * 5 + 3) = Y3 at *
          generalize el X (g1 k * 5 + 4) = Y4 at *
          go_wp2_with fail
          go_region
          all_goals go_wp2_with fail
          all_goals go_roundw
          case rel =>
            refine ⟨k, by go_num, by omega, by omega, ?_, ?_⟩
            · rw [← hE.out]
              with_reducible exact HSW.out.q ((Q.refl _).drew)
            · with_reducible exact grown_q (grown_swap hg2 _ _ _ _ _ _ _ _ _ _ _ _) ((Q.refl _).drew)
          case measure => simp [intOf]
        · have HIK := Lib.hid (show i = k0 by omega)
          have hge2 : ¬ (i : Int) < (k0 : Int) := by omega
          clear hlt hik
          go_wp2_with fail
          refine bodyPost_ret (results_none rfl _ _ _) rfl ?_
          exact ⟨rfl, _, HF.out, by rw [HIK.out]; exact h2, hg2⟩
end Go.Proofs.YtkpdoikjfibflaaGreatDoor
