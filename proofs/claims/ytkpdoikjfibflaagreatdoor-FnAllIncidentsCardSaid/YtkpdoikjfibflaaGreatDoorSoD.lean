/- Walks: symMerge of incidents. No condition. -/
import Derived.Test.YtkpdoikjfibflaaGreatDoorSoC
import Derived.Deep.CutBlock
namespace Go.Proofs.YtkpdoikjfibflaaGreatDoor
open Go.RowKit Go.WideShapes Go.ChangeShapes Go.Shelf
/-- What symMerge leaves. -/
def SyR (X : List Int) (B g N c a b : Nat) (f : Nat → Nat) (w : World) (e : Ending) (w' : World) : Prop := e = .returned (.tuple #[]) ∧ ∃ f', Sorts (keyI X) a b f f' ∧ SO w' B g N c X f' ∧ w.grownBy w' (some g)
theorem grown_two {w w1 w2 : World} {g : Nat} (h : w.grownBy w1 (some g)) (h' : w1.grownBy w2 (some g)) : w.grownBy w2 (some g) := h.andThen h' (fun k hk => by cases hk; exact Or.inr rfl)
set_option maxRecDepth 100000 in
set_option maxHeartbeats 4000000 in
theorem run_symBig (B g N c : Nat) (X : List Int) (f1 : Nat → Nat) (a m b : Nat) (w : World) (h : SO w B g N c X f1) (hK : KB X N) (hN : N ≤ 1000000000) (ham : a + 1 < m) (hmb : m + 1 < b) (hb : b ≤ N) (hs1 : Srt (keyI X) f1 a m) (hs2 : Srt (keyI X) f1 m b) (hl : Low f1 a m b)
    (IH : ∀ (a' m' b' : Nat) (f' : Nat → Nat) (w' : World), b' - a' < b - a → SO w' B g N c X f' → a' < m' → m' < b' → b' ≤ N → Srt (keyI X) f' a' m' → Srt (keyI X) f' m' b' → Low f' a' m' b' →
      Calls Tryz.prog 60 #[.slice (some ⟨g, 0, none⟩) N c, .int .i64 a', .int .i64 m', .int .i64 b', .func (.func 22) #[] #[]] w' (SyR X B g N c a' b' f' w')) :
    Calls Tryz.prog 60 #[.slice (some ⟨g, 0, none⟩) N c, .int .i64 a, .int .i64 m, .int .i64 b, .func (.func 22) #[] #[]] w (SyR X B g N c a b f1 w) := by
  have HK := Lib.hid hK
  have HS1 := Lib.hid hs1
  have HS2 := Lib.hid hs2
  have HL := Lib.hid hl
  have HI := Lib.hid IH
  have HN := Lib.hid hN
  have hNI : (N : Int) ≤ 1000000000 := by omega
  have haI : (a : Int) ≤ 1000000000 := by omega
  have hmI : (m : Int) ≤ 1000000000 := by omega
  have hbI : (b : Int) ≤ 1000000000 := by omega
  have hma2 : ((m : Int) - (a : Int) == 1) = false := by simp; omega
  have hma3 : ((b : Int) - (m : Int) == 1) = false := by simp; omega
  obtain ⟨mid, hmid⟩ : ∃ mid, mid = (a + b) / 2 := ⟨_, rfl⟩
  have hmE : ((a : Int) + (b : Int)) / 2 = (mid : Int) := by omega
  have hmdI : (mid : Int) ≤ 1000000000 := by omega
  obtain ⟨n, hn⟩ : ∃ n, n = mid + m := ⟨_, rfl⟩
  have hnE : (mid : Int) + (m : Int) = (n : Int) := by omega
  have hnI : (n : Int) ≤ 2000000000 := by omega
  obtain ⟨s0, hs0⟩ : ∃ s0, s0 = if mid < m then n - b else a := ⟨_, rfl⟩
  obtain ⟨r0, hr0⟩ : ∃ r0, r0 = if mid < m then mid else m := ⟨_, rfl⟩
  have hNS : SymN a m b mid n s0 r0 := by
    refine ⟨by omega, by omega, by omega, hn, ?_⟩
    by_cases c : mid < m
    · rw [if_pos c] at hs0 hr0; exact .inl ⟨c, hs0, hr0⟩
    · rw [if_neg c] at hs0 hr0; exact .inr ⟨by omega, hs0, hr0⟩
  have HNS := Lib.hid hNS
  have h0r : s0 ≤ r0 := by rcases hNS.hc with ⟨_, e1, e2⟩ | ⟨_, e1, e2⟩ <;> omega
  have hc1 : mid < m → (n : Int) - (b : Int) = (s0 : Int) ∧ r0 = mid := fun c => by
    rw [if_pos c] at hs0 hr0
    exact ⟨by omega, hr0⟩
  have hc2 : ¬ mid < m → s0 = a ∧ r0 = m := fun c => by
    rw [if_neg c] at hs0 hr0
    exact ⟨hs0, hr0⟩
  have hs0I : (s0 : Int) ≤ 1000000000 := by rcases hNS.hc with ⟨_, e1, e2⟩ | ⟨_, e1, e2⟩ <;> omega
  have hab3 : a + 3 ≤ b := by omega
  have hmida : a < mid := by omega
  have hmidb : mid < b := by omega
  have HB := Lib.hid (⟨hab3, hmida, hmidb, hb, ham, hmb⟩ : a + 3 ≤ b ∧ a < mid ∧ mid < b ∧ b ≤ N ∧ a + 1 < m ∧ m + 1 < b)
  clear hK hs1 hs2 hl IH hs0 hr0 hNS hn hmid hN
  go_enter Tryz.func60, Tryz.ntmps60
  go_upto_if 140 with (fail)
  go_cut [20, 21] from 138 to 219 (fun p q wc => p = .int .i64 (s0 : Nat) ∧ q = .int .i64 (r0 : Nat) ∧ wc = w)
  case first =>
    by_cases c : mid < m
    · obtain ⟨e1, e2⟩ := hc1 c
      have cI : (mid : Int) < (m : Int) := by omega
      clear hc1 hc2
      subst e2
      go_wp2_with fail
      go_meet
      exact ⟨by first | rfl | go_num, by first | rfl | go_num, rfl⟩
    · obtain ⟨e1, e2⟩ := hc2 c
      have cI : ¬ (mid : Int) < (m : Int) := by omega
      clear hc1 hc2
      subst e1
      subst e2
      go_wp2_with fail
      go_meet
      exact ⟨by first | rfl | go_num, by first | rfl | go_num, rfl⟩
  case rest =>
    obtain ⟨rfl, rfl, rfl⟩ := hcut
    clear hc1 hc2
    obtain ⟨p, hp⟩ : ∃ p, p = n - 1 := ⟨_, rfl⟩
    have hpE : (n : Int) - 1 = (p : Int) := by omega
    have hpI : (p : Int) ≤ 2000000000 := by omega
    have hn1 : 1 ≤ n := by omega
    clear hp
    go_wp2_with fail
    go_loopw [20, 21, 23] (fun s t _ wr => ∃ (i j : Nat), s = .int .i64 i ∧ t = .int .i64 j ∧ s0 ≤ i ∧ i ≤ j ∧ j ≤ r0 ∧ Hid (CutR (keyI X) f1 n s0 r0 i j) ∧ SO wr B g N c X f1 ∧ wc.grownBy wr (some g)) (fun s t _ _ => (intOf t).toNat - (intOf s).toNat)
    case atStart => exact ⟨s0, r0, rfl, rfl, Nat.le_refl _, h0r, Nat.le_refl _, Lib.hid (CutR.start _ _ _ _ _ h0r), h, grown_refl _ _⟩
    case round =>
      obtain ⟨i, j, rfl, rfl, hai, hij, hjm, HR, h1, hg⟩ := hrel
      clear h
      have hbdj : i < j → ∀ q, i ≤ q → q < j → (a ≤ q ∧ q < m) ∧ m ≤ n - 1 - q ∧ n - 1 - q < b := fun _ q h1 h2 => HNS.out.bd (by omega) (by omega)
      have hjI : (j : Int) ≤ 1000000000 := by
        rcases HNS.out.hc with ⟨_, _, e2⟩ | ⟨_, _, e2⟩ <;> omega
      have hiI : (i : Int) ≤ 1000000000 := by omega
      by_cases hlt : i < j
      · have hltI : (i : Int) < (j : Int) := by omega
        obtain ⟨d, hd⟩ : ∃ d, d = (i + j) / 2 := ⟨_, rfl⟩
        have hdE : ((i : Int) + (j : Int)) / 2 = (d : Int) := by omega
        have hdi : i ≤ d := by omega
        have hdj : d < j := by omega
        have hbd := hbdj hlt d hdi hdj
        obtain ⟨q, hq⟩ : ∃ q, q = n - 1 - d := ⟨_, rfl⟩
        rw [← hq] at hbd
        have hqE : (p : Int) - (d : Int) = (q : Int) := by omega
        have hdN : (d : Int) < (N : Int) := by omega
        have hqN : (q : Int) < (N : Int) := by omega
        have hqw : IntKind.i64.wrap (q : Int) = (q : Int) := by rw [IntKind.wrap_i64]; omega
        have HUP := Lib.hid (fun (hk : ¬ keyI X (f1 q) < keyI X (f1 d)) => HR.out.up HNS.out HS1.out HS2.out hdi hdj (by rw [← hq]; exact hk))
        have HDN := Lib.hid (fun (hk : keyI X (f1 q) < keyI X (f1 d)) => HR.out.down HNS.out HS1.out HS2.out hdi hdj (by rw [← hq]; exact hk))
        obtain ⟨x0, x1, x2, x3, x4⟩ := h1.cells (show q < N by omega)
        obtain ⟨y0, y1, y2, y3, y4⟩ := h1.cells (show d < N by omega)
        have k1 := HK.out (f1 q) (h1.lt _ (by omega))
        have k2 := HK.out (f1 d) (h1.lt _ (by omega))
        unfold keyI at k1 k2 HUP HDN
        have HH := Lib.hid h1
        have hq0 : (0 : Int) ≤ (q : Int) := by omega
        clear h1 HR hd hq hbd hbdj
        generalize el X (f1 q * 5) = X0 at *
        generalize el X (f1 q * 5 + 1) = X1 at *
        generalize el X (f1 q * 5 + 2) = X2 at *
        generalize el X (f1 q * 5 + 3) = X3 at *
        generalize el X (f1 q * 5 + 4) = X4 at *
        generalize el X (f1 d * 5) = Y0 at *
        generalize el X (f1 d * 5 + 1) = Y1 at *
        generalize el X (f1 d * 5 + 2) = Y2 at *
        generalize el X (f1 d * 5 + 3) = Y3 at *
        generalize el X (f1 d * 5 + 4) = Y4 at *
        have KC := Lib.hid (fun wv => impl_cmpI X0 X1 X2 X3 X4 Y0 Y1 Y2 Y3 Y4 wv k1 k2)
        have lx0 := later_cell x0
        have ly0 := later_cell y0
        have lx1 := later_cell x1
        have ly1 := later_cell y1
        have lx2 := later_cell x2
        have ly2 := later_cell y2
        have lx3 := later_cell x3
        have ly3 := later_cell y3
        have lx4 := later_cell x4
        have ly4 := later_cell y4
        by_cases hlt2 : X0 < Y0
        · have hlt3 : X0 - Y0 < 0 := by omega
          have hgb3 : decide (X0 - Y0 < 0) = true := decide_eq_true hlt3
          go_wp2_with fail
          refine wp_region_later_lit (by kernel_rfl) (by kernel_rfl) ?_
          repeat (any_goals (first | go_big_quiet_step ((go_at_call 22; exact later_call (KC.out _))) | quiet_step ((go_at_call 22; exact later_call (KC.out _))) | (refine wpQuiet_step (fun K hK => ?_); go_simp; split <;> (refine hK _ ?_; clear hK K))))
          refine wpQuiet_nil ?_
          rintro w3 ⟨⟨w3x, q3⟩, hwx⟩
          obtain rfl : w3 = w3x := hwx
          clear lx0 ly0 lx1 ly1 lx2 ly2 lx3 ly3 lx4 ly4
          go_wp2_with fail
          go_roundw
          case rel => exact ⟨i, d, rfl, by go_num, hai, by omega, by omega, Lib.hid (HDN.out hlt2), HH.out.q q3, grown_q hg q3⟩
          case measure => simp [intOf]; omega
        · have hge : ¬ X0 - Y0 < 0 := by omega
          have hgb : decide (X0 - Y0 < 0) = false := decide_eq_false hge
          go_wp2_with fail
          refine wp_region_later_lit (by kernel_rfl) (by kernel_rfl) ?_
          repeat (any_goals (first | go_big_quiet_step ((go_at_call 22; exact later_call (KC.out _))) | quiet_step ((go_at_call 22; exact later_call (KC.out _))) | (refine wpQuiet_step (fun K hK => ?_); go_simp; split <;> (refine hK _ ?_; clear hK K))))
          refine wpQuiet_nil ?_
          rintro w3 ⟨⟨w3x, q3⟩, hwx⟩
          obtain rfl : w3 = w3x := hwx
          clear lx0 ly0 lx1 ly1 lx2 ly2 lx3 ly3 lx4 ly4
          go_wp2_with fail
          go_roundw
          case rel => exact ⟨d + 1, j, by go_num, rfl, by omega, by omega, hjm, Lib.hid (HUP.out hlt2), HH.out.q q3, grown_q hg q3⟩
          case measure => simp [intOf]; omega
      · obtain rfl : i = j := by omega
        have hge : ¬ (i : Int) < (i : Int) := by omega
        have hcut := sym_cut HNS.out HS1.out HS2.out HL.out HB.out.1 HR.out
        obtain ⟨e, he⟩ : ∃ e, e = n - i := ⟨_, rfl⟩
        rw [← he] at hcut
        have hbd := hcut.bd
        have him : i ≤ m := by rcases HNS.out.hc with ⟨_, _, e2⟩ | ⟨_, _, e2⟩ <;> omega
        have hin : i ≤ n := by omega
        have heE : (n : Int) - (i : Int) = (e : Int) := by omega
        have heI : (e : Int) ≤ 1000000000 := by have := HB.out; omega
        have hme : m ≤ e := by have h5 := HNS.out.hn; have := hbd.1.2; omega
        clear hbdj HR he
        have HG0 := Lib.hid hcut
        clear hcut
        by_cases c1 : i < m ∧ m < e
        · have c1i : (i : Int) < (m : Int) := by omega
          have c1j : (m : Int) < (e : Int) := by omega
          go_wp2_with fail
          refine (run_rotate B g N c X f1 i m e _ _ h1 HN.out c1.1 c1.2 (by have := HB.out; omega)).mono ?_
          rintro e7 w7 ⟨rfl, h2, hg7⟩
          have hg2 := grown_two hg hg7
          have G := HG0
          clear h1 hg hg7 HG0
          generalize rotF i m e f1 = g1 at *
          by_cases c2 : a < i ∧ i < mid
          · have c2i : (a : Int) < (i : Int) := by omega
            have c2j : (i : Int) < (mid : Int) := by omega
            go_wp2_with fail
            refine (HI.out a i mid _ _ (by have := HB.out; omega) h2 c2.1 c2.2 (by have := HB.out; omega) G.out.s1 G.out.s2 G.out.l1).mono ?_
            rintro e8 w8 ⟨rfl, k, hk, h3, hg8⟩
            have hg3 := grown_two hg2 hg8
            have HLf := Lib.hid hk
            clear hk h2 hg2 hg8
            by_cases c3 : mid < e ∧ e < b
            · have c3i : (mid : Int) < (e : Int) := by omega
              have c3j : (e : Int) < (b : Int) := by omega
              have hpre := G.out.right_pre HLf.out
              first
                | (exfalso; omega)
                | (go_wp2_with fail
                   refine (HI.out mid e b _ _ (by have := HB.out; omega) h3 c3.1 c3.2 (by have := HB.out; omega) hpre.1 hpre.2.1 hpre.2.2).mono ?_
                   rintro e9 w9 ⟨rfl, l, hl, h4, hg9⟩
                   go_wp2_with fail
                   go_end0
                   exact ⟨rfl, _, G.out.done HLf.out hl, h4, grown_two hg3 hg9⟩)
            · by_cases c3a : mid < e
              · have c3i : (mid : Int) < (e : Int) := by omega
                have c3j : ¬ (e : Int) < (b : Int) := by omega
                first
                  | (exfalso; omega)
                  | (go_wp2_with fail
                     go_end0
                     exact ⟨rfl, _, G.out.done HLf.out (G.out.right HLf.out c3), h3, hg3⟩)
              · have c3i : ¬ (mid : Int) < (e : Int) := by omega
                first
                  | (exfalso; omega)
                  | (go_wp2_with fail
                     go_end0
                     exact ⟨rfl, _, G.out.done HLf.out (G.out.right HLf.out c3), h3, hg3⟩)
          · by_cases c2a : a < i
            · have c2i : (a : Int) < (i : Int) := by omega
              have c2j : ¬ (i : Int) < (mid : Int) := by omega
              have h3 := h2
              have hg3 := hg2
              have HLf := Lib.hid (G.out.left c2)
              clear h2 hg2
              by_cases c3 : mid < e ∧ e < b
              · have c3i : (mid : Int) < (e : Int) := by omega
                have c3j : (e : Int) < (b : Int) := by omega
                have hpre := G.out.right_pre HLf.out
                first
                  | (exfalso; omega)
                  | (go_wp2_with fail
                     refine (HI.out mid e b _ _ (by have := HB.out; omega) h3 c3.1 c3.2 (by have := HB.out; omega) hpre.1 hpre.2.1 hpre.2.2).mono ?_
                     rintro e9 w9 ⟨rfl, l, hl, h4, hg9⟩
                     go_wp2_with fail
                     go_end0
                     exact ⟨rfl, _, G.out.done HLf.out hl, h4, grown_two hg3 hg9⟩)
              · by_cases c3a : mid < e
                · have c3i : (mid : Int) < (e : Int) := by omega
                  have c3j : ¬ (e : Int) < (b : Int) := by omega
                  first
                    | (exfalso; omega)
                    | (go_wp2_with fail
                       go_end0
                       exact ⟨rfl, _, G.out.done HLf.out (G.out.right HLf.out c3), h3, hg3⟩)
                · have c3i : ¬ (mid : Int) < (e : Int) := by omega
                  first
                    | (exfalso; omega)
                    | (go_wp2_with fail
                       go_end0
                       exact ⟨rfl, _, G.out.done HLf.out (G.out.right HLf.out c3), h3, hg3⟩)
            · have c2i : ¬ (a : Int) < (i : Int) := by omega
              have h3 := h2
              have hg3 := hg2
              have HLf := Lib.hid (G.out.left c2)
              clear h2 hg2
              by_cases c3 : mid < e ∧ e < b
              · have c3i : (mid : Int) < (e : Int) := by omega
                have c3j : (e : Int) < (b : Int) := by omega
                have hpre := G.out.right_pre HLf.out
                first
                  | (exfalso; omega)
                  | (go_wp2_with fail
                     refine (HI.out mid e b _ _ (by have := HB.out; omega) h3 c3.1 c3.2 (by have := HB.out; omega) hpre.1 hpre.2.1 hpre.2.2).mono ?_
                     rintro e9 w9 ⟨rfl, l, hl, h4, hg9⟩
                     go_wp2_with fail
                     go_end0
                     exact ⟨rfl, _, G.out.done HLf.out hl, h4, grown_two hg3 hg9⟩)
              · by_cases c3a : mid < e
                · have c3i : (mid : Int) < (e : Int) := by omega
                  have c3j : ¬ (e : Int) < (b : Int) := by omega
                  first
                    | (exfalso; omega)
                    | (go_wp2_with fail
                       go_end0
                       exact ⟨rfl, _, G.out.done HLf.out (G.out.right HLf.out c3), h3, hg3⟩)
                · have c3i : ¬ (mid : Int) < (e : Int) := by omega
                  first
                    | (exfalso; omega)
                    | (go_wp2_with fail
                       go_end0
                       exact ⟨rfl, _, G.out.done HLf.out (G.out.right HLf.out c3), h3, hg3⟩)
        · by_cases c1a : i < m
          · have c1i : (i : Int) < (m : Int) := by omega
            have c1j : ¬ (m : Int) < (e : Int) := by omega
            have h2 := h1
            have hg2 := hg
            have G : Hid (SymG (keyI X) a b mid i e f1 f1) := Lib.hid (by have h5 := HG0.out; rw [rot_no f1 (by omega)] at h5; exact h5)
            clear h1 hg HG0
            by_cases c2 : a < i ∧ i < mid
            · have c2i : (a : Int) < (i : Int) := by omega
              have c2j : (i : Int) < (mid : Int) := by omega
              go_wp2_with fail
              refine (HI.out a i mid _ _ (by have := HB.out; omega) h2 c2.1 c2.2 (by have := HB.out; omega) G.out.s1 G.out.s2 G.out.l1).mono ?_
              rintro e8 w8 ⟨rfl, k, hk, h3, hg8⟩
              have hg3 := grown_two hg2 hg8
              have HLf := Lib.hid hk
              clear hk h2 hg2 hg8
              by_cases c3 : mid < e ∧ e < b
              · have c3i : (mid : Int) < (e : Int) := by omega
                have c3j : (e : Int) < (b : Int) := by omega
                have hpre := G.out.right_pre HLf.out
                first
                  | (exfalso; omega)
                  | (go_wp2_with fail
                     refine (HI.out mid e b _ _ (by have := HB.out; omega) h3 c3.1 c3.2 (by have := HB.out; omega) hpre.1 hpre.2.1 hpre.2.2).mono ?_
                     rintro e9 w9 ⟨rfl, l, hl, h4, hg9⟩
                     go_wp2_with fail
                     go_end0
                     exact ⟨rfl, _, G.out.done HLf.out hl, h4, grown_two hg3 hg9⟩)
              · by_cases c3a : mid < e
                · have c3i : (mid : Int) < (e : Int) := by omega
                  have c3j : ¬ (e : Int) < (b : Int) := by omega
                  first
                    | (exfalso; omega)
                    | (go_wp2_with fail
                       go_end0
                       exact ⟨rfl, _, G.out.done HLf.out (G.out.right HLf.out c3), h3, hg3⟩)
                · have c3i : ¬ (mid : Int) < (e : Int) := by omega
                  first
                    | (exfalso; omega)
                    | (go_wp2_with fail
                       go_end0
                       exact ⟨rfl, _, G.out.done HLf.out (G.out.right HLf.out c3), h3, hg3⟩)
            · by_cases c2a : a < i
              · have c2i : (a : Int) < (i : Int) := by omega
                have c2j : ¬ (i : Int) < (mid : Int) := by omega
                have h3 := h2
                have hg3 := hg2
                have HLf := Lib.hid (G.out.left c2)
                clear h2 hg2
                by_cases c3 : mid < e ∧ e < b
                · have c3i : (mid : Int) < (e : Int) := by omega
                  have c3j : (e : Int) < (b : Int) := by omega
                  have hpre := G.out.right_pre HLf.out
                  first
                    | (exfalso; omega)
                    | (go_wp2_with fail
                       refine (HI.out mid e b _ _ (by have := HB.out; omega) h3 c3.1 c3.2 (by have := HB.out; omega) hpre.1 hpre.2.1 hpre.2.2).mono ?_
                       rintro e9 w9 ⟨rfl, l, hl, h4, hg9⟩
                       go_wp2_with fail
                       go_end0
                       exact ⟨rfl, _, G.out.done HLf.out hl, h4, grown_two hg3 hg9⟩)
                · by_cases c3a : mid < e
                  · have c3i : (mid : Int) < (e : Int) := by omega
                    have c3j : ¬ (e : Int) < (b : Int) := by omega
                    first
                      | (exfalso; omega)
                      | (go_wp2_with fail
                         go_end0
                         exact ⟨rfl, _, G.out.done HLf.out (G.out.right HLf.out c3), h3, hg3⟩)
                  · have c3i : ¬ (mid : Int) < (e : Int) := by omega
                    first
                      | (exfalso; omega)
                      | (go_wp2_with fail
                         go_end0
                         exact ⟨rfl, _, G.out.done HLf.out (G.out.right HLf.out c3), h3, hg3⟩)
              · have c2i : ¬ (a : Int) < (i : Int) := by omega
                have h3 := h2
                have hg3 := hg2
                have HLf := Lib.hid (G.out.left c2)
                clear h2 hg2
                by_cases c3 : mid < e ∧ e < b
                · have c3i : (mid : Int) < (e : Int) := by omega
                  have c3j : (e : Int) < (b : Int) := by omega
                  have hpre := G.out.right_pre HLf.out
                  first
                    | (exfalso; omega)
                    | (go_wp2_with fail
                       refine (HI.out mid e b _ _ (by have := HB.out; omega) h3 c3.1 c3.2 (by have := HB.out; omega) hpre.1 hpre.2.1 hpre.2.2).mono ?_
                       rintro e9 w9 ⟨rfl, l, hl, h4, hg9⟩
                       go_wp2_with fail
                       go_end0
                       exact ⟨rfl, _, G.out.done HLf.out hl, h4, grown_two hg3 hg9⟩)
                · by_cases c3a : mid < e
                  · have c3i : (mid : Int) < (e : Int) := by omega
                    have c3j : ¬ (e : Int) < (b : Int) := by omega
                    first
                      | (exfalso; omega)
                      | (go_wp2_with fail
                         go_end0
                         exact ⟨rfl, _, G.out.done HLf.out (G.out.right HLf.out c3), h3, hg3⟩)
                  · have c3i : ¬ (mid : Int) < (e : Int) := by omega
                    first
                      | (exfalso; omega)
                      | (go_wp2_with fail
                         go_end0
                         exact ⟨rfl, _, G.out.done HLf.out (G.out.right HLf.out c3), h3, hg3⟩)
          · have c1i : ¬ (i : Int) < (m : Int) := by omega
            have h2 := h1
            have hg2 := hg
            have G : Hid (SymG (keyI X) a b mid i e f1 f1) := Lib.hid (by have h5 := HG0.out; rw [rot_no f1 (by omega)] at h5; exact h5)
            clear h1 hg HG0
            by_cases c2 : a < i ∧ i < mid
            · have c2i : (a : Int) < (i : Int) := by omega
              have c2j : (i : Int) < (mid : Int) := by omega
              go_wp2_with fail
              refine (HI.out a i mid _ _ (by have := HB.out; omega) h2 c2.1 c2.2 (by have := HB.out; omega) G.out.s1 G.out.s2 G.out.l1).mono ?_
              rintro e8 w8 ⟨rfl, k, hk, h3, hg8⟩
              have hg3 := grown_two hg2 hg8
              have HLf := Lib.hid hk
              clear hk h2 hg2 hg8
              by_cases c3 : mid < e ∧ e < b
              · have c3i : (mid : Int) < (e : Int) := by omega
                have c3j : (e : Int) < (b : Int) := by omega
                have hpre := G.out.right_pre HLf.out
                first
                  | (exfalso; omega)
                  | (go_wp2_with fail
                     refine (HI.out mid e b _ _ (by have := HB.out; omega) h3 c3.1 c3.2 (by have := HB.out; omega) hpre.1 hpre.2.1 hpre.2.2).mono ?_
                     rintro e9 w9 ⟨rfl, l, hl, h4, hg9⟩
                     go_wp2_with fail
                     go_end0
                     exact ⟨rfl, _, G.out.done HLf.out hl, h4, grown_two hg3 hg9⟩)
              · by_cases c3a : mid < e
                · have c3i : (mid : Int) < (e : Int) := by omega
                  have c3j : ¬ (e : Int) < (b : Int) := by omega
                  first
                    | (exfalso; omega)
                    | (go_wp2_with fail
                       go_end0
                       exact ⟨rfl, _, G.out.done HLf.out (G.out.right HLf.out c3), h3, hg3⟩)
                · have c3i : ¬ (mid : Int) < (e : Int) := by omega
                  first
                    | (exfalso; omega)
                    | (go_wp2_with fail
                       go_end0
                       exact ⟨rfl, _, G.out.done HLf.out (G.out.right HLf.out c3), h3, hg3⟩)
            · by_cases c2a : a < i
              · have c2i : (a : Int) < (i : Int) := by omega
                have c2j : ¬ (i : Int) < (mid : Int) := by omega
                have h3 := h2
                have hg3 := hg2
                have HLf := Lib.hid (G.out.left c2)
                clear h2 hg2
                by_cases c3 : mid < e ∧ e < b
                · have c3i : (mid : Int) < (e : Int) := by omega
                  have c3j : (e : Int) < (b : Int) := by omega
                  have hpre := G.out.right_pre HLf.out
                  first
                    | (exfalso; omega)
                    | (go_wp2_with fail
                       refine (HI.out mid e b _ _ (by have := HB.out; omega) h3 c3.1 c3.2 (by have := HB.out; omega) hpre.1 hpre.2.1 hpre.2.2).mono ?_
                       rintro e9 w9 ⟨rfl, l, hl, h4, hg9⟩
                       go_wp2_with fail
                       go_end0
                       exact ⟨rfl, _, G.out.done HLf.out hl, h4, grown_two hg3 hg9⟩)
                · by_cases c3a : mid < e
                  · have c3i : (mid : Int) < (e : Int) := by omega
                    have c3j : ¬ (e : Int) < (b : Int) := by omega
                    first
                      | (exfalso; omega)
                      | (go_wp2_with fail
                         go_end0
                         exact ⟨rfl, _, G.out.done HLf.out (G.out.right HLf.out c3), h3, hg3⟩)
                  · have c3i : ¬ (mid : Int) < (e : Int) := by omega
                    first
                      | (exfalso; omega)
                      | (go_wp2_with fail
                         go_end0
                         exact ⟨rfl, _, G.out.done HLf.out (G.out.right HLf.out c3), h3, hg3⟩)
              · have c2i : ¬ (a : Int) < (i : Int) := by omega
                have h3 := h2
                have hg3 := hg2
                have HLf := Lib.hid (G.out.left c2)
                clear h2 hg2
                by_cases c3 : mid < e ∧ e < b
                · have c3i : (mid : Int) < (e : Int) := by omega
                  have c3j : (e : Int) < (b : Int) := by omega
                  have hpre := G.out.right_pre HLf.out
                  first
                    | (exfalso; omega)
                    | (go_wp2_with fail
                       refine (HI.out mid e b _ _ (by have := HB.out; omega) h3 c3.1 c3.2 (by have := HB.out; omega) hpre.1 hpre.2.1 hpre.2.2).mono ?_
                       rintro e9 w9 ⟨rfl, l, hl, h4, hg9⟩
                       go_wp2_with fail
                       go_end0
                       exact ⟨rfl, _, G.out.done HLf.out hl, h4, grown_two hg3 hg9⟩)
                · by_cases c3a : mid < e
                  · have c3i : (mid : Int) < (e : Int) := by omega
                    have c3j : ¬ (e : Int) < (b : Int) := by omega
                    first
                      | (exfalso; omega)
                      | (go_wp2_with fail
                         go_end0
                         exact ⟨rfl, _, G.out.done HLf.out (G.out.right HLf.out c3), h3, hg3⟩)
                  · have c3i : ¬ (mid : Int) < (e : Int) := by omega
                    first
                      | (exfalso; omega)
                      | (go_wp2_with fail
                         go_end0
                         exact ⟨rfl, _, G.out.done HLf.out (G.out.right HLf.out c3), h3, hg3⟩)
theorem run_symMerge (B g N c : Nat) (X : List Int) (hK : KB X N) (hN : N ≤ 1000000000) : ∀ (sz a m b : Nat) (f : Nat → Nat) (w : World), b - a ≤ sz → SO w B g N c X f → a < m → m < b → b ≤ N → Srt (keyI X) f a m → Srt (keyI X) f m b → Low f a m b →
    Calls Tryz.prog 60 #[.slice (some ⟨g, 0, none⟩) N c, .int .i64 a, .int .i64 m, .int .i64 b, .func (.func 22) #[] #[]] w (SyR X B g N c a b f w)
  | 0, _, _, _, _, _, h, _, h1, h2, _, _, _, _ => by omega
  | sz + 1, a, m, b, f, w, hsz, h, h1, h2, h3, h4, h5, h6 => by
    by_cases c1 : m = a + 1
    · exact run_symL B g N c X f a m b w h hK hN c1 h2 h3 h5 h6
    · by_cases c2 : b = m + 1
      · exact run_symR B g N c X f a m b w h hK hN (by omega) c2 h3 h4 h6
      · exact run_symBig B g N c X f a m b w h hK hN (by omega) (by omega) h3 h4 h5 h6 fun a' m' b' f' w' hs => run_symMerge B g N c X hK hN sz a' m' b' f' w' (by omega)
end Go.Proofs.YtkpdoikjfibflaaGreatDoor
