/- Walks: the reference's draw of a log. No condition. -/
import Derived.Test.YtgdjgjkijcmkfaaDoorStep13
import Derived.Test.YtgdjgjkijcmkfaaDoorDraw15
import Derived.Test.YtgdjgjkijcmkfaaDoorDrK
import Derived.Test.YtgdjgjkijcmkfaaDoorEqSignal
namespace Go.Proofs.YtgdjgjkijcmkfaaDoor
open Go.RowKit Go.WideShapes Go.ChangeShapes
theorem elSig2 : EltT 25 56 2 := EltT.mk infoSignal Tryd.underlying25 (by decide) rfl (by decide)
/-- A list of signals was drawn. -/
def DrawSg (N : Nat) (w0 w : World) (g : Nat) (A : Option Addr) (n c : Nat) (e : Ending) (w' : World) : Prop := ∃ (B : Option Addr) (m d : Nat) (xs : List Int), e = .returned (.slice B m d) ∧ Own w' w.heap.size 56 2 (.slice B m d) m xs ∧ m ≤ N ∧ Dr w0 w' g A n c ∧ w.grownBy w' (some g)
set_option maxRecDepth 100000 in
set_option maxHeartbeats 16000000 in
theorem spec_l13Draw {w0 w : World} {g : Nat} {A : Option Addr} {n c : Nat} (h : Dr w0 w g A n c) (hn : n ≤ 140737488355327) : Calls Tryd.prog 96 #[.pointer (some ⟨g, 0, none⟩)] w (DrawSg 12 w0 w g A n c) := by
  have HD := DrT.start h
  have hlt := HD.glt
  have O0 : OwnL (w.alloc (.cells #[] 56)) w.heap.size 56 2 (.slice (some ⟨w.heap.size, 0, none⟩) 0 0) [] := OwnL.new w _ _ (Nat.le_refl _)
  have S : Blk ((w.alloc (.cells #[] 56)).alloc (.cells #[.int .i64 0, .int .i64 0, .int .i64 0] 120)) (w.heap.size + 1) 120 #[.int .i64 0, .int .i64 0, .int .i64 0] := by simpa using Blk.new (w.alloc (.cells #[] 56)) 120 #[.int .i64 0, .int .i64 0, .int .i64 0]
  replace HD := (HD.alloc (.cells #[] 56)).alloc (.cells #[.int .i64 0, .int .i64 0, .int .i64 0] 120)
  replace O0 := O0.q ((Q.refl _).alloc (.cells #[.int .i64 0, .int .i64 0, .int .i64 0] 120))
  go_enter Tryd.func96, Tryd.ntmps96
  go_wp2_with fail
  generalize hwb : (w.alloc (.cells #[] 56)).alloc (.cells #[.int .i64 0, .int .i64 0, .int .i64 0] 120) = wb at *
  clear hwb
  refine (spec_Next (w0 := w0) (A := A) (n := n) (c := c) _ (DrT.dr (ws := w) (by ((repeat (first | exact HD | refine DrT.alloc ?_ _ | refine DrT.drewN ?_ _ | refine DrT.drew ?_ | refine DrT.set ?_ (by first | omega | (simp; omega)) _))))) hn).mono ?_
  rintro e1 w1 ⟨r1, rfl, hr1, D1, G1⟩
  have HD := DrT.step (ws := w) (by ((repeat (first | exact HD | refine DrT.alloc ?_ _ | refine DrT.drewN ?_ _ | refine DrT.drew ?_ | refine DrT.set ?_ (by first | omega | (simp; omega)) _)))) D1 G1
  have z1 := HD.size
  replace S := Blk.keepG (g := g) (S.q (by (repeat (first | assumption | exact Q.refl _ | refine Q.alloc ?_ _ | refine Q.drewN ?_ _ | refine Q.drew ?_)))) G1 (by omega)
  have O1 := O0.keepD G1 hlt
  clear O0
  go_wp2_with fail
  refine (spec_Next (w0 := w0) (A := A) (n := n) (c := c) _ (DrT.dr (ws := w) (by ((repeat (first | exact HD | refine DrT.alloc ?_ _ | refine DrT.drewN ?_ _ | refine DrT.drew ?_ | refine DrT.set ?_ (by first | omega | (simp; omega)) _))))) hn).mono ?_
  rintro e2 w2 ⟨r2, rfl, hr2, D2, G2⟩
  have HD := DrT.step (ws := w) (by ((repeat (first | exact HD | refine DrT.alloc ?_ _ | refine DrT.drewN ?_ _ | refine DrT.drew ?_ | refine DrT.set ?_ (by first | omega | (simp; omega)) _)))) D2 G2
  have z2 := HD.size
  replace S := Blk.keepG (g := g) (S.q (by (repeat (first | assumption | exact Q.refl _ | refine Q.alloc ?_ _ | refine Q.drewN ?_ _ | refine Q.drew ?_)))) G2 (by omega)
  have O2 := O1.keepD G2 hlt
  clear O1
  go_wp2_with fail
  go_loopw [3, 5, 6] (fun v t i wr => ∃ (k : Nat) (tt : Int) (xs : List Int), i = .int .i64 k ∧ t = .int .i64 tt ∧ OwnL wr w.heap.size 56 2 v xs ∧ xs.length + k * 2 ≤ 24 ∧ Bx3 wr (w.heap.size + 1) 120 ∧ DrT w0 w wr g A n c) (fun _ _ i _ => (intOf i).toNat)
  case atStart =>
    obtain ⟨k, hk⟩ := Int.eq_ofNat_of_zero_le hr2.1
    exact ⟨k, r1, [], by rw [hk], rfl, O2, by simp; omega, ⟨_, _, _, S⟩, HD⟩
  case round =>
    clear O2 z1 z2 HD D1 G1 D2 G2 S hr1 hr2
    obtain ⟨k, tt, xs, rfl, rfl, ⟨A1, m, d1, rfl, hown⟩, hlen, ⟨sa, sb, sc, S⟩, HD⟩ := hrel
    have hmx := hown.len
    have hsz := HD.size
    by_cases hk0 : 0 < k
    · have hkI : (0 : Int) < (k : Int) := by omega
      obtain ⟨j, rfl⟩ : ∃ j, k = j + 1 := ⟨k - 1, by omega⟩
      go_wp2_with fail
      refine (spec_Next (w0 := w0) (A := A) (n := n) (c := c) _ (DrT.dr (ws := w) (by ((repeat (first | exact HD | refine DrT.alloc ?_ _ | refine DrT.drewN ?_ _ | refine DrT.drew ?_ | refine DrT.set ?_ (by first | omega | (simp; omega)) _))))) hn).mono ?_
      rintro e3 w3 ⟨r3, rfl, hr3, D3, G3⟩
      have HD := DrT.step (ws := w) (by ((repeat (first | exact HD | refine DrT.alloc ?_ _ | refine DrT.drewN ?_ _ | refine DrT.drew ?_ | refine DrT.set ?_ (by first | omega | (simp; omega)) _)))) D3 G3
      have z3 := HD.size
      replace S := Blk.keepG (g := g) (S.q (by (repeat (first | assumption | exact Q.refl _ | refine Q.alloc ?_ _ | refine Q.drewN ?_ _ | refine Q.drew ?_)))) G3 (by omega)
      replace hown := hown.keepD G3 hlt
      have cS := S.cell
      have lS := S.lt
      go_upto_block 2 with (fail)
      go_cut [7] from 17 to 117 (fun kd wc => ∃ q : Int, kd = .int .i64 q ∧ Own wc w.heap.size 56 2 (.slice A1 m d1) m xs ∧ Blk wc (w.heap.size + 1) 120 #[.int .i64 sa, .int .i64 sb, .int .i64 sc] ∧ DrT w0 w wc g A n c)
      case first =>
        go_wp2_with ((go_at_call 97; refine (spec_Next (w0 := w0) (A := A) (n := n) (c := c) _ (DrT.dr (ws := w) (by ((repeat (first | exact HD | refine DrT.alloc ?_ _ | refine DrT.drewN ?_ _ | refine DrT.drew ?_ | refine DrT.set ?_ (by first | omega | (simp; omega)) _))))) hn).mono ?_; rintro e4 w4 ⟨r4, rfl, hr4, D4, G4⟩; have HD := DrT.step (ws := w) (by ((repeat (first | exact HD | refine DrT.alloc ?_ _ | refine DrT.drewN ?_ _ | refine DrT.drew ?_ | refine DrT.set ?_ (by first | omega | (simp; omega)) _)))) D4 G4; have z4 := HD.size; have S := Blk.keepG (g := g) (S.q (by (repeat (first | assumption | exact Q.refl _ | refine Q.alloc ?_ _ | refine Q.drewN ?_ _ | refine Q.drew ?_)))) G4 (by omega); have cS := S.cell; have fS := S.frozen; have lS := S.lt; obtain ⟨m4, rfl⟩ := Int.eq_ofNat_of_zero_le hr4.1; obtain ⟨v4, hv4, hvl4, hm4, hn4⟩ := pick3 7 7 8 hr4; (first | (have PP := (grown_box G4 (by omega)).cell) | (have PP := (grown_boxD G4 (by omega)).cell) | skip)); have hown := (hown.q (by (repeat (first | assumption | exact Q.refl _ | refine Q.alloc ?_ _ | refine Q.drewN ?_ _ | refine Q.drew ?_)))).keepD G4 hlt)
        all_goals (go_wp2_with fail; go_meet)
        all_goals exact ⟨_, rfl, hown, S, HD⟩
      case rest =>
        clear HD hown S cS lS D3 G3 hr3 z3 hsz
        obtain ⟨q, rfl, hown, S, HD⟩ := hcut
        go_wp2_with fail
        refine (spec_Next (w0 := w0) (A := A) (n := n) (c := c) _ (DrT.dr (ws := w) (by ((repeat (first | exact HD | refine DrT.alloc ?_ _ | refine DrT.drewN ?_ _ | refine DrT.drew ?_ | refine DrT.set ?_ (by first | omega | (simp; omega)) _))))) hn).mono ?_
        rintro e5 w5 ⟨r5, rfl, hr5, D5, G5⟩
        have HD := DrT.step (ws := w) (by ((repeat (first | exact HD | refine DrT.alloc ?_ _ | refine DrT.drewN ?_ _ | refine DrT.drew ?_ | refine DrT.set ?_ (by first | omega | (simp; omega)) _)))) D5 G5
        have z5 := HD.size
        replace S := Blk.keepG (g := g) (S.q (by (repeat (first | assumption | exact Q.refl _ | refine Q.alloc ?_ _ | refine Q.drewN ?_ _ | refine Q.drew ?_)))) G5 (by omega)
        replace hown := hown.keepD G5 hlt
        go_upto_if 47 with (fail)
        go_cut [7] from 17 to 117 (fun kd wc => ∃ q : Int, kd = .int .i64 q ∧ Own wc w.heap.size 56 2 (.slice A1 m d1) m xs ∧ Blk wc (w.heap.size + 1) 120 #[.int .i64 sa, .int .i64 sb, .int .i64 sc] ∧ DrT w0 w wc g A n c)
        case first =>
          by_cases h5 : r5 = 0
          · subst h5
            clear hr5
            go_wp2_with fail
            refine (spec_Next (w0 := w0) (A := A) (n := n) (c := c) _ (DrT.dr (ws := w) (by ((repeat (first | exact HD | refine DrT.alloc ?_ _ | refine DrT.drewN ?_ _ | refine DrT.drew ?_ | refine DrT.set ?_ (by first | omega | (simp; omega)) _))))) hn).mono ?_
            rintro e6 w6 ⟨r6, rfl, hr6, D6, G6⟩
            have HD := DrT.step (ws := w) (by ((repeat (first | exact HD | refine DrT.alloc ?_ _ | refine DrT.drewN ?_ _ | refine DrT.drew ?_ | refine DrT.set ?_ (by first | omega | (simp; omega)) _)))) D6 G6
            have z6 := HD.size
            replace S := Blk.keepG (g := g) (S.q (by (repeat (first | assumption | exact Q.refl _ | refine Q.alloc ?_ _ | refine Q.drewN ?_ _ | refine Q.drew ?_)))) G6 (by omega)
            replace hown := hown.keepD G6 hlt
            have hq6 : (1 : Int) + r6 ≤ 9 := by omega
            go_wp2_with ((go_at_call 97; refine (spec_Next (w0 := w0) (A := A) (n := n) (c := c) _ (DrT.dr (ws := w) (by ((repeat (first | exact HD | refine DrT.alloc ?_ _ | refine DrT.drewN ?_ _ | refine DrT.drew ?_ | refine DrT.set ?_ (by first | omega | (simp; omega)) _))))) hn).mono ?_; rintro e7 w7 ⟨r7, rfl, hr7, D7, G7⟩; have HD := DrT.step (ws := w) (by ((repeat (first | exact HD | refine DrT.alloc ?_ _ | refine DrT.drewN ?_ _ | refine DrT.drew ?_ | refine DrT.set ?_ (by first | omega | (simp; omega)) _)))) D7 G7; have z7 := HD.size; have S := Blk.keepG (g := g) (S.q (by (repeat (first | assumption | exact Q.refl _ | refine Q.alloc ?_ _ | refine Q.drewN ?_ _ | refine Q.drew ?_)))) G7 (by omega); have cS := S.cell; have fS := S.frozen; have lS := S.lt; obtain ⟨m7, rfl⟩ := Int.eq_ofNat_of_zero_le hr7.1; obtain ⟨v7, hv7, hvl7, hm7, hn7⟩ := pick4 5 5 8 (1 + r6) hr7; (first | (have PP := (grown_box G7 (by omega)).cell) | (have PP := (grown_boxD G7 (by omega)).cell) | skip)); have hown := (hown.q (by (repeat (first | assumption | exact Q.refl _ | refine Q.alloc ?_ _ | refine Q.drewN ?_ _ | refine Q.drew ?_)))).keepD G7 hlt)
            all_goals (go_wp2_with fail; go_meet)
            all_goals exact ⟨_, rfl, hown, S, HD⟩
          · have b5 : (r5 == 0) = false := by simpa using h5
            go_wp2_with fail
            go_meet
            exact ⟨_, rfl, hown, S, HD⟩
        case rest =>
          clear HD hown S D5 G5 hr5 z5 q
          obtain ⟨q, rfl, hown, S, HD⟩ := hcut
          go_upto_block 3 with (fail)
          go_cut [5] from 17 to 117 (fun kd wc => ∃ t : Int, kd = .int .i64 t ∧ Own wc w.heap.size 56 2 (.slice A1 m d1) m xs ∧ Blk wc (w.heap.size + 1) 120 #[.int .i64 sa, .int .i64 sb, .int .i64 sc] ∧ DrT w0 w wc g A n c)
          case first =>
            have cS := S.cell
            have lS := S.lt
            go_wp2_with ((go_at_call 97; refine (spec_Next (w0 := w0) (A := A) (n := n) (c := c) _ (DrT.dr (ws := w) (by ((repeat (first | exact HD | refine DrT.alloc ?_ _ | refine DrT.drewN ?_ _ | refine DrT.drew ?_ | refine DrT.set ?_ (by first | omega | (simp; omega)) _))))) hn).mono ?_; rintro e8 w8 ⟨r8, rfl, hr8, D8, G8⟩; have HD := DrT.step (ws := w) (by ((repeat (first | exact HD | refine DrT.alloc ?_ _ | refine DrT.drewN ?_ _ | refine DrT.drew ?_ | refine DrT.set ?_ (by first | omega | (simp; omega)) _)))) D8 G8; have z8 := HD.size; have S := Blk.keepG (g := g) (S.q (by (repeat (first | assumption | exact Q.refl _ | refine Q.alloc ?_ _ | refine Q.drewN ?_ _ | refine Q.drew ?_)))) G8 (by omega); have cS := S.cell; have fS := S.frozen; have lS := S.lt); have hown := hown.keepD G8 hlt)
            all_goals (go_wp2_with fail; go_meet)
            all_goals exact ⟨_, rfl, hown, S, HD⟩
          case rest =>
            clear HD hown S
            obtain ⟨t5, rfl, hown, S, HD⟩ := hcut
            go_upto_if 86 with (fail)
            go_cut [5] from 17 to 117 (fun kd wc => ∃ t : Int, kd = .int .i64 t ∧ Own wc w.heap.size 56 2 (.slice A1 m d1) m xs ∧ Blk wc (w.heap.size + 1) 120 #[.int .i64 sa, .int .i64 sb, .int .i64 sc] ∧ DrT w0 w wc g A n c)
            case first =>
              by_cases hm : 0 < m
              · have hmI : (0 : Int) < (m : Int) := by omega
                obtain ⟨m', rfl⟩ : ∃ m', m = m' + 1 := ⟨m - 1, by omega⟩
                obtain ⟨bl, o1, hA, g0, g1⟩ := hown.rd.at2 hmx (show m' < m' + 1 by omega)
                subst hA
                go_wp2_with fail
                all_goals go_meet
                all_goals exact ⟨_, rfl, hown, S, HD⟩
              · have hmI : ¬ (0 : Int) < (m : Int) := by omega
                go_wp2_with fail
                go_meet
                exact ⟨_, rfl, hown, S, HD⟩
            case rest =>
              clear HD hown S t5
              obtain ⟨t5, rfl, hown, S, HD⟩ := hcut
              have hsz := HD.size
              have X := Blk.new wc 56 #[.int .i64 q, .int .i64 t5]
              have lX := X.lt
              replace S := S.alloc (.cells #[.int .i64 q, .int .i64 t5] 56)
              replace HD := HD.alloc (.cells #[.int .i64 q, .int .i64 t5] 56)
              replace hown := hown.q ((Q.refl _).alloc (.cells #[.int .i64 q, .int .i64 t5] 56))
              have cS := S.cell
              have lS := S.lt
              go_upto_region 39 with (fail)
              generalize hwx : wc.alloc (.cells #[.int .i64 q, .int .i64 t5] 56) = wx at *
              have hbw : w.heap.size ≤ wc.heap.size := hsz
              have cX := X.cell
              clear hwx
              go_wp2_with fail
              refine (spec_l13Step _ _ _ _ _ _).mono ?_
              rintro e ws ⟨x, y, z, u, rfl, qs⟩
              replace S := S.q qs
              replace X := X.q qs
              replace HD := HD.q qs
              replace hown := hown.q qs
              clear cS lS cX lX qs hsz
              have hsz := HD.size
              cases u
              · have cX := X.cell
                have lX := X.lt
                go_wp2_with fail
                replace HD := HD.alloc (.cells #[.int .i64 x, .int .i64 y, .int .i64 z] 120)
                replace S := S.alloc (.cells #[.int .i64 x, .int .i64 y, .int .i64 z] 120)
                replace X := X.alloc (.cells #[.int .i64 x, .int .i64 y, .int .i64 z] 120)
                replace hown := hown.q ((Q.refl _).alloc (.cells #[.int .i64 x, .int .i64 y, .int .i64 z] 120))
                generalize ws.alloc (.cells #[.int .i64 x, .int .i64 y, .int .i64 z] 120) = wt at *
                have hbg : wc.heap.size ≠ g := by omega
                refine (spec_Next (w0 := w0) (A := A) (n := n) (c := c) _ (DrT.dr (ws := w) (by ((repeat (first | exact HD | refine DrT.alloc ?_ _ | refine DrT.drewN ?_ _ | refine DrT.drew ?_ | refine DrT.set ?_ (by first | omega | (simp; omega)) _))))) hn).mono ?_
                rintro e9 w9 ⟨r9, rfl, hr9, D9, G9⟩
                have HD := DrT.step (ws := w) (by ((repeat (first | exact HD | refine DrT.alloc ?_ _ | refine DrT.drewN ?_ _ | refine DrT.drew ?_ | refine DrT.set ?_ (by first | omega | (simp; omega)) _)))) D9 G9
                have z9 := HD.size
                replace S := Blk.keepG (g := g) (S.q (by (repeat (first | assumption | exact Q.refl _ | refine Q.alloc ?_ _ | refine Q.drewN ?_ _ | refine Q.drew ?_)))) G9 (by omega)
                replace X := Blk.keepG X G9 hbg
                replace hown := hown.keepD G9 hlt
                have cX := X.cell
                have lX := X.lt
                have hs9 := HD.size
                by_cases h9 : r9 = 0
                · subst h9
                  clear hr9
                  go_wp2_with (at_builtin; refine appK elSig2 rfl _ _ rfl [q, t5] rfl hown rfl (by simp) rfl _ _ rfl (by omega) hs9 ?_; intro A' c' w' hown' hg' hgr'; replace HD := DrT.markE HD hown (Nat.le_refl _) hg'; replace S := Blk.markO S hown (by decide) hg')
                  go_roundw
                  case rel => exact ⟨j, t5, xs ++ [q, t5], by go_num, rfl, ⟨_, _, _, rfl, hown'⟩, by simp; omega, ⟨_, _, _, S⟩, HD⟩
                  case measure => simp [intOf]
                · have b9 : (r9 == 0) = false := by simpa using h9
                  go_wp2_with fail
                  go_roundw
                  case rel => exact ⟨j, t5, xs, by go_num, rfl, ⟨_, _, _, rfl, hown⟩, by omega, ⟨_, _, _, S⟩, HD⟩
                  case measure => simp [intOf]
              · have hne := Own.ne_blk hown S (by decide)
                have S1 := S.set3 (.int .i64 x) (.int .i64 y) (.int .i64 z)
                have X1 := ((X.far (p := ⟨w.heap.size + 1, 0, none⟩) (X.ne_ S (by decide)) (.int .i64 x)).far (p := ⟨w.heap.size + 1, 1, none⟩) (X.ne_ S (by decide)) (.int .i64 y)).far (p := ⟨w.heap.size + 1, 2, none⟩) (X.ne_ S (by decide)) (.int .i64 z)
                have HD1 := ((HD.set (b := w.heap.size + 1) (i := 0) (by omega) (.int .i64 x)).set (b := w.heap.size + 1) (i := 1) (by omega) (.int .i64 y)).set (b := w.heap.size + 1) (i := 2) (by omega) (.int .i64 z)
                have O1 := ((hown.setFar hne 0 (.int .i64 x)).setFar hne 1 (.int .i64 y)).setFar hne 2 (.int .i64 z)
                have cS := S.cell
                have fS := S.frozen
                have lS := S.lt
                go_upto_region 42 with (fail)
                replace S1 := S1.alloc (.cells #[.int .i64 x, .int .i64 y, .int .i64 z] 120)
                replace X1 := X1.alloc (.cells #[.int .i64 x, .int .i64 y, .int .i64 z] 120)
                replace HD1 := HD1.alloc (.cells #[.int .i64 x, .int .i64 y, .int .i64 z] 120)
                replace O1 := O1.q ((Q.refl _).alloc (.cells #[.int .i64 x, .int .i64 y, .int .i64 z] 120))
                generalize (((ws.setCell ⟨w.heap.size + 1, 0, none⟩ (.int .i64 x)).setCell ⟨w.heap.size + 1, 1, none⟩ (.int .i64 y)).setCell ⟨w.heap.size + 1, 2, none⟩ (.int .i64 z)).alloc (.cells #[.int .i64 x, .int .i64 y, .int .i64 z] 120) = wt at *
                clear S X HD hown cS fS lS hne
                have cX := X1.cell
                have lX := X1.lt
                have hs1 := HD1.size
                go_wp2_with (at_builtin; refine appK elSig2 rfl _ _ rfl [q, t5] rfl O1 rfl (by simp) rfl _ _ rfl (by omega) hs1 ?_; intro A' c' w' hown' hg' hgr'; have HD := DrT.markE HD1 O1 (Nat.le_refl _) hg'; have S := Blk.markO S1 O1 (by decide) hg')
                go_roundw
                case rel => exact ⟨j, t5, xs ++ [q, t5], by go_num, rfl, ⟨_, _, _, rfl, hown'⟩, by simp; omega, ⟨_, _, _, S⟩, HD⟩
                case measure => simp [intOf]
    · obtain rfl : k = 0 := by omega
      go_wp2_with fail
      go_ret
      exact ⟨_, _, _, _, rfl, hown, by omega, HD.dr, HD.gr⟩
end Go.Proofs.YtgdjgjkijcmkfaaDoor
