/- Walks: the reference's draw of a list of signals, for the law on texts. No condition. -/
import Derived.Test.YtgdjgjkijcmkfaaDoorSgDr
namespace Go.Proofs.YtgdjgjkijcmkfaaDoor
open Go.RowKit Go.WideShapes Go.ChangeShapes
def slLn : Value → Nat
  | .slice _ n _ => n
  | _ => 0
set_option maxRecDepth 100000 in
set_option maxHeartbeats 16000000 in
theorem spec_l13DrawAny {w0 w : World} {g : Nat} {A : Option Addr} {n c : Nat} (h : Dr w0 w g A n c) (hn : n ≤ 140737488355327) : Calls Tryd.prog 74 #[.pointer (some ⟨g, 0, none⟩)] w (DrawSg 41 w0 w g A n c) := by
  have HD := DrT.start h
  have hlt := HD.glt
  go_enter Tryd.func74, Tryd.ntmps74
  go_wp2_with fail
  refine (spec_l13Draw (w0 := w0) (A := A) (n := n) (c := c) (DrT.dr (ws := w) (by ((repeat (first | exact HD | refine DrT.alloc ?_ _ | refine DrT.drewN ?_ _ | refine DrT.drew ?_ | refine DrT.set ?_ (by first | omega | (simp; omega)) _))))) hn).mono ?_
  rintro e1 w1 ⟨B, m, d, xs, rfl, hown, hm12, D1, G1⟩
  replace HD := DrT.step (ws := w) (by ((repeat (first | exact HD | refine DrT.alloc ?_ _ | refine DrT.drewN ?_ _ | refine DrT.drew ?_ | refine DrT.set ?_ (by first | omega | (simp; omega)) _)))) D1 G1
  have hmx := hown.len
  clear D1 G1
  by_cases hm0 : m = 0
  · subst hm0
    go_wp2_with fail
    go_ret
    exact ⟨_, _, _, _, rfl, hown, by omega, HD.dr, HD.gr⟩
  · have hmb : ((m : Int) == 0) = false := by simp; omega
    have hmI : ¬ (m : Int) = 0 := by omega
    have hm1 : 0 < m := by omega
    go_wp2_with fail
    refine (spec_Next (w0 := w0) (A := A) (n := n) (c := c) _ (DrT.dr (ws := w) (by ((repeat (first | exact HD | refine DrT.alloc ?_ _ | refine DrT.drewN ?_ _ | refine DrT.drew ?_ | refine DrT.set ?_ (by first | omega | (simp; omega)) _))))) hn).mono ?_
    rintro e2 w2 ⟨r2, rfl, hr2, D2, G2⟩
    have HD := DrT.step (ws := w) (by ((repeat (first | exact HD | refine DrT.alloc ?_ _ | refine DrT.drewN ?_ _ | refine DrT.drew ?_ | refine DrT.set ?_ (by first | omega | (simp; omega)) _)))) D2 G2
    have z2 := HD.size
    replace hown := hown.keepD G2 hlt
    obtain ⟨k, rfl⟩ := Int.eq_ofNat_of_zero_le hr2.1
    have hk : k < m := by omega
    have hkI : (k : Int) < (m : Int) := by omega
    clear hr2 D2 G2 z2 hm0
    go_wp2_with fail
    refine (spec_Next (w0 := w0) (A := A) (n := n) (c := c) _ (DrT.dr (ws := w) (by ((repeat (first | exact HD | refine DrT.alloc ?_ _ | refine DrT.drewN ?_ _ | refine DrT.drew ?_ | refine DrT.set ?_ (by first | omega | (simp; omega)) _))))) hn).mono ?_
    rintro e3 w3 ⟨r3, rfl, hr3, D3, G3⟩
    have HD := DrT.step (ws := w) (by ((repeat (first | exact HD | refine DrT.alloc ?_ _ | refine DrT.drewN ?_ _ | refine DrT.drew ?_ | refine DrT.set ?_ (by first | omega | (simp; omega)) _)))) D3 G3
    have z3 := HD.size
    replace hown := hown.keepD G3 hlt
    obtain ⟨gl, rfl, hgl⟩ := hown.split hm1
    have f0 := hown.frozen (k * 2)
    have c0 := hown.cell (j := k * 2) (by omega)
    have f1 := hown.frozen (k * 2 + 1)
    have c1 := hown.cell (j := k * 2 + 1) (by omega)
    by_cases h0 : r3 = 0
    · subst h0
      clear hr3
      go_wp2_with ((go_at_call 97; refine (spec_Next (w0 := w0) (A := A) (n := n) (c := c) _ (DrT.dr (ws := w) (by ((repeat (first | exact HD | refine DrT.alloc ?_ _ | refine DrT.drewN ?_ _ | refine DrT.drew ?_ | refine DrT.set ?_ (by first | omega | (simp; omega)) _))))) hn).mono ?_; rintro e4 w4 ⟨r4, rfl, hr4, D4, G4⟩; have HD := DrT.step (ws := w) (by ((repeat (first | exact HD | refine DrT.alloc ?_ _ | refine DrT.drewN ?_ _ | refine DrT.drew ?_ | refine DrT.set ?_ (by first | omega | (simp; omega)) _)))) D4 G4; have z4 := HD.size; obtain ⟨m4, rfl⟩ := Int.eq_ofNat_of_zero_le hr4.1; obtain ⟨v4, hv4, hvl4, hm4, hn4⟩ := pick2 0 9 hr4; (first | (have PP := (grown_box G4 (by omega)).cell) | (have PP := (grown_boxD G4 (by omega)).cell) | skip)); have hown4 := (hown.q (by (repeat (first | assumption | exact Q.refl _ | refine Q.alloc ?_ _ | refine Q.drewN ?_ _ | refine Q.drew ?_)))).keepD G4 hlt; have f4 := hown4.frozen (k * 2); have c4 := hown4.cell (j := k * 2) (by omega))
      all_goals go_wp2_with fail
      all_goals go_ret
      all_goals exact ⟨_, _, _, _, rfl, hown4.stored _ _, by omega, (HD.set hgl _).dr, (HD.set hgl _).gr⟩
    · have b0 : (r3 == 0) = false := by simpa using h0
      by_cases h1 : r3 = 1
      · subst h1
        clear hr3 h0
        go_wp2_with ((go_at_call 97; refine (spec_Next (w0 := w0) (A := A) (n := n) (c := c) _ (DrT.dr (ws := w) (by ((repeat (first | exact HD | refine DrT.alloc ?_ _ | refine DrT.drewN ?_ _ | refine DrT.drew ?_ | refine DrT.set ?_ (by first | omega | (simp; omega)) _))))) hn).mono ?_; rintro e4 w4 ⟨r4, rfl, hr4, D4, G4⟩; have HD := DrT.step (ws := w) (by ((repeat (first | exact HD | refine DrT.alloc ?_ _ | refine DrT.drewN ?_ _ | refine DrT.drew ?_ | refine DrT.set ?_ (by first | omega | (simp; omega)) _)))) D4 G4; have z4 := HD.size; obtain ⟨m4, rfl⟩ := Int.eq_ofNat_of_zero_le hr4.1; obtain ⟨v4, hv4, hvl4, hm4, hn4⟩ := pick4 (-1) 1000000000 1000000001 0 hr4; (first | (have PP := (grown_box G4 (by omega)).cell) | (have PP := (grown_boxD G4 (by omega)).cell) | skip)); have hown4 := (hown.q (by (repeat (first | assumption | exact Q.refl _ | refine Q.alloc ?_ _ | refine Q.drewN ?_ _ | refine Q.drew ?_)))).keepD G4 hlt; have f4 := hown4.frozen (k * 2 + 1); have c4 := hown4.cell (j := k * 2 + 1) (by omega))
        all_goals go_wp2_with fail
        all_goals go_ret
        all_goals exact ⟨_, _, _, _, rfl, hown4.stored _ _, by omega, (HD.set hgl _).dr, (HD.set hgl _).gr⟩
      · have b1 : (r3 == 1) = false := by simpa using h1
        by_cases h2 : r3 = 2
        · subst h2
          clear hr3 h0 h1
          go_wp2_with fail
          go_ret
          exact ⟨_, _, _, _, rfl, hown.stored _ _, by omega, (HD.set hgl _).dr, (HD.set hgl _).gr⟩
        · have b2 : (r3 == 2) = false := by simpa using h2
          by_cases h3 : r3 = 3
          · subst h3
            clear hr3 h0 h1 h2 f0 c0 f1 c1
            go_wp2_with fail
            go_loopw [3] (fun v wr => ∃ (A1 : Option Addr) (m1 d1 : Nat) (ys : List Int), v = .slice A1 m1 d1 ∧ Own wr w.heap.size 56 2 (.slice A1 m1 d1) m1 ys ∧ 0 < m1 ∧ m1 ≤ 41 ∧ DrT w0 w wr g A n c) (fun v _ => 42 - slLn v)
            case atStart => exact ⟨_, _, _, _, rfl, hown, hm1, by omega, HD⟩
            case round =>
              clear hown HD D3 G3 z3
              obtain ⟨A1, m1, d1, ys, rfl, hown, hm1, hm41, HD⟩ := hrel
              have hys := hown.len
              have hsz := HD.size
              go_wp2_with fail
              refine (spec_Next (w0 := w0) (A := A) (n := n) (c := c) _ (DrT.dr (ws := w) (by ((repeat (first | exact HD | refine DrT.alloc ?_ _ | refine DrT.drewN ?_ _ | refine DrT.drew ?_ | refine DrT.set ?_ (by first | omega | (simp; omega)) _))))) hn).mono ?_
              rintro e5 w5 ⟨r5, rfl, hr5, D5, G5⟩
              have HD := DrT.step (ws := w) (by ((repeat (first | exact HD | refine DrT.alloc ?_ _ | refine DrT.drewN ?_ _ | refine DrT.drew ?_ | refine DrT.set ?_ (by first | omega | (simp; omega)) _)))) D5 G5
              have z5 := HD.size
              replace hown := hown.keepD G5 hlt
              have hs5 := HD.size
              by_cases hl : (m1 : Int) < 40 + r5
              · obtain ⟨m', rfl⟩ : ∃ m', m1 = m' + 1 := ⟨m1 - 1, by omega⟩
                obtain ⟨bl, o1, hA, u0, u1⟩ := hown.rd.at2 hys (show m' < m' + 1 by omega)
                subst hA
                have hr5b : r5 ≤ 1 := by omega
                clear hr5
                go_wp2_with (at_builtin; refine appK elSig2 rfl _ _ rfl [el ys (m' * 2), el ys (m' * 2 + 1)] rfl hown rfl (by simp) rfl _ _ rfl (by omega) hs5 ?_; intro A' c' w' hown' hg' hgr'; replace HD := DrT.markE HD hown (Nat.le_refl _) hg')
                go_roundw
                case rel => exact ⟨A', _, c', _, rfl, hown', by omega, by omega, HD⟩
                case measure => simp [slLn]; omega
              · go_wp2_with fail
                go_ret
                exact ⟨_, _, _, _, rfl, hown, by omega, HD.dr, HD.gr⟩
          · have b3 : (r3 == 3) = false := by simpa using h3
            go_wp2_with fail
            go_ret
            exact ⟨_, _, _, _, rfl, hown, by omega, HD.dr, HD.gr⟩
/-- A list of signals was drawn. -/
def DrawSL (wz : World) (e : Ending) (w' : World) : Prop := ∃ (B : Option Addr) (m d : Nat) (xs : List Int), e = .returned (.slice B m d) ∧ Rd w' B xs ∧ xs.length = m * 2 ∧ m ≤ 41 ∧ Q wz w'
theorem spec_DrawSignalsText (A : Option Addr) (n c : Nat) (wz : World) (ha : Rd8 wz A n) (hn : n ≤ 140737488355327) : Calls Tryd.prog 34 #[.slice A n c] wz (DrawSL wz) := by
  go_enter Tryd.func34, Tryd.ntmps34
  go_wp2_with fail
  refine (spec_From A n c _ ha hn).mono ?_
  rintro e w ⟨rfl, D0⟩
  go_wp2_with fail
  refine (spec_l13DrawAny D0 hn).mono ?_
  rintro e w1 ⟨B, m, d, xs, rfl, hown, hm, D1, G1⟩
  go_wp2_with fail
  go_ret
  exact ⟨_, _, _, _, rfl, hown.rd, hown.len, hm, D1.q⟩
end Go.Proofs.YtgdjgjkijcmkfaaDoor
