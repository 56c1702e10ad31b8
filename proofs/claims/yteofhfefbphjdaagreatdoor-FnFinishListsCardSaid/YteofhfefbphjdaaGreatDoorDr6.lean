/- Walks: the reference's draw of a track that often sails a course. No condition. -/
import Derived.Test.YteofhfefbphjdaaGreatDoorDrR
import Derived.Test.YteofhfefbphjdaaGreatDoorDrG
import Derived.Test.YteofhfefbphjdaaGreatDoorMkL
import Derived.Test.YteofhfefbphjdaaGreatDoorMkT
namespace Go.Proofs.YteofhfefbphjdaaGreatDoor
open Go.RowKit Go.WideShapes Go.ChangeShapes
theorem spec_RootB (n : Int) (w : World) : Calls Tryz.prog 42 #[.int .i64 n] w fun e w' => ∃ r : Int, e = .returned (.int .i64 r) ∧ (0 ≤ r ∧ r ≤ 1000000000) ∧ w = w' := by
  go_enter Tryz.func42, Tryz.ntmps42
  go_wp2_with fail
  go_loop [3, 4] (fun u v => ∃ l h : Int, u = .int .i64 l ∧ v = .int .i64 h ∧ (0 ≤ l ∧ l < h ∧ h ≤ 1000000001)) (fun u v => (intOf v - intOf u).toNat)
  case atStart => exact ⟨0, 1000000001, rfl, rfl, by omega⟩
  case round =>
    obtain ⟨l, h, rfl, rfl, hb⟩ := hrel
    by_cases hlt : l + 1 < h
    · obtain ⟨m, hm⟩ : ∃ m, m = (l + h) / 2 := ⟨_, rfl⟩
      have hmb : l < m ∧ m < h := by omega
      have hsq := mul_bd' (a := m) (x := m) (M := 1000000000) (N := 1000000000) (by omega) (by omega)
      by_cases hc : m * m ≤ n
      · rw [hm] at hsq hc
        go_wp2_with fail
        go_round
        case rel => exact ⟨m, h, by rw [hm], rfl, by omega⟩
        case measure => simp [intOf]; omega
      · rw [hm] at hsq hc
        go_wp2_with fail
        go_round
        case rel => exact ⟨l, m, rfl, by rw [hm], by omega⟩
        case measure => simp [intOf]; omega
    · go_wp2_with fail
      go_ret
      exact ⟨_, rfl, by omega, rfl⟩
theorem spec_Dot (a b c d : Int) (w : World) : Calls Tryz.prog 43 #[.agg #[.int .i64 a, .int .i64 b], .agg #[.int .i64 c, .int .i64 d]] w fun e w' => ∃ r : Int, e = .returned (.int .i64 r) ∧ Q w w' := by
  go_enter Tryz.func43, Tryz.ntmps43
  go_wp2_with fail
  go_ret
  exact ⟨_, rfl, by (repeat (first | assumption | exact Q.refl _ | refine Q.alloc ?_ _ | refine Q.drewN ?_ _ | refine Q.drew ?_))⟩
theorem wrap_lo (x : Int) : -9223372036854775808 ≤ wrap64 x ∧ wrap64 x ≤ 9223372036854775807 := by unfold wrap64; omega
theorem ln_diff {a b c d : Int} (h : lnB a b c d = true) : bd4 1000001 a b c d ∧ pt a b ∧ pt c d ∧ (-2000000 ≤ c - a ∧ c - a ≤ 2000000) ∧ (-2000000 ≤ d - b ∧ d - b ≤ 2000000) := by
  obtain ⟨⟨h1, h2⟩, h3, h4⟩ := lnB_bd h
  exact ⟨⟨⟨by omega, by omega⟩, by omega, by omega⟩, ⟨h1, h2⟩, ⟨h3, h4⟩, by omega, by omega⟩
theorem mul33 {x y : Int} (hx : -2000000 ≤ x ∧ x ≤ 2000000) (hy : 4 ≤ y ∧ y ≤ 33) : -66000000 ≤ x * y ∧ x * y ≤ 66000000 := by
  have h1 : x * y ≤ 2000000 * y := Int.mul_le_mul_of_nonneg_right hx.2 (by omega)
  have h2 : -2000000 * y ≤ x * y := Int.mul_le_mul_of_nonneg_right hx.1 (by omega)
  omega
theorem Blk.all2 {w : World} {b : Nat} {T : TypeId} {x0 x1 : Value} (h : Blk w b T #[x0, x1]) (y0 y1 : Value) : Blk (w.setCells b 0 [y0, y1]) b T #[y0, y1] := by
  have := (h.set_ 0 y0).set_ 1 y1
  simpa [World.setCells] using this
theorem Own.farAll {w : World} {B k n c b : Nat} {e T : TypeId} {A : Option Addr} {xs : List Int} {cs : Array Value} (h : Own w B e k (.slice A n c) n xs) (hb : Blk w b T cs) (hne : e ≠ T) (o : Nat) (vs : List Value) : Own (w.setCells b o vs) B e k (.slice A n c) n xs := by
  refine World.ownsRow.kept h (grown_all b vs o w w (grown_refl w _)) ?_
  rcases hA : A with _ | a
  · exact .inl rfl
  · subst hA
    exact .inr fun he => Own.ne_blk h hb hne a rfl (Option.some.inj he)
theorem Own.keepO {w w' : World} {B B' k k' n n' c c' : Nat} {e e' : TypeId} {A A' : Option Addr} {xs ys : List Int} (h : Own w B e k (.slice A n c) n xs) (ho : Own w B' e' k' (.slice A' n' c') n' ys) (hne : e ≠ e') (hg : w.grownBy w' (A'.map (·.block))) : Own w' B e k (.slice A n c) n xs := by
  refine World.ownsRow.kept h hg ?_
  rcases hA : A with _ | a
  · exact .inl rfl
  · subst hA
    refine .inr fun he => ?_
    rcases A' with _ | a'
    · cases he
    · have e0 : a.block = a'.block := Option.some.inj he
      rcases h.2 with ⟨h1, _⟩ | ⟨g, cap, cur, h1, _, hh, _⟩
      · cases h1
      · rcases ho.2 with ⟨h2, _⟩ | ⟨g', cap', cur', h2, _, hh', _⟩
        · cases h2
        · injection h1 with h1 _ _
          injection h1 with h1
          injection h2 with h2 _ _
          injection h2 with h2
          subst h1 h2
          simp only at e0
          subst e0
          rw [hh] at hh'
          injection hh' with hh'
          injection hh' with _ h3
          exact hne h3
set_option maxRecDepth 100000 in
set_option maxHeartbeats 8000000 in
theorem spec_l06DrawSail {w0 w : World} {g : Nat} {A : Option Addr} {n c : Nat} (x0 x1 x2 x3 x4 x5 x6 x7 : Int) {B : Nat} {C : Option Addr} {m d : Nat} {ms : List Mk} (O : OwC w B C m d ms) (hgB : g < B) (hm : m ≤ 1000) (h : Dr w0 w g A n c) (hn : n ≤ 140737488355327) : Calls Tryz.prog 19 #[.pointer (some ⟨g, 0, none⟩), .agg #[.int .i64 x0, .int .i64 x1, .int .i64 x2, .int .i64 x3, .int .i64 x4, .int .i64 x5, .int .i64 x6, .int .i64 x7, .slice C m d]] w (DrawTV w0 w g A n c) := by
  have HD := DrT.start h
  have hlt := HD.glt
  have hml := O.len
  have BC : Blk (((w.alloc (.cells #[.int .i64 x0, .int .i64 x1, .int .i64 x2, .int .i64 x3, .int .i64 x4, .int .i64 x5, .int .i64 x6, .int .i64 x7, .slice C m d] 30)).alloc (.cells #[.slice none 0 0] 43)).alloc (.cells #[] 98)) w.heap.size 30 #[.int .i64 x0, .int .i64 x1, .int .i64 x2, .int .i64 x3, .int .i64 x4, .int .i64 x5, .int .i64 x6, .int .i64 x7, .slice C m d] := ((Blk.new _ _ _).alloc _).alloc _
  have R0 : Blk (((w.alloc (.cells #[.int .i64 x0, .int .i64 x1, .int .i64 x2, .int .i64 x3, .int .i64 x4, .int .i64 x5, .int .i64 x6, .int .i64 x7, .slice C m d] 30)).alloc (.cells #[.slice none 0 0] 43)).alloc (.cells #[] 98)) (w.heap.size + 1) 43 #[.slice none 0 0] := Blk.alloc (by simpa using Blk.new (w.alloc (.cells #[.int .i64 x0, .int .i64 x1, .int .i64 x2, .int .i64 x3, .int .i64 x4, .int .i64 x5, .int .i64 x6, .int .i64 x7, .slice C m d] 30)) 43 #[.slice none 0 0]) _
  have O0 : OwnL (((w.alloc (.cells #[.int .i64 x0, .int .i64 x1, .int .i64 x2, .int .i64 x3, .int .i64 x4, .int .i64 x5, .int .i64 x6, .int .i64 x7, .slice C m d] 30)).alloc (.cells #[.slice none 0 0] 43)).alloc (.cells #[] 98)) (w.heap.size + 2) 98 3 (.slice (some ⟨w.heap.size + 1 + 1, 0, none⟩) 0 0) [] := by
    have := OwnL.new ((w.alloc (.cells #[.int .i64 x0, .int .i64 x1, .int .i64 x2, .int .i64 x3, .int .i64 x4, .int .i64 x5, .int .i64 x6, .int .i64 x7, .slice C m d] 30)).alloc (.cells #[.slice none 0 0] 43)) 98 3 (B := w.heap.size + 2) (by simp)
    simpa using this
  replace O := ((O.q ((Q.refl _).alloc (.cells #[.int .i64 x0, .int .i64 x1, .int .i64 x2, .int .i64 x3, .int .i64 x4, .int .i64 x5, .int .i64 x6, .int .i64 x7, .slice C m d] 30))).q ((Q.refl _).alloc (.cells #[.slice none 0 0] 43))).q ((Q.refl _).alloc (.cells #[] 98))
  replace HD := ((HD.alloc (.cells #[.int .i64 x0, .int .i64 x1, .int .i64 x2, .int .i64 x3, .int .i64 x4, .int .i64 x5, .int .i64 x6, .int .i64 x7, .slice C m d] 30)).alloc (.cells #[.slice none 0 0] 43)).alloc (.cells #[] 98)
  go_enter Tryz.func19, Tryz.ntmps19
  go_upto_region 2 with (fail)
  generalize hwb : ((w.alloc (.cells #[.int .i64 x0, .int .i64 x1, .int .i64 x2, .int .i64 x3, .int .i64 x4, .int .i64 x5, .int .i64 x6, .int .i64 x7, .slice C m d] 30)).alloc (.cells #[.slice none 0 0] 43)).alloc (.cells #[] 98) = wb at *
  clear hwb h
  go_wp2_with fail
  refine (spec_Next (w0 := w0) (A := A) (n := n) (c := c) _ (DrT.dr (ws := w) (by ((repeat (first | exact HD | refine DrT.alloc ?_ _ | refine DrT.drewN ?_ _ | refine DrT.drew ?_ | refine DrT.set ?_ (by first | omega | (simp; omega)) _))))) hn).mono ?_
  rintro e1 w1 ⟨r1, rfl, hr1, D1, G1⟩
  have HD := DrT.step (ws := w) (by ((repeat (first | exact HD | refine DrT.alloc ?_ _ | refine DrT.drewN ?_ _ | refine DrT.drew ?_ | refine DrT.set ?_ (by first | omega | (simp; omega)) _)))) D1 G1
  have z1 := HD.size
  replace BC := Blk.keepG (g := g) (BC.q (by (repeat (first | assumption | exact Q.refl _ | refine Q.alloc ?_ _ | refine Q.drewN ?_ _ | refine Q.drew ?_)))) G1 (by omega)
  replace R0 := Blk.keepG (g := g) (R0.q (by (repeat (first | assumption | exact Q.refl _ | refine Q.alloc ?_ _ | refine Q.drewN ?_ _ | refine Q.drew ?_)))) G1 (by omega)
  replace O := O.kept G1 (fun _ hk => by cases hk; exact hgB)
  replace O0 := O0.keepD G1 (by omega)
  clear D1 G1
  have cC := BC.cell
  have lC := BC.lt
  go_wp2_with fail
  refine (spec_IsCourse x0 x1 x2 x3 x4 x5 x6 x7 C m d ms _ O.rd hml (by omega)).mono ?_
  rintro e2 w2 ⟨rfl, q2⟩
  replace BC := BC.q q2
  replace R0 := R0.q q2
  replace O := O.q q2
  obtain ⟨A0, m0, d0, hv0, O0⟩ := O0
  injection hv0 with e1 e2 e3
  subst e1 e2 e3
  replace O0 := O0.q q2
  replace HD := HD.q q2
  clear q2 cC lC
  have zI := HD.size
  have lR := R0.lt
  cases hcrs : crsB x0 x1 x2 x3 x4 x5 x6 x7 ms
  · clear O O0 BC hcrs
    go_wp2_with fail
    refine (spec_l03DrawV (w0 := w0) (A := A) (n := n) (c := c) HD.dr hn).mono ?_
    rintro e3 w3 ⟨B5, m5, d5, xs5, rfl, hown5, hT5, D5, G5⟩
    replace hown5 := hown5.mono zI
    replace HD := HD.step D5 G5
    replace R0 := Blk.keepG R0 G5 (by omega)
    have hT5h := Lib.hid hT5
    clear hT5 D5 G5
    have cR := R0.cell
    have fR := R0.frozen
    have lR' := R0.lt
    go_wp2_with fail
    have F := (R0.s1_0 (.slice B5 m5 d5)).cell
    refine bodyPost_ret (v := .agg #[.slice B5 m5 d5]) (by simp [results, Tryz.results19, go_sem, F]) rfl ⟨B5, m5, d5, xs5, rfl, hown5.setFar (Own.ne_blk hown5 R0 (by decide)) 0 _, hT5h.out, ?_, ?_⟩
    · exact DrT.dr (ws := w) (HD.set (b := w.heap.size + 1) (i := 0) (by omega) _)
    · exact DrT.gr (w0 := w0) (g := g) (A := A) (n := n) (c := c) (HD.set (b := w.heap.size + 1) (i := 0) (by omega) _)
  · have cC := BC.cell
    have lC := BC.lt
    go_wp2_with fail
    refine (spec_l06Lines x0 x1 x2 x3 x4 x5 x6 x7 C m d ms _ O.rd hml hcrs).mono ?_
    rintro e3 w3 ⟨LA, Lc, rfl, LO, q3⟩
    have zI := HD.size
    replace LO := LO.mono zI
    replace R0 := R0.q q3
    replace O0 := O0.q q3
    replace HD := HD.q q3
    have HOK := Lib.hid (fun h => clL_ok hml hcrs h)
    have hm8 : m ≤ 8 := by have := (crs_yes hcrs).2.2.1; omega
    clear q3 cC lC BC O hcrs hml
    have zI := HD.size
    have lR := R0.lt
    generalize hall : clAll x0 x1 x2 x3 ms m = tf at *
    cases tf
    · clear O0 LO
      go_wp2_with fail
      refine (spec_l03DrawV (w0 := w0) (A := A) (n := n) (c := c) HD.dr hn).mono ?_
      rintro e4 w4 ⟨B5, m5, d5, xs5, rfl, hown5, hT5, D5, G5⟩
      replace hown5 := hown5.mono zI
      replace HD := HD.step D5 G5
      replace R0 := Blk.keepG R0 G5 (by omega)
      have hT5h := Lib.hid hT5
      clear hT5 D5 G5
      have cR := R0.cell
      have fR := R0.frozen
      have lR' := R0.lt
      go_wp2_with fail
      have F := (R0.s1_0 (.slice B5 m5 d5)).cell
      refine bodyPost_ret (v := .agg #[.slice B5 m5 d5]) (by simp [results, Tryz.results19, go_sem, F]) rfl ⟨B5, m5, d5, xs5, rfl, hown5.setFar (Own.ne_blk hown5 R0 (by decide)) 0 _, hT5h.out, ?_, ?_⟩
      · exact DrT.dr (ws := w) (HD.set (b := w.heap.size + 1) (i := 0) (by omega) _)
      · exact DrT.gr (w0 := w0) (g := g) (A := A) (n := n) (c := c) (HD.set (b := w.heap.size + 1) (i := 0) (by omega) _)
    · replace LO : Own w3 w.heap.size 27 4 (.slice LA (m + 2) Lc) (m + 2) (clL x0 x1 x2 x3 x4 x5 x6 x7 ms) := LO
      have HLS := Lib.hid (HOK.out rfl)
      clear HOK hall
      generalize clL x0 x1 x2 x3 x4 x5 x6 x7 ms = L at *
      obtain ⟨N, hN⟩ : ∃ N, N = m + 2 := ⟨_, rfl⟩
      rw [← hN] at LO HLS
      have hN10 : N ≤ 10 := by omega
      have hlt2 : g < w.heap.size + 2 := by omega
      go_upto_region 9 with (fail)
      rw [← hN]
      clear hN hm8
      go_loopw [5, 6, 9] (fun v t i wr => ∃ (k mm : Nat) (tt : Int) (A1 : Option Addr) (d1 : Nat) (xs : List Int), v = .slice A1 mm d1 ∧ t = .int .i64 tt ∧ i = .int .i64 k ∧ k ≤ N ∧ (mm ≤ 2 * k ∧ tt ≤ 300 + 900 * mm ∧ TkS xs mm tt) ∧ Own wr (w.heap.size + 2) 98 3 (.slice A1 mm d1) mm xs ∧ Own wr w.heap.size 27 4 (.slice LA N Lc) N L ∧ Blk wr (w.heap.size + 1) 43 #[.slice none 0 0] ∧ DrT w0 w wr g A n c) (fun _ _ i _ => N - (intOf i).toNat)
      case atStart => exact ⟨0, 0, r1, _, _, [], rfl, rfl, rfl, by omega, ⟨by omega, by omega, TkS.nil hr1.1⟩, O0, LO, R0, HD⟩
      case round =>
        clear O0 LO R0 HD hr1 zI lR z1
        obtain ⟨k, mm, tt, A1, d1, xs, rfl, rfl, rfl, hk, ⟨hmm, htt, HTS⟩, hown, LO, R0, HD⟩ := hrel
        have HT := Lib.hid HTS
        have ht0 : 0 ≤ tt := HTS.2.2.2
        clear HTS
        have zI := HD.size
        have lR := R0.lt
        by_cases hkN : k < N
        · have hkI : (k : Int) < (N : Int) := by omega
          go_wp2_with fail
          refine (spec_Next (w0 := w0) (A := A) (n := n) (c := c) _ (DrT.dr (ws := w) (by ((repeat (first | exact HD | refine DrT.alloc ?_ _ | refine DrT.drewN ?_ _ | refine DrT.drew ?_ | refine DrT.set ?_ (by first | omega | (simp; omega)) _))))) hn).mono ?_
          rintro e5 w5 ⟨r5, rfl, hr5, D5, G5⟩
          have HD := DrT.step (ws := w) (by ((repeat (first | exact HD | refine DrT.alloc ?_ _ | refine DrT.drewN ?_ _ | refine DrT.drew ?_ | refine DrT.set ?_ (by first | omega | (simp; omega)) _)))) D5 G5
          have z5 := HD.size
          replace R0 := Blk.keepG (g := g) (R0.q (by (repeat (first | assumption | exact Q.refl _ | refine Q.alloc ?_ _ | refine Q.drewN ?_ _ | refine Q.drew ?_)))) G5 (by omega)
          replace hown := hown.keepD G5 hlt2
          replace LO := LO.keepD G5 hlt
          clear D5 G5
          have lR := R0.lt
          by_cases h5 : r5 = 0
          · subst h5
            clear hr5
            go_wp2_with fail
            go_roundw
            case rel => exact ⟨k + 1, mm, tt, A1, d1, xs, rfl, rfl, by go_num, by omega, ⟨by omega, htt, HT.out⟩, hown, LO, R0, HD⟩
            case measure => simp [intOf]; omega
          · have b5 : (r5 == 0) = false := by simpa using h5
            clear h5 hr5
            have hlk := HLS.out k hkN
            obtain ⟨gl, hgl, _⟩ := LO.split (show 0 < N by omega)
            subst hgl
            have hlen := LO.len
            have cl0 := LO.cell (j := k * 4) (by omega)
            have cl1 := LO.cell (j := k * 4 + 1) (by omega)
            have cl2 := LO.cell (j := k * 4 + 2) (by omega)
            have cl3 := LO.cell (j := k * 4 + 3) (by omega)
            rw [el_eq] at cl0 cl1 cl2 cl3
            generalize el L (k * 4) = a at *
            generalize el L (k * 4 + 1) = b at *
            generalize el L (k * 4 + 2) = cc at *
            generalize el L (k * 4 + 3) = dd at *
            obtain ⟨hbd, hpa, hpc, hdx, hdy⟩ := ln_diff hlk
            clear hlk
            go_upto_region 13 with (fail)
            obtain ⟨bl, hbl⟩ : ∃ q, q = w5.heap.size := ⟨_, rfl⟩
            have BL : Blk (w5.alloc (.cells #[.int .i64 a, .int .i64 b, .int .i64 cc, .int .i64 dd] 27)) bl 27 #[.int .i64 a, .int .i64 b, .int .i64 cc, .int .i64 dd] := by rw [hbl]; exact Blk.new w5 _ _
            replace hown := hown.q ((Q.refl _).alloc (.cells #[.int .i64 a, .int .i64 b, .int .i64 cc, .int .i64 dd] 27))
            replace LO := LO.q ((Q.refl _).alloc (.cells #[.int .i64 a, .int .i64 b, .int .i64 cc, .int .i64 dd] 27))
            replace R0 := R0.alloc (.cells #[.int .i64 a, .int .i64 b, .int .i64 cc, .int .i64 dd] 27)
            replace HD := HD.alloc (.cells #[.int .i64 a, .int .i64 b, .int .i64 cc, .int .i64 dd] 27)
            have hwbl : w.heap.size + 1 < bl := by rw [hbl]; exact lR
            rw [← hbl]
            clear hbl
            generalize w5.alloc (.cells #[.int .i64 a, .int .i64 b, .int .i64 cc, .int .i64 dd] 27) = wl at *
            have zI := HD.size
            have lR := R0.lt
            clear cl0 cl1 cl2 cl3
            have cL := BL.cell
            have lL := BL.lt
            go_wp2_with fail
            refine (spec_middle a b cc dd _ hbd).mono ?_
            rintro e6 w6 ⟨rfl, q6⟩
            replace hown := hown.q q6
            replace LO := LO.q q6
            replace R0 := R0.q q6
            replace HD := HD.q q6
            replace BL := BL.q q6
            clear q6
            have zI := HD.size
            have lR := R0.lt
            generalize mdX a cc = px at *
            generalize mdX b dd = py at *
            clear cL lL
            go_upto_region 14 with (fail)
            obtain ⟨bp, hbp⟩ : ∃ q, q = w6.heap.size := ⟨_, rfl⟩
            have BP : Blk (w6.alloc (.cells #[.int .i64 px, .int .i64 py] 25)) bp 25 #[.int .i64 px, .int .i64 py] := by rw [hbp]; exact Blk.new w6 _ _
            replace hown := hown.q ((Q.refl _).alloc (.cells #[.int .i64 px, .int .i64 py] 25))
            replace LO := LO.q ((Q.refl _).alloc (.cells #[.int .i64 px, .int .i64 py] 25))
            replace R0 := R0.alloc (.cells #[.int .i64 px, .int .i64 py] 25)
            replace BL := BL.alloc (.cells #[.int .i64 px, .int .i64 py] 25)
            replace HD := HD.alloc (.cells #[.int .i64 px, .int .i64 py] 25)
            have hwbp : w.heap.size + 1 < bp := by rw [hbp]; exact lR
            rw [← hbp]
            clear hbp
            generalize w6.alloc (.cells #[.int .i64 px, .int .i64 py] 25) = wp at *
            have zI := HD.size
            have lR := R0.lt
            have cL := BL.cell
            have lL := BL.lt
            go_wp2_with fail
            refine (spec_Minus cc dd a b _ hpc hpa).mono ?_
            rintro e7 w7 ⟨rfl, q7⟩
            replace hown := hown.q q7
            replace LO := LO.q q7
            replace R0 := R0.q q7
            replace HD := HD.q q7
            replace BP := BP.q q7
            clear q7
            have zI := HD.size
            have lR := R0.lt
            generalize cc - a = dx at *
            generalize dd - b = dy at *
            clear cL lL BL
            go_upto_region 15 with (fail)
            obtain ⟨bd, hbd⟩ : ∃ q, q = w7.heap.size := ⟨_, rfl⟩
            have BD : Blk (w7.alloc (.cells #[.int .i64 dx, .int .i64 dy] 25)) bd 25 #[.int .i64 dx, .int .i64 dy] := by rw [hbd]; exact Blk.new w7 _ _
            replace hown := hown.q ((Q.refl _).alloc (.cells #[.int .i64 dx, .int .i64 dy] 25))
            replace LO := LO.q ((Q.refl _).alloc (.cells #[.int .i64 dx, .int .i64 dy] 25))
            replace R0 := R0.alloc (.cells #[.int .i64 dx, .int .i64 dy] 25)
            replace BP := BP.alloc (.cells #[.int .i64 dx, .int .i64 dy] 25)
            replace HD := HD.alloc (.cells #[.int .i64 dx, .int .i64 dy] 25)
            have hwbd : w.heap.size + 1 < bd := by rw [hbd]; exact lR
            rw [← hbd]
            clear hbd
            generalize w7.alloc (.cells #[.int .i64 dx, .int .i64 dy] 25) = wd at *
            have zI := HD.size
            have lR := R0.lt
            have cD := BD.cell
            have lD := BD.lt
            go_wp2_with fail
            refine (spec_Dot _ _ _ _ _).mono ?_
            rintro e8 w8 ⟨r8, rfl, q8⟩
            go_wp2_with fail
            refine (spec_RootB _ _).mono ?_
            rintro e9 w9 ⟨r9, rfl, hr9, rfl⟩
            replace hown := hown.q q8
            replace LO := LO.q q8
            replace R0 := R0.q q8
            replace HD := HD.q q8
            replace BP := BP.q q8
            replace BD := BD.q q8
            clear q8
            have zI := HD.size
            have lR := R0.lt
            clear cD lD
            go_upto_region 16 with (fail)
            have hn1 : 1 ≤ max 1 r9 ∧ max 1 r9 ≤ 1000000000 := by omega
            generalize max 1 r9 = nn at *
            clear hr9
            have zI := HD.size
            have lR := R0.lt
            have zB := BD.lt
            have zP := BP.lt
            go_wp2_with fail
            refine (spec_Next (w0 := w0) (A := A) (n := n) (c := c) _ (DrT.dr (ws := w) (by ((repeat (first | exact HD | refine DrT.alloc ?_ _ | refine DrT.drewN ?_ _ | refine DrT.drew ?_ | refine DrT.set ?_ (by first | omega | (simp; omega)) _))))) hn).mono ?_
            rintro e10 w10 ⟨r10, rfl, hr10, D10, G10⟩
            have HD := DrT.step (ws := w) (by ((repeat (first | exact HD | refine DrT.alloc ?_ _ | refine DrT.drewN ?_ _ | refine DrT.drew ?_ | refine DrT.set ?_ (by first | omega | (simp; omega)) _)))) D10 G10
            have z10 := HD.size
            replace R0 := Blk.keepG (g := g) (R0.q (by (repeat (first | assumption | exact Q.refl _ | refine Q.alloc ?_ _ | refine Q.drewN ?_ _ | refine Q.drew ?_)))) G10 (by omega)
            replace BP := Blk.keepG (g := g) (BP.q (by (repeat (first | assumption | exact Q.refl _ | refine Q.alloc ?_ _ | refine Q.drewN ?_ _ | refine Q.drew ?_)))) G10 (by omega)
            replace BD := Blk.keepG (g := g) (BD.q (by (repeat (first | assumption | exact Q.refl _ | refine Q.alloc ?_ _ | refine Q.drewN ?_ _ | refine Q.drew ?_)))) G10 (by omega)
            replace hown := hown.keepD G10 hlt2
            replace LO := LO.keepD G10 hlt
            clear D10 G10
            go_upto_region 17 with (fail)
            obtain ⟨ww, hww⟩ : ∃ q : Int, q = 4 + r10 := ⟨_, rfl⟩
            rw [← hww]
            have hw33 : 4 ≤ ww ∧ ww ≤ 33 := by omega
            clear hww hr10
            have hm1 := mul33 hdy hw33
            have hm2 := mul33 hdx hw33
            have zB := BD.lt
            have zP := BP.lt
            go_upto_region 18 with (fail)
            go_loopw [5, 6, 15] (fun v t s wr => ∃ (j mm : Nat) (tt : Int) (A1 : Option Addr) (d1 : Nat) (xs : List Int), v = .slice A1 mm d1 ∧ t = .int .i64 tt ∧ s = .int .i64 (1 - 2 * (j : Int)) ∧ j ≤ 2 ∧ (mm ≤ 2 * k + j ∧ tt ≤ 300 + 900 * mm ∧ TkS xs mm tt) ∧ Own wr (w.heap.size + 2) 98 3 (.slice A1 mm d1) mm xs ∧ Own wr w.heap.size 27 4 (.slice (some ⟨gl, 0, none⟩) N Lc) N L ∧ Blk wr (w.heap.size + 1) 43 #[.slice none 0 0] ∧ Blk wr bp 25 #[.int .i64 px, .int .i64 py] ∧ Blk wr bd 25 #[.int .i64 dx, .int .i64 dy] ∧ DrT w0 w wr g A n c) (fun _ _ s _ => (intOf s + 3).toNat)
            case atStart => exact ⟨0, mm, tt, A1, d1, xs, rfl, rfl, by simp, by omega, ⟨by omega, htt, HT.out⟩, hown, LO, R0, BP, BD, HD⟩
            case round =>
              clear hown LO R0 BP BD HD HT htt hmm ht0 zI lR zB zP
              obtain ⟨j, mm, tt, A1, d1, xs, rfl, rfl, rfl, hj2, ⟨hmm, htt, HTS⟩, hown, LO, R0, BP, BD, HD⟩ := hrel
              have HT := Lib.hid HTS
              have ht0 : 0 ≤ tt := HTS.2.2.2
              clear HTS
              have zI := HD.size
              have lR := R0.lt
              obtain ⟨sd, hsd⟩ : ∃ s : Int, s = 1 - 2 * (j : Int) := ⟨_, rfl⟩
              rw [← hsd]
              have hsb : -3 ≤ sd ∧ sd ≤ 1 := by omega
              have HSD := Lib.hid hsd
              clear hsd
              by_cases hj1 : -1 ≤ sd
              · go_upto_region 20 with (fail)
                go_cut [16] from 66 to 104 (fun v wc => ∃ (bq : Nat) (qx qy : Int), v = .pointer (some ⟨bq, 0, none⟩) ∧ Blk wc bq 25 #[.int .i64 qx, .int .i64 qy] ∧ Own wc (w.heap.size + 2) 98 3 (.slice A1 mm d1) mm xs ∧ Own wc w.heap.size 27 4 (.slice (some ⟨gl, 0, none⟩) N Lc) N L ∧ Blk wc (w.heap.size + 1) 43 #[.slice none 0 0] ∧ Blk wc bp 25 #[.int .i64 px, .int .i64 py] ∧ Blk wc bd 25 #[.int .i64 dx, .int .i64 dy] ∧ DrT w0 w wc g A n c)
                case first =>
                  refine wp_region_Z (fun w' : World => Blk w' bp 25 #[.int .i64 px, .int .i64 py] ∧ Blk w' bd 25 #[.int .i64 dx, .int .i64 dy]) 24 (by kernel_rfl) ?_
                  replace R0 := R0.drew
                  replace BP := BP.drew
                  replace BD := BD.drew
                  replace HD := HD.drew
                  replace hown := hown.q ((Q.refl _).drew)
                  replace LO := LO.q ((Q.refl _).drew)
                  generalize wr.drew = wd at *
                  have hlR : w.heap.size + 1 < wd.heap.size := R0.lt
                  have lBP := BP.lt
                  have lBD := BD.lt
                  (refine tkZ 0 (v := ?_) rfl (by kernel_rfl) (fun _ _ _ h => h) ⟨BP, BD⟩ rfl ?_ ?_; rotate_left 1; focus (intro w s; have cA := s.1.cell; have cB := s.2.cell; go_simp; try with_reducible rfl))
                  (refine tkZ 1 (v := ?_) rfl (by kernel_rfl) (fun _ _ _ h => h) ⟨BP, BD⟩ rfl ?_ ?_; rotate_left 1; focus (intro w s; have cA := s.1.cell; have cB := s.2.cell; go_simp; try with_reducible rfl))
                  (refine tkZ 2 (v := ?_) rfl (by kernel_rfl) (fun _ _ _ h => h) ⟨BP, BD⟩ rfl ?_ ?_; rotate_left 1; focus (intro w s; have cA := s.1.cell; have cB := s.2.cell; go_simp; try with_reducible rfl))
                  (refine tkZ 3 (v := ?_) rfl (by kernel_rfl) (fun _ _ _ h => h) ⟨BP, BD⟩ rfl ?_ ?_; rotate_left 1; focus (intro w s; have cA := s.1.cell; have cB := s.2.cell; go_simp; try with_reducible rfl))
                  (refine tkZ 4 (v := ?_) rfl (by kernel_rfl) (fun _ _ _ h => h) ⟨BP, BD⟩ rfl ?_ ?_; rotate_left 1; focus (intro w s; have cA := s.1.cell; have cB := s.2.cell; go_simp; try with_reducible rfl))
                  (refine tkZ 5 (v := ?_) rfl (by kernel_rfl) (fun _ _ _ h => h) ⟨BP, BD⟩ rfl ?_ ?_; rotate_left 1; focus (intro w s; have cA := s.1.cell; have cB := s.2.cell; go_simp; try with_reducible rfl))
                  (refine tkZ 6 (v := ?_) rfl (by kernel_rfl) (fun _ _ _ h => h) ⟨BP, BD⟩ rfl ?_ ?_; rotate_left 1; focus (intro w s; have cA := s.1.cell; have cB := s.2.cell; go_simp; try with_reducible rfl))
                  (refine tkZ 7 (v := ?_) rfl (by kernel_rfl) (fun _ _ _ h => h) ⟨BP, BD⟩ rfl ?_ ?_; rotate_left 1; focus (intro w s; have cA := s.1.cell; have cB := s.2.cell; go_simp; try with_reducible rfl))
                  (refine tkZ 11 (v := ?_) rfl (by kernel_rfl) (fun _ _ _ h => h) ⟨BP, BD⟩ rfl ?_ ?_; rotate_left 1; focus (intro w s; have cA := s.1.cell; have cB := s.2.cell; go_simp; try with_reducible rfl))
                  (refine tkZ 12 (v := ?_) rfl (by kernel_rfl) (fun _ _ _ h => h) ⟨BP, BD⟩ rfl ?_ ?_; rotate_left 1; focus (intro w s; have cA := s.1.cell; have cB := s.2.cell; go_simp; try with_reducible rfl))
                  (refine tkZ 13 (v := ?_) rfl (by kernel_rfl) (fun _ _ _ h => h) ⟨BP, BD⟩ rfl ?_ ?_; rotate_left 1; focus (intro w s; have cA := s.1.cell; have cB := s.2.cell; go_simp; try with_reducible rfl))
                  (refine tkZ 14 (v := ?_) rfl (by kernel_rfl) (fun _ _ _ h => h) ⟨BP, BD⟩ rfl ?_ ?_; rotate_left 1; focus (intro w s; have cA := s.1.cell; have cB := s.2.cell; go_simp; try with_reducible rfl))
                  (refine tkZ 15 (v := ?_) rfl (by kernel_rfl) (fun _ _ _ h => h) ⟨BP, BD⟩ rfl ?_ ?_; rotate_left 1; focus (intro w s; have cA := s.1.cell; have cB := s.2.cell; go_simp; try with_reducible rfl))
                  (refine tkZ 16 (v := ?_) rfl (by kernel_rfl) (fun _ _ _ h => h) ⟨BP, BD⟩ rfl ?_ ?_; rotate_left 1; focus (intro w s; have cA := s.1.cell; have cB := s.2.cell; go_simp; try with_reducible rfl))
                  (refine tkZ 17 (v := ?_) rfl (by kernel_rfl) (fun _ _ _ h => h) ⟨BP, BD⟩ rfl ?_ ?_; rotate_left 1; focus (intro w s; have cA := s.1.cell; have cB := s.2.cell; go_simp; try with_reducible rfl))
                  (refine tkZ 18 (v := ?_) rfl (by kernel_rfl) (fun _ _ _ h => h) ⟨BP, BD⟩ rfl ?_ ?_; rotate_left 1; focus (intro w s; have cA := s.1.cell; have cB := s.2.cell; go_simp; try with_reducible rfl))
                  try simp only [Act.put, List.setIfInBounds_toArray, List.set_cons_zero, List.set_cons_succ, List.getElem_toArray, List.getElem_cons_succ, List.getElem_cons_zero]; try simp only [Nat.zero_add]
                  refine wpAnyZ_two 8 23 (by kernel_rfl) rfl rfl (fun K hK => ?_) (fun K hK => ?_)
                  · go_simp
                    go_at_call 44
                    refine (spec_Floor _ _ _ (by omega) (by first | omega | (rw [IntKind.wrap_i64]; omega)) (by omega)).mono ?_
                    rintro _ _ ⟨rfl, rfl⟩
                    refine hK.out _ _ ⟨BP, BD⟩ ?_
                    clear hK K
                    (refine tkZ 9 (v := ?_) rfl (by kernel_rfl) (fun _ _ _ h => h) ⟨BP, BD⟩ rfl ?_ ?_; rotate_left 1; focus (intro w s; have cA := s.1.cell; have cB := s.2.cell; go_simp; try with_reducible rfl))
                    (refine tkZ 10 (v := ?_) rfl (by kernel_rfl) (fun _ _ _ h => h) ⟨BP, BD⟩ rfl ?_ ?_; rotate_left 1; focus (intro w s; have cA := s.1.cell; have cB := s.2.cell; go_simp; try with_reducible rfl))
                    try simp only [Act.put, List.setIfInBounds_toArray, List.set_cons_zero, List.set_cons_succ, List.getElem_toArray, List.getElem_cons_succ, List.getElem_cons_zero]; try simp only [Nat.zero_add]
                    refine wpAnyZ_two 19 23 (by kernel_rfl) rfl rfl (fun K hK => ?_) (fun K hK => ?_)
                    · go_simp
                      go_at_call 44
                      refine (spec_Floor _ _ _ (by omega) (by first | omega | (rw [IntKind.wrap_i64]; omega)) (by omega)).mono ?_
                      rintro _ _ ⟨rfl, rfl⟩
                      refine hK.out _ _ ⟨BP, BD⟩ ?_
                      clear hK K
                      (refine tkZ 20 (v := ?_) rfl (by kernel_rfl) (fun _ _ _ h => h) ⟨BP, BD⟩ rfl ?_ ?_; rotate_left 1; focus (intro w s; have cA := s.1.cell; have cB := s.2.cell; go_simp; try with_reducible rfl))
                      (refine tkZ 21 (v := ?_) rfl (by kernel_rfl) (fun _ _ _ h => h) ⟨BP, BD⟩ rfl ?_ ?_; rotate_left 1; focus (intro w s; have cA := s.1.cell; have cB := s.2.cell; go_simp; try with_reducible rfl))
                      (refine tkZ 22 (v := ?_) rfl (by kernel_rfl) (fun _ _ _ h => h) ⟨BP, BD⟩ rfl ?_ ?_; rotate_left 1; focus (intro w s; have cA := s.1.cell; have cB := s.2.cell; go_simp; try with_reducible rfl))
                      try simp only [Act.put, List.setIfInBounds_toArray, List.set_cons_zero, List.set_cons_succ, List.getElem_toArray, List.getElem_cons_succ, List.getElem_cons_zero]; try simp only [Nat.zero_add]
                      refine wpAnyZ_one 23 (by kernel_rfl) rfl (fun K hK => ?_)
                      go_simp
                      obtain ⟨bq, hbq⟩ : ∃ q, q = wd.heap.size := ⟨_, rfl⟩
                      have PQ : Blk (wd.alloc (.cells #[.int .i64 0, .int .i64 0] 25)) bq 25 #[.int .i64 0, .int .i64 0] := by rw [hbq]; exact Blk.new wd _ _
                      replace R0 := R0.alloc (.cells #[.int .i64 0, .int .i64 0] 25)
                      replace BP := BP.alloc (.cells #[.int .i64 0, .int .i64 0] 25)
                      replace BD := BD.alloc (.cells #[.int .i64 0, .int .i64 0] 25)
                      replace HD := HD.alloc (.cells #[.int .i64 0, .int .i64 0] 25)
                      replace hown := hown.q ((Q.refl _).alloc (.cells #[.int .i64 0, .int .i64 0] 25))
                      replace LO := LO.q ((Q.refl _).alloc (.cells #[.int .i64 0, .int .i64 0] 25))
                      rw [← hbq]
                      generalize wd.alloc (.cells #[.int .i64 0, .int .i64 0] 25) = wda at *
                      have hb1 : w.heap.size + 1 < bq := by omega
                      have hb2 : bp < bq := by omega
                      have hb3 : bd < bq := by omega
                      clear hbq
                      refine hK.out _ _ ⟨BP, BD⟩ ?_
                      clear hK K
                      refine wpAnyZ_last (by kernel_rfl) rfl (fun K hK => ?_)
                      refine step_store rfl 25 _ _ rfl bq _ rfl rfl PQ.there (by kernel_rfl) (by simp [Value.oneCell']) ?_
                      refine hK.out _ _ ?_
                      clear hK K
                      try simp only [Act.put]
                      refine wpAnyZ_done (by kernel_rfl) ?_ _
                      go_wp2_with fail
                      go_meet
                      exact ⟨bq, _, _, rfl, PQ.all2 _ _, hown.farAll PQ (by decide) 0 _, LO.farAll PQ (by decide) 0 _, R0.farAll (by omega) 0 _, BP.farAll (by omega) 0 _, BD.farAll (by omega) 0 _, HD.setAll (by omega) 0 _⟩
                    go_simp
                    obtain ⟨bq, hbq⟩ : ∃ q, q = wd.heap.size := ⟨_, rfl⟩
                    have PQ : Blk (wd.alloc (.cells #[.int .i64 0, .int .i64 0] 25)) bq 25 #[.int .i64 0, .int .i64 0] := by rw [hbq]; exact Blk.new wd _ _
                    replace R0 := R0.alloc (.cells #[.int .i64 0, .int .i64 0] 25)
                    replace BP := BP.alloc (.cells #[.int .i64 0, .int .i64 0] 25)
                    replace BD := BD.alloc (.cells #[.int .i64 0, .int .i64 0] 25)
                    replace HD := HD.alloc (.cells #[.int .i64 0, .int .i64 0] 25)
                    replace hown := hown.q ((Q.refl _).alloc (.cells #[.int .i64 0, .int .i64 0] 25))
                    replace LO := LO.q ((Q.refl _).alloc (.cells #[.int .i64 0, .int .i64 0] 25))
                    rw [← hbq]
                    generalize wd.alloc (.cells #[.int .i64 0, .int .i64 0] 25) = wda at *
                    have hb1 : w.heap.size + 1 < bq := by omega
                    have hb2 : bp < bq := by omega
                    have hb3 : bd < bq := by omega
                    clear hbq
                    refine hK.out _ _ ⟨BP, BD⟩ ?_
                    clear hK K
                    refine wpAnyZ_one 19 (by kernel_rfl) rfl (fun K hK => ?_)
                    go_simp
                    go_at_call 44
                    refine (spec_Floor _ _ _ (by omega) (by first | omega | (rw [IntKind.wrap_i64]; omega)) (by omega)).mono ?_
                    rintro _ _ ⟨rfl, rfl⟩
                    refine hK.out _ _ ⟨BP, BD⟩ ?_
                    clear hK K
                    (refine tkZ 20 (v := ?_) rfl (by kernel_rfl) (fun _ _ _ h => h) ⟨BP, BD⟩ rfl ?_ ?_; rotate_left 1; focus (intro w s; have cA := s.1.cell; have cB := s.2.cell; go_simp; try with_reducible rfl))
                    (refine tkZ 21 (v := ?_) rfl (by kernel_rfl) (fun _ _ _ h => h) ⟨BP, BD⟩ rfl ?_ ?_; rotate_left 1; focus (intro w s; have cA := s.1.cell; have cB := s.2.cell; go_simp; try with_reducible rfl))
                    (refine tkZ 22 (v := ?_) rfl (by kernel_rfl) (fun _ _ _ h => h) ⟨BP, BD⟩ rfl ?_ ?_; rotate_left 1; focus (intro w s; have cA := s.1.cell; have cB := s.2.cell; go_simp; try with_reducible rfl))
                    try simp only [Act.put, List.setIfInBounds_toArray, List.set_cons_zero, List.set_cons_succ, List.getElem_toArray, List.getElem_cons_succ, List.getElem_cons_zero]; try simp only [Nat.zero_add]
                    refine wpAnyZ_last (by kernel_rfl) rfl (fun K hK => ?_)
                    refine step_store rfl 25 _ _ rfl bq _ rfl rfl PQ.there (by kernel_rfl) (by simp [Value.oneCell']) ?_
                    refine hK.out _ _ ?_
                    clear hK K
                    try simp only [Act.put]
                    refine wpAnyZ_done (by kernel_rfl) ?_ _
                    go_wp2_with fail
                    go_meet
                    exact ⟨bq, _, _, rfl, PQ.all2 _ _, hown.farAll PQ (by decide) 0 _, LO.farAll PQ (by decide) 0 _, R0.farAll (by omega) 0 _, BP.farAll (by omega) 0 _, BD.farAll (by omega) 0 _, HD.setAll (by omega) 0 _⟩
                  go_simp
                  obtain ⟨bq, hbq⟩ : ∃ q, q = wd.heap.size := ⟨_, rfl⟩
                  have PQ : Blk (wd.alloc (.cells #[.int .i64 0, .int .i64 0] 25)) bq 25 #[.int .i64 0, .int .i64 0] := by rw [hbq]; exact Blk.new wd _ _
                  replace R0 := R0.alloc (.cells #[.int .i64 0, .int .i64 0] 25)
                  replace BP := BP.alloc (.cells #[.int .i64 0, .int .i64 0] 25)
                  replace BD := BD.alloc (.cells #[.int .i64 0, .int .i64 0] 25)
                  replace HD := HD.alloc (.cells #[.int .i64 0, .int .i64 0] 25)
                  replace hown := hown.q ((Q.refl _).alloc (.cells #[.int .i64 0, .int .i64 0] 25))
                  replace LO := LO.q ((Q.refl _).alloc (.cells #[.int .i64 0, .int .i64 0] 25))
                  rw [← hbq]
                  generalize wd.alloc (.cells #[.int .i64 0, .int .i64 0] 25) = wda at *
                  have hb1 : w.heap.size + 1 < bq := by omega
                  have hb2 : bp < bq := by omega
                  have hb3 : bd < bq := by omega
                  clear hbq
                  refine hK.out _ _ ⟨BP, BD⟩ ?_
                  clear hK K
                  refine wpAnyZ_one 8 (by kernel_rfl) rfl (fun K hK => ?_)
                  go_simp
                  go_at_call 44
                  refine (spec_Floor _ _ _ (by omega) (by first | omega | (rw [IntKind.wrap_i64]; omega)) (by omega)).mono ?_
                  rintro _ _ ⟨rfl, rfl⟩
                  refine hK.out _ _ ⟨BP, BD⟩ ?_
                  clear hK K
                  (refine tkZ 9 (v := ?_) rfl (by kernel_rfl) (fun _ _ _ h => h) ⟨BP, BD⟩ rfl ?_ ?_; rotate_left 1; focus (intro w s; have cA := s.1.cell; have cB := s.2.cell; go_simp; try with_reducible rfl))
                  (refine tkZ 10 (v := ?_) rfl (by kernel_rfl) (fun _ _ _ h => h) ⟨BP, BD⟩ rfl ?_ ?_; rotate_left 1; focus (intro w s; have cA := s.1.cell; have cB := s.2.cell; go_simp; try with_reducible rfl))
                  try simp only [Act.put, List.setIfInBounds_toArray, List.set_cons_zero, List.set_cons_succ, List.getElem_toArray, List.getElem_cons_succ, List.getElem_cons_zero]; try simp only [Nat.zero_add]
                  refine wpAnyZ_one 19 (by kernel_rfl) rfl (fun K hK => ?_)
                  go_simp
                  go_at_call 44
                  refine (spec_Floor _ _ _ (by omega) (by first | omega | (rw [IntKind.wrap_i64]; omega)) (by omega)).mono ?_
                  rintro _ _ ⟨rfl, rfl⟩
                  refine hK.out _ _ ⟨BP, BD⟩ ?_
                  clear hK K
                  (refine tkZ 20 (v := ?_) rfl (by kernel_rfl) (fun _ _ _ h => h) ⟨BP, BD⟩ rfl ?_ ?_; rotate_left 1; focus (intro w s; have cA := s.1.cell; have cB := s.2.cell; go_simp; try with_reducible rfl))
                  (refine tkZ 21 (v := ?_) rfl (by kernel_rfl) (fun _ _ _ h => h) ⟨BP, BD⟩ rfl ?_ ?_; rotate_left 1; focus (intro w s; have cA := s.1.cell; have cB := s.2.cell; go_simp; try with_reducible rfl))
                  (refine tkZ 22 (v := ?_) rfl (by kernel_rfl) (fun _ _ _ h => h) ⟨BP, BD⟩ rfl ?_ ?_; rotate_left 1; focus (intro w s; have cA := s.1.cell; have cB := s.2.cell; go_simp; try with_reducible rfl))
                  try simp only [Act.put, List.setIfInBounds_toArray, List.set_cons_zero, List.set_cons_succ, List.getElem_toArray, List.getElem_cons_succ, List.getElem_cons_zero]; try simp only [Nat.zero_add]
                  refine wpAnyZ_last (by kernel_rfl) rfl (fun K hK => ?_)
                  refine step_store rfl 25 _ _ rfl bq _ rfl rfl PQ.there (by kernel_rfl) (by simp [Value.oneCell']) ?_
                  refine hK.out _ _ ?_
                  clear hK K
                  try simp only [Act.put]
                  refine wpAnyZ_done (by kernel_rfl) ?_ _
                  go_wp2_with fail
                  go_meet
                  exact ⟨bq, _, _, rfl, PQ.all2 _ _, hown.farAll PQ (by decide) 0 _, LO.farAll PQ (by decide) 0 _, R0.farAll (by omega) 0 _, BP.farAll (by omega) 0 _, BD.farAll (by omega) 0 _, HD.setAll (by omega) 0 _⟩
                case rest =>
                  clear hown LO R0 BP BD HD zI lR
                  obtain ⟨bq, qx, qy, rfl, PQ, hown, LO, R0, BP, BD, HD⟩ := hcut
                  have cQ := PQ.cell
                  have lQ := PQ.lt
                  go_wp2_with fail
                  refine (spec_IsPoint qx qy _).mono ?_
                  rintro e11 w11 ⟨rfl, q11⟩
                  clear cQ lQ
                  replace hown := hown.q q11
                  replace LO := LO.q q11
                  replace R0 := R0.q q11
                  replace HD := HD.q q11
                  replace BP := BP.q q11
                  replace BD := BD.q q11
                  replace PQ := PQ.q q11
                  clear q11
                  have zI := HD.size
                  have lR := R0.lt
                  cases hpb : ptB qx qy
                  · clear hpb
                    go_wp2_with fail
                    go_roundw
                    case rel => exact ⟨j + 1, mm, tt, A1, d1, xs, rfl, rfl, by rw [HSD.out]; go_num, by have := HSD.out; omega, ⟨by omega, htt, HT.out⟩, hown, LO, R0, BP, BD, HD⟩
                    case measure => simp [intOf]; omega
                  · have HPB := Lib.hid hpb
                    clear hpb
                    have cQ := PQ.cell
                    have lQ := PQ.lt
                    have hmx := hown.len
                    go_wp2_with (at_builtin; refine appK elFix rfl _ _ rfl [tt, qx, qy] rfl hown rfl (by simp) rfl _ _ rfl (by omega) (by omega) ?_; intro A' c' w' hown' hg' hgr'; replace LO := LO.keepO hown (by decide) hg'; replace HD := DrT.markE HD hown (by omega) hg'; replace BP := Blk.markO BP hown (by decide) hg'; replace BD := Blk.markO BD hown (by decide) hg'; replace R0 := Blk.markO R0 hown (by decide) hg')
                    clear cQ lQ
                    have zB := BD.lt
                    have zP := BP.lt
                    refine (spec_Next (w0 := w0) (A := A) (n := n) (c := c) _ (DrT.dr (ws := w) (by ((repeat (first | exact HD | refine DrT.alloc ?_ _ | refine DrT.drewN ?_ _ | refine DrT.drew ?_ | refine DrT.set ?_ (by first | omega | (simp; omega)) _))))) hn).mono ?_
                    rintro e12 w12 ⟨r12, rfl, hr12, D12, G12⟩
                    have HD := DrT.step (ws := w) (by ((repeat (first | exact HD | refine DrT.alloc ?_ _ | refine DrT.drewN ?_ _ | refine DrT.drew ?_ | refine DrT.set ?_ (by first | omega | (simp; omega)) _)))) D12 G12
                    have z12 := HD.size
                    replace R0 := Blk.keepG (g := g) (R0.q (by (repeat (first | assumption | exact Q.refl _ | refine Q.alloc ?_ _ | refine Q.drewN ?_ _ | refine Q.drew ?_)))) G12 (by omega)
                    replace BP := Blk.keepG (g := g) (BP.q (by (repeat (first | assumption | exact Q.refl _ | refine Q.alloc ?_ _ | refine Q.drewN ?_ _ | refine Q.drew ?_)))) G12 (by omega)
                    replace BD := Blk.keepG (g := g) (BD.q (by (repeat (first | assumption | exact Q.refl _ | refine Q.alloc ?_ _ | refine Q.drewN ?_ _ | refine Q.drew ?_)))) G12 (by omega)
                    replace hown' := hown'.keepD G12 hlt2
                    replace LO := LO.keepD G12 hlt
                    clear D12 G12
                    go_wp2_with fail
                    go_roundw
                    case rel => exact ⟨j + 1, mm + 1, tt + (1 + r12), _, _, _, rfl, by go_num, by rw [HSD.out]; go_num, by have := HSD.out; omega, ⟨by omega, by omega, HT.out.next (by omega) HPB.out (by omega)⟩, hown', LO, R0, BP, BD, HD⟩
                    case measure => simp [intOf]; omega
              · go_wp2_with fail
                go_roundw
                case rel => exact ⟨k + 1, mm, tt, A1, d1, xs, rfl, rfl, by go_num, by omega, ⟨by omega, htt, HT.out⟩, hown, LO, R0, HD⟩
                case measure => simp [intOf]; omega
        · have hkI : ¬ (k : Int) < (N : Int) := by omega
          by_cases hm2 : mm < 2
          · have hmI : (mm : Int) < 2 := by omega
            clear HT hown LO
            go_wp2_with fail
            refine (spec_l03DrawV (w0 := w0) (A := A) (n := n) (c := c) HD.dr hn).mono ?_
            rintro e13 w13 ⟨B5, m5, d5, xs5, rfl, hown5, hT5, D5, G5⟩
            replace hown5 := hown5.mono zI
            replace HD := HD.step D5 G5
            replace R0 := Blk.keepG R0 G5 (by omega)
            have hT5h := Lib.hid hT5
            clear hT5 D5 G5
            have cR := R0.cell
            have fR := R0.frozen
            have lR' := R0.lt
            go_wp2_with fail
            have F := (R0.s1_0 (.slice B5 m5 d5)).cell
            refine bodyPost_ret (v := .agg #[.slice B5 m5 d5]) (by simp [results, Tryz.results19, go_sem, F]) rfl ⟨B5, m5, d5, xs5, rfl, hown5.setFar (Own.ne_blk hown5 R0 (by decide)) 0 _, hT5h.out, ?_, ?_⟩
            · exact DrT.dr (ws := w) (HD.set (b := w.heap.size + 1) (i := 0) (by omega) _)
            · exact DrT.gr (w0 := w0) (g := g) (A := A) (n := n) (c := c) (HD.set (b := w.heap.size + 1) (i := 0) (by omega) _)
          · have hmI : ¬ (mm : Int) < 2 := by omega
            have hT5 := HT.out.trk (by omega) (by omega)
            have hT5h := Lib.hid hT5
            clear hT5 HT
            have cR := R0.cell
            have fR := R0.frozen
            go_wp2_with fail
            have F := (R0.s1_0 (.slice A1 mm d1)).cell
            refine bodyPost_ret (v := .agg #[.slice A1 mm d1]) (by simp [results, Tryz.results19, go_sem, F]) rfl ⟨A1, mm, d1, xs, rfl, (hown.mono (by omega)).setFar (Own.ne_blk hown R0 (by decide)) 0 _, hT5h.out, ?_, ?_⟩
            · exact DrT.dr (ws := w) (HD.set (b := w.heap.size + 1) (i := 0) (by omega) _)
            · exact DrT.gr (w0 := w0) (g := g) (A := A) (n := n) (c := c) (HD.set (b := w.heap.size + 1) (i := 0) (by omega) _)
end Go.Proofs.YteofhfefbphjdaaGreatDoor
