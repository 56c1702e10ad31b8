/- Walks: the root, as the reference finds it, is of no great size; the reference's products and the middle of a line. No condition. Walks: the reference's draw of a track that crosses a line. No condition. -/
import Derived.Test.YtpdcehmnegagmaaDrL
import Derived.Test.YtpdcehmnegagmaaFloor
import Derived.Test.YtpdcehmnegagmaaTail
import Derived.Test.YtpdcehmnegagmaaDrF
import Derived.Deep.RegionHeld3
import Derived.Test.YtpdcehmnegagmaaZop
namespace Go.Proofs.Ytpdcehmnegagmaa
open Go.RowKit Go.WideShapes Go.ChangeShapes
theorem spec_RootB (n : Int) (w : World) : Calls Try.prog 54 #[.int .i64 n] w fun e w' => ∃ r : Int, e = .returned (.int .i64 r) ∧ (0 ≤ r ∧ r ≤ 1000000000) ∧ w = w' := by
  go_enter Try.func54, Try.ntmps54
  go_wp2_with fail
  go_loop [3, 4] (fun u v => ∃ l h : Int, u = .int .i64 l ∧ v = .int .i64 h ∧ (0 ≤ l ∧ l < h ∧ h ≤ 1000000001)) (fun u v => (intOf v - intOf u).toNat)
  case atStart => exact ⟨0, 1000000001, rfl, rfl, by omega⟩
  case round =>
    obtain ⟨l, h, rfl, rfl, hb⟩ := hrel
    by_cases hlt : l + 1 < h
    · obtain ⟨m, hm⟩ : ∃ m, m = (l + h) / 2 := ⟨_, rfl⟩
      have hmb : l < m ∧ m < h := by omega
      have hsq := mul_bd' (a := m) (x := m) (M := 1000000000) (N := 1000000000) (by omega) (by omega)
      by_cases hc : m * m ≤ n
      · rw [hm] at hsq hc
        go_wp2_with fail
        go_round
        case rel => exact ⟨m, h, by rw [hm], rfl, by omega⟩
        case measure => simp [intOf]; omega
      · rw [hm] at hsq hc
        go_wp2_with fail
        go_round
        case rel => exact ⟨l, m, rfl, by rw [hm], by omega⟩
        case measure => simp [intOf]; omega
    · go_wp2_with fail
      go_ret
      exact ⟨_, rfl, by omega, rfl⟩
theorem spec_Dot (a b c d : Int) (w : World) : Calls Try.prog 55 #[.agg #[.int .i64 a, .int .i64 b], .agg #[.int .i64 c, .int .i64 d]] w fun e w' => ∃ r : Int, e = .returned (.int .i64 r) ∧ Q w w' := by
  go_enter Try.func55, Try.ntmps55
  go_wp2_with fail
  go_ret
  exact ⟨_, rfl, by (repeat (first | assumption | exact Q.refl _ | refine Q.alloc ?_ _ | refine Q.drewN ?_ _ | refine Q.drew ?_))⟩
theorem spec_Middle (a b c d : Int) (w : World) (h1 : ptM 1000001 a b) (h2 : ptM 1000001 c d) : Calls Try.prog 53 #[.agg #[.int .i64 a, .int .i64 b, .int .i64 c, .int .i64 d]] w fun e w' => ∃ x y : Int, e = .returned (.agg #[.int .i64 x, .int .i64 y]) ∧ Q w w' := by
  obtain ⟨⟨p1, p2⟩, p3, p4⟩ := h1
  obtain ⟨⟨q1, q2⟩, q3, q4⟩ := h2
  have L0 := (Blk.new w 27 #[.int .i64 a, .int .i64 b, .int .i64 c, .int .i64 d]).alloc (.cells #[.int .i64 0, .int .i64 0] 25)
  have P0 : Blk ((w.alloc (.cells #[.int .i64 a, .int .i64 b, .int .i64 c, .int .i64 d] 27)).alloc (.cells #[.int .i64 0, .int .i64 0] 25)) (w.heap.size + 1) 25 #[.int .i64 0, .int .i64 0] := by simpa using Blk.new (w.alloc (.cells #[.int .i64 a, .int .i64 b, .int .i64 c, .int .i64 d] 27)) 25 #[.int .i64 0, .int .i64 0]
  have Q0 : Q w ((w.alloc (.cells #[.int .i64 a, .int .i64 b, .int .i64 c, .int .i64 d] 27)).alloc (.cells #[.int .i64 0, .int .i64 0] 25)) := by (repeat (first | assumption | exact Q.refl _ | refine Q.alloc ?_ _ | refine Q.drewN ?_ _ | refine Q.drew ?_))
  go_enter Try.func53, Try.ntmps53
  go_wp2_with fail
  generalize (w.alloc (.cells #[.int .i64 a, .int .i64 b, .int .i64 c, .int .i64 d] 27)).alloc (.cells #[.int .i64 0, .int .i64 0] 25) = wb at *
  have LC := later_cells L0.cell L0.lt
  refine wp_region_later_tail 17 (by kernel_rfl) (by kernel_rfl) ?_
  simp only [List.take_succ_cons, List.take_zero, List.drop_succ_cons, List.drop_zero]
  repeat (any_goals (first | go_big_quiet_step ((go_at_call 72; exact later_same (spec_Floor _ _ _ (by decide) (by omega) (by decide)))) | quiet_step ((go_at_call 72; exact later_same (spec_Floor _ _ _ (by decide) (by omega) (by decide))))))
  refine wpQuiet_nil ?_
  rintro w3 ⟨⟨w4, q4⟩, hw⟩
  obtain rfl : w3 = w4 := hw
  have cP := (P0.q q4).cell
  have fP := (P0.q q4).frozen
  have Q4 : Q w w3 := Q0.trans q4
  go_wp2_with fail
  have bf := (((P0.q q4).set_ 0 (.int .i64 ((a + c) / 2))).set_ 1 (.int .i64 ((b + d) / 2))).cell
  exact bodyPost_ret (v := .agg #[.int .i64 ((a + c) / 2), .int .i64 ((b + d) / 2)]) (by simp [results, Try.results53, go_sem, bf]) rfl ⟨_, _, rfl, (Q4.setCell (by simp) _).setCell (by simp) _⟩
end Go.Proofs.Ytpdcehmnegagmaa
namespace Go.Proofs.Ytpdcehmnegagmaa
open Go.RowKit Go.WideShapes Go.ChangeShapes
set_option maxRecDepth 100000 in
set_option maxHeartbeats 16000000 in
theorem spec_l14Track {w0 w : World} {g : Nat} {A : Option Addr} {n c : Nat} (a b cc d t : Int) (hp1 : ptM 1000001 a b) (hp2 : ptM 1000001 cc d) (h : Dr w0 w g A n c) (hn : n ≤ 140737488355327) : Calls Try.prog 33 #[.pointer (some ⟨g, 0, none⟩), .agg #[.int .i64 a, .int .i64 b, .int .i64 cc, .int .i64 d], .int .i64 t] w (DrawTk 2 5 w0 w g A n c) := by
  have HD := DrT.start h
  have hlt := HD.glt
  have L0 : Blk ((w.alloc (.cells #[.int .i64 a, .int .i64 b, .int .i64 cc, .int .i64 d] 27)).alloc (.cells #[.slice none 0 0] 30)) w.heap.size 27 #[.int .i64 a, .int .i64 b, .int .i64 cc, .int .i64 d] := (Blk.new _ _ _).alloc _
  have R0 : Blk ((w.alloc (.cells #[.int .i64 a, .int .i64 b, .int .i64 cc, .int .i64 d] 27)).alloc (.cells #[.slice none 0 0] 30)) (w.heap.size + 1) 30 #[.slice none 0 0] := by simpa using Blk.new (w.alloc (.cells #[.int .i64 a, .int .i64 b, .int .i64 cc, .int .i64 d] 27)) 30 #[.slice none 0 0]
  replace HD := (HD.alloc (.cells #[.int .i64 a, .int .i64 b, .int .i64 cc, .int .i64 d] 27)).alloc (.cells #[.slice none 0 0] 30)
  go_enter Try.func33, Try.ntmps33
  go_wp2_with fail
  refine (spec_Middle a b cc d _ hp1 hp2).mono ?_
  rintro e1 w1 ⟨mx, my, rfl, q1⟩
  replace HD := HD.q q1
  replace L0 := L0.q q1
  replace R0 := R0.q q1
  clear q1 h
  have cL := L0.cell
  have lL := L0.lt
  have lR := R0.lt
  have hsz := HD.size
  go_upto_region 3 with (fail)
  generalize wrap64 (cc - a) = dx at *
  generalize wrap64 (d - b) = dy at *
  have M0 : Blk ((w1.alloc (.cells #[.int .i64 mx, .int .i64 my] 25)).alloc (.cells #[.int .i64 dx, .int .i64 dy] 25)) w1.heap.size 25 #[.int .i64 mx, .int .i64 my] := (Blk.new _ _ _).alloc _
  have D0 : Blk ((w1.alloc (.cells #[.int .i64 mx, .int .i64 my] 25)).alloc (.cells #[.int .i64 dx, .int .i64 dy] 25)) (w1.heap.size + 1) 25 #[.int .i64 dx, .int .i64 dy] := by simpa using Blk.new (w1.alloc (.cells #[.int .i64 mx, .int .i64 my] 25)) 25 #[.int .i64 dx, .int .i64 dy]
  replace HD := (HD.alloc (.cells #[.int .i64 mx, .int .i64 my] 25)).alloc (.cells #[.int .i64 dx, .int .i64 dy] 25)
  replace R0 := (R0.alloc (.cells #[.int .i64 mx, .int .i64 my] 25)).alloc (.cells #[.int .i64 dx, .int .i64 dy] 25)
  obtain ⟨bm, hbm⟩ : ∃ q, q = w1.heap.size := ⟨_, rfl⟩
  rw [← hbm] at M0 D0 lR hsz ⊢
  generalize (w1.alloc (.cells #[.int .i64 mx, .int .i64 my] 25)).alloc (.cells #[.int .i64 dx, .int .i64 dy] 25) = wb at *
  clear cL lL L0 hbm
  go_cut [9] from 15 to 104 (fun v wc => ∃ N : Int, v = .int .i64 N ∧ (1 ≤ N ∧ N ≤ 1000000000) ∧ Q wb wc)
  case first =>
    have cD := D0.cell
    have lD := D0.lt
    go_wp2_with fail
    refine (spec_Dot _ _ _ _ _).mono ?_
    rintro e2 w2 ⟨r2, rfl, q2⟩
    go_wp2_with fail
    refine (spec_RootB _ _).mono ?_
    rintro e3 w3 ⟨r3, rfl, hr3, rfl⟩
    go_wp2_with fail
    all_goals go_meet
    all_goals exact ⟨_, rfl, by omega, q2⟩
  case rest =>
    obtain ⟨N, rfl, hN, q2⟩ := hcut
    replace HD := HD.q q2
    replace R0 := R0.q q2
    replace M0 := M0.q q2
    replace D0 := D0.q q2
    clear q2
    go_upto_region 4 with (fail)
    go_cut [10] from 15 to 104 (fun v wd => ∃ tt : Int, v = .int .i64 tt ∧ DrT w0 w wd g A n c ∧ Blk wd (w.heap.size + 1) 30 #[.slice none 0 0] ∧ Blk wd bm 25 #[.int .i64 mx, .int .i64 my] ∧ Blk wd (bm + 1) 25 #[.int .i64 dx, .int .i64 dy])
    case first =>
      have zb := HD.size
      have lD := D0.lt
      go_wp2_with ((go_at_call 20; refine (spec_Next (w0 := w0) (A := A) (n := n) (c := c) _ (DrT.dr (ws := w) (by ((repeat (first | exact HD | refine DrT.alloc ?_ _ | refine DrT.drewN ?_ _ | refine DrT.drew ?_ | refine DrT.set ?_ (by first | omega | (simp; omega)) _))))) hn).mono ?_; rintro e4 w4 ⟨r4, rfl, hr4, D4, G4⟩; have HD := DrT.step (ws := w) (by ((repeat (first | exact HD | refine DrT.alloc ?_ _ | refine DrT.drewN ?_ _ | refine DrT.drew ?_ | refine DrT.set ?_ (by first | omega | (simp; omega)) _)))) D4 G4; have z4 := HD.size; have R0 := Blk.keepG (g := g) (R0.q (by (repeat (first | assumption | exact Q.refl _ | refine Q.alloc ?_ _ | refine Q.drewN ?_ _ | refine Q.drew ?_)))) G4 (by omega); have cR0 := R0.cell; have fR0 := R0.frozen; have lR0 := R0.lt; have M0 := Blk.keepG (g := g) (M0.q (by (repeat (first | assumption | exact Q.refl _ | refine Q.alloc ?_ _ | refine Q.drewN ?_ _ | refine Q.drew ?_)))) G4 (by omega); have cM0 := M0.cell; have fM0 := M0.frozen; have lM0 := M0.lt; have D0 := Blk.keepG (g := g) (D0.q (by (repeat (first | assumption | exact Q.refl _ | refine Q.alloc ?_ _ | refine Q.drewN ?_ _ | refine Q.drew ?_)))) G4 (by omega); have cD0 := D0.cell; have fD0 := D0.frozen; have lD0 := D0.lt; obtain ⟨m4, rfl⟩ := Int.eq_ofNat_of_zero_le hr4.1; obtain ⟨v4, hv4, hvl4, hm4, hn4⟩ := pick4 70000 40000 8000 1000 hr4; (first | (have PP := (grown_box G4 (by omega)).cell) | (have PP := (grown_boxD G4 (by omega)).cell) | skip)))
      all_goals go_wp2_with fail
      all_goals go_meet
      all_goals exact ⟨_, rfl, HD, R0, M0, D0⟩
    case rest =>
      clear HD R0 M0 D0
      obtain ⟨tt, rfl, HD, R0, M0, D0⟩ := hcut
      have lR := R0.lt
      have lM := M0.lt
      have lD := D0.lt
      have hgB : g < w.heap.size + 2 := by omega
      have O0 : OwnL (wc.alloc (.cells #[] 81)) (w.heap.size + 2) 81 3 (.slice (some ⟨wc.heap.size, 0, none⟩) 0 0) [] := OwnL.new _ _ _ (by omega)
      go_wp2_with fail
      refine (spec_Next (w0 := w0) (A := A) (n := n) (c := c) _ (DrT.dr (ws := w) (by ((repeat (first | exact HD | refine DrT.alloc ?_ _ | refine DrT.drewN ?_ _ | refine DrT.drew ?_ | refine DrT.set ?_ (by first | omega | (simp; omega)) _))))) hn).mono ?_
      rintro e5 w5 ⟨r5, rfl, hr5, D5, G5⟩
      have HD := DrT.step (ws := w) (by ((repeat (first | exact HD | refine DrT.alloc ?_ _ | refine DrT.drewN ?_ _ | refine DrT.drew ?_ | refine DrT.set ?_ (by first | omega | (simp; omega)) _)))) D5 G5
      have z5 := HD.size
      replace R0 := Blk.keepG (g := g) (R0.q (by (repeat (first | assumption | exact Q.refl _ | refine Q.alloc ?_ _ | refine Q.drewN ?_ _ | refine Q.drew ?_)))) G5 (by omega)
      replace M0 := Blk.keepG (g := g) (M0.q (by (repeat (first | assumption | exact Q.refl _ | refine Q.alloc ?_ _ | refine Q.drewN ?_ _ | refine Q.drew ?_)))) G5 (by omega)
      replace D0 := Blk.keepG (g := g) (D0.q (by (repeat (first | assumption | exact Q.refl _ | refine Q.alloc ?_ _ | refine Q.drewN ?_ _ | refine Q.drew ?_)))) G5 (by omega)
      replace O0 := O0.keepD G5 hgB
      clear G5 D5
      go_wp2_with fail
      refine (spec_Next (w0 := w0) (A := A) (n := n) (c := c) _ (DrT.dr (ws := w) (by ((repeat (first | exact HD | refine DrT.alloc ?_ _ | refine DrT.drewN ?_ _ | refine DrT.drew ?_ | refine DrT.set ?_ (by first | omega | (simp; omega)) _))))) hn).mono ?_
      rintro e6 w6 ⟨r6, rfl, hr6, D6, G6⟩
      have HD := DrT.step (ws := w) (by ((repeat (first | exact HD | refine DrT.alloc ?_ _ | refine DrT.drewN ?_ _ | refine DrT.drew ?_ | refine DrT.set ?_ (by first | omega | (simp; omega)) _)))) D6 G6
      have z6 := HD.size
      replace R0 := Blk.keepG (g := g) (R0.q (by (repeat (first | assumption | exact Q.refl _ | refine Q.alloc ?_ _ | refine Q.drewN ?_ _ | refine Q.drew ?_)))) G6 (by omega)
      replace M0 := Blk.keepG (g := g) (M0.q (by (repeat (first | assumption | exact Q.refl _ | refine Q.alloc ?_ _ | refine Q.drewN ?_ _ | refine Q.drew ?_)))) G6 (by omega)
      replace D0 := Blk.keepG (g := g) (D0.q (by (repeat (first | assumption | exact Q.refl _ | refine Q.alloc ?_ _ | refine Q.drewN ?_ _ | refine Q.drew ?_)))) G6 (by omega)
      replace O0 := O0.keepD G6 hgB
      clear G6 D6
      go_wp2_with fail
      go_loopw [10, 11, 12, 13] (fun s v x i wr => ∃ (ss ac : Int) (k : Nat) (xs : List Int), s = .int .i64 ss ∧ x = .int .i64 ac ∧ i = .int .i64 k ∧ OwnL wr (w.heap.size + 2) 81 3 v xs ∧ (xs.length + k * 3 ≤ 15 ∧ 6 ≤ xs.length + k * 3) ∧ Blk wr bm 25 #[.int .i64 mx, .int .i64 my] ∧ Blk wr (bm + 1) 25 #[.int .i64 dx, .int .i64 dy] ∧ Blk wr (w.heap.size + 1) 30 #[.slice none 0 0] ∧ DrT w0 w wr g A n c) (fun _ _ _ i _ => (intOf i).toNat)
      case atStart =>
        obtain ⟨k, hk⟩ := Int.eq_ofNat_of_zero_le hr6.1
        exact ⟨tt, _, 2 + k, [], rfl, rfl, by rw [hk]; go_num, O0, by simp; omega, M0, D0, R0, HD⟩
      case round =>
        clear O0 M0 D0 R0 HD hr5 hr6 z5 z6 lR lM lD
        obtain ⟨ss, ac, k, xs, rfl, rfl, rfl, ⟨A1, m, d1, rfl, hown⟩, hlen, M0, D0, R0, HD⟩ := hrel
        have hmx := hown.len
        by_cases hk0 : 0 < k
        · have hkI : (0 : Int) < (k : Int) := by omega
          obtain ⟨j, rfl⟩ : ∃ j, k = j + 1 := ⟨k - 1, by omega⟩
          go_wp2_with fail
          refine (spec_Next (w0 := w0) (A := A) (n := n) (c := c) _ (DrT.dr (ws := w) (by ((repeat (first | exact HD | refine DrT.alloc ?_ _ | refine DrT.drewN ?_ _ | refine DrT.drew ?_ | refine DrT.set ?_ (by first | omega | (simp; omega)) _))))) hn).mono ?_
          rintro e7 w7 ⟨r7, rfl, hr7, D7, G7⟩
          have HD := DrT.step (ws := w) (by ((repeat (first | exact HD | refine DrT.alloc ?_ _ | refine DrT.drewN ?_ _ | refine DrT.drew ?_ | refine DrT.set ?_ (by first | omega | (simp; omega)) _)))) D7 G7
          have z7 := HD.size
          replace R0 := Blk.keepG (g := g) (R0.q (by (repeat (first | assumption | exact Q.refl _ | refine Q.alloc ?_ _ | refine Q.drewN ?_ _ | refine Q.drew ?_)))) G7 (by omega)
          replace M0 := Blk.keepG (g := g) (M0.q (by (repeat (first | assumption | exact Q.refl _ | refine Q.alloc ?_ _ | refine Q.drewN ?_ _ | refine Q.drew ?_)))) G7 (by omega)
          replace D0 := Blk.keepG (g := g) (D0.q (by (repeat (first | assumption | exact Q.refl _ | refine Q.alloc ?_ _ | refine Q.drewN ?_ _ | refine Q.drew ?_)))) G7 (by omega)
          replace hown := hown.keepD G7 hgB
          clear G7 D7
          go_upto_region 11 with (fail)
          have lM := M0.lt
          have lD := D0.lt
          have lR := R0.lt
          have z7 := HD.size
          have hN0 : (N == 0) = false := by simp; omega
          have hN1 : N ≠ 0 := by omega
          have hS : ∀ w', Q w7 w' → (w'.cell? ⟨bm, 0, none⟩ = some (.int .i64 mx) ∧ w'.cell? ⟨bm, 1, none⟩ = some (.int .i64 my) ∧ w'.cell? ⟨bm + 1, 0, none⟩ = some (.int .i64 dx) ∧ w'.cell? ⟨bm + 1, 1, none⟩ = some (.int .i64 dy)) := fun w' q => ⟨by simpa using (M0.q q).cell 0, by simpa using (M0.q q).cell 1, by simpa using (D0.q q).cell 0, by simpa using (D0.q q).cell 1⟩
          go_region_held3 (fun w' => w'.cell? ⟨bm, 0, none⟩ = some (.int .i64 mx) ∧ w'.cell? ⟨bm, 1, none⟩ = some (.int .i64 my) ∧ w'.cell? ⟨bm + 1, 0, none⟩ = some (.int .i64 dx) ∧ w'.cell? ⟨bm + 1, 1, none⟩ = some (.int .i64 dy)) (first | exact hC8 | exact hS _ (by ((repeat (first | assumption | exact Q.refl _ | refine Q.alloc ?_ _ | refine Q.drewN ?_ _ | refine Q.drew ?_)); done)) | (go_split_ands; exact hS _ (by ((repeat (first | assumption | exact Q.refl _ | refine Q.alloc ?_ _ | refine Q.drewN ?_ _ | refine Q.drew ?_)); done)))) (first | (refine stepKs elFix (by rfl) _ _ (by rfl) (by rfl) (hown.q (by ((repeat (first | assumption | exact Q.refl _ | refine Q.alloc ?_ _ | refine Q.drewN ?_ _ | refine Q.drew ?_)); done))) (by rfl) (lit_reads (by (repeat (first | exact blk_new1 _ _ rfl | refine Blk.q ?_ ((Q.refl _).alloc _) | refine Blk.q ?_ ((Q.refl _).drew))))) (by rfl) (by decide) (by omega) (by simp; omega) ?_; intro g8 c8 w8 hown8 hg8 hl8; have HD8 := DrT.markE (HD.q (by ((repeat (first | assumption | exact Q.refl _ | refine Q.alloc ?_ _ | refine Q.drewN ?_ _ | refine Q.drew ?_)); done))) (hown.q (by ((repeat (first | assumption | exact Q.refl _ | refine Q.alloc ?_ _ | refine Q.drewN ?_ _ | refine Q.drew ?_)); done))) (by omega) hg8; have M8 := Blk.markO (M0.q (by ((repeat (first | assumption | exact Q.refl _ | refine Q.alloc ?_ _ | refine Q.drewN ?_ _ | refine Q.drew ?_)); done))) (hown.q (by ((repeat (first | assumption | exact Q.refl _ | refine Q.alloc ?_ _ | refine Q.drewN ?_ _ | refine Q.drew ?_)); done))) (by decide) hg8; have D8 := Blk.markO (D0.q (by ((repeat (first | assumption | exact Q.refl _ | refine Q.alloc ?_ _ | refine Q.drewN ?_ _ | refine Q.drew ?_)); done))) (hown.q (by ((repeat (first | assumption | exact Q.refl _ | refine Q.alloc ?_ _ | refine Q.drewN ?_ _ | refine Q.drew ?_)); done))) (by decide) hg8; have R8 := Blk.markO (R0.q (by ((repeat (first | assumption | exact Q.refl _ | refine Q.alloc ?_ _ | refine Q.drewN ?_ _ | refine Q.drew ?_)); done))) (hown.q (by ((repeat (first | assumption | exact Q.refl _ | refine Q.alloc ?_ _ | refine Q.drewN ?_ _ | refine Q.drew ?_)); done))) (by decide) hg8; have hC8 : (w8.cell? ⟨bm, 0, none⟩ = some (.int .i64 mx) ∧ w8.cell? ⟨bm, 1, none⟩ = some (.int .i64 my) ∧ w8.cell? ⟨bm + 1, 0, none⟩ = some (.int .i64 dx) ∧ w8.cell? ⟨bm + 1, 1, none⟩ = some (.int .i64 dy)) := ⟨by simpa using M8.cell 0, by simpa using M8.cell 1, by simpa using D8.cell 0, by simpa using D8.cell 1⟩))
          clear HD M0 D0 R0 hown hS hC8 hg8
          have HD := HD8
          have M0 := M8
          have D0 := D8
          have R0 := R8
          have hown := hown8
          clear HD8 M8 D8 R8 hown8
          go_wp2_with fail
          refine (spec_Next (w0 := w0) (A := A) (n := n) (c := c) _ (DrT.dr (ws := w) (by ((repeat (first | exact HD | refine DrT.alloc ?_ _ | refine DrT.drewN ?_ _ | refine DrT.drew ?_ | refine DrT.set ?_ (by first | omega | (simp; omega)) _))))) hn).mono ?_
          rintro e10 w10 ⟨r10, rfl, hr10, D10, G10⟩
          have HD := DrT.step (ws := w) (by ((repeat (first | exact HD | refine DrT.alloc ?_ _ | refine DrT.drewN ?_ _ | refine DrT.drew ?_ | refine DrT.set ?_ (by first | omega | (simp; omega)) _)))) D10 G10
          have z10 := HD.size
          replace R0 := Blk.keepG (g := g) (R0.q (by (repeat (first | assumption | exact Q.refl _ | refine Q.alloc ?_ _ | refine Q.drewN ?_ _ | refine Q.drew ?_)))) G10 (by omega)
          replace M0 := Blk.keepG (g := g) (M0.q (by (repeat (first | assumption | exact Q.refl _ | refine Q.alloc ?_ _ | refine Q.drewN ?_ _ | refine Q.drew ?_)))) G10 (by omega)
          replace D0 := Blk.keepG (g := g) (D0.q (by (repeat (first | assumption | exact Q.refl _ | refine Q.alloc ?_ _ | refine Q.drewN ?_ _ | refine Q.drew ?_)))) G10 (by omega)
          replace hown := hown.keepD G10 hgB
          clear G10 D10
          go_wp2_with fail
          refine (spec_Next (w0 := w0) (A := A) (n := n) (c := c) _ (DrT.dr (ws := w) (by ((repeat (first | exact HD | refine DrT.alloc ?_ _ | refine DrT.drewN ?_ _ | refine DrT.drew ?_ | refine DrT.set ?_ (by first | omega | (simp; omega)) _))))) hn).mono ?_
          rintro e11 w11 ⟨r11, rfl, hr11, D11, G11⟩
          have HD := DrT.step (ws := w) (by ((repeat (first | exact HD | refine DrT.alloc ?_ _ | refine DrT.drewN ?_ _ | refine DrT.drew ?_ | refine DrT.set ?_ (by first | omega | (simp; omega)) _)))) D11 G11
          have z11 := HD.size
          replace R0 := Blk.keepG (g := g) (R0.q (by (repeat (first | assumption | exact Q.refl _ | refine Q.alloc ?_ _ | refine Q.drewN ?_ _ | refine Q.drew ?_)))) G11 (by omega)
          replace M0 := Blk.keepG (g := g) (M0.q (by (repeat (first | assumption | exact Q.refl _ | refine Q.alloc ?_ _ | refine Q.drewN ?_ _ | refine Q.drew ?_)))) G11 (by omega)
          replace D0 := Blk.keepG (g := g) (D0.q (by (repeat (first | assumption | exact Q.refl _ | refine Q.alloc ?_ _ | refine Q.drewN ?_ _ | refine Q.drew ?_)))) G11 (by omega)
          replace hown := hown.keepD G11 hgB
          clear G11 D11
          go_wp2_with fail
          go_roundw
          case rel => exact ⟨_, _, j, _, rfl, rfl, by go_num, ⟨_, _, _, rfl, hown⟩, ⟨by simp; omega, by simp; omega⟩, M0, D0, R0, HD⟩
          case measure => simp [intOf]
        · obtain rfl : k = 0 := by omega
          have cR := R0.cell
          have fR := R0.frozen
          have lR := R0.lt
          go_wp2_with fail
          have F := (R0.s1_0 (.slice A1 m d1)).cell
          refine bodyPost_ret (v := .agg #[.slice A1 m d1]) (by simp [results, Try.results33, go_sem, F]) rfl ⟨A1, m, d1, xs, rfl, (hown.setFar (Own.ne_blk hown R0 (by decide)) 0 _).mono (by omega), ⟨by omega, by omega⟩, ?_, ?_⟩
          · exact DrT.dr (ws := w) (by ((repeat (first | exact HD | refine DrT.alloc ?_ _ | refine DrT.drewN ?_ _ | refine DrT.drew ?_ | refine DrT.set ?_ (by first | omega | (simp; omega)) _))))
          · exact DrT.gr (w0 := w0) (g := g) (A := A) (n := n) (c := c) (by ((repeat (first | exact HD | refine DrT.alloc ?_ _ | refine DrT.drewN ?_ _ | refine DrT.drew ?_ | refine DrT.set ?_ (by first | omega | (simp; omega)) _))))
end Go.Proofs.Ytpdcehmnegagmaa
