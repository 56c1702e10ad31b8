/- Walks: the reference's draws of tracks. No condition. -/
import Derived.Test.YtkpdoikjfibflaaGreatDoorDrP
import Derived.Test.YtkpdoikjfibflaaGreatDoorDrK
import Derived.Test.YtkpdoikjfibflaaGreatDoorTrk
namespace Go.Proofs.YtkpdoikjfibflaaGreatDoor
open Go.RowKit Go.WideShapes Go.ChangeShapes
/-- A track of its own was drawn. -/
def DrawTk (lo hi : Nat) (w0 w : World) (g : Nat) (A : Option Addr) (n c : Nat) (e : Ending) (w' : World) : Prop := ∃ (B : Option Addr) (m d : Nat) (xs : List Int), e = .returned (.agg #[.slice B m d]) ∧ Own w' w.heap.size 69 3 (.slice B m d) m xs ∧ (lo ≤ m ∧ m ≤ hi) ∧ Dr w0 w' g A n c ∧ w.grownBy w' (some g)
def Pt2 (w : World) (b : Nat) : Prop := ∃ x y : Int, Blk w b 78 #[.int .i64 x, .int .i64 y]
theorem Blk.s1_0 {w : World} {b : Nat} {T : TypeId} {x : Value} (h : Blk w b T #[x]) (v : Value) : Blk (w.setCell ⟨b, 0, none⟩ v) b T #[v] := by simpa using h.set_ 0 v
theorem Blk.s2_0 {w : World} {b : Nat} {T : TypeId} {x y : Value} (h : Blk w b T #[x, y]) (v : Value) : Blk (w.setCell ⟨b, 0, none⟩ v) b T #[v, y] := by simpa using h.set_ 0 v
theorem Blk.s2_1 {w : World} {b : Nat} {T : TypeId} {x y : Value} (h : Blk w b T #[x, y]) (v : Value) : Blk (w.setCell ⟨b, 1, none⟩ v) b T #[x, v] := by simpa using h.set_ 1 v
set_option maxRecDepth 100000 in
set_option maxHeartbeats 16000000 in
theorem spec_l03DrawFrom {w0 w : World} {g : Nat} {A : Option Addr} {n c : Nat} (t : Int) (h : Dr w0 w g A n c) (hn : n ≤ 140737488355327) : Calls Tryz.prog 51 #[.pointer (some ⟨g, 0, none⟩), .int .i64 t] w (DrawTk 2 8 w0 w g A n c) := by
  have HD := DrT.start h
  have hlt := HD.glt
  have R0 := Blk.new w 37 #[.slice none 0 0]
  go_enter Tryz.func51, Tryz.ntmps51
  go_wp2_with fail
  refine (spec_l01DrawPoint (w0 := w0) (A := A) (n := n) (c := c) (DrT.dr (ws := w) (by ((repeat (first | exact HD | refine DrT.alloc ?_ _ | refine DrT.drewN ?_ _ | refine DrT.drew ?_ | refine DrT.set ?_ (by first | omega | (simp; omega)) _))))) hn).mono ?_
  rintro e1 w1 ⟨x1, y1, rfl, hp1, D1, G1⟩
  replace HD := DrT.step (ws := w) (by ((repeat (first | exact HD | refine DrT.alloc ?_ _ | refine DrT.drewN ?_ _ | refine DrT.drew ?_ | refine DrT.set ?_ (by first | omega | (simp; omega)) _)))) D1 G1
  have z1 := HD.size
  replace R0 := Blk.keepG (g := g) (R0.q (by (repeat (first | assumption | exact Q.refl _ | refine Q.alloc ?_ _ | refine Q.drewN ?_ _ | refine Q.drew ?_)))) G1 (by omega)
  have lR := R0.lt
  have P := (Blk.new w1 78 #[.int .i64 x1, .int .i64 y1]).alloc (.cells #[] 69)
  have O0 : OwnL ((w1.alloc (.cells #[.int .i64 x1, .int .i64 y1] 78)).alloc (.cells #[] 69)) (w.heap.size + 1) 69 3 (.slice (some ⟨(w1.alloc (.cells #[.int .i64 x1, .int .i64 y1] 78)).heap.size, 0, none⟩) 0 0) [] := OwnL.new _ _ _ (by simp; omega)
  rw [show (w1.alloc (.cells #[.int .i64 x1, .int .i64 y1] 78)).heap.size = w1.heap.size + 1 by simp] at O0
  replace HD := (HD.alloc (.cells #[.int .i64 x1, .int .i64 y1] 78)).alloc (.cells #[] 69)
  replace R0 := (R0.alloc (.cells #[.int .i64 x1, .int .i64 y1] 78)).alloc (.cells #[] 69)
  have hb : w.heap.size + 1 ≤ w1.heap.size := lR
  clear D1 G1 hp1
  go_upto_region 3 with (fail)
  generalize hwb : (w1.alloc (.cells #[.int .i64 x1, .int .i64 y1] 78)).alloc (.cells #[] 69) = wb at *
  clear hwb
  have hbg : w1.heap.size ≠ g := by omega
  have hgb : g < w.heap.size + 1 := by omega
  have zb := HD.size
  go_wp2_with ((go_at_call 14; refine (spec_Next (w0 := w0) (A := A) (n := n) (c := c) _ (DrT.dr (ws := w) (by ((repeat (first | exact HD | refine DrT.alloc ?_ _ | refine DrT.drewN ?_ _ | refine DrT.drew ?_ | refine DrT.set ?_ (by first | omega | (simp; omega)) _))))) hn).mono ?_; rintro e2 w2 ⟨r2, rfl, hr2, D2, G2⟩; have HD := DrT.step (ws := w) (by ((repeat (first | exact HD | refine DrT.alloc ?_ _ | refine DrT.drewN ?_ _ | refine DrT.drew ?_ | refine DrT.set ?_ (by first | omega | (simp; omega)) _)))) D2 G2; have z2 := HD.size; obtain ⟨m2, rfl⟩ := Int.eq_ofNat_of_zero_le hr2.1; obtain ⟨v2, hv2, hvl2, hm2, hn2⟩ := pick3 9 61 301 hr2; (first | (have PP := (grown_box G2 (by omega)).cell) | (have PP := (grown_boxD G2 (by omega)).cell) | skip)); have O2 := (O0.q (by (repeat (first | assumption | exact Q.refl _ | refine Q.alloc ?_ _ | refine Q.drewN ?_ _ | refine Q.drew ?_)))).keepD G2 hgb; have P := Blk.keepG (P.q (by (repeat (first | assumption | exact Q.refl _ | refine Q.alloc ?_ _ | refine Q.drewN ?_ _ | refine Q.drew ?_)))) G2 hbg; have R0 := Blk.keepG (R0.q (by (repeat (first | assumption | exact Q.refl _ | refine Q.alloc ?_ _ | refine Q.drewN ?_ _ | refine Q.drew ?_)))) G2 (by omega))
  refine (spec_Next (w0 := w0) (A := A) (n := n) (c := c) _ (DrT.dr (ws := w) (by ((repeat (first | exact HD | refine DrT.alloc ?_ _ | refine DrT.drewN ?_ _ | refine DrT.drew ?_ | refine DrT.set ?_ (by first | omega | (simp; omega)) _))))) hn).mono ?_
  rintro e3 w3 ⟨r3, rfl, hr3, D3, G3⟩
  have HD := DrT.step (ws := w) (by ((repeat (first | exact HD | refine DrT.alloc ?_ _ | refine DrT.drewN ?_ _ | refine DrT.drew ?_ | refine DrT.set ?_ (by first | omega | (simp; omega)) _)))) D3 G3
  have z3 := HD.size
  replace O2 := O2.keepD G3 hgb
  replace P := Blk.keepG P G3 hbg
  replace R0 := Blk.keepG R0 G3 (by omega)
  clear O0
  go_wp2_with fail
  go_loopw [1, 6, 8] (fun t v i wr => ∃ (tt : Int) (k : Nat) (xs : List Int), t = .int .i64 tt ∧ i = .int .i64 k ∧ OwnL wr (w.heap.size + 1) 69 3 v xs ∧ (xs.length + k * 3 ≤ 24 ∧ 6 ≤ xs.length + k * 3) ∧ Pt2 wr w1.heap.size ∧ Blk wr w.heap.size 37 #[.slice none 0 0] ∧ DrT w0 w wr g A n c) (fun _ _ i _ => (intOf i).toNat)
  case atStart =>
    obtain ⟨k, hk⟩ := Int.eq_ofNat_of_zero_le hr3.1
    exact ⟨t, 2 + k, [], rfl, by rw [hk]; go_num, O2, by simp; omega, ⟨_, _, P⟩, R0, HD⟩
  case round =>
    clear O2 P R0 HD D3 G3 hr3 z3 D2 G2
    obtain ⟨tt, k, xs, rfl, rfl, ⟨A1, m, d1, rfl, hown⟩, hlen, ⟨px, py, P⟩, R0, HD⟩ := hrel
    have hmx := hown.len
    have hsz := HD.size
    have lR := R0.lt
    by_cases hk0 : 0 < k
    · have hkI : (0 : Int) < (k : Int) := by omega
      obtain ⟨j, rfl⟩ : ∃ j, k = j + 1 := ⟨k - 1, by omega⟩
      have cP := P.cell
      have lP := P.lt
      go_wp2_with (at_builtin; refine appK elFix rfl _ _ rfl [tt, px, py] rfl hown rfl (by simp) rfl _ _ rfl (by omega) (by omega) ?_; intro A' c' w' hown' hg' hgr'; replace HD := DrT.markE HD hown (by omega) hg'; replace P := Blk.markO P hown (by decide) hg'; replace R0 := Blk.markO R0 hown (by decide) hg')
      refine (spec_Next (w0 := w0) (A := A) (n := n) (c := c) _ (DrT.dr (ws := w) (by ((repeat (first | exact HD | refine DrT.alloc ?_ _ | refine DrT.drewN ?_ _ | refine DrT.drew ?_ | refine DrT.set ?_ (by first | omega | (simp; omega)) _))))) hn).mono ?_
      rintro e4 w4 ⟨r4, rfl, hr4, D4, G4⟩
      have HD := DrT.step (ws := w) (by ((repeat (first | exact HD | refine DrT.alloc ?_ _ | refine DrT.drewN ?_ _ | refine DrT.drew ?_ | refine DrT.set ?_ (by first | omega | (simp; omega)) _)))) D4 G4
      have z4 := HD.size
      replace hown' := hown'.keepD G4 hgb
      replace P := Blk.keepG P G4 hbg
      replace R0 := Blk.keepG R0 G4 (by omega)
      go_upto_region 9 with (fail)
      go_cut [] from 20 to 61 (fun wc => Pt2 wc w1.heap.size ∧ Own wc (w.heap.size + 1) 69 3 (.slice A' (m + 1) c') (m + 1) (xs ++ [tt, px, py]) ∧ Blk wc w.heap.size 37 #[.slice none 0 0] ∧ DrT w0 w wc g A n c)
      case first =>
        have cP := P.cell
        have fP := P.frozen
        have lP := P.lt
        have hsz := HD.size
        go_region_with ((go_at_call 14; refine (spec_Next (w0 := w0) (A := A) (n := n) (c := c) _ (DrT.dr (ws := w) (by ((repeat (first | exact HD | refine DrT.alloc ?_ _ | refine DrT.drewN ?_ _ | refine DrT.drew ?_ | refine DrT.set ?_ (by first | omega | (simp; omega)) _))))) hn).mono ?_; rintro e5 w5 ⟨r5, rfl, hr5, D5, G5⟩; have HD := DrT.step (ws := w) (by ((repeat (first | exact HD | refine DrT.alloc ?_ _ | refine DrT.drewN ?_ _ | refine DrT.drew ?_ | refine DrT.set ?_ (by first | omega | (simp; omega)) _)))) D5 G5; have z5 := HD.size; have P := Blk.keepG (g := g) (P.q (by (repeat (first | assumption | exact Q.refl _ | refine Q.alloc ?_ _ | refine Q.drewN ?_ _ | refine Q.drew ?_)))) G5 (by omega); have cP := P.cell; have fP := P.frozen; have lP := P.lt; have R0 := Blk.keepG (g := g) (R0.q (by (repeat (first | assumption | exact Q.refl _ | refine Q.alloc ?_ _ | refine Q.drewN ?_ _ | refine Q.drew ?_)))) G5 (by omega); have cR0 := R0.cell; have fR0 := R0.frozen; have lR0 := R0.lt); have hown' := (hown'.q (by (repeat (first | assumption | exact Q.refl _ | refine Q.alloc ?_ _ | refine Q.drewN ?_ _ | refine Q.drew ?_)))).keepD G5 hgb)
        all_goals go_wp2_with fail
        all_goals go_meet
        all_goals exact ⟨⟨_, _, (P.s2_0 _).q (by (repeat (first | assumption | exact Q.refl _ | refine Q.alloc ?_ _ | refine Q.drewN ?_ _ | refine Q.drew ?_)))⟩, (hown'.setFar (Own.ne_blk hown' P (by decide)) 0 _).q (by (repeat (first | assumption | exact Q.refl _ | refine Q.alloc ?_ _ | refine Q.drewN ?_ _ | refine Q.drew ?_))), (R0.far (p := ⟨w1.heap.size, 0, none⟩) (by simp only; omega) _).q (by (repeat (first | assumption | exact Q.refl _ | refine Q.alloc ?_ _ | refine Q.drewN ?_ _ | refine Q.drew ?_))), (HD.set (b := w1.heap.size) (i := 0) (by omega) _).q (by (repeat (first | assumption | exact Q.refl _ | refine Q.alloc ?_ _ | refine Q.drewN ?_ _ | refine Q.drew ?_)))⟩
      case rest =>
        clear P hown' R0 HD D4 G4 hr4
        obtain ⟨⟨px', py', P⟩, hown', R0, HD⟩ := hcut
        go_upto_region 10 with (fail)
        have cP := P.cell
        have fP := P.frozen
        have lP := P.lt
        have hsz := HD.size
        go_region_with ((go_at_call 14; refine (spec_Next (w0 := w0) (A := A) (n := n) (c := c) _ (DrT.dr (ws := w) (by ((repeat (first | exact HD | refine DrT.alloc ?_ _ | refine DrT.drewN ?_ _ | refine DrT.drew ?_ | refine DrT.set ?_ (by first | omega | (simp; omega)) _))))) hn).mono ?_; rintro e6 w6 ⟨r6, rfl, hr6, D6, G6⟩; have HD := DrT.step (ws := w) (by ((repeat (first | exact HD | refine DrT.alloc ?_ _ | refine DrT.drewN ?_ _ | refine DrT.drew ?_ | refine DrT.set ?_ (by first | omega | (simp; omega)) _)))) D6 G6; have z6 := HD.size; have P := Blk.keepG (g := g) (P.q (by (repeat (first | assumption | exact Q.refl _ | refine Q.alloc ?_ _ | refine Q.drewN ?_ _ | refine Q.drew ?_)))) G6 (by omega); have cP := P.cell; have fP := P.frozen; have lP := P.lt; have R0 := Blk.keepG (g := g) (R0.q (by (repeat (first | assumption | exact Q.refl _ | refine Q.alloc ?_ _ | refine Q.drewN ?_ _ | refine Q.drew ?_)))) G6 (by omega); have cR0 := R0.cell; have fR0 := R0.frozen; have lR0 := R0.lt); have hown' := (hown'.q (by (repeat (first | assumption | exact Q.refl _ | refine Q.alloc ?_ _ | refine Q.drewN ?_ _ | refine Q.drew ?_)))).keepD G6 hgb)
        all_goals go_wp2_with fail
        all_goals
          go_roundw
          case rel => exact ⟨_, j, _, rfl, by go_num, ⟨_, _, _, rfl, (hown'.setFar (Own.ne_blk hown' P (by decide)) 1 _).q (by (repeat (first | assumption | exact Q.refl _ | refine Q.alloc ?_ _ | refine Q.drewN ?_ _ | refine Q.drew ?_)))⟩, ⟨by simp; omega, by simp; omega⟩, ⟨_, _, (P.s2_1 _).q (by (repeat (first | assumption | exact Q.refl _ | refine Q.alloc ?_ _ | refine Q.drewN ?_ _ | refine Q.drew ?_)))⟩, (R0.far (p := ⟨w1.heap.size, 1, none⟩) (by simp only; omega) _).q (by (repeat (first | assumption | exact Q.refl _ | refine Q.alloc ?_ _ | refine Q.drewN ?_ _ | refine Q.drew ?_))), (HD.set (b := w1.heap.size) (i := 1) (by omega) _).q (by (repeat (first | assumption | exact Q.refl _ | refine Q.alloc ?_ _ | refine Q.drewN ?_ _ | refine Q.drew ?_)))⟩
          case measure => simp [intOf]
    · obtain rfl : k = 0 := by omega
      have cR := R0.cell
      have fR := R0.frozen
      go_wp2_with fail
      have F := (R0.s1_0 (.slice A1 m d1)).cell
      refine bodyPost_ret (v := .agg #[.slice A1 m d1]) (by simp [results, Tryz.results51, go_sem, F]) rfl ⟨A1, m, d1, xs, rfl, (hown.setFar (Own.ne_blk hown R0 (by decide)) 0 _).mono (by omega), by omega, ?_, ?_⟩
      · exact DrT.dr (ws := w) (by ((repeat (first | exact HD | refine DrT.alloc ?_ _ | refine DrT.drewN ?_ _ | refine DrT.drew ?_ | refine DrT.set ?_ (by first | omega | (simp; omega)) _))))
      · exact DrT.gr (w0 := w0) (g := g) (A := A) (n := n) (c := c) (by ((repeat (first | exact HD | refine DrT.alloc ?_ _ | refine DrT.drewN ?_ _ | refine DrT.drew ?_ | refine DrT.set ?_ (by first | omega | (simp; omega)) _))))
end Go.Proofs.YtkpdoikjfibflaaGreatDoor
