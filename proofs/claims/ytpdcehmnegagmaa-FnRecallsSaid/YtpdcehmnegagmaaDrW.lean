/- Walks: the reference's draw of a line, a track and a time; the draw of the law on starts. No condition. -/
import Derived.Test.YtpdcehmnegagmaaDrG
import Derived.Test.YtpdcehmnegagmaaDrT
import Derived.Deep.RegionHeld3
namespace Go.Proofs.Ytpdcehmnegagmaa
open Go.RowKit Go.WideShapes Go.ChangeShapes
theorem Blk.fr4 {w : World} {g b : Nat} {T : TypeId} {cs : Array Value} (h : Blk w g T cs) (hp : g ≠ b) (y0 y1 y2 y3 : Value) : Blk ((((w.setCell ⟨b, 0, none⟩ y0).setCell ⟨b, 1, none⟩ y1).setCell ⟨b, 2, none⟩ y2).setCell ⟨b, 3, none⟩ y3) g T cs :=
  (((h.far (p := ⟨b, 0, none⟩) hp y0).far (p := ⟨b, 1, none⟩) hp y1).far (p := ⟨b, 2, none⟩) hp y2).far (p := ⟨b, 3, none⟩) hp y3
theorem Own.dw {w : World} {B : Nat} {e : TypeId} {k : Nat} {v : Value} {n : Nat} {xs : List Int} (h : Own w B e k v n xs) : Own w.drew B e k v n xs := h.q ((Q.refl _).drew)
theorem Own.al {w : World} {B : Nat} {e : TypeId} {k : Nat} {v : Value} {n : Nat} {xs : List Int} (h : Own w B e k v n xs) (o : Obj) : Own (w.alloc o) B e k v n xs := h.q ((Q.refl _).alloc _)
def DrawLT (w0 w : World) (g : Nat) (A : Option Addr) (n c : Nat) (e : Ending) (w' : World) : Prop := ∃ (x y z u : Int) (B : Option Addr) (m d : Nat) (xs : List Int) (t : Int), e = .returned (.tuple #[.agg #[.int .i64 x, .int .i64 y, .int .i64 z, .int .i64 u], .agg #[.slice B m d], .int .i64 t]) ∧ (ptM 1000001 x y ∧ ptM 1000001 z u) ∧ Own w' w.heap.size 81 3 (.slice B m d) m xs ∧ m ≤ 41 ∧ Dr w0 w' g A n c ∧ w.grownBy w' (some g)
set_option maxRecDepth 100000 in
set_option maxHeartbeats 16000000 in
theorem spec_l14Draw {w0 w : World} {g : Nat} {A : Option Addr} {n c : Nat} (h : Dr w0 w g A n c) (hn : n ≤ 140737488355327) : Calls Try.prog 19 #[.pointer (some ⟨g, 0, none⟩)] w (DrawLT w0 w g A n c) := by
  have HD := DrT.start h
  have hlt := HD.glt
  have RL : Blk ((w.alloc (.cells #[.int .i64 0, .int .i64 0, .int .i64 0, .int .i64 0] 27)).alloc (.cells #[.slice none 0 0] 30)) w.heap.size 27 #[.int .i64 0, .int .i64 0, .int .i64 0, .int .i64 0] := (Blk.new _ _ _).alloc _
  have RT : Blk ((w.alloc (.cells #[.int .i64 0, .int .i64 0, .int .i64 0, .int .i64 0] 27)).alloc (.cells #[.slice none 0 0] 30)) (w.heap.size + 1) 30 #[.slice none 0 0] := by simpa using Blk.new (w.alloc (.cells #[.int .i64 0, .int .i64 0, .int .i64 0, .int .i64 0] 27)) 30 #[.slice none 0 0]
  replace HD := (HD.alloc (.cells #[.int .i64 0, .int .i64 0, .int .i64 0, .int .i64 0] 27)).alloc (.cells #[.slice none 0 0] 30)
  go_enter Try.func19, Try.ntmps19
  go_wp2_with fail
  refine (spec_l04DrawLine (w0 := w0) (A := A) (n := n) (c := c) HD.dr hn).mono ?_
  rintro e1 w1 ⟨x, y, z, u, rfl, hp, D1, G1⟩
  replace HD := HD.step D1 G1
  replace RL := Blk.keepG RL G1 (by omega)
  replace RT := Blk.keepG RT G1 (by omega)
  have lT := RT.lt
  have BL := Blk.new w1 27 #[.int .i64 x, .int .i64 y, .int .i64 z, .int .i64 u]
  replace HD := HD.alloc (.cells #[.int .i64 x, .int .i64 y, .int .i64 z, .int .i64 u] 27)
  replace RL := RL.alloc (.cells #[.int .i64 x, .int .i64 y, .int .i64 z, .int .i64 u] 27)
  replace RT := RT.alloc (.cells #[.int .i64 x, .int .i64 y, .int .i64 z, .int .i64 u] 27)
  clear D1 G1 h
  go_wp2_with fail
  refine (spec_Next (w0 := w0) (A := A) (n := n) (c := c) _ HD.dr hn).mono ?_
  rintro e2 w2 ⟨r2, rfl, hr2, D2, G2⟩
  replace HD := HD.step D2 G2
  replace RL := Blk.keepG RL G2 (by omega)
  replace RT := Blk.keepG RT G2 (by omega)
  replace BL := Blk.keepG BL G2 (by omega)
  have cL := BL.cell
  clear D2 G2
  go_wp2_with fail
  obtain ⟨tm, htm⟩ : ∃ q : Int, q = 60000 + r2 := ⟨_, rfl⟩
  rw [← htm]
  clear htm hr2
  refine (spec_l14Track (w0 := w0) (A := A) (n := n) (c := c) x y z u _ hp.1 hp.2 HD.dr hn).mono ?_
  rintro e3 w3 ⟨B, m, d, xs, rfl, hown, hm, D3, G3⟩
  have z2 := HD.size
  replace hown := hown.mono z2
  replace HD := HD.step D3 G3
  replace RL := Blk.keepG RL G3 (by omega)
  replace RT := Blk.keepG RT G3 (by omega)
  replace BL := Blk.keepG BL G3 (by omega)
  have lL := BL.lt
  have BT := Blk.new w3 30 #[.slice B m d]
  replace HD := HD.alloc (.cells #[.slice B m d] 30)
  replace RL := RL.alloc (.cells #[.slice B m d] 30)
  replace RT := RT.alloc (.cells #[.slice B m d] 30)
  replace BL := BL.alloc (.cells #[.slice B m d] 30)
  replace hown := hown.q ((Q.refl _).alloc (.cells #[.slice B m d] 30))
  clear D3 G3 cL z2
  go_wp2_with fail
  refine (spec_Next (w0 := w0) (A := A) (n := n) (c := c) _ HD.dr hn).mono ?_
  rintro e4 w4 ⟨r4, rfl, hr4, D4, G4⟩
  replace HD := HD.step D4 G4
  have lB : w3.heap.size ≠ g := by have := HD.size; omega
  replace RL := Blk.keepG RL G4 (by omega)
  replace RT := Blk.keepG RT G4 (by omega)
  replace BL := Blk.keepG BL G4 (by omega)
  replace BT := Blk.keepG BT G4 lB
  have z4 := HD.size
  replace hown := hown.keepD G4 hlt
  clear D4 G4 lB
  have cL := BL.cell
  have cT := BT.cell
  have lL := BL.lt
  have lT := BT.lt
  have fRL := RL.frozen
  have fRT := RT.frozen
  have lRL := RL.lt
  have lRT := RT.lt
  have cRL := RL.cell
  have cRT := RT.cell
  have bL : w.heap.size < w1.heap.size ∧ w.heap.size + 1 < w1.heap.size := by omega
  by_cases h0 : r4 = 0
  · subst h0
    clear hr4
    go_wp2_with fail
    go_region_with (go_at_call 34; refine (spec_l03DrawAny (w0 := w0) (A := A) (n := n) (c := c) (DrT.dr (ws := w) (by ((repeat (first | exact HD | refine DrT.alloc ?_ _ | refine DrT.drewN ?_ _ | refine DrT.drew ?_ | refine DrT.set ?_ (by first | omega | (simp; omega)) _))))) hn).mono ?_; rintro e5 w5 ⟨B5, m5, d5, xs5, rfl, hown5, hm5, D5, G5⟩; have HD := DrT.step (ws := w) (by ((repeat (first | exact HD | refine DrT.alloc ?_ _ | refine DrT.drewN ?_ _ | refine DrT.drew ?_ | refine DrT.set ?_ (by first | omega | (simp; omega)) _)))) D5 G5; have z5 := HD.size; have RL := Blk.keepG (g := g) (RL.q (by (repeat (first | assumption | exact Q.refl _ | refine Q.alloc ?_ _ | refine Q.drewN ?_ _ | refine Q.drew ?_)))) G5 (by omega); have RT := Blk.keepG (g := g) (RT.q (by (repeat (first | assumption | exact Q.refl _ | refine Q.alloc ?_ _ | refine Q.drewN ?_ _ | refine Q.drew ?_)))) G5 (by omega); have BL := Blk.keepG (g := g) (BL.q (by (repeat (first | assumption | exact Q.refl _ | refine Q.alloc ?_ _ | refine Q.drewN ?_ _ | refine Q.drew ?_)))) G5 (by omega); have fRL := RL.frozen; have fRT := RT.frozen; have lRL := RL.lt; have lRT := RT.lt; have cRL := RL.cell; have cRT := RT.cell; have cL := BL.cell; have lL := BL.lt)
    all_goals go_wp2_with fail
    all_goals
      have nA := Own.ne_blk hown5 RL (by decide)
      have nB := Own.ne_blk hown5 RT (by decide)
      have O5 := ((((hown5.setFar nA 0 (.int .i64 x)).setFar nA 1 (.int .i64 y)).setFar nA 2 (.int .i64 z)).setFar nA 3 (.int .i64 u)).setFar nB 0 (.slice B5 m5 d5)
      have F1 := ((RL.st4 (.int .i64 x) (.int .i64 y) (.int .i64 z) (.int .i64 u)).far (p := ⟨w.heap.size + 1, 0, none⟩) (by simp) (.slice B5 m5 d5)).cell
      have F2 := ((RT.fr4 (b := w.heap.size) (by simp) (.int .i64 x) (.int .i64 y) (.int .i64 z) (.int .i64 u)).s1_0 (.slice B5 m5 d5)).cell
      refine bodyPost_ret (v := .tuple #[.agg #[.int .i64 x, .int .i64 y, .int .i64 z, .int .i64 u], .agg #[.slice B5 m5 d5], .int .i64 tm]) (by simp [results, Try.results19, go_sem, F1, F2]) rfl ⟨x, y, z, u, B5, m5, d5, xs5, tm, rfl, hp, ?_, by omega, ?_, ?_⟩
      · exact Own.mono (by first | with_reducible exact O5 | with_reducible exact Own.dw O5 | with_reducible exact Own.al O5 _ | with_reducible exact Own.dw (Own.al O5 _) | with_reducible exact Own.al (Own.dw O5) _) (by simp; omega)
      · exact DrT.dr (ws := w) (by (repeat (first | with_reducible exact HD | with_reducible refine DrT.alloc ?_ _ | with_reducible refine DrT.drew ?_ | with_reducible refine DrT.set ?_ (by first | omega | (simp; omega)) _)))
      · exact DrT.gr (w0 := w0) (g := g) (A := A) (n := n) (c := c) (by (repeat (first | with_reducible exact HD | with_reducible refine DrT.alloc ?_ _ | with_reducible refine DrT.drew ?_ | with_reducible refine DrT.set ?_ (by first | omega | (simp; omega)) _)))
  · have b0 : (r4 == 0) = false := by simpa using h0
    by_cases h1 : r4 = 1
    · subst h1
      clear hr4 h0
      go_wp2_with fail
      go_region_with (fail)
      all_goals go_wp2_with fail
      all_goals
        have nA := Own.ne_blk hown RL (by decide)
        have nB := Own.ne_blk hown RT (by decide)
        have O5 := ((((hown.setFar nA 0 (.int .i64 0)).setFar nA 1 (.int .i64 0)).setFar nA 2 (.int .i64 0)).setFar nA 3 (.int .i64 0)).setFar nB 0 (.slice B m d)
        have F1 := ((RL.st4 (.int .i64 0) (.int .i64 0) (.int .i64 0) (.int .i64 0)).far (p := ⟨w.heap.size + 1, 0, none⟩) (by simp) (.slice B m d)).cell
        have F2 := ((RT.fr4 (b := w.heap.size) (by simp) (.int .i64 0) (.int .i64 0) (.int .i64 0) (.int .i64 0)).s1_0 (.slice B m d)).cell
        refine bodyPost_ret (v := .tuple #[.agg #[.int .i64 0, .int .i64 0, .int .i64 0, .int .i64 0], .agg #[.slice B m d], .int .i64 tm]) (by simp [results, Try.results19, go_sem, F1, F2]) rfl ⟨0, 0, 0, 0, B, m, d, xs, tm, rfl, ⟨⟨by omega, by omega⟩, by omega, by omega⟩, ?_, by omega, ?_, ?_⟩
        · exact (by first | with_reducible exact O5 | with_reducible exact Own.dw O5 | with_reducible exact Own.al O5 _ | with_reducible exact Own.dw (Own.al O5 _) | with_reducible exact Own.al (Own.dw O5) _)
        · exact DrT.dr (ws := w) (by (repeat (first | with_reducible exact HD | with_reducible refine DrT.alloc ?_ _ | with_reducible refine DrT.drew ?_ | with_reducible refine DrT.set ?_ (by first | omega | (simp; omega)) _)))
        · exact DrT.gr (w0 := w0) (g := g) (A := A) (n := n) (c := c) (by (repeat (first | with_reducible exact HD | with_reducible refine DrT.alloc ?_ _ | with_reducible refine DrT.drew ?_ | with_reducible refine DrT.set ?_ (by first | omega | (simp; omega)) _)))
    · have b1 : (r4 == 1) = false := by simpa using h1
      by_cases h2 : r4 = 2
      · subst h2
        clear hr4 h0 h1
        go_wp2_with fail
        go_region_with ((go_at_call 20; refine (spec_Next (w0 := w0) (A := A) (n := n) (c := c) _ (DrT.dr (ws := w) (by ((repeat (first | exact HD | refine DrT.alloc ?_ _ | refine DrT.drewN ?_ _ | refine DrT.drew ?_ | refine DrT.set ?_ (by first | omega | (simp; omega)) _))))) hn).mono ?_; rintro e5 w5 ⟨r5, rfl, hr5, D5, G5⟩; have HD := DrT.step (ws := w) (by ((repeat (first | exact HD | refine DrT.alloc ?_ _ | refine DrT.drewN ?_ _ | refine DrT.drew ?_ | refine DrT.set ?_ (by first | omega | (simp; omega)) _)))) D5 G5; have z5 := HD.size; have RL := Blk.keepG (g := g) (RL.q (by (repeat (first | assumption | exact Q.refl _ | refine Q.alloc ?_ _ | refine Q.drewN ?_ _ | refine Q.drew ?_)))) G5 (by omega); have cRL := RL.cell; have fRL := RL.frozen; have lRL := RL.lt; have RT := Blk.keepG (g := g) (RT.q (by (repeat (first | assumption | exact Q.refl _ | refine Q.alloc ?_ _ | refine Q.drewN ?_ _ | refine Q.drew ?_)))) G5 (by omega); have cRT := RT.cell; have fRT := RT.frozen; have lRT := RT.lt; have BL := Blk.keepG (g := g) (BL.q (by (repeat (first | assumption | exact Q.refl _ | refine Q.alloc ?_ _ | refine Q.drewN ?_ _ | refine Q.drew ?_)))) G5 (by omega); have cBL := BL.cell; have fBL := BL.frozen; have lBL := BL.lt; have BT := Blk.keepG (g := g) (BT.q (by (repeat (first | assumption | exact Q.refl _ | refine Q.alloc ?_ _ | refine Q.drewN ?_ _ | refine Q.drew ?_)))) G5 (by omega); have cBT := BT.cell; have fBT := BT.frozen; have lBT := BT.lt; obtain ⟨m5, rfl⟩ := Int.eq_ofNat_of_zero_le hr5.1; obtain ⟨v5, hv5, hvl5, hm5, hn5⟩ := pick4 (-1) 0 1000000000 1000000001 hr5; (first | (have PP := (grown_box G5 (by omega)).cell) | (have PP := (grown_boxD G5 (by omega)).cell) | skip)); have hown := (hown.q (by (repeat (first | assumption | exact Q.refl _ | refine Q.alloc ?_ _ | refine Q.drewN ?_ _ | refine Q.drew ?_)))).keepD G5 hlt; have lq : w.heap.size ≤ w5.heap.size := z5; clear hr5 G5 D5)
        all_goals go_wp2_with fail
        all_goals
          have nA := Own.ne_blk hown RL (by decide)
          have nB := Own.ne_blk hown RT (by decide)
          have O5 := ((((hown.setFar nA 0 (.int .i64 x)).setFar nA 1 (.int .i64 y)).setFar nA 2 (.int .i64 z)).setFar nA 3 (.int .i64 u)).setFar nB 0 (.slice B m d)
          have F1 := ((RL.st4 (.int .i64 x) (.int .i64 y) (.int .i64 z) (.int .i64 u)).far (p := ⟨w.heap.size + 1, 0, none⟩) (by simp) (.slice B m d)).cell
          have F2 := ((RT.fr4 (b := w.heap.size) (by simp) (.int .i64 x) (.int .i64 y) (.int .i64 z) (.int .i64 u)).s1_0 (.slice B m d)).cell
          refine bodyPost_ret (v := .tuple #[.agg #[.int .i64 x, .int .i64 y, .int .i64 z, .int .i64 u], .agg #[.slice B m d], .int .i64 v5]) (by simp [results, Try.results19, go_sem, F1, F2, lRL, lRT]) rfl ⟨x, y, z, u, B, m, d, xs, v5, rfl, hp, ?_, by omega, ?_, ?_⟩
          · exact (by first | with_reducible exact O5 | with_reducible exact Own.dw O5 | with_reducible exact Own.al O5 _ | with_reducible exact Own.dw (Own.al O5 _) | with_reducible exact Own.al (Own.dw O5) _)
          · exact DrT.dr (ws := w) (by (repeat (first | with_reducible exact HD | with_reducible refine DrT.alloc ?_ _ | with_reducible refine DrT.drew ?_ | with_reducible refine DrT.set ?_ (by first | omega | (simp; omega)) _)))
          · exact DrT.gr (w0 := w0) (g := g) (A := A) (n := n) (c := c) (by (repeat (first | with_reducible exact HD | with_reducible refine DrT.alloc ?_ _ | with_reducible refine DrT.drew ?_ | with_reducible refine DrT.set ?_ (by first | omega | (simp; omega)) _)))
      · have b2 : (r4 == 2) = false := by simpa using h2
        clear hr4 h0 h1 h2
        go_wp2_with fail
        go_region_with (fail)
        all_goals go_wp2_with fail
        all_goals
          have nA := Own.ne_blk hown RL (by decide)
          have nB := Own.ne_blk hown RT (by decide)
          have O5 := ((((hown.setFar nA 0 (.int .i64 x)).setFar nA 1 (.int .i64 y)).setFar nA 2 (.int .i64 z)).setFar nA 3 (.int .i64 u)).setFar nB 0 (.slice B m d)
          have F1 := ((RL.st4 (.int .i64 x) (.int .i64 y) (.int .i64 z) (.int .i64 u)).far (p := ⟨w.heap.size + 1, 0, none⟩) (by simp) (.slice B m d)).cell
          have F2 := ((RT.fr4 (b := w.heap.size) (by simp) (.int .i64 x) (.int .i64 y) (.int .i64 z) (.int .i64 u)).s1_0 (.slice B m d)).cell
          refine bodyPost_ret (v := .tuple #[.agg #[.int .i64 x, .int .i64 y, .int .i64 z, .int .i64 u], .agg #[.slice B m d], .int .i64 tm]) (by simp [results, Try.results19, go_sem, F1, F2]) rfl ⟨x, y, z, u, B, m, d, xs, tm, rfl, hp, ?_, by omega, ?_, ?_⟩
          · exact (by first | with_reducible exact O5 | with_reducible exact Own.dw O5 | with_reducible exact Own.al O5 _ | with_reducible exact Own.dw (Own.al O5 _) | with_reducible exact Own.al (Own.dw O5) _)
          · exact DrT.dr (ws := w) (by (repeat (first | with_reducible exact HD | with_reducible refine DrT.alloc ?_ _ | with_reducible refine DrT.drew ?_ | with_reducible refine DrT.set ?_ (by first | omega | (simp; omega)) _)))
          · exact DrT.gr (w0 := w0) (g := g) (A := A) (n := n) (c := c) (by (repeat (first | with_reducible exact HD | with_reducible refine DrT.alloc ?_ _ | with_reducible refine DrT.drew ?_ | with_reducible refine DrT.set ?_ (by first | omega | (simp; omega)) _)))
end Go.Proofs.Ytpdcehmnegagmaa
