/- Walks: the reference's draw of a course, a track and a time. No condition. -/
import Derived.Test.YteofhfefbphjdaaGreatDoorDr4
import Derived.Test.YteofhfefbphjdaaGreatDoorDr6
import Derived.Test.YteofhfefbphjdaaGreatDoorCrsS
namespace Go.Proofs.YteofhfefbphjdaaGreatDoor
open Go.RowKit Go.WideShapes Go.ChangeShapes
theorem step_storeL {wr : World} {ops : Array Oper} {o : Oper} {a : Act} {K : Act → World → Prop} {R : Exit → Act → World → Prop} {E0 : Prop} (hgd : o.guard = none) (ty : TypeId) (x y : Operand) (ho : o.op = .store ty x y)
    (b : Nat) (vs : List Value) (hx : a.eval x = .pointer (some ⟨b, 0, none⟩)) (hy : a.eval y = .agg vs.toArray)
    (ht : wr.there b 0 vs.length) (hi : (Tryz.prog.info? ty).map (·.size) = some vs.length) (h1 : vs.all (·.oneCell') = true)
    (h : K (a.put o.dst undef) (wr.setCells b 0 vs)) : if Region.wanted o (yielded ops a.tmps) = true then Oper.wp Tryz.prog o a wr K R else E0 :=
  step_store hgd ty x y ho b vs.toArray hx hy (by simpa using ht) (by simpa using hi) (by simpa using h1) (by simpa using h)
theorem Q.setAll {a w : World} {b : Nat} (h : Q a w) (hb : a.heap.size ≤ b) (o : Nat) (vs : List Value) : Q a (w.setCells b o vs) := by
  induction vs generalizing o w with
  | nil => exact h
  | cons v vs ih =>
    rw [World.setCells]
    exact ih (h.setCell (p := ⟨b, o, none⟩) hb v) (o + 1)
theorem lnV_B {a b c d : Int} (h : lnV a b c d) : lnB a b c d = true := by
  obtain ⟨⟨h1, h2⟩, h3⟩ := h
  unfold lnB
  rw [ptB_of h1.1 h1.2, ptB_of h2.1 h2.2]
  simp only [Bool.true_and, Bool.not_eq_true', Bool.and_eq_false_iff, decide_eq_false_iff_not]
  by_cases he : a = c
  · exact .inr fun e => h3 ⟨he, e⟩
  · exact .inl he
theorem Blk.all1 {w : World} {b : Nat} {T : TypeId} {x0 : Value} (h : Blk w b T #[x0]) (y0 : Value) : Blk (w.setCells b 0 [y0]) b T #[y0] := by
  have := h.set_ 0 y0
  simpa [World.setCells] using this
def DrawS (w0 w : World) (g : Nat) (A : Option Addr) (n c : Nat) (e : Ending) (w' : World) : Prop := ∃ (x0 x1 x2 x3 x4 x5 x6 x7 : Int) (C : Option Addr) (m d : Nat) (ms : List Mk) (B : Option Addr) (mt dt : Nat) (xs : List Int) (t : Int),
  e = .returned (.tuple #[.agg #[.int .i64 x0, .int .i64 x1, .int .i64 x2, .int .i64 x3, .int .i64 x4, .int .i64 x5, .int .i64 x6, .int .i64 x7, .slice C m d], .agg #[.slice B mt dt], .int .i64 t]) ∧ OwC w' w.heap.size C m d ms ∧ m ≤ 10 ∧ Own w' w.heap.size 98 3 (.slice B mt dt) mt xs ∧ mt ≤ 41 ∧ Dr w0 w' g A n c ∧ w.grownBy w' (some g)
/-- What lies while a course and a track are drawn: the results' boxes, the course, the track, their boxes, the source. -/
def SaB (w0 w wr : World) (b bt g : Nat) (A : Option Addr) (n c : Nat) (r0 r1 cv tv : Array Value) (C : Option Addr) (m d : Nat) (ms : List Mk) (B : Option Addr) (mt dt : Nat) (xs : List Int) : Prop :=
  OwC wr (w.heap.size + 2) C m d ms ∧ Own wr (w.heap.size + 2) 98 3 (.slice B mt dt) mt xs ∧ Blk wr w.heap.size 30 r0 ∧ Blk wr (w.heap.size + 1) 43 r1 ∧ Blk wr b 30 cv ∧ Blk wr bt 43 tv ∧ DrT w0 w wr g A n c
section
variable {w0 w wr w' : World} {b bt g n c : Nat} {A : Option Addr} {r0 r1 cv tv : Array Value} {C : Option Addr} {m d : Nat} {ms : List Mk} {B : Option Addr} {mt dt : Nat} {xs : List Int}
theorem SaB.q (h : SaB w0 w wr b bt g A n c r0 r1 cv tv C m d ms B mt dt xs) (hq : Q wr w') : SaB w0 w w' b bt g A n c r0 r1 cv tv C m d ms B mt dt xs := ⟨h.1.q hq, h.2.1.q hq, h.2.2.1.q hq, h.2.2.2.1.q hq, h.2.2.2.2.1.q hq, h.2.2.2.2.2.1.q hq, h.2.2.2.2.2.2.q hq⟩
theorem SaB.draw (h : SaB w0 w wr b bt g A n c r0 r1 cv tv C m d ms B mt dt xs) (D : Dr w0 w' g A n c) (G : wr.grownBy w' (some g)) (hb : g < b ∧ g < bt) : SaB w0 w w' b bt g A n c r0 r1 cv tv C m d ms B mt dt xs := by
  have := h.2.2.2.2.2.2.glt
  exact ⟨h.1.kept G (fun _ hk => by cases hk; omega), h.2.1.keepD G (by omega), h.2.2.1.keepG G (by omega), h.2.2.2.1.keepG G (by omega), h.2.2.2.2.1.keepG G (by omega), h.2.2.2.2.2.1.keepG G (by omega), h.2.2.2.2.2.2.step D G⟩
theorem SaB.dr (h : SaB w0 w wr b bt g A n c r0 r1 cv tv C m d ms B mt dt xs) : Dr w0 wr g A n c := h.2.2.2.2.2.2.dr
theorem SaB.co {C' : Option Addr} {m' d' : Nat} {ms' : List Mk} (h : SaB w0 w wr b bt g A n c r0 r1 cv tv C m d ms B mt dt xs) (ho : OwC wr (w.heap.size + 2) C' m' d' ms') : SaB w0 w wr b bt g A n c r0 r1 cv tv C' m' d' ms' B mt dt xs := ⟨ho, h.2⟩
theorem SaB.tk {B' : Option Addr} {mt' dt' : Nat} {xs' : List Int} (h : SaB w0 w wr b bt g A n c r0 r1 cv tv C m d ms B mt dt xs) (ho : Own wr (w.heap.size + 2) 98 3 (.slice B' mt' dt') mt' xs') : SaB w0 w wr b bt g A n c r0 r1 cv tv C m d ms B' mt' dt' xs' := ⟨h.1, ho, h.2.2⟩
/-- The course goes into the result's box. -/
theorem SaB.stC {x0 x1 x2 x3 x4 x5 x6 x7 x8 : Value} (h : SaB w0 w wr b bt g A n c #[x0, x1, x2, x3, x4, x5, x6, x7, x8] r1 cv tv C m d ms B mt dt xs) (y0 y1 y2 y3 y4 y5 y6 y7 y8 : Value) (hb : w.heap.size + 1 < b ∧ b < bt) :
    SaB w0 w (wr.setCells w.heap.size 0 [y0, y1, y2, y3, y4, y5, y6, y7, y8]) b bt g A n c #[y0, y1, y2, y3, y4, y5, y6, y7, y8] r1 cv tv C m d ms B mt dt xs :=
  ⟨h.1.farAll (h.1.ne h.2.2.1 (by decide)) 0 _, h.2.1.farAll h.2.2.1 (by decide) 0 _, h.2.2.1.all9 _ _ _ _ _ _ _ _ _, h.2.2.2.1.farAll (by omega) 0 _, h.2.2.2.2.1.farAll (by omega) 0 _, h.2.2.2.2.2.1.farAll (by omega) 0 _, h.2.2.2.2.2.2.setAll (Nat.le_refl _) 0 _⟩
/-- The track goes into the result's box. -/
theorem SaB.stT {x0 : Value} (h : SaB w0 w wr b bt g A n c r0 #[x0] cv tv C m d ms B mt dt xs) (y0 : Value) (hb : w.heap.size + 1 < b ∧ b < bt) :
    SaB w0 w (wr.setCells (w.heap.size + 1) 0 [y0]) b bt g A n c r0 #[y0] cv tv C m d ms B mt dt xs :=
  ⟨h.1.farAll (h.1.ne h.2.2.2.1 (by decide)) 0 _, h.2.1.farAll h.2.2.2.1 (by decide) 0 _, h.2.2.1.farAll (by omega) 0 _, h.2.2.2.1.all1 _, h.2.2.2.2.1.farAll (by omega) 0 _, h.2.2.2.2.2.1.farAll (by omega) 0 _, h.2.2.2.2.2.2.setAll (by omega) 0 _⟩
end
set_option maxRecDepth 100000 in
set_option maxHeartbeats 4000000 in
theorem spec_l16Sail {w0 w : World} {g : Nat} {A : Option Addr} {n c : Nat} (h : Dr w0 w g A n c) (hn : n ≤ 140737488355327) : Calls Tryz.prog 16 #[.pointer (some ⟨g, 0, none⟩)] w (DrawS w0 w g A n c) := by
  have HD := DrT.start h
  have hlt := HD.glt
  have R0 : Blk ((w.alloc (.cells #[.int .i64 0, .int .i64 0, .int .i64 0, .int .i64 0, .int .i64 0, .int .i64 0, .int .i64 0, .int .i64 0, .slice none 0 0] 30)).alloc (.cells #[.slice none 0 0] 43)) w.heap.size 30 #[.int .i64 0, .int .i64 0, .int .i64 0, .int .i64 0, .int .i64 0, .int .i64 0, .int .i64 0, .int .i64 0, .slice none 0 0] := (Blk.new _ _ _).alloc _
  have RT : Blk ((w.alloc (.cells #[.int .i64 0, .int .i64 0, .int .i64 0, .int .i64 0, .int .i64 0, .int .i64 0, .int .i64 0, .int .i64 0, .slice none 0 0] 30)).alloc (.cells #[.slice none 0 0] 43)) (w.heap.size + 1) 43 #[.slice none 0 0] := by simpa using Blk.new (w.alloc (.cells #[.int .i64 0, .int .i64 0, .int .i64 0, .int .i64 0, .int .i64 0, .int .i64 0, .int .i64 0, .int .i64 0, .slice none 0 0] 30)) 43 #[.slice none 0 0]
  replace HD := (HD.alloc (.cells #[.int .i64 0, .int .i64 0, .int .i64 0, .int .i64 0, .int .i64 0, .int .i64 0, .int .i64 0, .int .i64 0, .slice none 0 0] 30)).alloc (.cells #[.slice none 0 0] 43)
  go_enter Tryz.func16, Tryz.ntmps16
  go_upto_region 1 with (fail)
  generalize (w.alloc (.cells #[.int .i64 0, .int .i64 0, .int .i64 0, .int .i64 0, .int .i64 0, .int .i64 0, .int .i64 0, .int .i64 0, .slice none 0 0] 30)).alloc (.cells #[.slice none 0 0] 43) = wb at *
  clear h
  have zI := HD.size
  have lR := RT.lt
  go_wp2_with fail
  refine (spec_l04Draw (w0 := w0) (A := A) (n := n) (c := c) HD.dr hn).mono ?_
  rintro e1 w1 ⟨x0, x1, x2, x3, x4, x5, x6, x7, C, m, d, ms, rfl, ⟨hp1, _⟩, O, hm, D1, G1⟩
  replace O := O.mono (show w.heap.size + 2 ≤ wb.heap.size from lR)
  replace HD := HD.step D1 G1
  replace R0 := Blk.keepG R0 G1 (by omega)
  replace RT := Blk.keepG RT G1 (by omega)
  have HLB := Lib.hid (lnV_B hp1)
  clear D1 G1 hp1
  have lR := RT.lt
  have zI := HD.size
  obtain ⟨b, hb⟩ : ∃ b, b = w1.heap.size := ⟨_, rfl⟩
  have BC : Blk (w1.alloc (.cells #[.int .i64 x0, .int .i64 x1, .int .i64 x2, .int .i64 x3, .int .i64 x4, .int .i64 x5, .int .i64 x6, .int .i64 x7, .slice C m d] 30)) b 30 #[.int .i64 x0, .int .i64 x1, .int .i64 x2, .int .i64 x3, .int .i64 x4, .int .i64 x5, .int .i64 x6, .int .i64 x7, .slice C m d] := by rw [hb]; exact Blk.new _ _ _
  replace R0 := R0.alloc (.cells #[.int .i64 x0, .int .i64 x1, .int .i64 x2, .int .i64 x3, .int .i64 x4, .int .i64 x5, .int .i64 x6, .int .i64 x7, .slice C m d] 30)
  replace RT := RT.alloc (.cells #[.int .i64 x0, .int .i64 x1, .int .i64 x2, .int .i64 x3, .int .i64 x4, .int .i64 x5, .int .i64 x6, .int .i64 x7, .slice C m d] 30)
  replace HD := HD.alloc (.cells #[.int .i64 x0, .int .i64 x1, .int .i64 x2, .int .i64 x3, .int .i64 x4, .int .i64 x5, .int .i64 x6, .int .i64 x7, .slice C m d] 30)
  replace O := O.q ((Q.refl _).alloc (.cells #[.int .i64 x0, .int .i64 x1, .int .i64 x2, .int .i64 x3, .int .i64 x4, .int .i64 x5, .int .i64 x6, .int .i64 x7, .slice C m d] 30))
  go_upto_region 2 with (fail)
  have hlb : w.heap.size + 1 < b := by rw [hb]; exact lR
  rw [← hb]
  generalize w1.alloc (.cells #[.int .i64 x0, .int .i64 x1, .int .i64 x2, .int .i64 x3, .int .i64 x4, .int .i64 x5, .int .i64 x6, .int .i64 x7, .slice C m d] 30) = wc at *
  clear hb
  have hgB : g < w.heap.size + 2 := by omega
  have cC := BC.cell
  have lC := BC.lt
  go_wp2_with fail
  refine (spec_l06DrawSail (w0 := w0) (A := A) (n := n) (c := c) x0 x1 x2 x3 x4 x5 x6 x7 O hgB (by omega) HD.dr hn).mono ?_
  rintro e2 w2 ⟨B, mt, dt, xs, rfl, hown, hT, D2, G2⟩
  replace hown := hown.mono (show w.heap.size + 2 ≤ wc.heap.size by have := RT.lt; omega)
  replace O := O.kept G2 (fun _ hk => by cases hk; exact hgB)
  replace HD := HD.step D2 G2
  replace R0 := Blk.keepG R0 G2 (by omega)
  replace RT := Blk.keepG RT G2 (by omega)
  replace BC := Blk.keepG BC G2 (by omega)
  clear D2 G2 cC lC
  have lBC := BC.lt
  have hmt := trk_n hT
  have HT := Lib.hid hT
  clear hT
  obtain ⟨bt, hbt⟩ : ∃ b, b = w2.heap.size := ⟨_, rfl⟩
  have BT : Blk (w2.alloc (.cells #[.slice B mt dt] 43)) bt 43 #[.slice B mt dt] := by rw [hbt]; exact Blk.new _ _ _
  replace R0 := R0.alloc (.cells #[.slice B mt dt] 43)
  replace RT := RT.alloc (.cells #[.slice B mt dt] 43)
  replace BC := BC.alloc (.cells #[.slice B mt dt] 43)
  replace HD := HD.alloc (.cells #[.slice B mt dt] 43)
  replace O := O.q ((Q.refl _).alloc (.cells #[.slice B mt dt] 43))
  replace hown := hown.q ((Q.refl _).alloc (.cells #[.slice B mt dt] 43))
  go_upto_region 3 with (fail)
  rw [← hbt] at lBC ⊢
  generalize w2.alloc (.cells #[.slice B mt dt] 43) = wd at *
  clear hbt
  have cC := BC.cell
  have lC := BC.lt
  have cT := BT.cell
  have lT := BT.lt
  have hlen := hown.len
  have hgwd : g < wd.heap.size := by have := HD.size; omega
  go_wp2_with fail
  refine (spec_Crossings B mt dt xs x0 x1 x2 x3 _ hown.rd hlen HT.out HLB.out).mono ?_
  rintro e3 w3 ⟨AL, ml, dl, rfl, LO, q3⟩
  clear cC lC cT lT HLB HT hlen
  replace O := O.q q3
  replace hown := hown.q q3
  replace R0 := R0.q q3
  replace RT := RT.q q3
  replace BC := BC.q q3
  replace BT := BT.q q3
  replace HD := HD.q q3
  clear q3
  have zI := HD.size
  have lR := RT.lt
  have lBT := BT.lt
  have hm10 : m ≤ 10 := by omega
  have hmt41 : mt ≤ 41 := by omega
  have hR0 : w.heap.size ≠ g := by omega
  have hR1 : w.heap.size + 1 ≠ g := by omega
  have hbg : b ≠ g := by omega
  have hbtg : bt ≠ g := by omega
  clear hm hmt
  have Z : SaB w0 w w3 b bt g A n c #[.int .i64 0, .int .i64 0, .int .i64 0, .int .i64 0, .int .i64 0, .int .i64 0, .int .i64 0, .int .i64 0, .slice none 0 0] #[.slice none 0 0] #[.int .i64 x0, .int .i64 x1, .int .i64 x2, .int .i64 x3, .int .i64 x4, .int .i64 x5, .int .i64 x6, .int .i64 x7, .slice C m d] #[.slice B mt dt] C m d ms B mt dt xs := ⟨O, hown, R0, RT, BC, BT, HD⟩
  have hbb : w.heap.size + 1 < b ∧ b < bt := ⟨hlb, lBC⟩
  have hgb : g < b ∧ g < bt := by omega
  clear O hown R0 RT BC BT HD lR lBT hR0 hR1 hbg hbtg
  by_cases hl0 : 0 < ml
  case' pos =>
    have hlI : (0 : Int) < (ml : Int) := by omega
    obtain ⟨gl, rfl, hgl⟩ := LO.split hl0
    have cl0 := LO.cell (j := 0) (by omega)
    generalize (crL x0 x1 x2 x3 xs (mt - 1)).getD 0 0 = t0 at cl0
    have hglg : gl ≠ g := by omega
    clear LO hgl hgwd
    go_upto_region 6 with (fail)
    go_cut [7] from 21 to 33 (fun v wc => ∃ t : Int, v = .int .i64 t ∧ SaB w0 w wc b bt g A n c #[.int .i64 0, .int .i64 0, .int .i64 0, .int .i64 0, .int .i64 0, .int .i64 0, .int .i64 0, .int .i64 0, .slice none 0 0] #[.slice none 0 0] #[.int .i64 x0, .int .i64 x1, .int .i64 x2, .int .i64 x3, .int .i64 x4, .int .i64 x5, .int .i64 x6, .int .i64 x7, .slice C m d] #[.slice B mt dt] C m d ms B mt dt xs)
    case first =>
      refine wp_region_H (fun w' : World => w'.cell? ⟨gl, 0, none⟩ = some (.int .i64 t0)) (by kernel_rfl) ?_
      replace Z := Z.q (Q.refl _).drew
      replace cl0 : w3.drew.cell? ⟨gl, 0, none⟩ = some (.int .i64 t0) := cl0
      generalize w3.drew = wd at *
      (refine tkH 0 (v := ?_) rfl (by kernel_rfl) (fun _ _ _ h => h) cl0 rfl ?_ ?_; rotate_left 1; focus (intro w s; go_simp; try with_reducible rfl))
      (refine tkH 1 (v := ?_) rfl (by kernel_rfl) (fun _ _ _ h => h) cl0 rfl ?_ ?_; rotate_left 1; focus (intro w s; go_simp; try with_reducible rfl))
      (refine tkH 2 (v := ?_) rfl (by kernel_rfl) (fun _ _ _ h => h) cl0 rfl ?_ ?_; rotate_left 1; focus (intro w s; go_simp; try with_reducible rfl))
      (refine tkH 3 (v := ?_) rfl (by kernel_rfl) (fun _ _ _ h => h) cl0 rfl ?_ ?_; rotate_left 1; focus (intro w s; go_simp; try with_reducible rfl))
      (refine tkH 4 (v := ?_) rfl (by kernel_rfl) (fun _ _ _ h => h) cl0 rfl ?_ ?_; rotate_left 1; focus (intro w s; go_simp; try with_reducible rfl))
      (refine tkH 7 (v := ?_) rfl (by kernel_rfl) (fun _ _ _ h => h) cl0 rfl ?_ ?_; rotate_left 1; focus (intro w s; go_simp; try with_reducible rfl))
      try simp only [Act.put, List.setIfInBounds_toArray, List.set_cons_zero, List.set_cons_succ, List.getElem_toArray, List.getElem_cons_succ, List.getElem_cons_zero]; try simp only [Nat.zero_add]
      refine wpAnyH_one 5 (by kernel_rfl) rfl (fun K hK => ?_)
      go_simp
      go_at_call 17
      refine (spec_Next _ Z.dr hn).mono ?_
      rintro e5 w5 ⟨r, rfl, _, D5, G5⟩
      replace Z := Z.draw D5 G5 hgb
      replace cl0 := (G5.cell_far ⟨gl, 0, none⟩ (World.block_lt_of_cell? _ _ cl0) (by simpa using hglg)).trans cl0
      clear D5 G5
      refine hK.out _ _ cl0 ?_
      clear hK K
      (refine tkH 6 (v := ?_) rfl (by kernel_rfl) (fun _ _ _ h => h) cl0 rfl ?_ ?_; rotate_left 1; focus (intro w s; go_simp; try with_reducible rfl))
      try simp only [Act.put, List.setIfInBounds_toArray, List.set_cons_zero, List.set_cons_succ, List.getElem_toArray, List.getElem_cons_succ, List.getElem_cons_zero]; try simp only [Nat.zero_add]
      refine wpAnyH_one 8 (by kernel_rfl) rfl (fun K hK => ?_)
      go_simp
      go_at_call 17
      refine (spec_Next _ Z.dr hn).mono ?_
      rintro e6 w6 ⟨r, rfl, _, D6, G6⟩
      replace Z := Z.draw D6 G6 hgb
      replace cl0 := (G6.cell_far ⟨gl, 0, none⟩ (World.block_lt_of_cell? _ _ cl0) (by simpa using hglg)).trans cl0
      clear D6 G6
      refine hK.out _ _ cl0 ?_
      clear hK K
      (refine tkH 9 (v := ?_) rfl (by kernel_rfl) (fun _ _ _ h => h) cl0 rfl ?_ ?_; rotate_left 1; focus (intro w s; go_simp; try with_reducible rfl))
      (refine tkH 10 (v := ?_) rfl (by kernel_rfl) (fun _ _ _ h => h) cl0 rfl ?_ ?_; rotate_left 1; focus (intro w s; go_simp; try with_reducible rfl))
      (refine tkH 11 (v := ?_) rfl (by kernel_rfl) (fun _ _ _ h => h) cl0 rfl ?_ ?_; rotate_left 1; focus (intro w s; go_simp; try with_reducible rfl))
      (refine tkH 12 (v := ?_) rfl (by kernel_rfl) (fun _ _ _ h => h) cl0 rfl ?_ ?_; rotate_left 1; focus (intro w s; go_simp; try with_reducible rfl))
      (refine tkH 13 (v := ?_) rfl (by kernel_rfl) (fun _ _ _ h => h) cl0 rfl ?_ ?_; rotate_left 1; focus (intro w s; go_simp; try with_reducible rfl))
      try simp only [Act.put, List.setIfInBounds_toArray, List.set_cons_zero, List.set_cons_succ, List.getElem_toArray, List.getElem_cons_succ, List.getElem_cons_zero]; try simp only [Nat.zero_add]
      refine wpAnyH_done (by kernel_rfl) ?_ _
      go_wp2_with fail
      go_meet
      exact ⟨_, rfl, Z⟩
    case' rest =>
      clear Z zI cl0
      obtain ⟨tt, rfl, Z⟩ := hcut
      clear hlI hl0
      have htt : tt = tt := rfl
  case' neg =>
    have hlI : ¬ (0 : Int) < (ml : Int) := by omega
    clear LO
    go_upto_region 7 with (fail)
    clear hlI hl0
    obtain ⟨tt, htt⟩ : ∃ t : Int, t = 0 := ⟨_, rfl⟩
  all_goals
    go_wp2_with fail
    refine (spec_Next _ Z.dr hn).mono ?_
    rintro e8 w8 ⟨r8, rfl, hr8, D8, G8⟩
    replace Z := Z.draw D8 G8 hgb
    clear D8 G8 hr8
    by_cases h0 : r8 = 0
    · subst h0
      go_upto_region 9 with (fail)
      refine wp_region_H (fun w' : World => Blk w' b 30 #[.int .i64 x0, .int .i64 x1, .int .i64 x2, .int .i64 x3, .int .i64 x4, .int .i64 x5, .int .i64 x6, .int .i64 x7, .slice C m d] ∧ Blk w' bt 43 #[.slice B mt dt]) (by kernel_rfl) ?_
      replace Z := Z.q (Q.refl _).drew
      generalize w8.drew = wd at *
      (refine tkH 0 (v := ?_) rfl (by kernel_rfl) (fun _ _ _ h => h) ⟨Z.2.2.2.2.1, Z.2.2.2.2.2.1⟩ rfl ?_ ?_; rotate_left 1; focus (intro w s; have cA := s.1.cell; have cB := s.2.cell; go_simp; try with_reducible rfl))
      (refine tkH 2 (v := ?_) rfl (by kernel_rfl) (fun _ _ _ h => h) ⟨Z.2.2.2.2.1, Z.2.2.2.2.2.1⟩ rfl ?_ ?_; rotate_left 1; focus (intro w s; have cA := s.1.cell; have cB := s.2.cell; go_simp; try with_reducible rfl))
      (refine tkH 3 (v := ?_) rfl (by kernel_rfl) (fun _ _ _ h => h) ⟨Z.2.2.2.2.1, Z.2.2.2.2.2.1⟩ rfl ?_ ?_; rotate_left 1; focus (intro w s; have cA := s.1.cell; have cB := s.2.cell; go_simp; try with_reducible rfl))
      try simp only [Act.put, List.setIfInBounds_toArray, List.set_cons_zero, List.set_cons_succ, List.getElem_toArray, List.getElem_cons_succ, List.getElem_cons_zero]; try simp only [Nat.zero_add]
      refine wpAnyH_one 1 (by kernel_rfl) rfl (fun K hK => ?_)
      have zJ := Z.2.2.2.1.lt
      go_simp
      go_at_call 32
      refine (spec_l04DrawAny Z.dr hn).mono ?_
      rintro e9 w9 ⟨y0, y1, y2, y3, y4, y5, y6, y7, C9, m9, d9, ms9, rfl, O9, hm9, D9, G9⟩
      replace Z := Z.draw D9 G9 hgb
      replace Z := Z.co (O9.mono zJ)
      clear D9 G9 O9 zJ
      refine hK.out _ _ ⟨Z.2.2.2.2.1, Z.2.2.2.2.2.1⟩ ?_
      clear hK K
      refine wpAnyH_one 4 (by kernel_rfl) rfl (fun K hK => ?_)
      refine step_storeL rfl 30 _ _ rfl w.heap.size [.int .i64 y0, .int .i64 y1, .int .i64 y2, .int .i64 y3, .int .i64 y4, .int .i64 y5, .int .i64 y6, .int .i64 y7, .slice C9 m9 d9] rfl rfl Z.2.2.1.there (by kernel_rfl) (by simp [Value.oneCell']) ?_
      replace Z := Z.stC (.int .i64 y0) (.int .i64 y1) (.int .i64 y2) (.int .i64 y3) (.int .i64 y4) (.int .i64 y5) (.int .i64 y6) (.int .i64 y7) (.slice C9 m9 d9) hbb
      generalize w9.setCells w.heap.size 0 [.int .i64 y0, .int .i64 y1, .int .i64 y2, .int .i64 y3, .int .i64 y4, .int .i64 y5, .int .i64 y6, .int .i64 y7, .slice C9 m9 d9] = w9c at *
      refine hK.out _ _ ⟨Z.2.2.2.2.1, Z.2.2.2.2.2.1⟩ ?_
      clear hK K
      refine wpAnyH_one 5 (by kernel_rfl) rfl (fun K hK => ?_)
      refine step_storeL rfl 43 _ _ rfl (w.heap.size + 1) [.slice B mt dt] rfl rfl Z.2.2.2.1.there (by kernel_rfl) (by simp [Value.oneCell']) ?_
      replace Z := Z.stT (.slice B mt dt) hbb
      generalize w9c.setCells (w.heap.size + 1) 0 [.slice B mt dt] = w9ct at *
      refine hK.out _ _ ⟨Z.2.2.2.2.1, Z.2.2.2.2.2.1⟩ ?_
      clear hK K
      (refine tkH 6 (v := ?_) rfl (by kernel_rfl) (fun _ _ _ h => h) ⟨Z.2.2.2.2.1, Z.2.2.2.2.2.1⟩ rfl ?_ ?_; rotate_left 1; focus (intro w s; have cA := s.1.cell; have cB := s.2.cell; go_simp; try with_reducible rfl))
      try simp only [Act.put, List.setIfInBounds_toArray, List.set_cons_zero, List.set_cons_succ, List.getElem_toArray, List.getElem_cons_succ, List.getElem_cons_zero]; try simp only [Nat.zero_add]
      refine wpAnyH_done (by kernel_rfl) ?_ _
      have F1 := Z.2.2.1.cell
      have F2 := Z.2.2.2.1.cell
      go_wp2_with fail
      exact bodyPost_ret (v := .tuple #[.agg #[.int .i64 y0, .int .i64 y1, .int .i64 y2, .int .i64 y3, .int .i64 y4, .int .i64 y5, .int .i64 y6, .int .i64 y7, .slice C9 m9 d9], .agg #[.slice B mt dt], .int .i64 tt]) (by simp [results, Tryz.results16, go_sem, F1, F2, htt]) rfl ⟨y0, y1, y2, y3, y4, y5, y6, y7, C9, m9, d9, ms9, B, mt, dt, xs, tt, rfl, Z.1.mono (by omega), hm9, Z.2.1.mono (by omega), hmt41, Z.dr, Z.2.2.2.2.2.2.gr⟩
    have b0 : (r8 == 0) = false := by simpa using h0
    by_cases h1 : r8 = 1
    · subst h1
      clear h0
      go_upto_region 11 with (fail)
      refine wp_region_H (fun w' : World => Blk w' b 30 #[.int .i64 x0, .int .i64 x1, .int .i64 x2, .int .i64 x3, .int .i64 x4, .int .i64 x5, .int .i64 x6, .int .i64 x7, .slice C m d] ∧ Blk w' bt 43 #[.slice B mt dt]) (by kernel_rfl) ?_
      replace Z := Z.q (Q.refl _).drew
      generalize w8.drew = wd at *
      (refine tkH 0 (v := ?_) rfl (by kernel_rfl) (fun _ _ _ h => h) ⟨Z.2.2.2.2.1, Z.2.2.2.2.2.1⟩ rfl ?_ ?_; rotate_left 1; focus (intro w s; have cA := s.1.cell; have cB := s.2.cell; go_simp; try with_reducible rfl))
      (refine tkH 1 (v := ?_) rfl (by kernel_rfl) (fun _ _ _ h => h) ⟨Z.2.2.2.2.1, Z.2.2.2.2.2.1⟩ rfl ?_ ?_; rotate_left 1; focus (intro w s; have cA := s.1.cell; have cB := s.2.cell; go_simp; try with_reducible rfl))
      (refine tkH 3 (v := ?_) rfl (by kernel_rfl) (fun _ _ _ h => h) ⟨Z.2.2.2.2.1, Z.2.2.2.2.2.1⟩ rfl ?_ ?_; rotate_left 1; focus (intro w s; have cA := s.1.cell; have cB := s.2.cell; go_simp; try with_reducible rfl))
      try simp only [Act.put, List.setIfInBounds_toArray, List.set_cons_zero, List.set_cons_succ, List.getElem_toArray, List.getElem_cons_succ, List.getElem_cons_zero]; try simp only [Nat.zero_add]
      refine wpAnyH_one 2 (by kernel_rfl) rfl (fun K hK => ?_)
      have zJ := Z.2.2.2.1.lt
      go_simp
      go_at_call 33
      refine (spec_l03DrawAny Z.dr hn).mono ?_
      rintro e9 w9 ⟨B9, m9, d9, xs9, rfl, O9, hm9, D9, G9⟩
      replace Z := Z.draw D9 G9 hgb
      replace Z := Z.tk (O9.mono zJ)
      clear D9 G9 O9 zJ
      refine hK.out _ _ ⟨Z.2.2.2.2.1, Z.2.2.2.2.2.1⟩ ?_
      clear hK K
      refine wpAnyH_one 4 (by kernel_rfl) rfl (fun K hK => ?_)
      refine step_storeL rfl 30 _ _ rfl w.heap.size [.int .i64 x0, .int .i64 x1, .int .i64 x2, .int .i64 x3, .int .i64 x4, .int .i64 x5, .int .i64 x6, .int .i64 x7, .slice C m d] rfl rfl Z.2.2.1.there (by kernel_rfl) (by simp [Value.oneCell']) ?_
      replace Z := Z.stC (.int .i64 x0) (.int .i64 x1) (.int .i64 x2) (.int .i64 x3) (.int .i64 x4) (.int .i64 x5) (.int .i64 x6) (.int .i64 x7) (.slice C m d) hbb
      generalize w9.setCells w.heap.size 0 [.int .i64 x0, .int .i64 x1, .int .i64 x2, .int .i64 x3, .int .i64 x4, .int .i64 x5, .int .i64 x6, .int .i64 x7, .slice C m d] = w9c at *
      refine hK.out _ _ ⟨Z.2.2.2.2.1, Z.2.2.2.2.2.1⟩ ?_
      clear hK K
      refine wpAnyH_one 5 (by kernel_rfl) rfl (fun K hK => ?_)
      refine step_storeL rfl 43 _ _ rfl (w.heap.size + 1) [.slice B9 m9 d9] rfl rfl Z.2.2.2.1.there (by kernel_rfl) (by simp [Value.oneCell']) ?_
      replace Z := Z.stT (.slice B9 m9 d9) hbb
      generalize w9c.setCells (w.heap.size + 1) 0 [.slice B9 m9 d9] = w9ct at *
      refine hK.out _ _ ⟨Z.2.2.2.2.1, Z.2.2.2.2.2.1⟩ ?_
      clear hK K
      (refine tkH 6 (v := ?_) rfl (by kernel_rfl) (fun _ _ _ h => h) ⟨Z.2.2.2.2.1, Z.2.2.2.2.2.1⟩ rfl ?_ ?_; rotate_left 1; focus (intro w s; have cA := s.1.cell; have cB := s.2.cell; go_simp; try with_reducible rfl))
      try simp only [Act.put, List.setIfInBounds_toArray, List.set_cons_zero, List.set_cons_succ, List.getElem_toArray, List.getElem_cons_succ, List.getElem_cons_zero]; try simp only [Nat.zero_add]
      refine wpAnyH_done (by kernel_rfl) ?_ _
      have F1 := Z.2.2.1.cell
      have F2 := Z.2.2.2.1.cell
      go_wp2_with fail
      exact bodyPost_ret (v := .tuple #[.agg #[.int .i64 x0, .int .i64 x1, .int .i64 x2, .int .i64 x3, .int .i64 x4, .int .i64 x5, .int .i64 x6, .int .i64 x7, .slice C m d], .agg #[.slice B9 m9 d9], .int .i64 tt]) (by simp [results, Tryz.results16, go_sem, F1, F2, htt]) rfl ⟨x0, x1, x2, x3, x4, x5, x6, x7, C, m, d, ms, B9, m9, d9, xs9, tt, rfl, Z.1.mono (by omega), hm10, Z.2.1.mono (by omega), hm9.2, Z.dr, Z.2.2.2.2.2.2.gr⟩
    have b1 : (r8 == 1) = false := by simpa using h1
    by_cases h2 : r8 = 2
    · subst h2
      clear h0 h1
      go_upto_region 13 with (fail)
      refine wp_region_H (fun w' : World => Blk w' b 30 #[.int .i64 x0, .int .i64 x1, .int .i64 x2, .int .i64 x3, .int .i64 x4, .int .i64 x5, .int .i64 x6, .int .i64 x7, .slice C m d] ∧ Blk w' bt 43 #[.slice B mt dt]) (by kernel_rfl) ?_
      replace Z := Z.q (Q.refl _).drew
      generalize w8.drew = wd at *
      (refine tkH 0 (v := ?_) rfl (by kernel_rfl) (fun _ _ _ h => h) ⟨Z.2.2.2.2.1, Z.2.2.2.2.2.1⟩ rfl ?_ ?_; rotate_left 1; focus (intro w s; have cA := s.1.cell; have cB := s.2.cell; go_simp; try with_reducible rfl))
      (refine tkH 1 (v := ?_) rfl (by kernel_rfl) (fun _ _ _ h => h) ⟨Z.2.2.2.2.1, Z.2.2.2.2.2.1⟩ rfl ?_ ?_; rotate_left 1; focus (intro w s; have cA := s.1.cell; have cB := s.2.cell; go_simp; try with_reducible rfl))
      (refine tkH 3 (v := ?_) rfl (by kernel_rfl) (fun _ _ _ h => h) ⟨Z.2.2.2.2.1, Z.2.2.2.2.2.1⟩ rfl ?_ ?_; rotate_left 1; focus (intro w s; have cA := s.1.cell; have cB := s.2.cell; go_simp; try with_reducible rfl))
      try simp only [Act.put, List.setIfInBounds_toArray, List.set_cons_zero, List.set_cons_succ, List.getElem_toArray, List.getElem_cons_succ, List.getElem_cons_zero]; try simp only [Nat.zero_add]
      refine wpAnyH_two 2 4 (by kernel_rfl) rfl rfl (fun K hK => ?_) (fun K hK => ?_)
      · go_simp
        have NB := Blk.new wd 2 #[.int .i64 (-1), .int .i64 1000000000, .int .i64 1000000001]
        have hnb := Z.2.2.2.2.2.1.lt
        replace Z := Z.q ((Q.refl wd).alloc (.cells #[.int .i64 (-1), .int .i64 1000000000, .int .i64 1000000001] 2))
        generalize wd.alloc (.cells #[.int .i64 (-1), .int .i64 1000000000, .int .i64 1000000001] 2) = wda at *
        generalize wd.heap.size = nb at *
        refine hK.out _ _ ⟨Z.2.2.2.2.1, Z.2.2.2.2.2.1⟩ ?_
        clear hK K
        refine wpAnyH_one 4 (by kernel_rfl) rfl (fun K hK => ?_)
        go_simp
        go_at_call 17
        refine (spec_Next _ Z.dr hn).mono ?_
        rintro e9 w9 ⟨r9, rfl, hr9, D9, G9⟩
        replace Z := Z.draw D9 G9 hgb
        replace NB := NB.keepG G9 (by omega)
        clear D9 G9
        obtain ⟨m9, rfl⟩ := Int.eq_ofNat_of_zero_le hr9.1
        obtain ⟨v9, hv9, _, hm9, hn9⟩ := pick3 (-1) 1000000000 1000000001 hr9
        have h9I : (0 : Int) ≤ (m9 : Int) ∧ (m9 : Int) < 3 := by omega
        clear hr9
        refine hK.out _ _ ⟨Z.2.2.2.2.1, Z.2.2.2.2.2.1⟩ ?_
        clear hK K
        (refine tkH 5 (v := ?_) rfl (by kernel_rfl) (fun _ _ _ h => h) ⟨Z.2.2.2.2.1, Z.2.2.2.2.2.1⟩ rfl ?_ ?_; rotate_left 1; focus (intro w s; have cA := s.1.cell; have cB := s.2.cell; go_simp; try with_reducible rfl))
        try simp only [Act.put, List.setIfInBounds_toArray, List.set_cons_zero, List.set_cons_succ, List.getElem_toArray, List.getElem_cons_succ, List.getElem_cons_zero]; try simp only [Nat.zero_add]
        refine wpAnyH_two 6 7 (by kernel_rfl) rfl rfl (fun K hK => ?_) (fun K hK => ?_)
        · have cN := (NB.cell m9).trans hv9
          go_simp
          clear cN
          refine hK.out _ _ ⟨Z.2.2.2.2.1, Z.2.2.2.2.2.1⟩ ?_
          clear hK K
          refine wpAnyH_one 7 (by kernel_rfl) rfl (fun K hK => ?_)
          refine step_storeL rfl 30 _ _ rfl w.heap.size [.int .i64 x0, .int .i64 x1, .int .i64 x2, .int .i64 x3, .int .i64 x4, .int .i64 x5, .int .i64 x6, .int .i64 x7, .slice C m d] rfl rfl Z.2.2.1.there (by kernel_rfl) (by simp [Value.oneCell']) ?_
          replace Z := Z.stC (.int .i64 x0) (.int .i64 x1) (.int .i64 x2) (.int .i64 x3) (.int .i64 x4) (.int .i64 x5) (.int .i64 x6) (.int .i64 x7) (.slice C m d) hbb
          replace NB := NB.farAll (b := w.heap.size) (by omega) 0 [.int .i64 x0, .int .i64 x1, .int .i64 x2, .int .i64 x3, .int .i64 x4, .int .i64 x5, .int .i64 x6, .int .i64 x7, .slice C m d]
          generalize w9.setCells w.heap.size 0 [.int .i64 x0, .int .i64 x1, .int .i64 x2, .int .i64 x3, .int .i64 x4, .int .i64 x5, .int .i64 x6, .int .i64 x7, .slice C m d] = w9c at *
          refine hK.out _ _ ⟨Z.2.2.2.2.1, Z.2.2.2.2.2.1⟩ ?_
          clear hK K
          refine wpAnyH_one 8 (by kernel_rfl) rfl (fun K hK => ?_)
          refine step_storeL rfl 43 _ _ rfl (w.heap.size + 1) [.slice B mt dt] rfl rfl Z.2.2.2.1.there (by kernel_rfl) (by simp [Value.oneCell']) ?_
          replace Z := Z.stT (.slice B mt dt) hbb
          replace NB := NB.farAll (b := w.heap.size + 1) (by omega) 0 [.slice B mt dt]
          generalize w9c.setCells (w.heap.size + 1) 0 [.slice B mt dt] = w9ct at *
          refine hK.out _ _ ⟨Z.2.2.2.2.1, Z.2.2.2.2.2.1⟩ ?_
          clear hK K
          (refine tkH 9 (v := ?_) rfl (by kernel_rfl) (fun _ _ _ h => h) ⟨Z.2.2.2.2.1, Z.2.2.2.2.2.1⟩ rfl ?_ ?_; rotate_left 1; focus (intro w s; have cA := s.1.cell; have cB := s.2.cell; go_simp; try with_reducible rfl))
          try simp only [Act.put, List.setIfInBounds_toArray, List.set_cons_zero, List.set_cons_succ, List.getElem_toArray, List.getElem_cons_succ, List.getElem_cons_zero]; try simp only [Nat.zero_add]
          refine wpAnyH_done (by kernel_rfl) ?_ _
          have F1 := Z.2.2.1.cell
          have F2 := Z.2.2.2.1.cell
          go_wp2_with fail
          exact bodyPost_ret (v := .tuple #[.agg #[.int .i64 x0, .int .i64 x1, .int .i64 x2, .int .i64 x3, .int .i64 x4, .int .i64 x5, .int .i64 x6, .int .i64 x7, .slice C m d], .agg #[.slice B mt dt], .int .i64 v9]) (by simp [results, Tryz.results16, go_sem, F1, F2]) rfl ⟨x0, x1, x2, x3, x4, x5, x6, x7, C, m, d, ms, B, mt, dt, xs, v9, rfl, Z.1.mono (by omega), hm10, Z.2.1.mono (by omega), hmt41, Z.dr, Z.2.2.2.2.2.2.gr⟩
        refine step_storeL rfl 30 _ _ rfl w.heap.size [.int .i64 x0, .int .i64 x1, .int .i64 x2, .int .i64 x3, .int .i64 x4, .int .i64 x5, .int .i64 x6, .int .i64 x7, .slice C m d] rfl rfl Z.2.2.1.there (by kernel_rfl) (by simp [Value.oneCell']) ?_
        replace Z := Z.stC (.int .i64 x0) (.int .i64 x1) (.int .i64 x2) (.int .i64 x3) (.int .i64 x4) (.int .i64 x5) (.int .i64 x6) (.int .i64 x7) (.slice C m d) hbb
        replace NB := NB.farAll (b := w.heap.size) (by omega) 0 [.int .i64 x0, .int .i64 x1, .int .i64 x2, .int .i64 x3, .int .i64 x4, .int .i64 x5, .int .i64 x6, .int .i64 x7, .slice C m d]
        generalize w9.setCells w.heap.size 0 [.int .i64 x0, .int .i64 x1, .int .i64 x2, .int .i64 x3, .int .i64 x4, .int .i64 x5, .int .i64 x6, .int .i64 x7, .slice C m d] = w9c at *
        refine hK.out _ _ ⟨Z.2.2.2.2.1, Z.2.2.2.2.2.1⟩ ?_
        clear hK K
        refine wpAnyH_two 6 8 (by kernel_rfl) rfl rfl (fun K hK => ?_) (fun K hK => ?_)
        · have cN := (NB.cell m9).trans hv9
          go_simp
          clear cN
          refine hK.out _ _ ⟨Z.2.2.2.2.1, Z.2.2.2.2.2.1⟩ ?_
          clear hK K
          refine wpAnyH_one 8 (by kernel_rfl) rfl (fun K hK => ?_)
          refine step_storeL rfl 43 _ _ rfl (w.heap.size + 1) [.slice B mt dt] rfl rfl Z.2.2.2.1.there (by kernel_rfl) (by simp [Value.oneCell']) ?_
          replace Z := Z.stT (.slice B mt dt) hbb
          replace NB := NB.farAll (b := w.heap.size + 1) (by omega) 0 [.slice B mt dt]
          generalize w9c.setCells (w.heap.size + 1) 0 [.slice B mt dt] = w9ct at *
          refine hK.out _ _ ⟨Z.2.2.2.2.1, Z.2.2.2.2.2.1⟩ ?_
          clear hK K
          (refine tkH 9 (v := ?_) rfl (by kernel_rfl) (fun _ _ _ h => h) ⟨Z.2.2.2.2.1, Z.2.2.2.2.2.1⟩ rfl ?_ ?_; rotate_left 1; focus (intro w s; have cA := s.1.cell; have cB := s.2.cell; go_simp; try with_reducible rfl))
          try simp only [Act.put, List.setIfInBounds_toArray, List.set_cons_zero, List.set_cons_succ, List.getElem_toArray, List.getElem_cons_succ, List.getElem_cons_zero]; try simp only [Nat.zero_add]
          refine wpAnyH_done (by kernel_rfl) ?_ _
          have F1 := Z.2.2.1.cell
          have F2 := Z.2.2.2.1.cell
          go_wp2_with fail
          exact bodyPost_ret (v := .tuple #[.agg #[.int .i64 x0, .int .i64 x1, .int .i64 x2, .int .i64 x3, .int .i64 x4, .int .i64 x5, .int .i64 x6, .int .i64 x7, .slice C m d], .agg #[.slice B mt dt], .int .i64 v9]) (by simp [results, Tryz.results16, go_sem, F1, F2]) rfl ⟨x0, x1, x2, x3, x4, x5, x6, x7, C, m, d, ms, B, mt, dt, xs, v9, rfl, Z.1.mono (by omega), hm10, Z.2.1.mono (by omega), hmt41, Z.dr, Z.2.2.2.2.2.2.gr⟩
        refine step_storeL rfl 43 _ _ rfl (w.heap.size + 1) [.slice B mt dt] rfl rfl Z.2.2.2.1.there (by kernel_rfl) (by simp [Value.oneCell']) ?_
        replace Z := Z.stT (.slice B mt dt) hbb
        replace NB := NB.farAll (b := w.heap.size + 1) (by omega) 0 [.slice B mt dt]
        generalize w9c.setCells (w.heap.size + 1) 0 [.slice B mt dt] = w9ct at *
        refine hK.out _ _ ⟨Z.2.2.2.2.1, Z.2.2.2.2.2.1⟩ ?_
        clear hK K
        refine wpAnyH_one 6 (by kernel_rfl) rfl (fun K hK => ?_)
        have cN := (NB.cell m9).trans hv9
        go_simp
        clear cN
        refine hK.out _ _ ⟨Z.2.2.2.2.1, Z.2.2.2.2.2.1⟩ ?_
        clear hK K
        (refine tkH 9 (v := ?_) rfl (by kernel_rfl) (fun _ _ _ h => h) ⟨Z.2.2.2.2.1, Z.2.2.2.2.2.1⟩ rfl ?_ ?_; rotate_left 1; focus (intro w s; have cA := s.1.cell; have cB := s.2.cell; go_simp; try with_reducible rfl))
        try simp only [Act.put, List.setIfInBounds_toArray, List.set_cons_zero, List.set_cons_succ, List.getElem_toArray, List.getElem_cons_succ, List.getElem_cons_zero]; try simp only [Nat.zero_add]
        refine wpAnyH_done (by kernel_rfl) ?_ _
        have F1 := Z.2.2.1.cell
        have F2 := Z.2.2.2.1.cell
        go_wp2_with fail
        exact bodyPost_ret (v := .tuple #[.agg #[.int .i64 x0, .int .i64 x1, .int .i64 x2, .int .i64 x3, .int .i64 x4, .int .i64 x5, .int .i64 x6, .int .i64 x7, .slice C m d], .agg #[.slice B mt dt], .int .i64 v9]) (by simp [results, Tryz.results16, go_sem, F1, F2]) rfl ⟨x0, x1, x2, x3, x4, x5, x6, x7, C, m, d, ms, B, mt, dt, xs, v9, rfl, Z.1.mono (by omega), hm10, Z.2.1.mono (by omega), hmt41, Z.dr, Z.2.2.2.2.2.2.gr⟩
      go_simp
      go_at_call 17
      refine (spec_Next _ Z.dr hn).mono ?_
      rintro e9 w9 ⟨r9, rfl, hr9, D9, G9⟩
      replace Z := Z.draw D9 G9 hgb
      clear D9 G9
      obtain ⟨m9, rfl⟩ := Int.eq_ofNat_of_zero_le hr9.1
      obtain ⟨v9, hv9, _, hm9, hn9⟩ := pick3 (-1) 1000000000 1000000001 hr9
      have h9I : (0 : Int) ≤ (m9 : Int) ∧ (m9 : Int) < 3 := by omega
      clear hr9
      refine hK.out _ _ ⟨Z.2.2.2.2.1, Z.2.2.2.2.2.1⟩ ?_
      clear hK K
      refine wpAnyH_two 2 7 (by kernel_rfl) rfl rfl (fun K hK => ?_) (fun K hK => ?_)
      · go_simp
        have NB := Blk.new w9 2 #[.int .i64 (-1), .int .i64 1000000000, .int .i64 1000000001]
        have hnb := Z.2.2.2.2.2.1.lt
        replace Z := Z.q ((Q.refl w9).alloc (.cells #[.int .i64 (-1), .int .i64 1000000000, .int .i64 1000000001] 2))
        generalize w9.alloc (.cells #[.int .i64 (-1), .int .i64 1000000000, .int .i64 1000000001] 2) = w9a at *
        generalize w9.heap.size = nb at *
        refine hK.out _ _ ⟨Z.2.2.2.2.1, Z.2.2.2.2.2.1⟩ ?_
        clear hK K
        (refine tkH 5 (v := ?_) rfl (by kernel_rfl) (fun _ _ _ h => h) ⟨Z.2.2.2.2.1, Z.2.2.2.2.2.1⟩ rfl ?_ ?_; rotate_left 1; focus (intro w s; have cA := s.1.cell; have cB := s.2.cell; go_simp; try with_reducible rfl))
        try simp only [Act.put, List.setIfInBounds_toArray, List.set_cons_zero, List.set_cons_succ, List.getElem_toArray, List.getElem_cons_succ, List.getElem_cons_zero]; try simp only [Nat.zero_add]
        refine wpAnyH_two 6 7 (by kernel_rfl) rfl rfl (fun K hK => ?_) (fun K hK => ?_)
        · have cN := (NB.cell m9).trans hv9
          go_simp
          clear cN
          refine hK.out _ _ ⟨Z.2.2.2.2.1, Z.2.2.2.2.2.1⟩ ?_
          clear hK K
          refine wpAnyH_one 7 (by kernel_rfl) rfl (fun K hK => ?_)
          refine step_storeL rfl 30 _ _ rfl w.heap.size [.int .i64 x0, .int .i64 x1, .int .i64 x2, .int .i64 x3, .int .i64 x4, .int .i64 x5, .int .i64 x6, .int .i64 x7, .slice C m d] rfl rfl Z.2.2.1.there (by kernel_rfl) (by simp [Value.oneCell']) ?_
          replace Z := Z.stC (.int .i64 x0) (.int .i64 x1) (.int .i64 x2) (.int .i64 x3) (.int .i64 x4) (.int .i64 x5) (.int .i64 x6) (.int .i64 x7) (.slice C m d) hbb
          replace NB := NB.farAll (b := w.heap.size) (by omega) 0 [.int .i64 x0, .int .i64 x1, .int .i64 x2, .int .i64 x3, .int .i64 x4, .int .i64 x5, .int .i64 x6, .int .i64 x7, .slice C m d]
          generalize w9a.setCells w.heap.size 0 [.int .i64 x0, .int .i64 x1, .int .i64 x2, .int .i64 x3, .int .i64 x4, .int .i64 x5, .int .i64 x6, .int .i64 x7, .slice C m d] = w9ac at *
          refine hK.out _ _ ⟨Z.2.2.2.2.1, Z.2.2.2.2.2.1⟩ ?_
          clear hK K
          refine wpAnyH_one 8 (by kernel_rfl) rfl (fun K hK => ?_)
          refine step_storeL rfl 43 _ _ rfl (w.heap.size + 1) [.slice B mt dt] rfl rfl Z.2.2.2.1.there (by kernel_rfl) (by simp [Value.oneCell']) ?_
          replace Z := Z.stT (.slice B mt dt) hbb
          replace NB := NB.farAll (b := w.heap.size + 1) (by omega) 0 [.slice B mt dt]
          generalize w9ac.setCells (w.heap.size + 1) 0 [.slice B mt dt] = w9act at *
          refine hK.out _ _ ⟨Z.2.2.2.2.1, Z.2.2.2.2.2.1⟩ ?_
          clear hK K
          (refine tkH 9 (v := ?_) rfl (by kernel_rfl) (fun _ _ _ h => h) ⟨Z.2.2.2.2.1, Z.2.2.2.2.2.1⟩ rfl ?_ ?_; rotate_left 1; focus (intro w s; have cA := s.1.cell; have cB := s.2.cell; go_simp; try with_reducible rfl))
          try simp only [Act.put, List.setIfInBounds_toArray, List.set_cons_zero, List.set_cons_succ, List.getElem_toArray, List.getElem_cons_succ, List.getElem_cons_zero]; try simp only [Nat.zero_add]
          refine wpAnyH_done (by kernel_rfl) ?_ _
          have F1 := Z.2.2.1.cell
          have F2 := Z.2.2.2.1.cell
          go_wp2_with fail
          exact bodyPost_ret (v := .tuple #[.agg #[.int .i64 x0, .int .i64 x1, .int .i64 x2, .int .i64 x3, .int .i64 x4, .int .i64 x5, .int .i64 x6, .int .i64 x7, .slice C m d], .agg #[.slice B mt dt], .int .i64 v9]) (by simp [results, Tryz.results16, go_sem, F1, F2]) rfl ⟨x0, x1, x2, x3, x4, x5, x6, x7, C, m, d, ms, B, mt, dt, xs, v9, rfl, Z.1.mono (by omega), hm10, Z.2.1.mono (by omega), hmt41, Z.dr, Z.2.2.2.2.2.2.gr⟩
        refine step_storeL rfl 30 _ _ rfl w.heap.size [.int .i64 x0, .int .i64 x1, .int .i64 x2, .int .i64 x3, .int .i64 x4, .int .i64 x5, .int .i64 x6, .int .i64 x7, .slice C m d] rfl rfl Z.2.2.1.there (by kernel_rfl) (by simp [Value.oneCell']) ?_
        replace Z := Z.stC (.int .i64 x0) (.int .i64 x1) (.int .i64 x2) (.int .i64 x3) (.int .i64 x4) (.int .i64 x5) (.int .i64 x6) (.int .i64 x7) (.slice C m d) hbb
        replace NB := NB.farAll (b := w.heap.size) (by omega) 0 [.int .i64 x0, .int .i64 x1, .int .i64 x2, .int .i64 x3, .int .i64 x4, .int .i64 x5, .int .i64 x6, .int .i64 x7, .slice C m d]
        generalize w9a.setCells w.heap.size 0 [.int .i64 x0, .int .i64 x1, .int .i64 x2, .int .i64 x3, .int .i64 x4, .int .i64 x5, .int .i64 x6, .int .i64 x7, .slice C m d] = w9ac at *
        refine hK.out _ _ ⟨Z.2.2.2.2.1, Z.2.2.2.2.2.1⟩ ?_
        clear hK K
        refine wpAnyH_two 6 8 (by kernel_rfl) rfl rfl (fun K hK => ?_) (fun K hK => ?_)
        · have cN := (NB.cell m9).trans hv9
          go_simp
          clear cN
          refine hK.out _ _ ⟨Z.2.2.2.2.1, Z.2.2.2.2.2.1⟩ ?_
          clear hK K
          refine wpAnyH_one 8 (by kernel_rfl) rfl (fun K hK => ?_)
          refine step_storeL rfl 43 _ _ rfl (w.heap.size + 1) [.slice B mt dt] rfl rfl Z.2.2.2.1.there (by kernel_rfl) (by simp [Value.oneCell']) ?_
          replace Z := Z.stT (.slice B mt dt) hbb
          replace NB := NB.farAll (b := w.heap.size + 1) (by omega) 0 [.slice B mt dt]
          generalize w9ac.setCells (w.heap.size + 1) 0 [.slice B mt dt] = w9act at *
          refine hK.out _ _ ⟨Z.2.2.2.2.1, Z.2.2.2.2.2.1⟩ ?_
          clear hK K
          (refine tkH 9 (v := ?_) rfl (by kernel_rfl) (fun _ _ _ h => h) ⟨Z.2.2.2.2.1, Z.2.2.2.2.2.1⟩ rfl ?_ ?_; rotate_left 1; focus (intro w s; have cA := s.1.cell; have cB := s.2.cell; go_simp; try with_reducible rfl))
          try simp only [Act.put, List.setIfInBounds_toArray, List.set_cons_zero, List.set_cons_succ, List.getElem_toArray, List.getElem_cons_succ, List.getElem_cons_zero]; try simp only [Nat.zero_add]
          refine wpAnyH_done (by kernel_rfl) ?_ _
          have F1 := Z.2.2.1.cell
          have F2 := Z.2.2.2.1.cell
          go_wp2_with fail
          exact bodyPost_ret (v := .tuple #[.agg #[.int .i64 x0, .int .i64 x1, .int .i64 x2, .int .i64 x3, .int .i64 x4, .int .i64 x5, .int .i64 x6, .int .i64 x7, .slice C m d], .agg #[.slice B mt dt], .int .i64 v9]) (by simp [results, Tryz.results16, go_sem, F1, F2]) rfl ⟨x0, x1, x2, x3, x4, x5, x6, x7, C, m, d, ms, B, mt, dt, xs, v9, rfl, Z.1.mono (by omega), hm10, Z.2.1.mono (by omega), hmt41, Z.dr, Z.2.2.2.2.2.2.gr⟩
        refine step_storeL rfl 43 _ _ rfl (w.heap.size + 1) [.slice B mt dt] rfl rfl Z.2.2.2.1.there (by kernel_rfl) (by simp [Value.oneCell']) ?_
        replace Z := Z.stT (.slice B mt dt) hbb
        replace NB := NB.farAll (b := w.heap.size + 1) (by omega) 0 [.slice B mt dt]
        generalize w9ac.setCells (w.heap.size + 1) 0 [.slice B mt dt] = w9act at *
        refine hK.out _ _ ⟨Z.2.2.2.2.1, Z.2.2.2.2.2.1⟩ ?_
        clear hK K
        refine wpAnyH_one 6 (by kernel_rfl) rfl (fun K hK => ?_)
        have cN := (NB.cell m9).trans hv9
        go_simp
        clear cN
        refine hK.out _ _ ⟨Z.2.2.2.2.1, Z.2.2.2.2.2.1⟩ ?_
        clear hK K
        (refine tkH 9 (v := ?_) rfl (by kernel_rfl) (fun _ _ _ h => h) ⟨Z.2.2.2.2.1, Z.2.2.2.2.2.1⟩ rfl ?_ ?_; rotate_left 1; focus (intro w s; have cA := s.1.cell; have cB := s.2.cell; go_simp; try with_reducible rfl))
        try simp only [Act.put, List.setIfInBounds_toArray, List.set_cons_zero, List.set_cons_succ, List.getElem_toArray, List.getElem_cons_succ, List.getElem_cons_zero]; try simp only [Nat.zero_add]
        refine wpAnyH_done (by kernel_rfl) ?_ _
        have F1 := Z.2.2.1.cell
        have F2 := Z.2.2.2.1.cell
        go_wp2_with fail
        exact bodyPost_ret (v := .tuple #[.agg #[.int .i64 x0, .int .i64 x1, .int .i64 x2, .int .i64 x3, .int .i64 x4, .int .i64 x5, .int .i64 x6, .int .i64 x7, .slice C m d], .agg #[.slice B mt dt], .int .i64 v9]) (by simp [results, Tryz.results16, go_sem, F1, F2]) rfl ⟨x0, x1, x2, x3, x4, x5, x6, x7, C, m, d, ms, B, mt, dt, xs, v9, rfl, Z.1.mono (by omega), hm10, Z.2.1.mono (by omega), hmt41, Z.dr, Z.2.2.2.2.2.2.gr⟩
      refine step_storeL rfl 30 _ _ rfl w.heap.size [.int .i64 x0, .int .i64 x1, .int .i64 x2, .int .i64 x3, .int .i64 x4, .int .i64 x5, .int .i64 x6, .int .i64 x7, .slice C m d] rfl rfl Z.2.2.1.there (by kernel_rfl) (by simp [Value.oneCell']) ?_
      replace Z := Z.stC (.int .i64 x0) (.int .i64 x1) (.int .i64 x2) (.int .i64 x3) (.int .i64 x4) (.int .i64 x5) (.int .i64 x6) (.int .i64 x7) (.slice C m d) hbb
      generalize w9.setCells w.heap.size 0 [.int .i64 x0, .int .i64 x1, .int .i64 x2, .int .i64 x3, .int .i64 x4, .int .i64 x5, .int .i64 x6, .int .i64 x7, .slice C m d] = w9c at *
      refine hK.out _ _ ⟨Z.2.2.2.2.1, Z.2.2.2.2.2.1⟩ ?_
      clear hK K
      refine wpAnyH_two 2 8 (by kernel_rfl) rfl rfl (fun K hK => ?_) (fun K hK => ?_)
      · go_simp
        have NB := Blk.new w9c 2 #[.int .i64 (-1), .int .i64 1000000000, .int .i64 1000000001]
        have hnb := Z.2.2.2.2.2.1.lt
        replace Z := Z.q ((Q.refl w9c).alloc (.cells #[.int .i64 (-1), .int .i64 1000000000, .int .i64 1000000001] 2))
        generalize w9c.alloc (.cells #[.int .i64 (-1), .int .i64 1000000000, .int .i64 1000000001] 2) = w9ca at *
        generalize w9c.heap.size = nb at *
        refine hK.out _ _ ⟨Z.2.2.2.2.1, Z.2.2.2.2.2.1⟩ ?_
        clear hK K
        (refine tkH 5 (v := ?_) rfl (by kernel_rfl) (fun _ _ _ h => h) ⟨Z.2.2.2.2.1, Z.2.2.2.2.2.1⟩ rfl ?_ ?_; rotate_left 1; focus (intro w s; have cA := s.1.cell; have cB := s.2.cell; go_simp; try with_reducible rfl))
        try simp only [Act.put, List.setIfInBounds_toArray, List.set_cons_zero, List.set_cons_succ, List.getElem_toArray, List.getElem_cons_succ, List.getElem_cons_zero]; try simp only [Nat.zero_add]
        refine wpAnyH_two 6 8 (by kernel_rfl) rfl rfl (fun K hK => ?_) (fun K hK => ?_)
        · have cN := (NB.cell m9).trans hv9
          go_simp
          clear cN
          refine hK.out _ _ ⟨Z.2.2.2.2.1, Z.2.2.2.2.2.1⟩ ?_
          clear hK K
          refine wpAnyH_one 8 (by kernel_rfl) rfl (fun K hK => ?_)
          refine step_storeL rfl 43 _ _ rfl (w.heap.size + 1) [.slice B mt dt] rfl rfl Z.2.2.2.1.there (by kernel_rfl) (by simp [Value.oneCell']) ?_
          replace Z := Z.stT (.slice B mt dt) hbb
          replace NB := NB.farAll (b := w.heap.size + 1) (by omega) 0 [.slice B mt dt]
          generalize w9ca.setCells (w.heap.size + 1) 0 [.slice B mt dt] = w9cat at *
          refine hK.out _ _ ⟨Z.2.2.2.2.1, Z.2.2.2.2.2.1⟩ ?_
          clear hK K
          (refine tkH 9 (v := ?_) rfl (by kernel_rfl) (fun _ _ _ h => h) ⟨Z.2.2.2.2.1, Z.2.2.2.2.2.1⟩ rfl ?_ ?_; rotate_left 1; focus (intro w s; have cA := s.1.cell; have cB := s.2.cell; go_simp; try with_reducible rfl))
          try simp only [Act.put, List.setIfInBounds_toArray, List.set_cons_zero, List.set_cons_succ, List.getElem_toArray, List.getElem_cons_succ, List.getElem_cons_zero]; try simp only [Nat.zero_add]
          refine wpAnyH_done (by kernel_rfl) ?_ _
          have F1 := Z.2.2.1.cell
          have F2 := Z.2.2.2.1.cell
          go_wp2_with fail
          exact bodyPost_ret (v := .tuple #[.agg #[.int .i64 x0, .int .i64 x1, .int .i64 x2, .int .i64 x3, .int .i64 x4, .int .i64 x5, .int .i64 x6, .int .i64 x7, .slice C m d], .agg #[.slice B mt dt], .int .i64 v9]) (by simp [results, Tryz.results16, go_sem, F1, F2]) rfl ⟨x0, x1, x2, x3, x4, x5, x6, x7, C, m, d, ms, B, mt, dt, xs, v9, rfl, Z.1.mono (by omega), hm10, Z.2.1.mono (by omega), hmt41, Z.dr, Z.2.2.2.2.2.2.gr⟩
        refine step_storeL rfl 43 _ _ rfl (w.heap.size + 1) [.slice B mt dt] rfl rfl Z.2.2.2.1.there (by kernel_rfl) (by simp [Value.oneCell']) ?_
        replace Z := Z.stT (.slice B mt dt) hbb
        replace NB := NB.farAll (b := w.heap.size + 1) (by omega) 0 [.slice B mt dt]
        generalize w9ca.setCells (w.heap.size + 1) 0 [.slice B mt dt] = w9cat at *
        refine hK.out _ _ ⟨Z.2.2.2.2.1, Z.2.2.2.2.2.1⟩ ?_
        clear hK K
        refine wpAnyH_one 6 (by kernel_rfl) rfl (fun K hK => ?_)
        have cN := (NB.cell m9).trans hv9
        go_simp
        clear cN
        refine hK.out _ _ ⟨Z.2.2.2.2.1, Z.2.2.2.2.2.1⟩ ?_
        clear hK K
        (refine tkH 9 (v := ?_) rfl (by kernel_rfl) (fun _ _ _ h => h) ⟨Z.2.2.2.2.1, Z.2.2.2.2.2.1⟩ rfl ?_ ?_; rotate_left 1; focus (intro w s; have cA := s.1.cell; have cB := s.2.cell; go_simp; try with_reducible rfl))
        try simp only [Act.put, List.setIfInBounds_toArray, List.set_cons_zero, List.set_cons_succ, List.getElem_toArray, List.getElem_cons_succ, List.getElem_cons_zero]; try simp only [Nat.zero_add]
        refine wpAnyH_done (by kernel_rfl) ?_ _
        have F1 := Z.2.2.1.cell
        have F2 := Z.2.2.2.1.cell
        go_wp2_with fail
        exact bodyPost_ret (v := .tuple #[.agg #[.int .i64 x0, .int .i64 x1, .int .i64 x2, .int .i64 x3, .int .i64 x4, .int .i64 x5, .int .i64 x6, .int .i64 x7, .slice C m d], .agg #[.slice B mt dt], .int .i64 v9]) (by simp [results, Tryz.results16, go_sem, F1, F2]) rfl ⟨x0, x1, x2, x3, x4, x5, x6, x7, C, m, d, ms, B, mt, dt, xs, v9, rfl, Z.1.mono (by omega), hm10, Z.2.1.mono (by omega), hmt41, Z.dr, Z.2.2.2.2.2.2.gr⟩
      refine step_storeL rfl 43 _ _ rfl (w.heap.size + 1) [.slice B mt dt] rfl rfl Z.2.2.2.1.there (by kernel_rfl) (by simp [Value.oneCell']) ?_
      replace Z := Z.stT (.slice B mt dt) hbb
      generalize w9c.setCells (w.heap.size + 1) 0 [.slice B mt dt] = w9ct at *
      refine hK.out _ _ ⟨Z.2.2.2.2.1, Z.2.2.2.2.2.1⟩ ?_
      clear hK K
      refine wpAnyH_one 2 (by kernel_rfl) rfl (fun K hK => ?_)
      go_simp
      have NB := Blk.new w9ct 2 #[.int .i64 (-1), .int .i64 1000000000, .int .i64 1000000001]
      have hnb := Z.2.2.2.2.2.1.lt
      replace Z := Z.q ((Q.refl w9ct).alloc (.cells #[.int .i64 (-1), .int .i64 1000000000, .int .i64 1000000001] 2))
      generalize w9ct.alloc (.cells #[.int .i64 (-1), .int .i64 1000000000, .int .i64 1000000001] 2) = w9cta at *
      generalize w9ct.heap.size = nb at *
      refine hK.out _ _ ⟨Z.2.2.2.2.1, Z.2.2.2.2.2.1⟩ ?_
      clear hK K
      (refine tkH 5 (v := ?_) rfl (by kernel_rfl) (fun _ _ _ h => h) ⟨Z.2.2.2.2.1, Z.2.2.2.2.2.1⟩ rfl ?_ ?_; rotate_left 1; focus (intro w s; have cA := s.1.cell; have cB := s.2.cell; go_simp; try with_reducible rfl))
      try simp only [Act.put, List.setIfInBounds_toArray, List.set_cons_zero, List.set_cons_succ, List.getElem_toArray, List.getElem_cons_succ, List.getElem_cons_zero]; try simp only [Nat.zero_add]
      refine wpAnyH_one 6 (by kernel_rfl) rfl (fun K hK => ?_)
      have cN := (NB.cell m9).trans hv9
      go_simp
      clear cN
      refine hK.out _ _ ⟨Z.2.2.2.2.1, Z.2.2.2.2.2.1⟩ ?_
      clear hK K
      (refine tkH 9 (v := ?_) rfl (by kernel_rfl) (fun _ _ _ h => h) ⟨Z.2.2.2.2.1, Z.2.2.2.2.2.1⟩ rfl ?_ ?_; rotate_left 1; focus (intro w s; have cA := s.1.cell; have cB := s.2.cell; go_simp; try with_reducible rfl))
      try simp only [Act.put, List.setIfInBounds_toArray, List.set_cons_zero, List.set_cons_succ, List.getElem_toArray, List.getElem_cons_succ, List.getElem_cons_zero]; try simp only [Nat.zero_add]
      refine wpAnyH_done (by kernel_rfl) ?_ _
      have F1 := Z.2.2.1.cell
      have F2 := Z.2.2.2.1.cell
      go_wp2_with fail
      exact bodyPost_ret (v := .tuple #[.agg #[.int .i64 x0, .int .i64 x1, .int .i64 x2, .int .i64 x3, .int .i64 x4, .int .i64 x5, .int .i64 x6, .int .i64 x7, .slice C m d], .agg #[.slice B mt dt], .int .i64 v9]) (by simp [results, Tryz.results16, go_sem, F1, F2]) rfl ⟨x0, x1, x2, x3, x4, x5, x6, x7, C, m, d, ms, B, mt, dt, xs, v9, rfl, Z.1.mono (by omega), hm10, Z.2.1.mono (by omega), hmt41, Z.dr, Z.2.2.2.2.2.2.gr⟩
    have b2 : (r8 == 2) = false := by simpa using h2
    go_upto_region 14 with (fail)
    refine wp_region_H (fun w' : World => Blk w' b 30 #[.int .i64 x0, .int .i64 x1, .int .i64 x2, .int .i64 x3, .int .i64 x4, .int .i64 x5, .int .i64 x6, .int .i64 x7, .slice C m d] ∧ Blk w' bt 43 #[.slice B mt dt]) (by kernel_rfl) ?_
    replace Z := Z.q (Q.refl _).drew
    generalize w8.drew = wd at *
    (refine tkH 0 (v := ?_) rfl (by kernel_rfl) (fun _ _ _ h => h) ⟨Z.2.2.2.2.1, Z.2.2.2.2.2.1⟩ rfl ?_ ?_; rotate_left 1; focus (intro w s; have cA := s.1.cell; have cB := s.2.cell; go_simp; try with_reducible rfl))
    (refine tkH 1 (v := ?_) rfl (by kernel_rfl) (fun _ _ _ h => h) ⟨Z.2.2.2.2.1, Z.2.2.2.2.2.1⟩ rfl ?_ ?_; rotate_left 1; focus (intro w s; have cA := s.1.cell; have cB := s.2.cell; go_simp; try with_reducible rfl))
    (refine tkH 2 (v := ?_) rfl (by kernel_rfl) (fun _ _ _ h => h) ⟨Z.2.2.2.2.1, Z.2.2.2.2.2.1⟩ rfl ?_ ?_; rotate_left 1; focus (intro w s; have cA := s.1.cell; have cB := s.2.cell; go_simp; try with_reducible rfl))
    try simp only [Act.put, List.setIfInBounds_toArray, List.set_cons_zero, List.set_cons_succ, List.getElem_toArray, List.getElem_cons_succ, List.getElem_cons_zero]; try simp only [Nat.zero_add]
    refine wpAnyH_one 3 (by kernel_rfl) rfl (fun K hK => ?_)
    refine step_storeL rfl 30 _ _ rfl w.heap.size [.int .i64 x0, .int .i64 x1, .int .i64 x2, .int .i64 x3, .int .i64 x4, .int .i64 x5, .int .i64 x6, .int .i64 x7, .slice C m d] rfl rfl Z.2.2.1.there (by kernel_rfl) (by simp [Value.oneCell']) ?_
    replace Z := Z.stC (.int .i64 x0) (.int .i64 x1) (.int .i64 x2) (.int .i64 x3) (.int .i64 x4) (.int .i64 x5) (.int .i64 x6) (.int .i64 x7) (.slice C m d) hbb
    generalize wd.setCells w.heap.size 0 [.int .i64 x0, .int .i64 x1, .int .i64 x2, .int .i64 x3, .int .i64 x4, .int .i64 x5, .int .i64 x6, .int .i64 x7, .slice C m d] = wdc at *
    refine hK.out _ _ ⟨Z.2.2.2.2.1, Z.2.2.2.2.2.1⟩ ?_
    clear hK K
    refine wpAnyH_one 4 (by kernel_rfl) rfl (fun K hK => ?_)
    refine step_storeL rfl 43 _ _ rfl (w.heap.size + 1) [.slice B mt dt] rfl rfl Z.2.2.2.1.there (by kernel_rfl) (by simp [Value.oneCell']) ?_
    replace Z := Z.stT (.slice B mt dt) hbb
    generalize wdc.setCells (w.heap.size + 1) 0 [.slice B mt dt] = wdct at *
    refine hK.out _ _ ⟨Z.2.2.2.2.1, Z.2.2.2.2.2.1⟩ ?_
    clear hK K
    (refine tkH 5 (v := ?_) rfl (by kernel_rfl) (fun _ _ _ h => h) ⟨Z.2.2.2.2.1, Z.2.2.2.2.2.1⟩ rfl ?_ ?_; rotate_left 1; focus (intro w s; have cA := s.1.cell; have cB := s.2.cell; go_simp; try with_reducible rfl))
    try simp only [Act.put, List.setIfInBounds_toArray, List.set_cons_zero, List.set_cons_succ, List.getElem_toArray, List.getElem_cons_succ, List.getElem_cons_zero]; try simp only [Nat.zero_add]
    refine wpAnyH_done (by kernel_rfl) ?_ _
    have F1 := Z.2.2.1.cell
    have F2 := Z.2.2.2.1.cell
    go_wp2_with fail
    exact bodyPost_ret (v := .tuple #[.agg #[.int .i64 x0, .int .i64 x1, .int .i64 x2, .int .i64 x3, .int .i64 x4, .int .i64 x5, .int .i64 x6, .int .i64 x7, .slice C m d], .agg #[.slice B mt dt], .int .i64 tt]) (by simp [results, Tryz.results16, go_sem, F1, F2, htt]) rfl ⟨x0, x1, x2, x3, x4, x5, x6, x7, C, m, d, ms, B, mt, dt, xs, tt, rfl, Z.1.mono (by omega), hm10, Z.2.1.mono (by omega), hmt41, Z.dr, Z.2.2.2.2.2.2.gr⟩
end Go.Proofs.YteofhfefbphjdaaGreatDoor
