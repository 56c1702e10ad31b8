/- Walks: the draw of the law on finishes: a course, a track, a time and a flag; the law on finishes. No condition. -/
import Derived.Test.YteofhfefbphjdaaGreatDoorFfP
import Derived.Test.YteofhfefbphjdaaGreatDoorDr16
import Derived.Test.YteofhfefbphjdaaGreatDoorMkR
namespace Go.Proofs.YteofhfefbphjdaaGreatDoor
open Go.RowKit Go.WideShapes Go.ChangeShapes
def DrawFO (wz : World) (e : Ending) (w' : World) : Prop := ∃ (x0 x1 x2 x3 x4 x5 x6 x7 : Int) (C : Option Addr) (m d : Nat) (ms : List Mk) (B : Option Addr) (mt dt : Nat) (xs : List Int) (t f : Int),
  e = .returned (.tuple #[.agg #[.int .i64 x0, .int .i64 x1, .int .i64 x2, .int .i64 x3, .int .i64 x4, .int .i64 x5, .int .i64 x6, .int .i64 x7, .slice C m d], .agg #[.slice B mt dt], .int .i64 t, .int .i64 f]) ∧ (RdM w' C ms ∧ ms.length = m ∧ m ≤ d ∧ m ≤ 10) ∧ (Rd w' B xs ∧ xs.length = mt * 3 ∧ mt ≤ 41) ∧ Q wz w'
set_option maxRecDepth 100000 in
set_option maxHeartbeats 4000000 in
theorem spec_DrawFinishOf (A : Option Addr) (n c : Nat) (wz : World) (ha : Rd8 wz A n) (hn : n ≤ 140737488355327) : Calls Tryz.prog 11 #[.slice A n c] wz (DrawFO wz) := by
  have R0 : Blk ((wz.alloc (.cells #[.int .i64 0, .int .i64 0, .int .i64 0, .int .i64 0, .int .i64 0, .int .i64 0, .int .i64 0, .int .i64 0, .slice none 0 0] 30)).alloc (.cells #[.slice none 0 0] 43)) wz.heap.size 30 #[.int .i64 0, .int .i64 0, .int .i64 0, .int .i64 0, .int .i64 0, .int .i64 0, .int .i64 0, .int .i64 0, .slice none 0 0] := (Blk.new _ _ _).alloc _
  have RT : Blk ((wz.alloc (.cells #[.int .i64 0, .int .i64 0, .int .i64 0, .int .i64 0, .int .i64 0, .int .i64 0, .int .i64 0, .int .i64 0, .slice none 0 0] 30)).alloc (.cells #[.slice none 0 0] 43)) (wz.heap.size + 1) 43 #[.slice none 0 0] := by simpa using Blk.new (wz.alloc (.cells #[.int .i64 0, .int .i64 0, .int .i64 0, .int .i64 0, .int .i64 0, .int .i64 0, .int .i64 0, .int .i64 0, .slice none 0 0] 30)) 43 #[.slice none 0 0]
  have Z0 : Q wz ((wz.alloc (.cells #[.int .i64 0, .int .i64 0, .int .i64 0, .int .i64 0, .int .i64 0, .int .i64 0, .int .i64 0, .int .i64 0, .slice none 0 0] 30)).alloc (.cells #[.slice none 0 0] 43)) := by (repeat (first | assumption | exact Q.refl _ | refine Q.alloc ?_ _ | refine Q.drewN ?_ _ | refine Q.drew ?_))
  go_enter Tryz.func11, Tryz.ntmps11
  go_upto_region 1 with (fail)
  generalize (wz.alloc (.cells #[.int .i64 0, .int .i64 0, .int .i64 0, .int .i64 0, .int .i64 0, .int .i64 0, .int .i64 0, .int .i64 0, .slice none 0 0] 30)).alloc (.cells #[.slice none 0 0] 43) = w0 at *
  go_wp2_with fail
  refine (spec_From A n c _ (ha.q Z0) hn).mono ?_
  rintro e w ⟨rfl, D0⟩
  obtain ⟨g, hg⟩ : ∃ g, g = w0.heap.size := ⟨_, rfl⟩
  rw [← hg] at D0
  have HD := DrT.start D0
  have hlt := HD.glt
  have lT0 := RT.lt
  replace R0 := R0.q D0.q
  replace RT := RT.q D0.q
  have hz1 : wz.heap.size + 1 < g := by omega
  go_wp2_with fail
  try rw [← hg]
  have hwz : wz.heap.size + 1 < w.heap.size := by omega
  clear hg
  refine (spec_l16Sail D0 hn).mono ?_
  rintro e wa ⟨x0, x1, x2, x3, x4, x5, x6, x7, C, m, d, ms, B, mt, dt, xs, tt, rfl, O, hm, hown, hmt, D1, G1⟩
  replace HD := HD.step D1 G1
  replace R0 := R0.keepG G1 (by omega)
  replace RT := RT.keepG G1 (by omega)
  clear D0 D1 G1 ha
  have hsz := HD.size
  have BC : Blk ((wa.alloc (.cells #[.int .i64 x0, .int .i64 x1, .int .i64 x2, .int .i64 x3, .int .i64 x4, .int .i64 x5, .int .i64 x6, .int .i64 x7, .slice C m d] 30)).alloc (.cells #[.slice B mt dt] 43)) wa.heap.size 30 #[.int .i64 x0, .int .i64 x1, .int .i64 x2, .int .i64 x3, .int .i64 x4, .int .i64 x5, .int .i64 x6, .int .i64 x7, .slice C m d] := (Blk.new _ _ _).alloc _
  have BT : Blk ((wa.alloc (.cells #[.int .i64 x0, .int .i64 x1, .int .i64 x2, .int .i64 x3, .int .i64 x4, .int .i64 x5, .int .i64 x6, .int .i64 x7, .slice C m d] 30)).alloc (.cells #[.slice B mt dt] 43)) (wa.heap.size + 1) 43 #[.slice B mt dt] := by simpa using Blk.new (wa.alloc (.cells #[.int .i64 x0, .int .i64 x1, .int .i64 x2, .int .i64 x3, .int .i64 x4, .int .i64 x5, .int .i64 x6, .int .i64 x7, .slice C m d] 30)) 43 #[.slice B mt dt]
  replace HD := (HD.alloc (.cells #[.int .i64 x0, .int .i64 x1, .int .i64 x2, .int .i64 x3, .int .i64 x4, .int .i64 x5, .int .i64 x6, .int .i64 x7, .slice C m d] 30)).alloc (.cells #[.slice B mt dt] 43)
  replace R0 := (R0.alloc (.cells #[.int .i64 x0, .int .i64 x1, .int .i64 x2, .int .i64 x3, .int .i64 x4, .int .i64 x5, .int .i64 x6, .int .i64 x7, .slice C m d] 30)).alloc (.cells #[.slice B mt dt] 43)
  replace RT := (RT.alloc (.cells #[.int .i64 x0, .int .i64 x1, .int .i64 x2, .int .i64 x3, .int .i64 x4, .int .i64 x5, .int .i64 x6, .int .i64 x7, .slice C m d] 30)).alloc (.cells #[.slice B mt dt] 43)
  replace O := (O.q ((Q.refl wa).alloc (.cells #[.int .i64 x0, .int .i64 x1, .int .i64 x2, .int .i64 x3, .int .i64 x4, .int .i64 x5, .int .i64 x6, .int .i64 x7, .slice C m d] 30))).q ((Q.refl _).alloc (.cells #[.slice B mt dt] 43))
  replace hown := (hown.q ((Q.refl wa).alloc (.cells #[.int .i64 x0, .int .i64 x1, .int .i64 x2, .int .i64 x3, .int .i64 x4, .int .i64 x5, .int .i64 x6, .int .i64 x7, .slice C m d] 30))).q ((Q.refl _).alloc (.cells #[.slice B mt dt] 43))
  obtain ⟨b, hb⟩ : ∃ b, b = wa.heap.size := ⟨_, rfl⟩
  obtain ⟨bt, hbt⟩ : ∃ b, b = wa.heap.size + 1 := ⟨_, rfl⟩
  rw [← hb] at BC
  rw [← hbt] at BT
  go_upto_region 3 with (fail)
  rw [← hbt, ← hb]
  generalize (wa.alloc (.cells #[.int .i64 x0, .int .i64 x1, .int .i64 x2, .int .i64 x3, .int .i64 x4, .int .i64 x5, .int .i64 x6, .int .i64 x7, .slice C m d] 30)).alloc (.cells #[.slice B mt dt] 43) = w3 at *
  have hb1 : w.heap.size ≤ b := by omega
  have hb2 : b < bt := by omega
  clear hb hbt hsz
  have hR0 : wz.heap.size ≠ g := by omega
  have hR1 : wz.heap.size + 1 ≠ g := by omega
  have hbg : b ≠ g := by omega
  have hbtg : bt ≠ g := by omega
  have hcap := O.cap
  go_cut [4, 5] from 18 to 30 (fun t f wc => ∃ tt ff : Int, t = .int .i64 tt ∧ f = .int .i64 ff ∧ OwC wc w.heap.size C m d ms ∧ Own wc w.heap.size 98 3 (.slice B mt dt) mt xs ∧ Blk wc wz.heap.size 30 #[.int .i64 x0, .int .i64 x1, .int .i64 x2, .int .i64 x3, .int .i64 x4, .int .i64 x5, .int .i64 x6, .int .i64 x7, .slice C m d] ∧ Blk wc (wz.heap.size + 1) 43 #[.slice B mt dt] ∧ Q wz wc)
  case first =>
    refine wp_region_H (fun w' : World => Blk w' b 30 #[.int .i64 x0, .int .i64 x1, .int .i64 x2, .int .i64 x3, .int .i64 x4, .int .i64 x5, .int .i64 x6, .int .i64 x7, .slice C m d] ∧ Blk w' bt 43 #[.slice B mt dt]) (by kernel_rfl) ?_
    replace R0 := R0.drew
    replace RT := RT.drew
    replace BC := BC.drew
    replace BT := BT.drew
    replace HD := HD.drew
    replace O := O.q ((Q.refl _).drew)
    replace hown := hown.q ((Q.refl _).drew)
    generalize w3.drew = wd at *
    have hS : (fun w' : World => Blk w' b 30 #[.int .i64 x0, .int .i64 x1, .int .i64 x2, .int .i64 x3, .int .i64 x4, .int .i64 x5, .int .i64 x6, .int .i64 x7, .slice C m d] ∧ Blk w' bt 43 #[.slice B mt dt]) wd := ⟨BC, BT⟩
    (refine tkH 0 (v := ?_) rfl (by kernel_rfl) (fun _ _ _ h => h) hS rfl ?_ ?_; rotate_left 1; focus (intro w s; have cA := s.1.cell; have cB := s.2.cell; go_simp; try with_reducible rfl))
    (refine tkH 1 (v := ?_) rfl (by kernel_rfl) (fun _ _ _ h => h) hS rfl ?_ ?_; rotate_left 1; focus (intro w s; have cA := s.1.cell; have cB := s.2.cell; go_simp; try with_reducible rfl))
    (refine tkH 2 (v := ?_) rfl (by kernel_rfl) (fun _ _ _ h => h) hS rfl ?_ ?_; rotate_left 1; focus (intro w s; have cA := s.1.cell; have cB := s.2.cell; go_simp; try with_reducible rfl))
    (refine tkH 3 (v := ?_) rfl (by kernel_rfl) (fun _ _ _ h => h) hS rfl ?_ ?_; rotate_left 1; focus (intro w s; have cA := s.1.cell; have cB := s.2.cell; go_simp; try with_reducible rfl))
    (refine tkH 5 (v := ?_) rfl (by kernel_rfl) (fun _ _ _ h => h) hS rfl ?_ ?_; rotate_left 1; focus (intro w s; have cA := s.1.cell; have cB := s.2.cell; go_simp; try with_reducible rfl))
    (refine tkH 9 (v := ?_) rfl (by kernel_rfl) (fun _ _ _ h => h) hS rfl ?_ ?_; rotate_left 1; focus (intro w s; have cA := s.1.cell; have cB := s.2.cell; go_simp; try with_reducible rfl))
    try simp only [Act.put, List.setIfInBounds_toArray, List.set_cons_zero, List.set_cons_succ, List.getElem_toArray, List.getElem_cons_succ, List.getElem_cons_zero]; try simp only [Nat.zero_add]
    refine wpAnyH_one 4 (by kernel_rfl) rfl (fun K hK => ?_)
    go_simp
    go_at_call 17
    refine (spec_Next (w0 := w0) (A := A) (n := n) (c := c) _ HD.dr hn).mono ?_
    rintro e4 w4 ⟨r4, rfl, _, D4, G4⟩
    replace HD := HD.step D4 G4
    replace R0 := Blk.keepG R0 G4 hR0
    replace RT := Blk.keepG RT G4 hR1
    replace BC := Blk.keepG BC G4 hbg
    replace BT := Blk.keepG BT G4 hbtg
    replace O := O.kept G4 (fun _ hk => by cases hk; exact hlt)
    replace hown := hown.keepD G4 hlt
    clear D4 G4
    have hS : (fun w' : World => Blk w' b 30 #[.int .i64 x0, .int .i64 x1, .int .i64 x2, .int .i64 x3, .int .i64 x4, .int .i64 x5, .int .i64 x6, .int .i64 x7, .slice C m d] ∧ Blk w' bt 43 #[.slice B mt dt]) w4 := ⟨BC, BT⟩
    refine hK.out _ _ hS ?_
    clear hK K
    refine wpAnyH_one 6 (by kernel_rfl) rfl (fun K hK => ?_)
    go_simp
    go_at_call 17
    refine (spec_Next (w0 := w0) (A := A) (n := n) (c := c) _ HD.dr hn).mono ?_
    rintro e6 w6 ⟨r6, rfl, _, D6, G6⟩
    replace HD := HD.step D6 G6
    replace R0 := Blk.keepG R0 G6 hR0
    replace RT := Blk.keepG RT G6 hR1
    replace BC := Blk.keepG BC G6 hbg
    replace BT := Blk.keepG BT G6 hbtg
    replace O := O.kept G6 (fun _ hk => by cases hk; exact hlt)
    replace hown := hown.keepD G6 hlt
    clear D6 G6
    have hS : (fun w' : World => Blk w' b 30 #[.int .i64 x0, .int .i64 x1, .int .i64 x2, .int .i64 x3, .int .i64 x4, .int .i64 x5, .int .i64 x6, .int .i64 x7, .slice C m d] ∧ Blk w' bt 43 #[.slice B mt dt]) w6 := ⟨BC, BT⟩
    refine hK.out _ _ hS ?_
    clear hK K
    (refine tkH 7 (v := ?_) rfl (by kernel_rfl) (fun _ _ _ h => h) hS rfl ?_ ?_; rotate_left 1; focus (intro w s; have cA := s.1.cell; have cB := s.2.cell; go_simp; try with_reducible rfl))
    (refine tkH 8 (v := ?_) rfl (by kernel_rfl) (fun _ _ _ h => h) hS rfl ?_ ?_; rotate_left 1; focus (intro w s; have cA := s.1.cell; have cB := s.2.cell; go_simp; try with_reducible rfl))
    try simp only [Act.put, List.setIfInBounds_toArray, List.set_cons_zero, List.set_cons_succ, List.getElem_toArray, List.getElem_cons_succ, List.getElem_cons_zero]; try simp only [Nat.zero_add]
    refine wpAnyH_one 10 (by kernel_rfl) rfl (fun K hK => ?_)
    go_simp
    go_at_call 17
    refine (spec_Next (w0 := w0) (A := A) (n := n) (c := c) _ HD.dr hn).mono ?_
    rintro e10 w10 ⟨r10, rfl, _, D10, G10⟩
    replace HD := HD.step D10 G10
    replace R0 := Blk.keepG R0 G10 hR0
    replace RT := Blk.keepG RT G10 hR1
    replace BC := Blk.keepG BC G10 hbg
    replace BT := Blk.keepG BT G10 hbtg
    replace O := O.kept G10 (fun _ hk => by cases hk; exact hlt)
    replace hown := hown.keepD G10 hlt
    clear D10 G10
    have hS : (fun w' : World => Blk w' b 30 #[.int .i64 x0, .int .i64 x1, .int .i64 x2, .int .i64 x3, .int .i64 x4, .int .i64 x5, .int .i64 x6, .int .i64 x7, .slice C m d] ∧ Blk w' bt 43 #[.slice B mt dt]) w10 := ⟨BC, BT⟩
    refine hK.out _ _ hS ?_
    clear hK K
    (refine tkH 11 (v := ?_) rfl (by kernel_rfl) (fun _ _ _ h => h) hS rfl ?_ ?_; rotate_left 1; focus (intro w s; have cA := s.1.cell; have cB := s.2.cell; go_simp; try with_reducible rfl))
    (refine tkH 12 (v := ?_) rfl (by kernel_rfl) (fun _ _ _ h => h) hS rfl ?_ ?_; rotate_left 1; focus (intro w s; have cA := s.1.cell; have cB := s.2.cell; go_simp; try with_reducible rfl))
    try simp only [Act.put, List.setIfInBounds_toArray, List.set_cons_zero, List.set_cons_succ, List.getElem_toArray, List.getElem_cons_succ, List.getElem_cons_zero]; try simp only [Nat.zero_add]
    refine wpAnyH_one 13 (by kernel_rfl) rfl (fun K hK => ?_)
    have QW := Z0.trans HD.dr.q
    refine step_storeL rfl 30 _ _ rfl wz.heap.size [.int .i64 x0, .int .i64 x1, .int .i64 x2, .int .i64 x3, .int .i64 x4, .int .i64 x5, .int .i64 x6, .int .i64 x7, .slice C m d] rfl rfl R0.there (by kernel_rfl) (by simp [Value.oneCell']) ?_
    have nO := O.ne R0 (by decide)
    replace O := O.farAll nO 0 [.int .i64 x0, .int .i64 x1, .int .i64 x2, .int .i64 x3, .int .i64 x4, .int .i64 x5, .int .i64 x6, .int .i64 x7, .slice C m d]
    replace hown := hown.farAll R0 (by decide) 0 [.int .i64 x0, .int .i64 x1, .int .i64 x2, .int .i64 x3, .int .i64 x4, .int .i64 x5, .int .i64 x6, .int .i64 x7, .slice C m d]
    replace RT := RT.farAll (b := wz.heap.size) (by omega) 0 [.int .i64 x0, .int .i64 x1, .int .i64 x2, .int .i64 x3, .int .i64 x4, .int .i64 x5, .int .i64 x6, .int .i64 x7, .slice C m d]
    replace BC := BC.farAll (b := wz.heap.size) (by omega) 0 [.int .i64 x0, .int .i64 x1, .int .i64 x2, .int .i64 x3, .int .i64 x4, .int .i64 x5, .int .i64 x6, .int .i64 x7, .slice C m d]
    replace BT := BT.farAll (b := wz.heap.size) (by omega) 0 [.int .i64 x0, .int .i64 x1, .int .i64 x2, .int .i64 x3, .int .i64 x4, .int .i64 x5, .int .i64 x6, .int .i64 x7, .slice C m d]
    replace R0 := R0.all9 (.int .i64 x0) (.int .i64 x1) (.int .i64 x2) (.int .i64 x3) (.int .i64 x4) (.int .i64 x5) (.int .i64 x6) (.int .i64 x7) (.slice C m d)
    replace QW := QW.setAll (b := wz.heap.size) (Nat.le_refl _) 0 [.int .i64 x0, .int .i64 x1, .int .i64 x2, .int .i64 x3, .int .i64 x4, .int .i64 x5, .int .i64 x6, .int .i64 x7, .slice C m d]
    clear nO HD
    generalize w10.setCells wz.heap.size 0 [.int .i64 x0, .int .i64 x1, .int .i64 x2, .int .i64 x3, .int .i64 x4, .int .i64 x5, .int .i64 x6, .int .i64 x7, .slice C m d] = w10c at *
    have hS : (fun w' : World => Blk w' b 30 #[.int .i64 x0, .int .i64 x1, .int .i64 x2, .int .i64 x3, .int .i64 x4, .int .i64 x5, .int .i64 x6, .int .i64 x7, .slice C m d] ∧ Blk w' bt 43 #[.slice B mt dt]) w10c := ⟨BC, BT⟩
    refine hK.out _ _ hS ?_
    clear hK K
    refine wpAnyH_one 14 (by kernel_rfl) rfl (fun K hK => ?_)
    refine step_storeL rfl 43 _ _ rfl (wz.heap.size + 1) [.slice B mt dt] rfl rfl RT.there (by kernel_rfl) (by simp [Value.oneCell']) ?_
    replace O := O.farAll (O.ne RT (by decide)) 0 [.slice B mt dt]
    replace hown := hown.farAll RT (by decide) 0 [.slice B mt dt]
    replace R0 := R0.farAll (b := wz.heap.size + 1) (by omega) 0 [.slice B mt dt]
    replace BC := BC.farAll (b := wz.heap.size + 1) (by omega) 0 [.slice B mt dt]
    replace BT := BT.farAll (b := wz.heap.size + 1) (by omega) 0 [.slice B mt dt]
    replace RT := RT.all1 (.slice B mt dt)
    replace QW := QW.setAll (b := wz.heap.size + 1) (by omega) 0 [.slice B mt dt]
    generalize w10c.setCells (wz.heap.size + 1) 0 [.slice B mt dt] = w10ct at *
    have hS : (fun w' : World => Blk w' b 30 #[.int .i64 x0, .int .i64 x1, .int .i64 x2, .int .i64 x3, .int .i64 x4, .int .i64 x5, .int .i64 x6, .int .i64 x7, .slice C m d] ∧ Blk w' bt 43 #[.slice B mt dt]) w10ct := ⟨BC, BT⟩
    refine hK.out _ _ hS ?_
    clear hK K
    (refine tkH 15 (v := ?_) rfl (by kernel_rfl) (fun _ _ _ h => h) hS rfl ?_ ?_; rotate_left 1; focus (intro w s; have cA := s.1.cell; have cB := s.2.cell; go_simp; try with_reducible rfl))
    (refine tkH 16 (v := ?_) rfl (by kernel_rfl) (fun _ _ _ h => h) hS rfl ?_ ?_; rotate_left 1; focus (intro w s; have cA := s.1.cell; have cB := s.2.cell; go_simp; try with_reducible rfl))
    try simp only [Act.put, List.setIfInBounds_toArray, List.set_cons_zero, List.set_cons_succ, List.getElem_toArray, List.getElem_cons_succ, List.getElem_cons_zero]; try simp only [Nat.zero_add]
    refine wpAnyH_done (by kernel_rfl) ?_ _
    go_wp2_with fail
    go_meet
    exact ⟨_, _, rfl, rfl, O, hown, R0, RT, QW⟩
  case rest =>
    clear O hown R0 RT BC BT HD
    obtain ⟨tt, ff, rfl, rfl, O, hown, R0, RT, QW⟩ := hcut
    have F1 := R0.cell
    have F2 := RT.cell
    go_wp2_with fail
    refine bodyPost_ret (v := .tuple #[.agg #[.int .i64 x0, .int .i64 x1, .int .i64 x2, .int .i64 x3, .int .i64 x4, .int .i64 x5, .int .i64 x6, .int .i64 x7, .slice C m d], .agg #[.slice B mt dt], .int .i64 tt, .int .i64 ff]) (by simp [results, Tryz.results11, go_sem, F1, F2]) rfl ⟨x0, x1, x2, x3, x4, x5, x6, x7, C, m, d, ms, B, mt, dt, xs, tt, ff, rfl, ⟨O.rd, O.len, hcap, hm⟩, ⟨hown.rd, hown.len, hmt⟩, QW⟩
set_option maxRecDepth 100000 in
set_option maxHeartbeats 4000000 in
theorem law_FnFinishes (A : Option Addr) (n c : Nat) (hc : n ≤ c ∧ c ≤ maxLen) (w : World) (ha : Rd8 w A n) :
    Calls Tryz.prog 4 #[.slice A n c] w fun e w' => e = .returned (.bool true) ∧ Below w.heap.size w w' := by
  have hn : n ≤ 9223372036854775807 := by unfold maxLen at hc; omega
  clear hc
  have K0 := Lib.hid (fun wv => big_any A n c wv hn)
  by_cases h4 : 4096 < n
  · rw [decide_eq_true h4] at K0
    go_enter Tryz.func4, Tryz.ntmps4
    go_wp2_with (go_at_call 5; refine (K0.out _).mono ?_; rintro e w' ⟨rfl, rfl⟩)
    go_ret
    exact ⟨rfl, Q.refl _⟩
  · rw [decide_eq_false h4] at K0
    replace hn : n ≤ 140737488355327 := by omega
    have K1 := Lib.hid (fun wv (h : Rd8 wv A n) => spec_DrawFinishOf A n c wv h hn)
    clear h4
    go_enter Tryz.func4, Tryz.ntmps4
    go_wp2_with (go_at_call 5; refine (K0.out _).mono ?_; rintro e w' ⟨rfl, rfl⟩)
    refine (K1.out _ ha).mono ?_
    rintro e w1 ⟨x0, x1, x2, x3, x4, x5, x6, x7, C, m, d, ms, B, mt, dt, xs, t, f, rfl, ⟨hC, hml, hmd, hm10⟩, ⟨hx, hl, hmt⟩, q1⟩
    clear K0 K1 ha
    have BC : Blk ((w1.alloc (.cells #[.int .i64 x0, .int .i64 x1, .int .i64 x2, .int .i64 x3, .int .i64 x4, .int .i64 x5, .int .i64 x6, .int .i64 x7, .slice C m d] 30)).alloc (.cells #[.slice B mt dt] 43)) w1.heap.size 30 #[.int .i64 x0, .int .i64 x1, .int .i64 x2, .int .i64 x3, .int .i64 x4, .int .i64 x5, .int .i64 x6, .int .i64 x7, .slice C m d] := (Blk.new _ _ _).alloc _
    have BT : Blk ((w1.alloc (.cells #[.int .i64 x0, .int .i64 x1, .int .i64 x2, .int .i64 x3, .int .i64 x4, .int .i64 x5, .int .i64 x6, .int .i64 x7, .slice C m d] 30)).alloc (.cells #[.slice B mt dt] 43)) (w1.heap.size + 1) 43 #[.slice B mt dt] := by simpa using Blk.new (w1.alloc (.cells #[.int .i64 x0, .int .i64 x1, .int .i64 x2, .int .i64 x3, .int .i64 x4, .int .i64 x5, .int .i64 x6, .int .i64 x7, .slice C m d] 30)) 43 #[.slice B mt dt]
    have QW : Q w ((w1.alloc (.cells #[.int .i64 x0, .int .i64 x1, .int .i64 x2, .int .i64 x3, .int .i64 x4, .int .i64 x5, .int .i64 x6, .int .i64 x7, .slice C m d] 30)).alloc (.cells #[.slice B mt dt] 43)) := (q1.alloc _).alloc _
    replace hx := hx.q (((Q.refl w1).alloc (.cells #[.int .i64 x0, .int .i64 x1, .int .i64 x2, .int .i64 x3, .int .i64 x4, .int .i64 x5, .int .i64 x6, .int .i64 x7, .slice C m d] 30)).alloc (.cells #[.slice B mt dt] 43))
    replace hC := hC.q (((Q.refl w1).alloc (.cells #[.int .i64 x0, .int .i64 x1, .int .i64 x2, .int .i64 x3, .int .i64 x4, .int .i64 x5, .int .i64 x6, .int .i64 x7, .slice C m d] 30)).alloc (.cells #[.slice B mt dt] 43))
    clear q1
    go_upto_region 4 with (fail)
    obtain ⟨b, hb⟩ : ∃ b, b = w1.heap.size := ⟨_, rfl⟩
    obtain ⟨bt, hbt⟩ : ∃ b, b = w1.heap.size + 1 := ⟨_, rfl⟩
    rw [← hb] at BC
    rw [← hbt] at BT
    rw [← hbt, ← hb]
    clear hb hbt
    generalize (w1.alloc (.cells #[.int .i64 x0, .int .i64 x1, .int .i64 x2, .int .i64 x3, .int .i64 x4, .int .i64 x5, .int .i64 x6, .int .i64 x7, .slice C m d] 30)).alloc (.cells #[.slice B mt dt] 43) = wb at *
    have k1 := fun wv (h1 : RdM wv C ms) (h2 : Rd wv B xs) => impl_FinishOf x0 x1 x2 x3 x4 x5 x6 x7 C m d ms B mt dt xs t f wv h1 hml hmd (by omega) h2 hl (by omega)
    have k2 := fun wv (h1 : RdM wv C ms) (h2 : Rd wv B xs) => spec_FinishOf x0 x1 x2 x3 x4 x5 x6 x7 C m d ms B mt dt xs t f wv h1 hml (by omega) h2 hl (by omega)
    have cC := BC.cell
    have cT := BT.cell
    have lC := BC.lt
    have lT := BT.lt
    by_cases h0 : ffK x0 x1 x2 x3 x4 x5 x6 x7 ms xs mt t f = 0
    · obtain ⟨hst, ht, hfin, hrel⟩ := ff_facts h0
      have k3 := fun wv (h2 : Rd wv B xs) => impl_StartOf x0 x1 x2 x3 B mt dt xs t f wv h2 hl (by omega)
      have k4 := fun wv => impl_IsFinish (ffV x0 x1 x2 x3 x4 x5 x6 x7 ms xs mt t f).1 (ffV x0 x1 x2 x3 x4 x5 x6 x7 ms xs mt t f).2.1 (ffV x0 x1 x2 x3 x4 x5 x6 x7 ms xs mt t f).2.2 wv
      have hso : soV x0 x1 x2 x3 xs mt t f = stA x0 x1 x2 x3 xs mt t f := by unfold soV; rw [if_pos hst]
      rw [h0] at k1 k2
      rw [hso, hst] at k3
      rw [hfin] at k4
      clear h0 hso hst hfin
      generalize ffV x0 x1 x2 x3 x4 x5 x6 x7 ms xs mt t f = V at *
      generalize stA x0 x1 x2 x3 xs mt t f = p at *
      obtain ⟨v1, v2, v3⟩ := V
      obtain ⟨p1, p2, p3, p4⟩ := p
      unfold stVal at k3
      simp only at k1 k2 k3 k4 hrel
      have K1 := Lib.hid k1
      have K2 := Lib.hid k2
      have K3 := Lib.hid k3
      have K4 := Lib.hid k4
      clear k1 k2 k3 k4
      have HR := Lib.hid hrel
      clear hrel
      go_wp2_with fail
      refine (K1.out _ hC hx).mono ?_
      rintro e w2 ⟨rfl, q2⟩
      have BF := Blk.new w2 38 #[.int .i64 v1, .int .i64 v2, .int .i64 v3]
      replace BC := (BC.q q2).alloc (.cells #[.int .i64 v1, .int .i64 v2, .int .i64 v3] 38)
      replace BT := (BT.q q2).alloc (.cells #[.int .i64 v1, .int .i64 v2, .int .i64 v3] 38)
      replace hC := (hC.q q2).q ((Q.refl _).alloc (.cells #[.int .i64 v1, .int .i64 v2, .int .i64 v3] 38))
      replace hx := (hx.q q2).q ((Q.refl _).alloc (.cells #[.int .i64 v1, .int .i64 v2, .int .i64 v3] 38))
      replace QW := (QW.trans q2).alloc (.cells #[.int .i64 v1, .int .i64 v2, .int .i64 v3] 38)
      clear q2 cC cT lC lT
      go_upto_region 5 with (fail)
      obtain ⟨bf, hbf⟩ : ∃ b, b = w2.heap.size := ⟨_, rfl⟩
      rw [← hbf] at BF ⊢
      clear hbf
      generalize w2.alloc (.cells #[.int .i64 v1, .int .i64 v2, .int .i64 v3] 38) = w2a at *
      have cC := BC.cell
      have cT := BT.cell
      have lC := BC.lt
      have lT := BT.lt
      go_wp2_with fail
      refine (K2.out _ hC hx).mono ?_
      rintro e w3 ⟨rfl, q3⟩
      have BG := Blk.new w3 38 #[.int .i64 v1, .int .i64 v2, .int .i64 v3]
      replace BC := (BC.q q3).alloc (.cells #[.int .i64 v1, .int .i64 v2, .int .i64 v3] 38)
      replace BT := (BT.q q3).alloc (.cells #[.int .i64 v1, .int .i64 v2, .int .i64 v3] 38)
      replace BF := (BF.q q3).alloc (.cells #[.int .i64 v1, .int .i64 v2, .int .i64 v3] 38)
      replace hx := (hx.q q3).q ((Q.refl _).alloc (.cells #[.int .i64 v1, .int .i64 v2, .int .i64 v3] 38))
      replace QW := (QW.trans q3).alloc (.cells #[.int .i64 v1, .int .i64 v2, .int .i64 v3] 38)
      clear q3 cC cT lC lT hC
      go_upto_region 6 with (fail)
      obtain ⟨bg, hbg⟩ : ∃ b, b = w3.heap.size := ⟨_, rfl⟩
      rw [← hbg] at BG ⊢
      clear hbg
      generalize w3.alloc (.cells #[.int .i64 v1, .int .i64 v2, .int .i64 v3] 38) = w3a at *
      have cC := BC.cell
      have cT := BT.cell
      have lC := BC.lt
      have lT := BT.lt
      have cF := BF.cell
      have lF := BF.lt
      have cG := BG.cell
      have lG := BG.lt
      go_wp2_with fail
      refine (K3.out _ hx).mono ?_
      rintro e w4 ⟨rfl, q4⟩
      have BS := Blk.new w4 49 #[.int .i64 p1, .int .i64 p2, .int .i64 p3, .bool p4]
      replace BF := (BF.q q4).alloc (.cells #[.int .i64 p1, .int .i64 p2, .int .i64 p3, .bool p4] 49)
      replace QW := (QW.trans q4).alloc (.cells #[.int .i64 p1, .int .i64 p2, .int .i64 p3, .bool p4] 49)
      clear q4 cC cT lC lT cF lF cG lG BC BT BG hx
      go_upto_region 11 with (fail)
      obtain ⟨bs, hbs⟩ : ∃ b, b = w4.heap.size := ⟨_, rfl⟩
      rw [← hbs] at BS ⊢
      clear hbs
      generalize w4.alloc (.cells #[.int .i64 p1, .int .i64 p2, .int .i64 p3, .bool p4] 49) = w4a at *
      have cF := BF.cell
      have lF := BF.lt
      go_wp2_with fail
      refine (K4.out _).mono ?_
      rintro e w5 ⟨rfl, q5⟩
      replace BF := BF.q q5
      replace BS := BS.q q5
      replace QW := QW.trans q5
      clear q5 cF lF
      have cF := BF.cell
      have lF := BF.lt
      have cS := BS.cell
      have lS := BS.lt
      rcases HR.out with ⟨hp, hv⟩ | ⟨hp, hv⟩
      · subst hv
        have hpb : (v2 == 0) = false := by simpa using hp
        go_wp2_with fail
        go_ret
        exact ⟨rfl, QW⟩
      · subst hp
        rcases hv with hv | ⟨hv, hb3, hge⟩
        · subst hv
          go_wp2_with fail
          go_ret
          exact ⟨rfl, QW⟩
        · subst hv
          go_wp2_with fail
          go_ret
          exact ⟨rfl, QW⟩
    · have hKb : (ffK x0 x1 x2 x3 x4 x5 x6 x7 ms xs mt t f == 0) = false := by simpa using h0
      generalize ffK x0 x1 x2 x3 x4 x5 x6 x7 ms xs mt t f = K at *
      generalize ffV x0 x1 x2 x3 x4 x5 x6 x7 ms xs mt t f = V at *
      obtain ⟨v1, v2, v3⟩ := V
      simp only at k1 k2
      have K1 := Lib.hid k1
      have K2 := Lib.hid k2
      clear k1 k2
      go_wp2_with fail
      refine (K1.out _ hC hx).mono ?_
      rintro e w2 ⟨rfl, q2⟩
      have BF := Blk.new w2 38 #[.int .i64 v1, .int .i64 v2, .int .i64 v3]
      replace BC := (BC.q q2).alloc (.cells #[.int .i64 v1, .int .i64 v2, .int .i64 v3] 38)
      replace BT := (BT.q q2).alloc (.cells #[.int .i64 v1, .int .i64 v2, .int .i64 v3] 38)
      replace hC := (hC.q q2).q ((Q.refl _).alloc (.cells #[.int .i64 v1, .int .i64 v2, .int .i64 v3] 38))
      replace hx := (hx.q q2).q ((Q.refl _).alloc (.cells #[.int .i64 v1, .int .i64 v2, .int .i64 v3] 38))
      replace QW := (QW.trans q2).alloc (.cells #[.int .i64 v1, .int .i64 v2, .int .i64 v3] 38)
      clear q2 cC cT lC lT
      go_upto_region 5 with (fail)
      obtain ⟨bf, hbf⟩ : ∃ b, b = w2.heap.size := ⟨_, rfl⟩
      rw [← hbf] at BF ⊢
      clear hbf
      generalize w2.alloc (.cells #[.int .i64 v1, .int .i64 v2, .int .i64 v3] 38) = w2a at *
      have cC := BC.cell
      have cT := BT.cell
      have lC := BC.lt
      have lT := BT.lt
      go_wp2_with fail
      refine (K2.out _ hC hx).mono ?_
      rintro e w3 ⟨rfl, q3⟩
      have BG := Blk.new w3 38 #[.int .i64 v1, .int .i64 v2, .int .i64 v3]
      replace BF := (BF.q q3).alloc (.cells #[.int .i64 v1, .int .i64 v2, .int .i64 v3] 38)
      replace QW := (QW.trans q3).alloc (.cells #[.int .i64 v1, .int .i64 v2, .int .i64 v3] 38)
      clear q3 cC cT lC lT hC hx BC BT
      go_upto_region 6 with (fail)
      obtain ⟨bg, hbg⟩ : ∃ b, b = w3.heap.size := ⟨_, rfl⟩
      rw [← hbg] at BG ⊢
      clear hbg
      generalize w3.alloc (.cells #[.int .i64 v1, .int .i64 v2, .int .i64 v3] 38) = w3a at *
      have cF := BF.cell
      have lF := BF.lt
      have cG := BG.cell
      have lG := BG.lt
      go_wp2_with fail
      go_ret
      exact ⟨rfl, QW⟩
end Go.Proofs.YteofhfefbphjdaaGreatDoor
