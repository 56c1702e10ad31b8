/- Walks: the draw of the law on lists of finishes: a course, tracks, a time and a flag. No condition. -/
import Derived.Test.YteofhfefbphjdaaGreatDoorDr16
import Derived.Test.YteofhfefbphjdaaGreatDoorDrO
namespace Go.Proofs.YteofhfefbphjdaaGreatDoor
open Go.RowKit Go.WideShapes Go.ChangeShapes Go.Deep
theorem OwnK.one {w : World} {B0 n c : Nat} {A : Option Addr} {xs : List Int} (h : Own w B0 98 3 (.slice A n c) n xs) (hn : n ≤ 1048576) (hB : B0 ≤ w.heap.size) : OwnK (w.alloc (.cells #[.slice A n c] 43)) B0 (some ⟨w.heap.size, 0, none⟩) 1 1 [⟨A, n, c, xs⟩] :=
  ⟨by have := World.ownsRow_lit (base := B0) (e := 43) (size := 1) w #[.slice A n c] 1 hB (by decide) rfl; simpa [Tk.val] using this, fun T hT => by obtain rfl := List.mem_singleton.1 hT; exact ⟨h.q ((Q.refl _).alloc _), hn⟩⟩
theorem OwnK.farAll {w : World} {B n c b : Nat} {A : Option Addr} {ts : List Tk} {t : TypeId} {cs : Array Value} (h : OwnK w B A n c ts) (hb : Blk w b t cs) (h1 : 43 ≠ t) (h2 : 98 ≠ t) (o : Nat) (vs : List Value) : OwnK (w.setCells b o vs) B A n c ts := by
  induction vs generalizing o w cs with
  | nil => exact h
  | cons v vs ih =>
    rw [World.setCells]
    exact ih (h.setFar hb h1 h2 o v) (hb.set_ o v) (o + 1)
theorem OwC.keepK {w w' : World} {B B' n c q d : Nat} {A A1 : Option Addr} {ms : List Mk} {ts : List Tk} (h : OwC w B A n c ms) (ho : OwnK w B' A1 q d ts) (hg : w.grownBy w' (A1.map (·.block))) : OwC w' B A n c ms :=
  h.kept2 hg (fun a ha he => by
    rcases A1 with _ | r
    · cases he
    · exact row_ne h.1 ho.1 (by decide) a r ha rfl (Option.some.inj he))
def DrawFL (wz : World) (e : Ending) (w' : World) : Prop := ∃ (x0 x1 x2 x3 x4 x5 x6 x7 : Int) (C : Option Addr) (m d : Nat) (ms : List Mk) (B : Option Addr) (k dk : Nat) (D : List (Nat × List Int)) (t f : Int),
  e = .returned (.tuple #[.agg #[.int .i64 x0, .int .i64 x1, .int .i64 x2, .int .i64 x3, .int .i64 x4, .int .i64 x5, .int .i64 x6, .int .i64 x7, .slice C m d], .slice B k dk, .int .i64 t, .int .i64 f]) ∧ (RdM w' C ms ∧ ms.length = m ∧ m ≤ d ∧ m ≤ 10) ∧ (RdD w' B D ∧ D.length = k ∧ k ≤ 17) ∧ Q wz w'
set_option maxRecDepth 100000 in
set_option maxHeartbeats 8000000 in
theorem spec_DrawFinishesOf (A : Option Addr) (n c : Nat) (wz : World) (ha : Rd8 wz A n) (hn : n ≤ 140737488355327) : Calls Tryz.prog 6 #[.slice A n c] wz (DrawFL wz) := by
  obtain ⟨i0, hi, hz0, hz1, hz2⟩ := info_parts infoTrack
  have HI := Lib.hid (And.intro hi (And.intro hz0 (And.intro hz1 hz2)))
  clear hi hz0 hz1 hz2
  have R0 := Blk.new wz 30 #[.int .i64 0, .int .i64 0, .int .i64 0, .int .i64 0, .int .i64 0, .int .i64 0, .int .i64 0, .int .i64 0, .slice none 0 0]
  have Z0 : Q wz (wz.alloc (.cells #[.int .i64 0, .int .i64 0, .int .i64 0, .int .i64 0, .int .i64 0, .int .i64 0, .int .i64 0, .int .i64 0, .slice none 0 0] 30)) := by (repeat (first | assumption | exact Q.refl _ | refine Q.alloc ?_ _ | refine Q.drewN ?_ _ | refine Q.drew ?_))
  go_enter Tryz.func6, Tryz.ntmps6
  go_upto_region 1 with (fail)
  generalize wz.alloc (.cells #[.int .i64 0, .int .i64 0, .int .i64 0, .int .i64 0, .int .i64 0, .int .i64 0, .int .i64 0, .int .i64 0, .slice none 0 0] 30) = w0 at *
  go_wp2_with fail
  refine (spec_From A n c _ (ha.q Z0) hn).mono ?_
  rintro e w ⟨rfl, D0⟩
  obtain ⟨g, hg⟩ : ∃ g, g = w0.heap.size := ⟨_, rfl⟩
  rw [← hg] at D0
  have HD := DrT.start D0
  have hlt := HD.glt
  have lT0 := R0.lt
  replace R0 := R0.q D0.q
  have hz1 : wz.heap.size < g := by omega
  go_wp2_with fail
  try rw [← hg]
  clear hg
  refine (spec_l16Sail D0 hn).mono ?_
  rintro e wa ⟨x0, x1, x2, x3, x4, x5, x6, x7, C, m, d, ms, B, mt, dt, xs, tt, rfl, O, hm, hown, hmt, D1, G1⟩
  replace HD := HD.step D1 G1
  replace R0 := R0.keepG G1 (by omega)
  clear D0 D1 G1 ha
  have hsz := HD.size
  have BC : Blk ((wa.alloc (.cells #[.int .i64 x0, .int .i64 x1, .int .i64 x2, .int .i64 x3, .int .i64 x4, .int .i64 x5, .int .i64 x6, .int .i64 x7, .slice C m d] 30)).alloc (.cells #[.slice B mt dt] 43)) wa.heap.size 30 #[.int .i64 x0, .int .i64 x1, .int .i64 x2, .int .i64 x3, .int .i64 x4, .int .i64 x5, .int .i64 x6, .int .i64 x7, .slice C m d] := (Blk.new _ _ _).alloc _
  have BT : Blk ((wa.alloc (.cells #[.int .i64 x0, .int .i64 x1, .int .i64 x2, .int .i64 x3, .int .i64 x4, .int .i64 x5, .int .i64 x6, .int .i64 x7, .slice C m d] 30)).alloc (.cells #[.slice B mt dt] 43)) (wa.heap.size + 1) 43 #[.slice B mt dt] := by simpa using Blk.new (wa.alloc (.cells #[.int .i64 x0, .int .i64 x1, .int .i64 x2, .int .i64 x3, .int .i64 x4, .int .i64 x5, .int .i64 x6, .int .i64 x7, .slice C m d] 30)) 43 #[.slice B mt dt]
  replace HD := (HD.alloc (.cells #[.int .i64 x0, .int .i64 x1, .int .i64 x2, .int .i64 x3, .int .i64 x4, .int .i64 x5, .int .i64 x6, .int .i64 x7, .slice C m d] 30)).alloc (.cells #[.slice B mt dt] 43)
  replace R0 := (R0.alloc (.cells #[.int .i64 x0, .int .i64 x1, .int .i64 x2, .int .i64 x3, .int .i64 x4, .int .i64 x5, .int .i64 x6, .int .i64 x7, .slice C m d] 30)).alloc (.cells #[.slice B mt dt] 43)
  replace O := (O.q ((Q.refl wa).alloc (.cells #[.int .i64 x0, .int .i64 x1, .int .i64 x2, .int .i64 x3, .int .i64 x4, .int .i64 x5, .int .i64 x6, .int .i64 x7, .slice C m d] 30))).q ((Q.refl _).alloc (.cells #[.slice B mt dt] 43))
  replace hown := (hown.q ((Q.refl wa).alloc (.cells #[.int .i64 x0, .int .i64 x1, .int .i64 x2, .int .i64 x3, .int .i64 x4, .int .i64 x5, .int .i64 x6, .int .i64 x7, .slice C m d] 30))).q ((Q.refl _).alloc (.cells #[.slice B mt dt] 43))
  obtain ⟨b, hb⟩ : ∃ b, b = wa.heap.size := ⟨_, rfl⟩
  obtain ⟨bt, hbt⟩ : ∃ b, b = wa.heap.size + 1 := ⟨_, rfl⟩
  rw [← hb] at BC
  rw [← hbt] at BT
  go_upto_region 3 with (fail)
  rw [← hbt, ← hb]
  generalize (wa.alloc (.cells #[.int .i64 x0, .int .i64 x1, .int .i64 x2, .int .i64 x3, .int .i64 x4, .int .i64 x5, .int .i64 x6, .int .i64 x7, .slice C m d] 30)).alloc (.cells #[.slice B mt dt] 43) = w3 at *
  have hb1 : w.heap.size ≤ b := by omega
  clear hb hbt hsz
  have hR0 : wz.heap.size ≠ g := by omega
  have hbg : b ≠ g := by omega
  have hcap := O.cap
  have hml := O.len
  have cT := BT.cell
  have lT := BT.lt
  go_upto_region 4 with (fail)
  have O0 := OwnK.one hown (by omega) HD.size
  replace BC := BC.alloc (.cells #[.slice B mt dt] 43)
  replace R0 := R0.alloc (.cells #[.slice B mt dt] 43)
  replace HD := HD.alloc (.cells #[.slice B mt dt] 43)
  replace O := O.q ((Q.refl _).alloc (.cells #[.slice B mt dt] 43))
  clear cT lT BT hown
  generalize w3.alloc (.cells #[.slice B mt dt] 43) = w4 at *
  generalize w3.heap.size = bl at *
  go_wp2_with fail
  refine (spec_Next _ HD.dr hn).mono ?_
  rintro e5 w5 ⟨r5, rfl, hr5, D5, G5⟩
  replace HD := HD.step D5 G5
  replace R0 := Blk.keepG R0 G5 hR0
  replace BC := Blk.keepG BC G5 hbg
  replace O := O.kept G5 (fun _ hk => by cases hk; exact hlt)
  replace O0 := O0.keepD G5 hlt
  clear D5 G5
  go_wp2_with fail
  go_loopw [10, 11] (fun v i wc => ∃ (k q : Nat) (A1 : Option Addr) (d1 : Nat) (ts : List Tk), v = .slice A1 q d1 ∧ i = .int .i64 k ∧ q + k ≤ 4 ∧ OwnK wc w.heap.size A1 q d1 ts ∧ OwC wc w.heap.size C m d ms ∧ Blk wc b 30 #[.int .i64 x0, .int .i64 x1, .int .i64 x2, .int .i64 x3, .int .i64 x4, .int .i64 x5, .int .i64 x6, .int .i64 x7, .slice C m d] ∧ Blk wc wz.heap.size 30 #[.int .i64 0, .int .i64 0, .int .i64 0, .int .i64 0, .int .i64 0, .int .i64 0, .int .i64 0, .int .i64 0, .slice none 0 0] ∧ DrT w0 w wc g A n c) (fun _ i _ => (intOf i).toNat)
  case atStart =>
    obtain ⟨k, hk⟩ := Int.eq_ofNat_of_zero_le hr5.1
    exact ⟨k, 1, _, _, _, rfl, by rw [hk], by omega, O0, O, BC, R0, HD⟩
  case round =>
    clear O0 O BC R0 HD hr5
    obtain ⟨k, q, A1, d1, ts, rfl, rfl, hqk, O0, O, BC, R0, HD⟩ := hrel
    have zr := HD.size
    have cC := BC.cell
    have lC := BC.lt
    have KI := Lib.hid (fun wv (h : RdM wv C ms) => spec_IsCourse x0 x1 x2 x3 x4 x5 x6 x7 C m d ms wv h hml (by omega))
    generalize crsB x0 x1 x2 x3 x4 x5 x6 x7 ms = tf at *
    by_cases hgo : 0 < k ∧ tf = true
    · obtain ⟨hk0, rfl⟩ := hgo
      have hkI : (0 : Int) < (k : Int) := by omega
      obtain ⟨j, rfl⟩ : ∃ j, k = j + 1 := ⟨k - 1, by omega⟩
      go_wp2_with fail
      refine (KI.out _ O.rd).mono ?_
      rintro e6 w6 ⟨rfl, q6⟩
      replace O0 := O0.q q6
      replace O := O.q q6
      replace BC := BC.q q6
      replace R0 := R0.q q6
      replace HD := HD.q q6
      clear cC lC
      have cC := BC.cell
      have lC := BC.lt
      have zr := HD.size
      go_wp2_with fail
      refine (spec_l06DrawSail x0 x1 x2 x3 x4 x5 x6 x7 O hlt (by omega) HD.dr hn).mono ?_
      rintro e7 w7 ⟨B7, m7, d7, xs7, rfl, hown7, hT7, D7, G7⟩
      replace hown7 := hown7.mono zr
      have hm7 := trk_n hT7
      clear hT7
      replace HD := HD.step D7 G7
      replace R0 := Blk.keepG R0 G7 hR0
      replace BC := Blk.keepG BC G7 hbg
      replace O := O.kept G7 (fun _ hk => by cases hk; exact hlt)
      replace O0 := O0.keepD G7 hlt
      clear D7 G7
      clear cC lC
      have zw := HD.size
      go_wp2_with (at_builtin; refine appTk rfl _ _ rfl ⟨B7, m7, d7, xs7⟩ rfl O0 hown7 (by show m7 ≤ 1048576; omega) rfl rfl _ _ rfl (by omega) (by omega) ?_; intro A4 c4 w8 O4 g4 hr4)
      replace HD := HD.markN g4 (fun r hr => by have := hr4 r hr; omega)
      replace R0 := R0.grownR O0.1 (by decide) g4
      replace BC := BC.grownR O0.1 (by decide) g4
      replace O := O.keepK O0 g4
      go_roundw
      case rel => exact ⟨j, q + 1, A4, c4, _, rfl, by go_num, by omega, O4, O, BC, R0, HD⟩
      case measure => simp [intOf]
    by_cases hk0 : 0 < k
    case' pos =>
      have htf : tf = false := by
        cases tf
        · rfl
        · exact absurd ⟨hk0, rfl⟩ hgo
      subst htf
      have hkI : (0 : Int) < (k : Int) := by omega
      clear hgo hk0
      go_wp2_with fail
      refine (KI.out _ O.rd).mono ?_
      rintro e6 w6 ⟨rfl, q6⟩
      replace O0 := O0.q q6
      replace O := O.q q6
      replace BC := BC.q q6
      replace R0 := R0.q q6
      replace HD := HD.q q6
      clear cC lC
      go_upto_region 8 with (fail)
      generalize w6 = wx at *
      clear hkI
    case' neg =>
      have hkI : ¬ (0 : Int) < (k : Int) := by omega
      clear hgo hk0
      go_upto_region 8 with (fail)
      clear cC lC hkI
      generalize wr = wx at *
    all_goals
      clear KI
      have hq17 : q ≤ 17 := by omega
      clear hqk
      go_wp2_with fail
      refine (spec_Next _ HD.dr hn).mono ?_
      rintro e8 w8 ⟨r8, rfl, hr8, D8, G8⟩
      replace HD := HD.step D8 G8
      replace R0 := Blk.keepG R0 G8 hR0
      replace BC := Blk.keepG BC G8 hbg
      replace O := O.kept G8 (fun _ hk => by cases hk; exact hlt)
      replace O0 := O0.keepD G8 hlt
      clear D8 G8
      clear hr8
      by_cases h8 : r8 = 0
      case' pos =>
        subst h8
        go_wp2_with fail
        refine (spec_Next _ HD.dr hn).mono ?_
        rintro e9 w9 ⟨r9, rfl, hr9, D9, G9⟩
        replace HD := HD.step D9 G9
        replace R0 := Blk.keepG R0 G9 hR0
        replace BC := Blk.keepG BC G9 hbg
        replace O := O.kept G9 (fun _ hk => by cases hk; exact hlt)
        replace O0 := O0.keepD G9 hlt
        clear D9 G9
        clear O0
        obtain ⟨hi, hz0, hz1', hz2⟩ := HI.out
        have hr : r9 = 0 ∨ r9 = 1 := by omega
        clear hr9
        rcases hr with rfl | rfl
        case' inl =>
          go_wp2_with (at_make; refine wpList_make_full _ rfl _ _ 31 rfl w9.heap.size 43 i0 (.agg #[.slice none 0 0]) 1 Tryz.underlying31 hi hz0 hz1' .i64 .i64 16 16 16 rfl rfl rfl rfl (by rw [hz2]; omega) (by decide) (Nat.le_refl _) ?_; intro w10 hown8 hgrow; have hq8 : Q w9 w10 := (Q.refl w9).grown hgrow (by simp))
          rw [show (madeCells (Value.agg #[.slice none 0 0]).cells (16 * 1)).toList = _ from made_one _ _, Nat.mul_one] at hown8
          have O0 := (OwnK.zero hown8).mono (show w.heap.size ≤ w9.heap.size from HD.size)
          replace O := O.q hq8
          replace BC := BC.q hq8
          replace R0 := R0.q hq8
          replace HD := HD.q hq8
          clear hown8 hgrow hq8 hi hz0 hz1' hz2
          go_upto_region 10 with (fail)
          obtain ⟨A1, q, d1, ts, hv, hq17, O0⟩ : ∃ (A1 : Option Addr) (q d1 : Nat) (ts : List Tk), Value.slice (some ⟨w9.heap.size, 0, none⟩) 16 16 = .slice A1 q d1 ∧ q ≤ 17 ∧ OwnK w10 w.heap.size A1 q d1 ts := ⟨_, 16, _, _, rfl, by decide, O0⟩
          rw [hv]
          clear hv
        case' inr =>
          go_wp2_with (at_make; refine wpList_make_full _ rfl _ _ 31 rfl w9.heap.size 43 i0 (.agg #[.slice none 0 0]) 1 Tryz.underlying31 hi hz0 hz1' .i64 .i64 17 17 17 rfl rfl rfl rfl (by rw [hz2]; omega) (by decide) (Nat.le_refl _) ?_; intro w10 hown8 hgrow; have hq8 : Q w9 w10 := (Q.refl w9).grown hgrow (by simp))
          rw [show (madeCells (Value.agg #[.slice none 0 0]).cells (17 * 1)).toList = _ from made_one _ _, Nat.mul_one] at hown8
          have O0 := (OwnK.zero hown8).mono (show w.heap.size ≤ w9.heap.size from HD.size)
          replace O := O.q hq8
          replace BC := BC.q hq8
          replace R0 := R0.q hq8
          replace HD := HD.q hq8
          clear hown8 hgrow hq8 hi hz0 hz1' hz2
          go_upto_region 10 with (fail)
          obtain ⟨A1, q, d1, ts, hv, hq17, O0⟩ : ∃ (A1 : Option Addr) (q d1 : Nat) (ts : List Tk), Value.slice (some ⟨w9.heap.size, 0, none⟩) 17 17 = .slice A1 q d1 ∧ q ≤ 17 ∧ OwnK w10 w.heap.size A1 q d1 ts := ⟨_, 17, _, _, rfl, by decide, O0⟩
          rw [hv]
          clear hv
      case' neg =>
        have b8 : (r8 == 0) = false := by simpa using h8
        clear h8
        go_upto_region 10 with (fail)
        replace O0 := O0
        clear b8
      all_goals
        try generalize w8 = wy at *
        try generalize w10 = wy at *
        go_cut [3, 4, 5] from 45 to 57 (fun l t f wc => ∃ ff : Int, l = .slice A1 q d1 ∧ t = .int .i64 tt ∧ f = .int .i64 ff ∧ OwnK wc w.heap.size A1 q d1 ts ∧ OwC wc w.heap.size C m d ms ∧ Blk wc wz.heap.size 30 #[.int .i64 x0, .int .i64 x1, .int .i64 x2, .int .i64 x3, .int .i64 x4, .int .i64 x5, .int .i64 x6, .int .i64 x7, .slice C m d] ∧ Q wz wc)
        case first =>
          refine wp_region_H (fun w' : World => Blk w' b 30 #[.int .i64 x0, .int .i64 x1, .int .i64 x2, .int .i64 x3, .int .i64 x4, .int .i64 x5, .int .i64 x6, .int .i64 x7, .slice C m d]) (by kernel_rfl) ?_
          replace R0 := R0.drew
          replace BC := BC.drew
          replace HD := HD.drew
          replace O := O.q ((Q.refl _).drew)
          replace O0 := O0.q ((Q.refl _).drew)
          generalize wy.drew = wd at *
          (refine tkH 0 (v := ?_) rfl (by kernel_rfl) (fun _ _ _ h => h) BC rfl ?_ ?_; rotate_left 1; focus (intro w s; have cA := s.cell; go_simp; try with_reducible rfl))
          (refine tkH 1 (v := ?_) rfl (by kernel_rfl) (fun _ _ _ h => h) BC rfl ?_ ?_; rotate_left 1; focus (intro w s; have cA := s.cell; go_simp; try with_reducible rfl))
          (refine tkH 2 (v := ?_) rfl (by kernel_rfl) (fun _ _ _ h => h) BC rfl ?_ ?_; rotate_left 1; focus (intro w s; have cA := s.cell; go_simp; try with_reducible rfl))
          (refine tkH 3 (v := ?_) rfl (by kernel_rfl) (fun _ _ _ h => h) BC rfl ?_ ?_; rotate_left 1; focus (intro w s; have cA := s.cell; go_simp; try with_reducible rfl))
          (refine tkH 5 (v := ?_) rfl (by kernel_rfl) (fun _ _ _ h => h) BC rfl ?_ ?_; rotate_left 1; focus (intro w s; have cA := s.cell; go_simp; try with_reducible rfl))
          (refine tkH 9 (v := ?_) rfl (by kernel_rfl) (fun _ _ _ h => h) BC rfl ?_ ?_; rotate_left 1; focus (intro w s; have cA := s.cell; go_simp; try with_reducible rfl))
          try simp only [Act.put, List.setIfInBounds_toArray, List.set_cons_zero, List.set_cons_succ, List.getElem_toArray, List.getElem_cons_succ, List.getElem_cons_zero]; try simp only [Nat.zero_add]
          refine wpAnyH_one 4 (by kernel_rfl) rfl (fun K hK => ?_)
          go_simp
          go_at_call 17
          refine (spec_Next _ HD.dr hn).mono ?_
          rintro e4 u4 ⟨r4, rfl, _, D4, G4⟩
          replace HD := HD.step D4 G4
          replace R0 := Blk.keepG R0 G4 hR0
          replace BC := Blk.keepG BC G4 hbg
          replace O := O.kept G4 (fun _ hk => by cases hk; exact hlt)
          replace O0 := O0.keepD G4 hlt
          clear D4 G4
          refine hK.out _ _ BC ?_
          clear hK K
          refine wpAnyH_one 6 (by kernel_rfl) rfl (fun K hK => ?_)
          go_simp
          go_at_call 17
          refine (spec_Next _ HD.dr hn).mono ?_
          rintro e6 u6 ⟨r6, rfl, _, D6, G6⟩
          replace HD := HD.step D6 G6
          replace R0 := Blk.keepG R0 G6 hR0
          replace BC := Blk.keepG BC G6 hbg
          replace O := O.kept G6 (fun _ hk => by cases hk; exact hlt)
          replace O0 := O0.keepD G6 hlt
          clear D6 G6
          refine hK.out _ _ BC ?_
          clear hK K
          (refine tkH 7 (v := ?_) rfl (by kernel_rfl) (fun _ _ _ h => h) BC rfl ?_ ?_; rotate_left 1; focus (intro w s; have cA := s.cell; go_simp; try with_reducible rfl))
          (refine tkH 8 (v := ?_) rfl (by kernel_rfl) (fun _ _ _ h => h) BC rfl ?_ ?_; rotate_left 1; focus (intro w s; have cA := s.cell; go_simp; try with_reducible rfl))
          try simp only [Act.put, List.setIfInBounds_toArray, List.set_cons_zero, List.set_cons_succ, List.getElem_toArray, List.getElem_cons_succ, List.getElem_cons_zero]; try simp only [Nat.zero_add]
          refine wpAnyH_one 10 (by kernel_rfl) rfl (fun K hK => ?_)
          go_simp
          go_at_call 17
          refine (spec_Next _ HD.dr hn).mono ?_
          rintro e10 u10 ⟨r10, rfl, _, D10, G10⟩
          replace HD := HD.step D10 G10
          replace R0 := Blk.keepG R0 G10 hR0
          replace BC := Blk.keepG BC G10 hbg
          replace O := O.kept G10 (fun _ hk => by cases hk; exact hlt)
          replace O0 := O0.keepD G10 hlt
          clear D10 G10
          refine hK.out _ _ BC ?_
          clear hK K
          (refine tkH 11 (v := ?_) rfl (by kernel_rfl) (fun _ _ _ h => h) BC rfl ?_ ?_; rotate_left 1; focus (intro w s; have cA := s.cell; go_simp; try with_reducible rfl))
          (refine tkH 12 (v := ?_) rfl (by kernel_rfl) (fun _ _ _ h => h) BC rfl ?_ ?_; rotate_left 1; focus (intro w s; have cA := s.cell; go_simp; try with_reducible rfl))
          try simp only [Act.put, List.setIfInBounds_toArray, List.set_cons_zero, List.set_cons_succ, List.getElem_toArray, List.getElem_cons_succ, List.getElem_cons_zero]; try simp only [Nat.zero_add]
          refine wpAnyH_one 13 (by kernel_rfl) rfl (fun K hK => ?_)
          have QW := Z0.trans HD.dr.q
          refine step_storeL rfl 30 _ _ rfl wz.heap.size [.int .i64 x0, .int .i64 x1, .int .i64 x2, .int .i64 x3, .int .i64 x4, .int .i64 x5, .int .i64 x6, .int .i64 x7, .slice C m d] rfl rfl R0.there (by kernel_rfl) (by simp [Value.oneCell']) ?_
          replace O := O.farAll (O.ne R0 (by decide)) 0 [.int .i64 x0, .int .i64 x1, .int .i64 x2, .int .i64 x3, .int .i64 x4, .int .i64 x5, .int .i64 x6, .int .i64 x7, .slice C m d]
          replace O0 := O0.farAll R0 (by decide) (by decide) 0 [.int .i64 x0, .int .i64 x1, .int .i64 x2, .int .i64 x3, .int .i64 x4, .int .i64 x5, .int .i64 x6, .int .i64 x7, .slice C m d]
          replace BC := BC.farAll (b := wz.heap.size) (by omega) 0 [.int .i64 x0, .int .i64 x1, .int .i64 x2, .int .i64 x3, .int .i64 x4, .int .i64 x5, .int .i64 x6, .int .i64 x7, .slice C m d]
          replace R0 := R0.all9 (.int .i64 x0) (.int .i64 x1) (.int .i64 x2) (.int .i64 x3) (.int .i64 x4) (.int .i64 x5) (.int .i64 x6) (.int .i64 x7) (.slice C m d)
          replace QW := QW.setAll (b := wz.heap.size) (Nat.le_refl _) 0 [.int .i64 x0, .int .i64 x1, .int .i64 x2, .int .i64 x3, .int .i64 x4, .int .i64 x5, .int .i64 x6, .int .i64 x7, .slice C m d]
          clear HD
          generalize u10.setCells wz.heap.size 0 [.int .i64 x0, .int .i64 x1, .int .i64 x2, .int .i64 x3, .int .i64 x4, .int .i64 x5, .int .i64 x6, .int .i64 x7, .slice C m d] = u10c at *
          refine hK.out _ _ BC ?_
          clear hK K
          (refine tkH 14 (v := ?_) rfl (by kernel_rfl) (fun _ _ _ h => h) BC rfl ?_ ?_; rotate_left 1; focus (intro w s; have cA := s.cell; go_simp; try with_reducible rfl))
          (refine tkH 15 (v := ?_) rfl (by kernel_rfl) (fun _ _ _ h => h) BC rfl ?_ ?_; rotate_left 1; focus (intro w s; have cA := s.cell; go_simp; try with_reducible rfl))
          (refine tkH 16 (v := ?_) rfl (by kernel_rfl) (fun _ _ _ h => h) BC rfl ?_ ?_; rotate_left 1; focus (intro w s; have cA := s.cell; go_simp; try with_reducible rfl))
          try simp only [Act.put, List.setIfInBounds_toArray, List.set_cons_zero, List.set_cons_succ, List.getElem_toArray, List.getElem_cons_succ, List.getElem_cons_zero]; try simp only [Nat.zero_add]
          refine wpAnyH_done (by kernel_rfl) ?_ _
          go_wp2_with fail
          go_meet
          exact ⟨_, rfl, rfl, rfl, O0, O, R0, QW⟩
        case rest =>
          clear O0 O BC R0 HD
          obtain ⟨ff, rfl, rfl, rfl, O0, O, R0, QW⟩ := hcut
          have F1 := R0.cell
          go_wp2_with fail
          exact bodyPost_ret (v := .tuple #[.agg #[.int .i64 x0, .int .i64 x1, .int .i64 x2, .int .i64 x3, .int .i64 x4, .int .i64 x5, .int .i64 x6, .int .i64 x7, .slice C m d], .slice A1 q d1, .int .i64 tt, .int .i64 ff]) (by simp [results, Tryz.results6, go_sem, F1]) rfl ⟨x0, x1, x2, x3, x4, x5, x6, x7, C, m, d, ms, A1, q, d1, ts.map Tk.dat, tt, ff, rfl, ⟨O.rd, O.len, hcap, hm⟩, ⟨O0.rd, by simpa using O0.len, hq17⟩, QW⟩
end Go.Proofs.YteofhfefbphjdaaGreatDoor
