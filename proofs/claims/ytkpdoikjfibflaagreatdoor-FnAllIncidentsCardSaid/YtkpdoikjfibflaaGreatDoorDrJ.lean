/- Walks: the draw of the law on the incidents of all boats; append of two tracks. No condition. -/
import Derived.Test.YtkpdoikjfibflaaGreatDoorDrI
import Derived.Test.YtkpdoikjfibflaaGreatDoorDrO
import Derived.BigRegion
namespace Go.Proofs.YtkpdoikjfibflaaGreatDoor
open Go.RowKit Go.WideShapes Go.ChangeShapes Go.Deep
/-- append of two tracks. -/
theorem appTk2 {wr : World} {ops : Array Oper} {rest : List Oper} {o : Oper} {a : Act} {R : Exit → Act → World → Prop} (hgd : o.guard = none) (s x : Operand)
    (ho : o.op = .call { callee := .builtin .append, args := #[s, x], argTypes := #[28, 28] })
    {B : Nat} {A : Option Addr} {n c : Nat} {ts : List Tk} (T U : Tk) (hs : a.eval s = .slice A n c) (hown : OwnK wr B A n c ts) (hT : Own wr B 69 3 (.slice T.A T.n T.c) T.n T.xs) (hTn : T.n ≤ 1048576) (hU : Own wr B 69 3 (.slice U.A U.n U.c) U.n U.xs) (hUn : U.n ≤ 1048576)
    {H : Nat} (hx : a.eval x = .slice (some ⟨H, 0, none⟩) 2 2) (hH : wr.heap.size = H) (cs : Array Value) (T' : TypeId) (hcs : cs = #[T.val, U.val])
    (hn : n ≤ 1073741822) (hB : B ≤ wr.heap.size)
    (h : ∀ A' c' w', OwnK w' B A' (n + 2) c' (ts ++ [T, U]) → wr.grownBy w' (A.map (·.block)) → (∀ r, A.map (·.block) = some r → B ≤ r ∧ r < wr.heap.size) → wpList Tryz.prog ops R rest (a.put o.dst (.slice A' (n + 2) c')) w') :
    wpList Tryz.prog ops R (o :: rest) a (wr.alloc (.cells cs T')) := by
  subst hH
  subst hcs
  obtain ⟨i, hi, hz0, hz1, hz2⟩ := info_parts infoTrack
  have hblk := Blk.new wr T' #[T.val, U.val]
  obtain ⟨v', w', hrun, h1, hg, _, _⟩ := run_append_own_at (P := Tryz.prog) (wr.alloc (.cells #[T.val, U.val] T')) B 28 o.type 37 i _ 1 i.bytes Tryz.underlying28 hi hz0 hz1 rfl (by simp [Value.cells]) (by decide) (.slice A n c) n _ (World.ownsRow.alloc hown.1 _)
    ⟨wr.heap.size, 0, none⟩ 2 2 [T.val, U.val] rfl (by
      intro j u hu
      rw [Go.WideShapes.add_plain, Nat.zero_add, hblk.cell]
      simpa using hu) (by
      intro u hu
      rcases List.mem_cons.1 hu with rfl | hu
      · rfl
      · obtain rfl := List.mem_singleton.1 hu
        rfl) (by unfold maxLen; omega) (by
      rw [hz2]
      omega) (by simp; omega)
  have hform : ∃ A' c', v' = .slice A' (n + 2) c' := by
    rcases h1.2 with ⟨_, h0⟩ | ⟨g, cap, cur, h', _⟩
    · omega
    · exact ⟨_, _, h'⟩
  obtain ⟨A', c', rfl⟩ := hform
  have h2' : wr.grownBy w' (Value.slice A n c).ownBlock := grown_trans2 ((Q.refl wr).alloc _) hg
  have h2 : wr.grownBy w' (A.map (·.block)) := by cases A <;> exact h2'
  have e : ts.map Tk.val ++ [T.val, U.val] = (ts ++ [T, U]).map Tk.val := by simp
  rw [e] at h1
  have hf := row_from hown.1
  have hr : ∀ r, A.map (·.block) = some r → B ≤ r ∧ r < wr.heap.size := by
    intro r hr
    rcases A with _ | b
    · cases hr
    · simp only [Option.map_some, Option.some.injEq] at hr
      subst hr
      exact hf b rfl
  have hx2 : ∀ {m d : Nat} {A2 : Option Addr} {xs : List Int}, Own wr B 69 3 (.slice A2 m d) m xs → ∀ b, A2 = some b → some b.block ≠ A.map (·.block) := by
    intro m d A2 xs ho b hb he
    rcases A with _ | r
    · cases he
    · simp only [Option.map_some, Option.some.injEq] at he
      exact row_ne ho hown.1 (by decide) b r hb rfl he
  refine wpList_plain hgd fun K hK => ?_
  unfold Oper.wp execOp
  simp only [ho, resolve, invoke, builtin, Sem.run_bind, Sem.run_pure, Result.andThen_ok, List.map_toArray, List.map_cons, List.map_nil, hs, hx, hrun]
  refine hK _ _ (h A' c' w' ⟨h1, fun S hS => ?_⟩ h2 hr)
  rcases List.mem_append.1 hS with hS | hS
  · exact ⟨row_kept (hown.2 S hS).1 h2 (hx2 (hown.2 S hS).1), (hown.2 S hS).2⟩
  · rcases List.mem_cons.1 hS with rfl | hS
    · exact ⟨row_kept hT h2 (hx2 hT), hTn⟩
    · obtain rfl := List.mem_singleton.1 hS
      exact ⟨row_kept hU h2 (hx2 hU), hUn⟩
def DrawAI (wz : World) (e : Ending) (w' : World) : Prop := ∃ (x y a b d s : Int) (B : Option Addr) (m c1 : Nat) (D : List (Nat × List Int)), e = .returned (.tuple #[.agg #[.int .i64 x, .int .i64 y], .agg #[.int .i64 a, .int .i64 b, .int .i64 d, .int .i64 s], .slice B m c1]) ∧ RdD w' B D ∧ D.length = m ∧ m ≤ 17 ∧ Q wz w'
set_option maxRecDepth 100000 in
set_option maxHeartbeats 16000000 in
theorem spec_DrawAllIncidents (A : Option Addr) (n c : Nat) (wz : World) (ha : Rd8 wz A n) (hn : n ≤ 140737488355327) : Calls Tryz.prog 5 #[.slice A n c] wz (DrawAI wz) := by
  obtain ⟨i0, hi, hz0, hz1, hz2⟩ := info_parts infoTrack
  have HI := Lib.hid (And.intro hi (And.intro hz0 (And.intro hz1 hz2)))
  clear hi hz0 hz1 hz2
  have R0 : Blk ((wz.alloc (.cells #[.int .i64 0, .int .i64 0] 25)).alloc (.cells #[.int .i64 0, .int .i64 0, .int .i64 0, .int .i64 0] 27)) wz.heap.size 25 #[.int .i64 0, .int .i64 0] := (Blk.new _ _ _).alloc _
  have R1 : Blk ((wz.alloc (.cells #[.int .i64 0, .int .i64 0] 25)).alloc (.cells #[.int .i64 0, .int .i64 0, .int .i64 0, .int .i64 0] 27)) (wz.heap.size + 1) 27 #[.int .i64 0, .int .i64 0, .int .i64 0, .int .i64 0] := by simpa using Blk.new (wz.alloc (.cells #[.int .i64 0, .int .i64 0] 25)) 27 #[.int .i64 0, .int .i64 0, .int .i64 0, .int .i64 0]
  have Z0 : Q wz ((wz.alloc (.cells #[.int .i64 0, .int .i64 0] 25)).alloc (.cells #[.int .i64 0, .int .i64 0, .int .i64 0, .int .i64 0] 27)) := by (repeat (first | assumption | exact Q.refl _ | refine Q.alloc ?_ _ | refine Q.drewN ?_ _ | refine Q.drew ?_))
  have zz : ((wz.alloc (.cells #[.int .i64 0, .int .i64 0] 25)).alloc (.cells #[.int .i64 0, .int .i64 0, .int .i64 0, .int .i64 0] 27)).heap.size = wz.heap.size + 2 := by simp
  go_enter Tryz.func5, Tryz.ntmps5
  go_wp2_with (go_at_call 11; refine (spec_From A n c _ (ha.q (by (repeat (first | assumption | exact Q.refl _ | refine Q.alloc ?_ _ | refine Q.drewN ?_ _ | refine Q.drew ?_)))) hn).mono ?_; rintro e w ⟨rfl, D0⟩)
  generalize (wz.alloc (.cells #[.int .i64 0, .int .i64 0] 25)).alloc (.cells #[.int .i64 0, .int .i64 0, .int .i64 0, .int .i64 0] 27) = w0 at *
  rw [zz] at D0
  obtain ⟨g, hg⟩ : ∃ g, g = wz.heap.size + 2 := ⟨_, rfl⟩
  rw [← hg] at D0
  have HD := DrT.start D0
  have hlt := HD.glt
  replace R0 := R0.q D0.q
  replace R1 := R1.q D0.q
  have hgr : wz.heap.size + 1 < g := by omega
  go_wp2_with fail
  rw [← hg]
  have hwz : wz.heap.size + 1 < w.heap.size := by omega
  clear hg zz
  refine (spec_l08DrawAny D0 hn).mono ?_
  rintro e wa ⟨x, y, rfl, D1, G1⟩
  have hsa := G1.size
  replace HD := HD.step D1 G1
  replace R0 := R0.keepG G1 (by omega)
  replace R1 := R1.keepG G1 (by omega)
  clear D0 D1 G1
  have V0 := Blk.new wa 25 #[.int .i64 x, .int .i64 y]
  replace HD := HD.alloc (.cells #[.int .i64 x, .int .i64 y] 25)
  replace R0 := R0.alloc (.cells #[.int .i64 x, .int .i64 y] 25)
  replace R1 := R1.alloc (.cells #[.int .i64 x, .int .i64 y] 25)
  obtain ⟨b0, hb0⟩ : ∃ b, b = wa.heap.size := ⟨_, rfl⟩
  rw [← hb0] at V0 hsa
  go_wp2_with fail
  rw [← hb0]
  have hb0s := V0.lt
  generalize wa.alloc (.cells #[.int .i64 x, .int .i64 y] 25) = wa' at *
  clear hb0
  refine (spec_l12Draw (w0 := w0) (A := A) (n := n) (c := c) HD.dr hn).mono ?_
  rintro e wb ⟨p, q, r, s, rfl, D2, G2⟩
  have hsz := G2.size
  replace HD := HD.step D2 G2
  replace R0 := R0.keepG G2 (by omega)
  replace R1 := R1.keepG G2 (by omega)
  replace V0 := V0.keepG G2 (by omega)
  clear D2 G2
  have V1 := (Blk.new wb 27 #[.int .i64 p, .int .i64 q, .int .i64 r, .int .i64 s]).alloc (.cells #[] 37)
  have O0 : OwnK ((wb.alloc (.cells #[.int .i64 p, .int .i64 q, .int .i64 r, .int .i64 s] 27)).alloc (.cells #[] 37)) (wb.heap.size + 1) (some ⟨wb.heap.size + 1, 0, none⟩) 0 0 [] := by
    have := OwnK.new (wb.alloc (.cells #[.int .i64 p, .int .i64 q, .int .i64 r, .int .i64 s] 27)) (B := wb.heap.size + 1) (by simp)
    simpa using this
  replace HD := HD.alloc (.cells #[.int .i64 p, .int .i64 q, .int .i64 r, .int .i64 s] 27)
  replace R0 := R0.alloc (.cells #[.int .i64 p, .int .i64 q, .int .i64 r, .int .i64 s] 27)
  replace R1 := R1.alloc (.cells #[.int .i64 p, .int .i64 q, .int .i64 r, .int .i64 s] 27)
  replace V0 := V0.alloc (.cells #[.int .i64 p, .int .i64 q, .int .i64 r, .int .i64 s] 27)
  replace HD := HD.alloc (.cells #[] 37)
  replace R0 := R0.alloc (.cells #[] 37)
  replace R1 := R1.alloc (.cells #[] 37)
  replace V0 := V0.alloc (.cells #[] 37)
  obtain ⟨b1, hb1⟩ : ∃ b, b = wb.heap.size := ⟨_, rfl⟩
  rw [← hb1] at V1 hsz O0
  go_wp2_with fail
  rw [← hb1]
  have hb1s := V1.lt
  have hbL : b1 + 1 < ((wb.alloc (.cells #[.int .i64 p, .int .i64 q, .int .i64 r, .int .i64 s] 27)).alloc (.cells #[] 37)).heap.size := by rw [hb1]; simp
  generalize (wb.alloc (.cells #[.int .i64 p, .int .i64 q, .int .i64 r, .int .i64 s] 27)).alloc (.cells #[] 37) = wb' at *
  clear hb1
  have hb01 : b0 < b1 := by omega
  have hwb1 : w.heap.size ≤ b0 := hsa
  refine (spec_Next (w0 := w0) (A := A) (n := n) (c := c) _ HD.dr hn).mono ?_
  rintro e2 w2 ⟨r2, rfl, hr2, D2, G2⟩
  replace HD := HD.step D2 G2
  replace R0 := R0.keepG G2 (by omega)
  replace R1 := R1.keepG G2 (by omega)
  replace V0 := V0.keepG G2 (by omega)
  replace V1 := V1.keepG G2 (by omega)
  replace O0 := O0.keepD G2 (by omega)
  clear D2 G2
  go_wp2_with fail
  go_loopw [8, 9] (fun v i wr => ∃ (k : Nat) (A1 : Option Addr) (q1 d1 : Nat) (ts : List Tk), v = .slice A1 q1 d1 ∧ i = .int .i64 k ∧ OwnK wr (b1 + 1) A1 q1 d1 ts ∧ q1 + 2 * k ≤ 4 ∧ Blk wr b0 25 #[.int .i64 x, .int .i64 y] ∧ Blk wr b1 27 #[.int .i64 p, .int .i64 q, .int .i64 r, .int .i64 s] ∧ Blk wr wz.heap.size 25 #[.int .i64 0, .int .i64 0] ∧ Blk wr (wz.heap.size + 1) 27 #[.int .i64 0, .int .i64 0, .int .i64 0, .int .i64 0] ∧ DrT w0 w wr g A n c) (fun _ i _ => (intOf i).toNat)
  case atStart =>
    obtain ⟨k, hk⟩ := Int.eq_ofNat_of_zero_le hr2.1
    exact ⟨k, _, _, _, [], rfl, by rw [hk], O0, by omega, V0, V1, R0, R1, HD⟩
  case round =>
    clear O0 HD V0 V1 R0 R1 hr2
    obtain ⟨k, A1, q1, d1, ts, rfl, rfl, O0, hqk, V0, V1, R0, R1, HD⟩ := hrel
    have zr := HD.size
    have lV1 := V1.lt
    by_cases hk0 : 0 < k
    · have hkI : (0 : Int) < (k : Int) := by omega
      obtain ⟨j, rfl⟩ : ∃ j, k = j + 1 := ⟨k - 1, by omega⟩
      go_wp2_with fail
      refine (spec_l12Tracks (w0 := w0) (A := A) (n := n) (c := c) HD.dr hn).mono ?_
      rintro e3 w3 ⟨B3, m3, d3, xs3, B4, m4, d4, xs4, rfl, hown3, hown4, hm3, hm4, D3, G3⟩
      replace hown3 := hown3.mono (show b1 + 1 ≤ wr.heap.size by omega)
      replace hown4 := hown4.mono (show b1 + 1 ≤ wr.heap.size by omega)
      replace HD := HD.step D3 G3
      replace R0 := R0.keepG G3 (by omega)
      replace R1 := R1.keepG G3 (by omega)
      replace V0 := V0.keepG G3 (by omega)
      replace V1 := V1.keepG G3 (by omega)
      replace O0 := O0.keepD G3 (by omega)
      have zw := HD.size
      have lV3 := V1.lt
      clear D3 G3
      have qT : Q w3 ((w3.alloc (.cells #[.slice B3 m3 d3] 37)).alloc (.cells #[.slice B4 m4 d4] 37)) := by (repeat (first | assumption | exact Q.refl _ | refine Q.alloc ?_ _ | refine Q.drewN ?_ _ | refine Q.drew ?_))
      replace hown3 := hown3.q qT
      replace hown4 := hown4.q qT
      replace O0 := O0.q qT
      replace R0 := R0.q qT
      replace R1 := R1.q qT
      replace V0 := V0.q qT
      replace V1 := V1.q qT
      replace HD := HD.q qT
      have zt := qT.size
      clear qT
      go_wp2_with (at_builtin; refine appTk2 rfl _ _ rfl ⟨B3, m3, d3, xs3⟩ ⟨B4, m4, d4, xs4⟩ rfl O0 hown3 (by show m3 ≤ 1048576; omega) hown4 (by show m4 ≤ 1048576; omega) rfl (by simp) _ _ rfl (by omega) (by omega) ?_; intro A4 c4 w4 O4 g4 hr4)
      have zt2 := HD.size
      replace HD := HD.markN g4 (fun r hr => by have := hr4 r hr; omega)
      replace R0 := R0.grownR O0.1 (by decide) g4
      replace R1 := R1.grownR O0.1 (by decide) g4
      replace V0 := V0.grownR O0.1 (by decide) g4
      replace V1 := V1.grownR O0.1 (by decide) g4
      go_roundw
      case rel => exact ⟨j, A4, q1 + 2, c4, _, rfl, by go_num, O4, by omega, V0, V1, R0, R1, HD⟩
      case measure => simp [intOf]
    · obtain rfl : k = 0 := by omega
      go_wp2_with fail
      refine (spec_Next (w0 := w0) (A := A) (n := n) (c := c) _ HD.dr hn).mono ?_
      rintro e5 w5 ⟨r5, rfl, hr5, D5, G5⟩
      replace HD := HD.step D5 G5
      replace R0 := R0.keepG G5 (by omega)
      replace R1 := R1.keepG G5 (by omega)
      replace V0 := V0.keepG G5 (by omega)
      replace V1 := V1.keepG G5 (by omega)
      replace O0 := O0.keepD G5 (by omega)
      clear D5 G5 lV1 zr
      by_cases h5 : r5 = 0
      · subst h5
        clear hr5
        go_wp2_with fail
        refine (spec_Next (w0 := w0) (A := A) (n := n) (c := c) _ HD.dr hn).mono ?_
        rintro e7 w7 ⟨r7, rfl, hr7, D7, G7⟩
        replace HD := HD.step D7 G7
        replace R0 := R0.keepG G7 (by omega)
        replace R1 := R1.keepG G7 (by omega)
        replace V0 := V0.keepG G7 (by omega)
        replace V1 := V1.keepG G7 (by omega)
        clear D7 G7 O0
        obtain ⟨hi, hz0, hz1, hz2⟩ := HI.out
        have hr : r7 = 0 ∨ r7 = 1 := by omega
        clear hr7
        rcases hr with rfl | rfl
        · skip
          go_wp2_with (at_make; refine wpList_make_full _ rfl _ _ 28 rfl w7.heap.size 37 i0 (.agg #[.slice none 0 0]) 1 Tryz.underlying28 hi hz0 hz1 .i64 .i64 16 16 16 rfl rfl rfl rfl (by rw [hz2]; omega) (by decide) (Nat.le_refl _) ?_; intro w8 hown8 hgrow)
          have hq8 : Q w7 w8 := (Q.refl w7).grown hgrow (by simp)
          rw [show (madeCells (Value.agg #[.slice none 0 0]).cells (16 * 1)).toList = _ from made_one _ _, Nat.mul_one] at hown8
          replace R0 := R0.q hq8
          replace R1 := R1.q hq8
          replace V0 := V0.q hq8
          replace V1 := V1.q hq8
          replace HD := HD.q hq8
          have O0 := OwnK.zero hown8
          clear hown8 hgrow hi hz0 hz1 hz2
          have cV0 := V0.cell
          have lV0 := V0.lt
          have cV1 := V1.cell
          have lV1 := V1.lt
          have cR0 := R0.cell
          have fR0 := R0.frozen
          have lR0 := R0.lt
          have cR1 := R1.cell
          have fR1 := R1.frozen
          have lR1 := R1.lt
          have Q3 := Z0.trans HD.dr.q
          go_wp2_with fail
          go_region
          all_goals go_wp2_with fail
          have F0 := ((((((R0.s2_0 (.int .i64 x)).s2_1 (.int .i64 y)).far (p := ⟨wz.heap.size + 1, 0, none⟩) (show wz.heap.size ≠ wz.heap.size + 1 by omega) (.int .i64 p)).far (p := ⟨wz.heap.size + 1, 1, none⟩) (show wz.heap.size ≠ wz.heap.size + 1 by omega) (.int .i64 q)).far (p := ⟨wz.heap.size + 1, 2, none⟩) (show wz.heap.size ≠ wz.heap.size + 1 by omega) (.int .i64 r)).far (p := ⟨wz.heap.size + 1, 3, none⟩) (show wz.heap.size ≠ wz.heap.size + 1 by omega) (.int .i64 s)).drew.cell
          have F1 := ((((((R1.far (p := ⟨wz.heap.size, 0, none⟩) (show wz.heap.size + 1 ≠ wz.heap.size by omega) (.int .i64 x)).far (p := ⟨wz.heap.size, 1, none⟩) (show wz.heap.size + 1 ≠ wz.heap.size by omega) (.int .i64 y)).s4_0 (.int .i64 p)).s4_1 (.int .i64 q)).s4_2 (.int .i64 r)).s4_3 (.int .i64 s)).drew.cell
          have X1 := (R1.far (p := ⟨wz.heap.size, 0, none⟩) (show wz.heap.size + 1 ≠ wz.heap.size by omega) (.int .i64 x)).far (p := ⟨wz.heap.size, 1, none⟩) (show wz.heap.size + 1 ≠ wz.heap.size by omega) (.int .i64 y)
          have P1 := O0.setFar R0 (by decide) (by decide) 0 (.int .i64 x)
          have P2 := P1.setFar (R0.s2_0 (.int .i64 x)) (by decide) (by decide) 1 (.int .i64 y)
          have P3 := P2.setFar X1 (by decide) (by decide) 0 (.int .i64 p)
          have P4 := P3.setFar (X1.s4_0 (.int .i64 p)) (by decide) (by decide) 1 (.int .i64 q)
          have P5 := P4.setFar ((X1.s4_0 (.int .i64 p)).s4_1 (.int .i64 q)) (by decide) (by decide) 2 (.int .i64 r)
          have P6 := P5.setFar (((X1.s4_0 (.int .i64 p)).s4_1 (.int .i64 q)).s4_2 (.int .i64 r)) (by decide) (by decide) 3 (.int .i64 s)
          have P7 := (P6.q ((Q.refl _).drew)).rd
          have hPl := O0.len
          refine bodyPost_ret (v := .tuple #[.agg #[.int .i64 x, .int .i64 y], .agg #[.int .i64 p, .int .i64 q, .int .i64 r, .int .i64 s], .slice (some ⟨w7.heap.size, 0, none⟩) 16 16]) (by simp [results, Tryz.results5, go_sem, F0, F1]) rfl ⟨x, y, p, q, r, s, (some ⟨w7.heap.size, 0, none⟩), 16, 16, (List.replicate 16 ⟨none, 0, 0, []⟩).map Tk.dat, rfl, P7, by rw [List.length_map]; exact hPl, by decide, ((((((Q3.setCell (p := ⟨wz.heap.size, 0, none⟩) (show wz.heap.size ≤ wz.heap.size by omega) (.int .i64 x)).setCell (p := ⟨wz.heap.size, 1, none⟩) (show wz.heap.size ≤ wz.heap.size by omega) (.int .i64 y)).setCell (p := ⟨wz.heap.size + 1, 0, none⟩) (show wz.heap.size ≤ wz.heap.size + 1 by omega) (.int .i64 p)).setCell (p := ⟨wz.heap.size + 1, 1, none⟩) (show wz.heap.size ≤ wz.heap.size + 1 by omega) (.int .i64 q)).setCell (p := ⟨wz.heap.size + 1, 2, none⟩) (show wz.heap.size ≤ wz.heap.size + 1 by omega) (.int .i64 r)).setCell (p := ⟨wz.heap.size + 1, 3, none⟩) (show wz.heap.size ≤ wz.heap.size + 1 by omega) (.int .i64 s)).drew⟩
        · skip
          go_wp2_with (at_make; refine wpList_make_full _ rfl _ _ 28 rfl w7.heap.size 37 i0 (.agg #[.slice none 0 0]) 1 Tryz.underlying28 hi hz0 hz1 .i64 .i64 17 17 17 rfl rfl rfl rfl (by rw [hz2]; omega) (by decide) (Nat.le_refl _) ?_; intro w8 hown8 hgrow)
          have hq8 : Q w7 w8 := (Q.refl w7).grown hgrow (by simp)
          rw [show (madeCells (Value.agg #[.slice none 0 0]).cells (17 * 1)).toList = _ from made_one _ _, Nat.mul_one] at hown8
          replace R0 := R0.q hq8
          replace R1 := R1.q hq8
          replace V0 := V0.q hq8
          replace V1 := V1.q hq8
          replace HD := HD.q hq8
          have O0 := OwnK.zero hown8
          clear hown8 hgrow hi hz0 hz1 hz2
          have cV0 := V0.cell
          have lV0 := V0.lt
          have cV1 := V1.cell
          have lV1 := V1.lt
          have cR0 := R0.cell
          have fR0 := R0.frozen
          have lR0 := R0.lt
          have cR1 := R1.cell
          have fR1 := R1.frozen
          have lR1 := R1.lt
          have Q3 := Z0.trans HD.dr.q
          go_wp2_with fail
          go_region
          all_goals go_wp2_with fail
          have F0 := ((((((R0.s2_0 (.int .i64 x)).s2_1 (.int .i64 y)).far (p := ⟨wz.heap.size + 1, 0, none⟩) (show wz.heap.size ≠ wz.heap.size + 1 by omega) (.int .i64 p)).far (p := ⟨wz.heap.size + 1, 1, none⟩) (show wz.heap.size ≠ wz.heap.size + 1 by omega) (.int .i64 q)).far (p := ⟨wz.heap.size + 1, 2, none⟩) (show wz.heap.size ≠ wz.heap.size + 1 by omega) (.int .i64 r)).far (p := ⟨wz.heap.size + 1, 3, none⟩) (show wz.heap.size ≠ wz.heap.size + 1 by omega) (.int .i64 s)).drew.cell
          have F1 := ((((((R1.far (p := ⟨wz.heap.size, 0, none⟩) (show wz.heap.size + 1 ≠ wz.heap.size by omega) (.int .i64 x)).far (p := ⟨wz.heap.size, 1, none⟩) (show wz.heap.size + 1 ≠ wz.heap.size by omega) (.int .i64 y)).s4_0 (.int .i64 p)).s4_1 (.int .i64 q)).s4_2 (.int .i64 r)).s4_3 (.int .i64 s)).drew.cell
          have X1 := (R1.far (p := ⟨wz.heap.size, 0, none⟩) (show wz.heap.size + 1 ≠ wz.heap.size by omega) (.int .i64 x)).far (p := ⟨wz.heap.size, 1, none⟩) (show wz.heap.size + 1 ≠ wz.heap.size by omega) (.int .i64 y)
          have P1 := O0.setFar R0 (by decide) (by decide) 0 (.int .i64 x)
          have P2 := P1.setFar (R0.s2_0 (.int .i64 x)) (by decide) (by decide) 1 (.int .i64 y)
          have P3 := P2.setFar X1 (by decide) (by decide) 0 (.int .i64 p)
          have P4 := P3.setFar (X1.s4_0 (.int .i64 p)) (by decide) (by decide) 1 (.int .i64 q)
          have P5 := P4.setFar ((X1.s4_0 (.int .i64 p)).s4_1 (.int .i64 q)) (by decide) (by decide) 2 (.int .i64 r)
          have P6 := P5.setFar (((X1.s4_0 (.int .i64 p)).s4_1 (.int .i64 q)).s4_2 (.int .i64 r)) (by decide) (by decide) 3 (.int .i64 s)
          have P7 := (P6.q ((Q.refl _).drew)).rd
          have hPl := O0.len
          refine bodyPost_ret (v := .tuple #[.agg #[.int .i64 x, .int .i64 y], .agg #[.int .i64 p, .int .i64 q, .int .i64 r, .int .i64 s], .slice (some ⟨w7.heap.size, 0, none⟩) 17 17]) (by simp [results, Tryz.results5, go_sem, F0, F1]) rfl ⟨x, y, p, q, r, s, (some ⟨w7.heap.size, 0, none⟩), 17, 17, (List.replicate 17 ⟨none, 0, 0, []⟩).map Tk.dat, rfl, P7, by rw [List.length_map]; exact hPl, by decide, ((((((Q3.setCell (p := ⟨wz.heap.size, 0, none⟩) (show wz.heap.size ≤ wz.heap.size by omega) (.int .i64 x)).setCell (p := ⟨wz.heap.size, 1, none⟩) (show wz.heap.size ≤ wz.heap.size by omega) (.int .i64 y)).setCell (p := ⟨wz.heap.size + 1, 0, none⟩) (show wz.heap.size ≤ wz.heap.size + 1 by omega) (.int .i64 p)).setCell (p := ⟨wz.heap.size + 1, 1, none⟩) (show wz.heap.size ≤ wz.heap.size + 1 by omega) (.int .i64 q)).setCell (p := ⟨wz.heap.size + 1, 2, none⟩) (show wz.heap.size ≤ wz.heap.size + 1 by omega) (.int .i64 r)).setCell (p := ⟨wz.heap.size + 1, 3, none⟩) (show wz.heap.size ≤ wz.heap.size + 1 by omega) (.int .i64 s)).drew⟩
      · have b5 : (r5 == 0) = false := by simpa using h5
        clear hr5 h5
        have cV0 := V0.cell
        have lV0 := V0.lt
        have cV1 := V1.cell
        have lV1 := V1.lt
        have cR0 := R0.cell
        have fR0 := R0.frozen
        have lR0 := R0.lt
        have cR1 := R1.cell
        have fR1 := R1.frozen
        have lR1 := R1.lt
        have Q3 := Z0.trans HD.dr.q
        go_wp2_with fail
        go_region
        all_goals go_wp2_with fail
        have F0 := ((((((R0.s2_0 (.int .i64 x)).s2_1 (.int .i64 y)).far (p := ⟨wz.heap.size + 1, 0, none⟩) (show wz.heap.size ≠ wz.heap.size + 1 by omega) (.int .i64 p)).far (p := ⟨wz.heap.size + 1, 1, none⟩) (show wz.heap.size ≠ wz.heap.size + 1 by omega) (.int .i64 q)).far (p := ⟨wz.heap.size + 1, 2, none⟩) (show wz.heap.size ≠ wz.heap.size + 1 by omega) (.int .i64 r)).far (p := ⟨wz.heap.size + 1, 3, none⟩) (show wz.heap.size ≠ wz.heap.size + 1 by omega) (.int .i64 s)).drew.cell
        have F1 := ((((((R1.far (p := ⟨wz.heap.size, 0, none⟩) (show wz.heap.size + 1 ≠ wz.heap.size by omega) (.int .i64 x)).far (p := ⟨wz.heap.size, 1, none⟩) (show wz.heap.size + 1 ≠ wz.heap.size by omega) (.int .i64 y)).s4_0 (.int .i64 p)).s4_1 (.int .i64 q)).s4_2 (.int .i64 r)).s4_3 (.int .i64 s)).drew.cell
        have X1 := (R1.far (p := ⟨wz.heap.size, 0, none⟩) (show wz.heap.size + 1 ≠ wz.heap.size by omega) (.int .i64 x)).far (p := ⟨wz.heap.size, 1, none⟩) (show wz.heap.size + 1 ≠ wz.heap.size by omega) (.int .i64 y)
        have P1 := O0.setFar R0 (by decide) (by decide) 0 (.int .i64 x)
        have P2 := P1.setFar (R0.s2_0 (.int .i64 x)) (by decide) (by decide) 1 (.int .i64 y)
        have P3 := P2.setFar X1 (by decide) (by decide) 0 (.int .i64 p)
        have P4 := P3.setFar (X1.s4_0 (.int .i64 p)) (by decide) (by decide) 1 (.int .i64 q)
        have P5 := P4.setFar ((X1.s4_0 (.int .i64 p)).s4_1 (.int .i64 q)) (by decide) (by decide) 2 (.int .i64 r)
        have P6 := P5.setFar (((X1.s4_0 (.int .i64 p)).s4_1 (.int .i64 q)).s4_2 (.int .i64 r)) (by decide) (by decide) 3 (.int .i64 s)
        have P7 := (P6.q ((Q.refl _).drew)).rd
        have hPl := O0.len
        refine bodyPost_ret (v := .tuple #[.agg #[.int .i64 x, .int .i64 y], .agg #[.int .i64 p, .int .i64 q, .int .i64 r, .int .i64 s], .slice A1 q1 d1]) (by simp [results, Tryz.results5, go_sem, F0, F1]) rfl ⟨x, y, p, q, r, s, A1, q1, d1, (ts).map Tk.dat, rfl, P7, by rw [List.length_map]; exact hPl, by omega, ((((((Q3.setCell (p := ⟨wz.heap.size, 0, none⟩) (show wz.heap.size ≤ wz.heap.size by omega) (.int .i64 x)).setCell (p := ⟨wz.heap.size, 1, none⟩) (show wz.heap.size ≤ wz.heap.size by omega) (.int .i64 y)).setCell (p := ⟨wz.heap.size + 1, 0, none⟩) (show wz.heap.size ≤ wz.heap.size + 1 by omega) (.int .i64 p)).setCell (p := ⟨wz.heap.size + 1, 1, none⟩) (show wz.heap.size ≤ wz.heap.size + 1 by omega) (.int .i64 q)).setCell (p := ⟨wz.heap.size + 1, 2, none⟩) (show wz.heap.size ≤ wz.heap.size + 1 by omega) (.int .i64 r)).setCell (p := ⟨wz.heap.size + 1, 3, none⟩) (show wz.heap.size ≤ wz.heap.size + 1 by omega) (.int .i64 s)).drew⟩
end Go.Proofs.YtkpdoikjfibflaaGreatDoor
