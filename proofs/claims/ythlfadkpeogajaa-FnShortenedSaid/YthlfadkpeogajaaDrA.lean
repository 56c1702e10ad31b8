/- Walks: the reference's draw of limits and a list of finishes. No condition. -/
import Derived.Test.YthlfadkpeogajaaDraw16
import Derived.Test.YthlfadkpeogajaaApl
namespace Go.Proofs.Ythlfadkpeogajaa
open Go.RowKit Go.WideShapes Go.ChangeShapes
theorem Own.keepD {w w' : World} {B g k n c : Nat} {e : TypeId} {A : Option Addr} {xs : List Int} (h : Own w B e k (.slice A n c) n xs) (hg : w.grownBy w' (some g)) (hB : g < B) : Own w' B e k (.slice A n c) n xs := by
  refine World.ownsRow.kept h hg ?_
  rcases hA : A with _ | a
  · exact .inl rfl
  · refine .inr ?_
    have := (h.from a hA).1
    simp only [Value.ownBlock]
    intro e
    injection e with e
    omega
theorem OwnL.keepD {w w' : World} {B g k : Nat} {e : TypeId} {v : Value} {xs : List Int} (h : OwnL w B e k v xs) (hg : w.grownBy w' (some g)) (hB : g < B) : OwnL w' B e k v xs := by
  obtain ⟨A, n, c, rfl, ho⟩ := h
  exact ⟨A, n, c, rfl, ho.keepD hg hB⟩
theorem DrT.markE {w0 ws w w' : World} {g B k n c n2 c2 : Nat} {A A2 : Option Addr} {e : TypeId} {xs : List Int} (h : DrT w0 ws w g A n c) (ho : Own w B e k (.slice A2 n2 c2) n2 xs) (hB : ws.heap.size ≤ B) (hg : w.grownBy w' (A2.map (·.block))) : DrT w0 ws w' g A n c := by
  have hne : ∀ b, A2.map (·.block) = some b → ws.heap.size ≤ b := by
    intro b hb
    rcases A2 with _ | a
    · cases hb
    · simp only [Option.map_some, Option.some.injEq] at hb
      have := (ho.from a rfl).1
      omega
  have h0 := h.dr.hg
  have h1 := h.glt
  refine ⟨h.dr.far hg (fun b hb => by have := hne b hb; omega), ?_, h.glt⟩
  exact ⟨hg.os.trans h.gr.os, hg.tape.trans h.gr.tape, hg.output.trans h.gr.output, Nat.le_trans h.gr.size hg.size, fun i hi hn => (hg.block i (Nat.lt_of_lt_of_le hi h.gr.size) (fun e => by have := hne i e.symm; omega)).trans (h.gr.block i hi hn)⟩
/-- A list of finishes was drawn. -/
def DrawFL (w0 w : World) (g : Nat) (A : Option Addr) (n c : Nat) (e : Ending) (w' : World) : Prop := ∃ (B : Option Addr) (m d : Nat) (xs : List Int), e = .returned (.slice B m d) ∧ Own w' w.heap.size 65 3 (.slice B m d) m xs ∧ m ≤ 20 ∧ Dr w0 w' g A n c ∧ w.grownBy w' (some g)
set_option maxHeartbeats 8000000 in
theorem spec_l16DrawList {w0 w : World} {g : Nat} {A : Option Addr} {n c : Nat} (h : Dr w0 w g A n c) (hn : n ≤ 140737488355327) : Calls Try.prog 96 #[.pointer (some ⟨g, 0, none⟩)] w (DrawFL w0 w g A n c) := by
  obtain ⟨i0, hi, hz0, hz1, hz2⟩ := info_parts infoFinish
  have HI := Lib.hid (And.intro hi (And.intro hz0 (And.intro hz1 hz2)))
  clear hi hz0 hz1 hz2
  have HD := DrT.start h
  have hlt := HD.glt
  have O0 : OwnL (w.alloc (.cells #[] 65)) w.heap.size 65 3 (.slice (some ⟨w.heap.size, 0, none⟩) 0 0) [] := OwnL.new w _ _ (Nat.le_refl _)
  go_enter Try.func96, Try.ntmps96
  go_wp2_with fail
  replace HD := HD.alloc (.cells #[] 65)
  refine (spec_Next (w0 := w0) (A := A) (n := n) (c := c) _ (DrT.dr (ws := w) (by ((repeat (first | exact HD | refine DrT.alloc ?_ _ | refine DrT.drewN ?_ _ | refine DrT.drew ?_ | refine DrT.set ?_ (by first | omega | (simp; omega)) _))))) hn).mono ?_
  rintro e1 w1 ⟨r1, rfl, hr1, D1, G1⟩
  have HD := DrT.step (ws := w) (by ((repeat (first | exact HD | refine DrT.alloc ?_ _ | refine DrT.drewN ?_ _ | refine DrT.drew ?_ | refine DrT.set ?_ (by first | omega | (simp; omega)) _)))) D1 G1
  have z1 := HD.size
  have O1 := O0.keepD G1 hlt
  clear O0
  go_wp2_with fail
  go_loopw [3, 4] (fun v i wr => ∃ (k : Nat) (xs : List Int), i = .int .i64 k ∧ OwnL wr w.heap.size 65 3 v xs ∧ xs.length + k * 3 ≤ 24 ∧ DrT w0 w wr g A n c) (fun _ i _ => (intOf i).toNat)
  case atStart =>
    obtain ⟨k, hk⟩ := Int.eq_ofNat_of_zero_le hr1.1
    exact ⟨k, [], by rw [hk], O1, by simp; omega, HD⟩
  case round =>
    clear O1 z1 HD D1 G1
    obtain ⟨k, xs, rfl, ⟨A1, m, d1, rfl, hown⟩, hlen, HD⟩ := hrel
    have hmx := hown.len
    have hsz := HD.size
    by_cases hk0 : 0 < k
    · have hkI : (0 : Int) < (k : Int) := by omega
      obtain ⟨j, rfl⟩ : ∃ j, k = j + 1 := ⟨k - 1, by omega⟩
      go_wp2_with fail
      refine (spec_l16Draw HD.dr hn).mono ?_
      rintro e w2 ⟨x, y, z, rfl, D2, G2⟩
      replace HD := HD.step D2 G2
      have hown2 := hown.keepD G2 hlt
      clear hown
      have B := Blk.new w2 65 #[.int .i64 x, .int .i64 y, .int .i64 z]
      have z2 := G2.size
      have k1 := fun wv => spec_IsFinish x y z wv
      obtain ⟨FB, hFB⟩ : ∃ F, F = isFin x y z := ⟨_, rfl⟩
      rw [← hFB] at k1
      have K1 := Lib.hid k1
      clear hFB k1
      replace HD := HD.alloc (.cells #[.int .i64 x, .int .i64 y, .int .i64 z] 65)
      replace hown2 := hown2.q ((Q.refl w2).alloc (.cells #[.int .i64 x, .int .i64 y, .int .i64 z] 65))
      have hbg : g < w2.heap.size := by omega
      cases FB
      · go_wp2_with fail
        refine (K1.out _).mono ?_
        rintro e w3 ⟨rfl, q3⟩
        replace HD := HD.q q3
        have hown3 := hown2.q q3
        replace B := B.q q3
        have cB := B.cell
        have z3 := q3.size
        clear hown2
        go_wp2_with fail
        refine (spec_Next (w0 := w0) (A := A) (n := n) (c := c) _ (DrT.dr (ws := w) (by ((repeat (first | exact HD | refine DrT.alloc ?_ _ | refine DrT.drewN ?_ _ | refine DrT.drew ?_ | refine DrT.set ?_ (by first | omega | (simp; omega)) _))))) hn).mono ?_
        rintro e4 w4 ⟨r4, rfl, hr4, D4, G4⟩
        have HD := DrT.step (ws := w) (by ((repeat (first | exact HD | refine DrT.alloc ?_ _ | refine DrT.drewN ?_ _ | refine DrT.drew ?_ | refine DrT.set ?_ (by first | omega | (simp; omega)) _)))) D4 G4
        have z4 := HD.size
        replace B := Blk.keepG (g := g) (B.q (by (repeat (first | assumption | exact Q.refl _ | refine Q.alloc ?_ _ | refine Q.drewN ?_ _ | refine Q.drew ?_)))) G4 (by omega)
        have hown4 := hown3.keepD G4 hlt
        clear hown3
        have hs4 := HD.size
        by_cases h4 : r4 = 0
        · subst h4
          clear hr4
          have cB := B.cell
          go_wp2_with (at_builtin; refine appK elFinish rfl _ _ rfl [x, y, z] rfl hown4 rfl (by simp) rfl _ _ rfl (by omega) HD.size ?_; intro A' c' w' hown' hg' hgr'; replace HD := DrT.markE HD hown4 (Nat.le_refl _) hg')
          go_roundw
          case rel => exact ⟨j, xs ++ [x, y, z], by go_num, ⟨_, _, _, rfl, hown'⟩, by simp; omega, HD⟩
          case measure => simp [intOf]
        · have b4 : (r4 == 0) = false := by simpa using h4
          go_wp2_with fail
          go_roundw
          case rel => exact ⟨j, xs, by go_num, ⟨_, _, _, rfl, hown4⟩, by omega, HD⟩
          case measure => simp [intOf]
      · go_wp2_with fail
        refine (K1.out _).mono ?_
        rintro e w3 ⟨rfl, q3⟩
        replace HD := HD.q q3
        have hown3 := hown2.q q3
        replace B := B.q q3
        have cB := B.cell
        have hs3 := HD.size
        clear hown2
        go_wp2_with (at_builtin; refine appK elFinish rfl _ _ rfl [x, y, z] rfl hown3 rfl (by simp) rfl _ _ rfl (by omega) HD.size ?_; intro A' c' w' hown' hg' hgr'; replace HD := DrT.markE HD hown3 (Nat.le_refl _) hg')
        go_roundw
        case rel => exact ⟨j, xs ++ [x, y, z], by go_num, ⟨_, _, _, rfl, hown'⟩, by simp; omega, HD⟩
        case measure => simp [intOf]
    · obtain rfl : k = 0 := by omega
      go_wp2_with fail
      refine (spec_Next (w0 := w0) (A := A) (n := n) (c := c) _ (DrT.dr (ws := w) (by ((repeat (first | exact HD | refine DrT.alloc ?_ _ | refine DrT.drewN ?_ _ | refine DrT.drew ?_ | refine DrT.set ?_ (by first | omega | (simp; omega)) _))))) hn).mono ?_
      rintro e8 w8 ⟨r8, rfl, hr8, D8, G8⟩
      have HD := DrT.step (ws := w) (by ((repeat (first | exact HD | refine DrT.alloc ?_ _ | refine DrT.drewN ?_ _ | refine DrT.drew ?_ | refine DrT.set ?_ (by first | omega | (simp; omega)) _)))) D8 G8
      have z8 := HD.size
      have hown8 := hown.keepD G8 hlt
      clear hown
      by_cases h8 : r8 = 0
      · subst h8
        clear hr8
        go_wp2_with fail
        refine (spec_Next (w0 := w0) (A := A) (n := n) (c := c) _ (DrT.dr (ws := w) (by ((repeat (first | exact HD | refine DrT.alloc ?_ _ | refine DrT.drewN ?_ _ | refine DrT.drew ?_ | refine DrT.set ?_ (by first | omega | (simp; omega)) _))))) hn).mono ?_
        rintro e9 w9 ⟨r9, rfl, hr9, D9, G9⟩
        have HD := DrT.step (ws := w) (by ((repeat (first | exact HD | refine DrT.alloc ?_ _ | refine DrT.drewN ?_ _ | refine DrT.drew ?_ | refine DrT.set ?_ (by first | omega | (simp; omega)) _)))) D9 G9
        have z9 := HD.size
        have hown9 := hown8.keepD G9 hlt
        obtain ⟨q, rfl⟩ := Int.eq_ofNat_of_zero_le hr9.1
        have hq2 : q ≤ 1 := by omega
        clear hr9
        have hs9 := HD.size
        go_wp2_with (at_make; refine wpList_make_full _ rfl _ _ 57 rfl w.heap.size 65 i0 (.agg #[.int .i64 0, .int .i64 0, .int .i64 0]) 3 Try.underlying57 HI.out.1 HI.out.2.1 HI.out.2.2.1 .i64 .i64 (16 + q) (16 + q) (16 + q) rfl (by go_num) (by go_num) rfl (by rw [HI.out.2.2.2]; omega) (by unfold maxLen; omega) hs9 ?_; intro w1 hown hgrow)
        rw [show (madeCells (Value.agg #[.int .i64 0, .int .i64 0, .int .i64 0]).cells ((16 + q) * 3)).toList = _ from made_ints (k := 3) rfl (by decide) _] at hown
        have hown : Own w1 w.heap.size 65 3 (.slice (some ⟨w9.heap.size, 0, none⟩) (16 + q) (16 + q)) (16 + q) (List.replicate ((16 + q) * 3) 0) := hown
        have hq0 : Q w9 w1 := (Q.refl w9).grown hgrow (by simp)
        replace HD := HD.q hq0
        go_ret
        exact ⟨_, _, _, _, rfl, hown, by omega, HD.dr, HD.gr⟩
      · have b8 : (r8 == 0) = false := by simpa using h8
        go_wp2_with fail
        go_ret
        exact ⟨_, _, _, xs, rfl, hown8, by omega, HD.dr, HD.gr⟩
def DrawA (wz : World) (e : Ending) (w' : World) : Prop := ∃ (x y z : Int) (B : Option Addr) (m d : Nat) (xs : List Int), e = .returned (.tuple #[.agg #[.int .i64 x, .int .i64 y, .int .i64 z], .slice B m d]) ∧ Own w' wz.heap.size 65 3 (.slice B m d) m xs ∧ m ≤ 20 ∧ Q wz w'
set_option maxHeartbeats 4000000 in
theorem spec_DrawCutoffTime (A : Option Addr) (n c : Nat) (wz : World) (ha : Rd8 wz A n) (hn : n ≤ 140737488355327) : Calls Try.prog 74 #[.slice A n c] wz (DrawA wz) := by
  have R0 := Blk.new wz 25 #[.int .i64 0, .int .i64 0, .int .i64 0]
  have Z0 : Q wz (wz.alloc (.cells #[.int .i64 0, .int .i64 0, .int .i64 0] 25)) := by (repeat (first | assumption | exact Q.refl _ | refine Q.alloc ?_ _ | refine Q.drewN ?_ _ | refine Q.drew ?_))
  have zz : (wz.alloc (.cells #[.int .i64 0, .int .i64 0, .int .i64 0] 25)).heap.size = wz.heap.size + 1 := by simp
  go_enter Try.func74, Try.ntmps74
  go_wp2_with (go_at_call 57; refine (spec_From A n c _ (ha.q (by (repeat (first | assumption | exact Q.refl _ | refine Q.alloc ?_ _ | refine Q.drewN ?_ _ | refine Q.drew ?_)))) hn).mono ?_; rintro e w ⟨rfl, D0⟩)
  generalize wz.alloc (.cells #[.int .i64 0, .int .i64 0, .int .i64 0] 25) = w0 at *
  rw [zz] at D0
  obtain ⟨g, hg⟩ : ∃ g, g = wz.heap.size + 1 := ⟨_, rfl⟩
  rw [← hg] at D0 ⊢
  have HD := DrT.start D0
  have hlt := HD.glt
  replace R0 := R0.q D0.q
  have hgr : wz.heap.size < g := by omega
  have hwz : wz.heap.size < w.heap.size := by omega
  clear hg
  refine (spec_l15Draw D0 hn).mono ?_
  rintro e wa ⟨x, y, z, rfl, D1, G1⟩
  replace HD := HD.step D1 G1
  replace R0 := R0.keepG G1 (by omega)
  clear D0 G1
  go_wp2_with fail
  refine (spec_l16DrawList D1 hn).mono ?_
  rintro e wb ⟨B, m, d, xs, rfl, o2, hm, D2, G2⟩
  have z1 := HD.size
  replace HD := HD.step D2 G2
  replace R0 := R0.keepG G2 (by omega)
  have cR := R0.cell
  have fR := R0.frozen
  have lR := R0.lt
  clear D1 D2 G2
  have QF := Z0.trans HD.dr.q
  have hne : ∀ a, B = some a → a.block ≠ wz.heap.size := fun a h => by have := (o2.from a h).1; omega
  clear HD
  go_wp2_with fail
  have F := (((R0.set3_0 (.int .i64 x)).set3_1 (.int .i64 y)).set3_2 (.int .i64 z)).cell
  refine bodyPost_ret (v := .tuple #[.agg #[.int .i64 x, .int .i64 y, .int .i64 z], .slice B m d]) (by simp [results, Try.results74, go_sem, F]) rfl ⟨x, y, z, B, m, d, xs, rfl, (((o2.setFar hne 0 _).setFar hne 1 _).setFar hne 2 _).mono (by omega), hm, ?_⟩
  exact (((QF.setCell (Nat.le_refl _) _).setCell (Nat.le_refl _) _).setCell (Nat.le_refl _) _)
set_option maxHeartbeats 4000000 in
theorem spec_DrawApplyLimits (A : Option Addr) (n c : Nat) (wz : World) (ha : Rd8 wz A n) (hn : n ≤ 140737488355327) : Calls Try.prog 40 #[.slice A n c] wz (DrawA wz) := by
  have R0 := Blk.new wz 25 #[.int .i64 0, .int .i64 0, .int .i64 0]
  have Z0 : Q wz (wz.alloc (.cells #[.int .i64 0, .int .i64 0, .int .i64 0] 25)) := by (repeat (first | assumption | exact Q.refl _ | refine Q.alloc ?_ _ | refine Q.drewN ?_ _ | refine Q.drew ?_))
  go_enter Try.func40, Try.ntmps40
  go_wp2_with (go_at_call 74; refine (spec_DrawCutoffTime A n c _ (ha.q (by (repeat (first | assumption | exact Q.refl _ | refine Q.alloc ?_ _ | refine Q.drewN ?_ _ | refine Q.drew ?_)))) hn).mono ?_; rintro e w ⟨x, y, z, B, m, d, xs, rfl, o2, hm, q1⟩; refine Hid.out ?_)
  refine Lib.hid ?_
  replace R0 := R0.q q1
  have QF := Z0.trans q1
  have cR := R0.cell
  have fR := R0.frozen
  have lR := R0.lt
  have hne : ∀ a, B = some a → a.block ≠ wz.heap.size := fun a h => by have := (o2.from a h).1; simp at this; omega
  clear q1
  go_wp2_with fail
  have F := (((R0.set3_0 (.int .i64 x)).set3_1 (.int .i64 y)).set3_2 (.int .i64 z)).cell
  refine bodyPost_ret (v := .tuple #[.agg #[.int .i64 x, .int .i64 y, .int .i64 z], .slice B m d]) (by simp [results, Try.results40, go_sem, F]) rfl ⟨x, y, z, B, m, d, xs, rfl, (((o2.setFar hne 0 _).setFar hne 1 _).setFar hne 2 _).mono (by simp), hm, ?_⟩
  exact (((QF.setCell (Nat.le_refl _) _).setCell (Nat.le_refl _) _).setCell (Nat.le_refl _) _)
end Go.Proofs.Ythlfadkpeogajaa
