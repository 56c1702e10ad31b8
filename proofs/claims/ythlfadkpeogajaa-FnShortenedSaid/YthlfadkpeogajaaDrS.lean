/- Walks: the reference's draw for ShortenAt. No condition. -/
import Derived.Test.YthlfadkpeogajaaDrA
namespace Go.Proofs.Ythlfadkpeogajaa
open Go.RowKit Go.WideShapes Go.ChangeShapes
def slLen' : Value → Nat
  | .slice _ n _ => n
  | _ => 0
def DrawSh (wz : World) (e : Ending) (w' : World) : Prop := ∃ (x y z : Int) (B : Option Addr) (m d : Nat) (xs : List Int) (s t : Int), e = .returned (.tuple #[.agg #[.int .i64 x, .int .i64 y, .int .i64 z], .slice B m d, .int .i64 s, .int .i64 t]) ∧ Rd w' B xs ∧ xs.length = m ∧ m ≤ 20 ∧ Q wz w'
set_option maxRecDepth 100000 in
set_option maxHeartbeats 8000000 in
theorem spec_DrawShortenAt (A : Option Addr) (n c : Nat) (wz : World) (ha : Rd8 wz A n) (hn : n ≤ 140737488355327) : Calls Try.prog 37 #[.slice A n c] wz (DrawSh wz) := by
  obtain ⟨i0, hi, hz0, hz1, hz2⟩ := info_parts infoInt64
  have HI := Lib.hid (And.intro hi (And.intro hz0 (And.intro hz1 hz2)))
  clear hi hz0 hz1 hz2
  have R0 := Blk.new wz 25 #[.int .i64 0, .int .i64 0, .int .i64 0]
  have Z0 : Q wz (wz.alloc (.cells #[.int .i64 0, .int .i64 0, .int .i64 0] 25)) := by (repeat (first | assumption | exact Q.refl _ | refine Q.alloc ?_ _ | refine Q.drewN ?_ _ | refine Q.drew ?_))
  have zz : (wz.alloc (.cells #[.int .i64 0, .int .i64 0, .int .i64 0] 25)).heap.size = wz.heap.size + 1 := by simp
  go_enter Try.func37, Try.ntmps37
  go_wp2_with (go_at_call 57; refine (spec_From A n c _ (ha.q (by (repeat (first | assumption | exact Q.refl _ | refine Q.alloc ?_ _ | refine Q.drewN ?_ _ | refine Q.drew ?_)))) hn).mono ?_; rintro e w ⟨rfl, D0⟩)
  generalize wz.alloc (.cells #[.int .i64 0, .int .i64 0, .int .i64 0] 25) = w0 at *
  rw [zz] at D0
  obtain ⟨g, hg⟩ : ∃ g, g = wz.heap.size + 1 := ⟨_, rfl⟩
  rw [← hg] at D0 ⊢
  have HD := DrT.start D0
  have hlt := HD.glt
  replace R0 := R0.q D0.q
  have hgr : wz.heap.size < g := by omega
  have hwz : wz.heap.size < w.heap.size := by omega
  clear hg
  refine (spec_l15Draw D0 hn).mono ?_
  rintro e wa ⟨x, y, z, rfl, D1, G1⟩
  replace HD := HD.step D1 G1
  replace R0 := R0.keepG G1 (by omega)
  clear D0 D1 G1
  go_wp2_with fail
  have B := Blk.new wa 25 #[.int .i64 x, .int .i64 y, .int .i64 z]
  have hsz := HD.size
  obtain ⟨b, hb⟩ : ∃ b, b = wa.heap.size := ⟨_, rfl⟩
  rw [← hb] at B ⊢
  replace HD := HD.alloc (.cells #[.int .i64 x, .int .i64 y, .int .i64 z] 25)
  replace R0 := R0.alloc (.cells #[.int .i64 x, .int .i64 y, .int .i64 z] 25)
  have hbg : w.heap.size ≤ b := by omega
  have O0 : OwnL ((wa.alloc (.cells #[.int .i64 x, .int .i64 y, .int .i64 z] 25)).alloc (.cells #[] 2)) (b + 1) 2 1 (.slice (some ⟨(wa.alloc (.cells #[.int .i64 x, .int .i64 y, .int .i64 z] 25)).heap.size, 0, none⟩) 0 0) [] := OwnL.new _ _ _ (by simp; omega)
  simp only [World.size_alloc] at O0
  rw [← hb] at O0
  replace HD := HD.alloc (.cells #[] 2)
  replace R0 := R0.alloc (.cells #[] 2)
  replace B := B.alloc (.cells #[] 2)
  generalize hwb : (wa.alloc (.cells #[.int .i64 x, .int .i64 y, .int .i64 z] 25)).alloc (.cells #[] 2) = wb at *
  clear hwb hb hsz
  refine (spec_Next (w0 := w0) (A := A) (n := n) (c := c) _ (DrT.dr (ws := w) (by ((repeat (first | exact HD | refine DrT.alloc ?_ _ | refine DrT.drewN ?_ _ | refine DrT.drew ?_ | refine DrT.set ?_ (by first | omega | (simp; omega)) _))))) hn).mono ?_
  rintro e1 w1 ⟨r1, rfl, hr1, D1, G1⟩
  have HD := DrT.step (ws := w) (by ((repeat (first | exact HD | refine DrT.alloc ?_ _ | refine DrT.drewN ?_ _ | refine DrT.drew ?_ | refine DrT.set ?_ (by first | omega | (simp; omega)) _)))) D1 G1
  have z1 := HD.size
  replace B := Blk.keepG (g := g) (B.q (by (repeat (first | assumption | exact Q.refl _ | refine Q.alloc ?_ _ | refine Q.drewN ?_ _ | refine Q.drew ?_)))) G1 (by omega)
  replace R0 := Blk.keepG (g := g) (R0.q (by (repeat (first | assumption | exact Q.refl _ | refine Q.alloc ?_ _ | refine Q.drewN ?_ _ | refine Q.drew ?_)))) G1 (by omega)
  have O1 := O0.keepD G1 (by omega)
  clear O0
  go_wp2_with fail
  go_loopw [8, 9] (fun v i wr => ∃ (k : Nat) (xs : List Int), i = .int .i64 k ∧ OwnL wr (b + 1) 2 1 v xs ∧ xs.length + k ≤ 8 ∧ 2 ≤ xs.length + k ∧ Blk wr b 25 #[.int .i64 x, .int .i64 y, .int .i64 z] ∧ Blk wr wz.heap.size 25 #[.int .i64 0, .int .i64 0, .int .i64 0] ∧ DrT w0 w wr g A n c) (fun _ i _ => (intOf i).toNat)
  case atStart =>
    obtain ⟨k, hk⟩ := Int.eq_ofNat_of_zero_le hr1.1
    exact ⟨2 + k, [], by rw [hk]; go_num, O1, by simp; omega, by simp, B, R0, HD⟩
  case round =>
    clear O1 z1 HD D1 G1 B R0
    obtain ⟨k, xs, rfl, ⟨A1, m, d1, rfl, hown⟩, hlen, hlen2, B, R0, HD⟩ := hrel
    have hmx := hown.len
    have hsz := HD.size
    have hbl := B.lt
    by_cases hk0 : 0 < k
    · have hkI : (0 : Int) < (k : Int) := by omega
      obtain ⟨j, rfl⟩ : ∃ j, k = j + 1 := ⟨k - 1, by omega⟩
      go_wp2_with fail
      refine (spec_Next (w0 := w0) (A := A) (n := n) (c := c) _ (DrT.dr (ws := w) (by ((repeat (first | exact HD | refine DrT.alloc ?_ _ | refine DrT.drewN ?_ _ | refine DrT.drew ?_ | refine DrT.set ?_ (by first | omega | (simp; omega)) _))))) hn).mono ?_
      rintro e2 w2 ⟨r2, rfl, hr2, D2, G2⟩
      have HD := DrT.step (ws := w) (by ((repeat (first | exact HD | refine DrT.alloc ?_ _ | refine DrT.drewN ?_ _ | refine DrT.drew ?_ | refine DrT.set ?_ (by first | omega | (simp; omega)) _)))) D2 G2
      have z2 := HD.size
      replace B := Blk.keepG (g := g) (B.q (by (repeat (first | assumption | exact Q.refl _ | refine Q.alloc ?_ _ | refine Q.drewN ?_ _ | refine Q.drew ?_)))) G2 (by omega)
      replace R0 := Blk.keepG (g := g) (R0.q (by (repeat (first | assumption | exact Q.refl _ | refine Q.alloc ?_ _ | refine Q.drewN ?_ _ | refine Q.drew ?_)))) G2 (by omega)
      have hown2 := hown.keepD G2 (by omega)
      have s2 := HD.size
      have b2 := B.lt
      clear hown
      go_wp2_with (at_builtin; refine appK elInt64 rfl _ _ rfl [1 + r2] rfl hown2 rfl (by simp) rfl _ _ rfl (by omega) (by omega) ?_; intro A' c' w' hown' hg' hgr'; replace HD := DrT.markE HD hown2 (by omega) hg'; replace B := Blk.markO B hown2 (by decide) hg'; replace R0 := Blk.markO R0 hown2 (by decide) hg')
      go_roundw
      case rel => exact ⟨j, _, by go_num, ⟨_, _, _, rfl, hown'⟩, by simp; omega, by simp; omega, B, R0, HD⟩
      case measure => simp [intOf]
    · obtain rfl : k = 0 := by omega
      have hNp : 0 < m := by omega
      have hmI : (m : Int) ≤ 8 := by omega
      go_wp2_with fail
      refine (spec_Next (w0 := w0) (A := A) (n := n) (c := c) _ (DrT.dr (ws := w) (by ((repeat (first | exact HD | refine DrT.alloc ?_ _ | refine DrT.drewN ?_ _ | refine DrT.drew ?_ | refine DrT.set ?_ (by first | omega | (simp; omega)) _))))) hn).mono ?_
      rintro e3 w3 ⟨r3, rfl, hr3, D3, G3⟩
      have HD := DrT.step (ws := w) (by ((repeat (first | exact HD | refine DrT.alloc ?_ _ | refine DrT.drewN ?_ _ | refine DrT.drew ?_ | refine DrT.set ?_ (by first | omega | (simp; omega)) _)))) D3 G3
      have z3 := HD.size
      replace B := Blk.keepG (g := g) (B.q (by (repeat (first | assumption | exact Q.refl _ | refine Q.alloc ?_ _ | refine Q.drewN ?_ _ | refine Q.drew ?_)))) G3 (by omega)
      replace R0 := Blk.keepG (g := g) (R0.q (by (repeat (first | assumption | exact Q.refl _ | refine Q.alloc ?_ _ | refine Q.drewN ?_ _ | refine Q.drew ?_)))) G3 (by omega)
      have hown3 := hown.keepD G3 (by omega)
      clear hown
      go_wp2_with fail
      refine (spec_Next (w0 := w0) (A := A) (n := n) (c := c) _ (DrT.dr (ws := w) (by ((repeat (first | exact HD | refine DrT.alloc ?_ _ | refine DrT.drewN ?_ _ | refine DrT.drew ?_ | refine DrT.set ?_ (by first | omega | (simp; omega)) _))))) hn).mono ?_
      rintro e4 w4 ⟨r4, rfl, hr4, D4, G4⟩
      have HD := DrT.step (ws := w) (by ((repeat (first | exact HD | refine DrT.alloc ?_ _ | refine DrT.drewN ?_ _ | refine DrT.drew ?_ | refine DrT.set ?_ (by first | omega | (simp; omega)) _)))) D4 G4
      have z4 := HD.size
      replace B := Blk.keepG (g := g) (B.q (by (repeat (first | assumption | exact Q.refl _ | refine Q.alloc ?_ _ | refine Q.drewN ?_ _ | refine Q.drew ?_)))) G4 (by omega)
      replace R0 := Blk.keepG (g := g) (R0.q (by (repeat (first | assumption | exact Q.refl _ | refine Q.alloc ?_ _ | refine Q.drewN ?_ _ | refine Q.drew ?_)))) G4 (by omega)
      have hown4 := hown3.keepD G4 (by omega)
      clear hown3
      go_wp2_with fail
      refine (spec_Next (w0 := w0) (A := A) (n := n) (c := c) _ (DrT.dr (ws := w) (by ((repeat (first | exact HD | refine DrT.alloc ?_ _ | refine DrT.drewN ?_ _ | refine DrT.drew ?_ | refine DrT.set ?_ (by first | omega | (simp; omega)) _))))) hn).mono ?_
      rintro e5 w5 ⟨r5, rfl, hr5, D5, G5⟩
      have HD := DrT.step (ws := w) (by ((repeat (first | exact HD | refine DrT.alloc ?_ _ | refine DrT.drewN ?_ _ | refine DrT.drew ?_ | refine DrT.set ?_ (by first | omega | (simp; omega)) _)))) D5 G5
      have z5 := HD.size
      replace B := Blk.keepG (g := g) (B.q (by (repeat (first | assumption | exact Q.refl _ | refine Q.alloc ?_ _ | refine Q.drewN ?_ _ | refine Q.drew ?_)))) G5 (by omega)
      replace R0 := Blk.keepG (g := g) (R0.q (by (repeat (first | assumption | exact Q.refl _ | refine Q.alloc ?_ _ | refine Q.drewN ?_ _ | refine Q.drew ?_)))) G5 (by omega)
      have hown5 := hown4.keepD G5 (by omega)
      clear hown4
      go_upto_block 2 with (fail)
      go_cut [8, 10, 11] from 41 (fun l s t wc => ∃ (s' t' : Int) (ys : List Int), s = .int .i64 s' ∧ t = .int .i64 t' ∧ OwnL wc (b + 1) 2 1 l ys ∧ ys.length ≤ 12 ∧ Blk wc b 25 #[.int .i64 x, .int .i64 y, .int .i64 z] ∧ Blk wc wz.heap.size 25 #[.int .i64 0, .int .i64 0, .int .i64 0] ∧ DrT w0 w wc g A n c)
      case first =>
        have hl5 : xs.length ≤ 12 := by omega
        by_cases h0 : r5 = 0
        · subst h0
          clear hr5
          obtain ⟨gl, rfl, hgl⟩ := hown5.split hNp
          have hg5 : g < b + 1 := by omega
          go_wp2_with ((go_at_call 59; refine (spec_Next (w0 := w0) (A := A) (n := n) (c := c) _ (DrT.dr (ws := w) (by ((repeat (first | exact HD | refine DrT.alloc ?_ _ | refine DrT.drewN ?_ _ | refine DrT.drew ?_ | refine DrT.set ?_ (by first | omega | (simp; omega)) _))))) hn).mono ?_; rintro e6 w6 ⟨r6, rfl, hr6, D6, G6⟩; have HD := DrT.step (ws := w) (by ((repeat (first | exact HD | refine DrT.alloc ?_ _ | refine DrT.drewN ?_ _ | refine DrT.drew ?_ | refine DrT.set ?_ (by first | omega | (simp; omega)) _)))) D6 G6; have z6 := HD.size; have B := Blk.keepG (g := g) (B.q (by (repeat (first | assumption | exact Q.refl _ | refine Q.alloc ?_ _ | refine Q.drewN ?_ _ | refine Q.drew ?_)))) G6 (by omega); have cB := B.cell; have fB := B.frozen; have lB := B.lt; have R0 := Blk.keepG (g := g) (R0.q (by (repeat (first | assumption | exact Q.refl _ | refine Q.alloc ?_ _ | refine Q.drewN ?_ _ | refine Q.drew ?_)))) G6 (by omega); have cR0 := R0.cell; have fR0 := R0.frozen; have lR0 := R0.lt; obtain ⟨m6, rfl⟩ := Int.eq_ofNat_of_zero_le hr6.1; obtain ⟨v6, hv6, hvl6, hm6, hn6⟩ := pick3 0 1000000000 1000000001 hr6; (first | (have PP := (grown_box G6 (by omega)).cell) | (have PP := (grown_boxD G6 (by omega)).cell) | skip)); have hown6 := (hown5.q (by (repeat (first | assumption | exact Q.refl _ | refine Q.alloc ?_ _ | refine Q.drewN ?_ _ | refine Q.drew ?_)))).keepD G6 hg5; have fl := hown6.frozen 0; have cl := hown6.cell (j := 0) (by omega))
          all_goals (go_wp2_with fail; go_meet)
          all_goals exact ⟨_, _, _, rfl, rfl, ⟨_, _, _, rfl, (hown6.stored 0 _).q (by (repeat (first | assumption | exact Q.refl _ | refine Q.alloc ?_ _ | refine Q.drewN ?_ _ | refine Q.drew ?_)))⟩, by simp; omega, (B.far (p := ⟨gl, 0, none⟩) (by simp; omega) _).q (by (repeat (first | assumption | exact Q.refl _ | refine Q.alloc ?_ _ | refine Q.drewN ?_ _ | refine Q.drew ?_))), (R0.far (p := ⟨gl, 0, none⟩) (by simp; omega) _).q (by (repeat (first | assumption | exact Q.refl _ | refine Q.alloc ?_ _ | refine Q.drewN ?_ _ | refine Q.drew ?_))), (HD.set (b := gl) (i := 0) (by omega) _).q (by (repeat (first | assumption | exact Q.refl _ | refine Q.alloc ?_ _ | refine Q.drewN ?_ _ | refine Q.drew ?_)))⟩
        · have b0 : (r5 == 0) = false := by simpa using h0
          by_cases h1 : r5 = 1
          · subst h1
            clear hr5 h0
            have hg5 : g < b + 1 := by omega
            go_wp2_with ((go_at_call 59; refine (spec_Next (w0 := w0) (A := A) (n := n) (c := c) _ (DrT.dr (ws := w) (by ((repeat (first | exact HD | refine DrT.alloc ?_ _ | refine DrT.drewN ?_ _ | refine DrT.drew ?_ | refine DrT.set ?_ (by first | omega | (simp; omega)) _))))) hn).mono ?_; rintro e6 w6 ⟨r6, rfl, hr6, D6, G6⟩; have HD := DrT.step (ws := w) (by ((repeat (first | exact HD | refine DrT.alloc ?_ _ | refine DrT.drewN ?_ _ | refine DrT.drew ?_ | refine DrT.set ?_ (by first | omega | (simp; omega)) _)))) D6 G6; have z6 := HD.size; have B := Blk.keepG (g := g) (B.q (by (repeat (first | assumption | exact Q.refl _ | refine Q.alloc ?_ _ | refine Q.drewN ?_ _ | refine Q.drew ?_)))) G6 (by omega); have cB := B.cell; have fB := B.frozen; have lB := B.lt; have R0 := Blk.keepG (g := g) (R0.q (by (repeat (first | assumption | exact Q.refl _ | refine Q.alloc ?_ _ | refine Q.drewN ?_ _ | refine Q.drew ?_)))) G6 (by omega); have cR0 := R0.cell; have fR0 := R0.frozen; have lR0 := R0.lt; obtain ⟨m6, rfl⟩ := Int.eq_ofNat_of_zero_le hr6.1; obtain ⟨v6, hv6, hvl6, hm6, hn6⟩ := pick2 0 (m : Int) hr6; (first | (have PP := (grown_box G6 (by omega)).cell) | (have PP := (grown_boxD G6 (by omega)).cell) | skip)); have hown6 := (hown5.q (by (repeat (first | assumption | exact Q.refl _ | refine Q.alloc ?_ _ | refine Q.drewN ?_ _ | refine Q.drew ?_)))).keepD G6 hg5)
            all_goals (go_wp2_with fail; go_meet)
            all_goals exact ⟨_, _, _, rfl, rfl, ⟨_, _, _, rfl, hown6.q (by (repeat (first | assumption | exact Q.refl _ | refine Q.alloc ?_ _ | refine Q.drewN ?_ _ | refine Q.drew ?_)))⟩, hl5, B.q (by (repeat (first | assumption | exact Q.refl _ | refine Q.alloc ?_ _ | refine Q.drewN ?_ _ | refine Q.drew ?_))), R0.q (by (repeat (first | assumption | exact Q.refl _ | refine Q.alloc ?_ _ | refine Q.drewN ?_ _ | refine Q.drew ?_))), HD.q (by (repeat (first | assumption | exact Q.refl _ | refine Q.alloc ?_ _ | refine Q.drewN ?_ _ | refine Q.drew ?_)))⟩
          · have b1 : (r5 == 1) = false := by simpa using h1
            by_cases h2 : r5 = 2
            · subst h2
              clear hr5 h0 h1
              have hsz5 := HD.size
              have hb5 := B.lt
              go_wp2_with (at_make; refine wpList_make_full _ rfl _ _ 35 rfl (b + 1) 2 i0 (.int .i64 0) 1 Try.underlying35 HI.out.1 HI.out.2.1 HI.out.2.2.1 .i64 .i64 0 0 0 rfl rfl rfl rfl (by rw [HI.out.2.2.2]; omega) (by unfold maxLen; omega) (by omega) ?_; intro wm hownm hgrow; refine Hid.out ?_)
              refine Lib.hid ?_
              have qm : Q w5 wm := (Q.refl w5).grown hgrow (by simp)
              have hown0 : Own wm (b + 1) 2 1 (.slice (some ⟨w5.heap.size, 0, none⟩) 0 0) 0 [] := by
                rw [show (madeCells (Value.int .i64 0).cells (0 * 1)).toList = _ from made_ints (k := 1) rfl (by decide) _] at hownm
                exact hownm
              obtain ⟨gl, rfl, hgl⟩ := hown5.split hNp
              have hown6 := hown5.q qm
              replace HD := HD.q qm
              replace B := B.q qm
              replace R0 := R0.q qm
              have hr6 : ∀ j, j < xs.length → wm.cell? ⟨gl, 0 + j, none⟩ = some (.int .i64 (xs.getD j 0)) := fun j hj => by rw [Nat.zero_add]; exact hown6.cell (by omega)
              have sm := qm.size
              have hbm : b + 1 ≤ wm.heap.size := by omega
              clear hownm hgrow hown5
              go_wp2_with (at_builtin; refine appKs elInt64 rfl _ _ rfl rfl hown0 rfl hr6 (by omega) (by omega) hbm ?_; intro A' c' w' hown' hg' hgr'; refine Hid.out ?_)
              refine Lib.hid ?_
              replace HD := DrT.markE HD hown0 (by omega) hg'
              replace B := Blk.markO B hown0 (by decide) hg'
              replace R0 := Blk.markO R0 hown0 (by decide) hg'
              rw [Nat.zero_add, List.nil_append] at hown'
              clear hown6 hown0 hg' hgr' hr6
              go_wp2_with fail
              go_loopw [8] (fun v wq => ∃ ys : List Int, OwnL wq (b + 1) 2 1 v ys ∧ ys.length ≤ 12 ∧ Blk wq b 25 #[.int .i64 x, .int .i64 y, .int .i64 z] ∧ Blk wq wz.heap.size 25 #[.int .i64 0, .int .i64 0, .int .i64 0] ∧ DrT w0 w wq g A n c) (fun v _ => 12 - slLen' v)
              case atStart => exact ⟨xs, ⟨_, _, _, rfl, hown'⟩, hl5, B, R0, HD⟩
              case round =>
                clear HD B R0 hown' hsz5 hb5 hsz hbl
                obtain ⟨ys, ⟨A2, m2, d2, rfl, hown⟩, hlen3, B, R0, HD⟩ := hrel
                have hmy := hown.len
                have hbl := B.lt
                have hg5 : g < b + 1 := by omega
                go_wp2_with fail
                refine (spec_Next (w0 := w0) (A := A) (n := n) (c := c) _ (DrT.dr (ws := w) (by ((repeat (first | exact HD | refine DrT.alloc ?_ _ | refine DrT.drewN ?_ _ | refine DrT.drew ?_ | refine DrT.set ?_ (by first | omega | (simp; omega)) _))))) hn).mono ?_
                rintro e7 w7 ⟨r7, rfl, hr7, D7, G7⟩
                have HD := DrT.step (ws := w) (by ((repeat (first | exact HD | refine DrT.alloc ?_ _ | refine DrT.drewN ?_ _ | refine DrT.drew ?_ | refine DrT.set ?_ (by first | omega | (simp; omega)) _)))) D7 G7
                have z7 := HD.size
                replace B := Blk.keepG (g := g) (B.q (by (repeat (first | assumption | exact Q.refl _ | refine Q.alloc ?_ _ | refine Q.drewN ?_ _ | refine Q.drew ?_)))) G7 (by omega)
                replace R0 := Blk.keepG (g := g) (R0.q (by (repeat (first | assumption | exact Q.refl _ | refine Q.alloc ?_ _ | refine Q.drewN ?_ _ | refine Q.drew ?_)))) G7 (by omega)
                have hown7 := hown.keepD G7 hg5
                clear hown
                have s7 := HD.size
                have b7 := B.lt
                by_cases h9 : (m2 : Int) < 9 + r7
                · go_wp2_with (at_builtin; refine appK elInt64 rfl _ _ rfl [7] rfl hown7 rfl (by simp) rfl _ _ rfl (by omega) (by omega) ?_; intro A' c' w' hown' hg' hgr'; replace HD := DrT.markE HD hown7 (by omega) hg'; replace B := Blk.markO B hown7 (by decide) hg'; replace R0 := Blk.markO R0 hown7 (by decide) hg')
                  go_roundw
                  case rel => exact ⟨ys ++ [7], ⟨_, _, _, rfl, hown'⟩, by simp; omega, B, R0, HD⟩
                  case measure => simp [slLen']; omega
                · go_wp2_with fail
                  go_meet
                  exact ⟨_, _, _, rfl, rfl, ⟨_, _, _, rfl, hown7⟩, hlen3, B, R0, HD⟩
            · have b2 : (r5 == 2) = false := by simpa using h2
              by_cases h3 : r5 = 3
              · subst h3
                clear hr5 h0 h1 h2
                have hg5 : g < b + 1 := by omega
                go_wp2_with ((go_at_call 59; refine (spec_Next (w0 := w0) (A := A) (n := n) (c := c) _ (DrT.dr (ws := w) (by ((repeat (first | exact HD | refine DrT.alloc ?_ _ | refine DrT.drewN ?_ _ | refine DrT.drew ?_ | refine DrT.set ?_ (by first | omega | (simp; omega)) _))))) hn).mono ?_; rintro e6 w6 ⟨r6, rfl, hr6, D6, G6⟩; have HD := DrT.step (ws := w) (by ((repeat (first | exact HD | refine DrT.alloc ?_ _ | refine DrT.drewN ?_ _ | refine DrT.drew ?_ | refine DrT.set ?_ (by first | omega | (simp; omega)) _)))) D6 G6; have z6 := HD.size; have B := Blk.keepG (g := g) (B.q (by (repeat (first | assumption | exact Q.refl _ | refine Q.alloc ?_ _ | refine Q.drewN ?_ _ | refine Q.drew ?_)))) G6 (by omega); have cB := B.cell; have fB := B.frozen; have lB := B.lt; have R0 := Blk.keepG (g := g) (R0.q (by (repeat (first | assumption | exact Q.refl _ | refine Q.alloc ?_ _ | refine Q.drewN ?_ _ | refine Q.drew ?_)))) G6 (by omega); have cR0 := R0.cell; have fR0 := R0.frozen; have lR0 := R0.lt; obtain ⟨m6, rfl⟩ := Int.eq_ofNat_of_zero_le hr6.1; obtain ⟨v6, hv6, hvl6, hm6, hn6⟩ := pick3 0 1000000000 1000000001 hr6; (first | (have PP := (grown_box G6 (by omega)).cell) | (have PP := (grown_boxD G6 (by omega)).cell) | skip)); have hown6 := (hown5.q (by (repeat (first | assumption | exact Q.refl _ | refine Q.alloc ?_ _ | refine Q.drewN ?_ _ | refine Q.drew ?_)))).keepD G6 hg5)
                all_goals (go_wp2_with fail; go_meet)
                all_goals exact ⟨_, _, _, rfl, rfl, ⟨_, _, _, rfl, hown6.q (by (repeat (first | assumption | exact Q.refl _ | refine Q.alloc ?_ _ | refine Q.drewN ?_ _ | refine Q.drew ?_)))⟩, hl5, B.q (by (repeat (first | assumption | exact Q.refl _ | refine Q.alloc ?_ _ | refine Q.drewN ?_ _ | refine Q.drew ?_))), R0.q (by (repeat (first | assumption | exact Q.refl _ | refine Q.alloc ?_ _ | refine Q.drewN ?_ _ | refine Q.drew ?_))), HD.q (by (repeat (first | assumption | exact Q.refl _ | refine Q.alloc ?_ _ | refine Q.drewN ?_ _ | refine Q.drew ?_)))⟩
              · have b3 : (r5 == 3) = false := by simpa using h3
                go_wp2_with fail
                go_meet
                exact ⟨_, _, _, rfl, rfl, ⟨_, _, _, rfl, hown5⟩, hl5, B, R0, HD⟩
      case rest =>
        clear HD B R0 hown5
        obtain ⟨s, t, ys, rfl, rfl, ⟨A2, m2, d2, rfl, hown⟩, hy, B, R0, HD⟩ := hcut
        have hne : ∀ a, A2 = some a → a.block ≠ wz.heap.size := fun a h => by have := (hown.from a h).1; omega
        have QF := Z0.trans HD.dr.q
        have cB := B.cell
        have cR := R0.cell
        have fR := R0.frozen
        have lR := R0.lt
        have hmy := hown.len
        clear HD
        go_wp2_with fail
        have F := (((R0.set3_0 (.int .i64 x)).set3_1 (.int .i64 y)).set3_2 (.int .i64 z)).cell
        refine bodyPost_ret (v := .tuple #[.agg #[.int .i64 x, .int .i64 y, .int .i64 z], .slice A2 m2 d2, .int .i64 s, .int .i64 t]) (by simp [results, Try.results37, go_sem, F]) rfl ⟨x, y, z, A2, m2, d2, ys, s, t, rfl, (((hown.setFar hne 0 _).setFar hne 1 _).setFar hne 2 _).rd, by omega, by omega, ?_⟩
        exact (((QF.setCell (Nat.le_refl _) _).setCell (Nat.le_refl _) _).setCell (Nat.le_refl _) _)
end Go.Proofs.Ythlfadkpeogajaa
