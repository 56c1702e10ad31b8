/- Walks: the reference's draws of tracks; they are valid; those that are not valid, too. No condition. -/
import Derived.Test.YteofhfefbphjdaaGreatDoorDrP
import Derived.Test.YteofhfefbphjdaaGreatDoorDrK
import Derived.Test.YteofhfefbphjdaaGreatDoorTrk
import Derived.Test.YteofhfefbphjdaaGreatDoorCheck
import Derived.Test.YteofhfefbphjdaaGreatDoorEarly
import Derived.Deep.RegionHeld3
namespace Go.Proofs.YteofhfefbphjdaaGreatDoor
open Go.RowKit Go.WideShapes Go.ChangeShapes
/-- A track of its own was drawn. -/
def DrawTk (lo hi : Nat) (w0 w : World) (g : Nat) (A : Option Addr) (n c : Nat) (e : Ending) (w' : World) : Prop := ∃ (B : Option Addr) (m d : Nat) (xs : List Int), e = .returned (.agg #[.slice B m d]) ∧ Own w' w.heap.size 98 3 (.slice B m d) m xs ∧ (lo ≤ m ∧ m ≤ hi) ∧ Dr w0 w' g A n c ∧ w.grownBy w' (some g)
def Pt2 (w : World) (b : Nat) : Prop := ∃ x y : Int, Blk w b 25 #[.int .i64 x, .int .i64 y]
theorem Blk.s1_0 {w : World} {b : Nat} {T : TypeId} {x : Value} (h : Blk w b T #[x]) (v : Value) : Blk (w.setCell ⟨b, 0, none⟩ v) b T #[v] := by simpa using h.set_ 0 v
theorem Blk.s2_0 {w : World} {b : Nat} {T : TypeId} {x y : Value} (h : Blk w b T #[x, y]) (v : Value) : Blk (w.setCell ⟨b, 0, none⟩ v) b T #[v, y] := by simpa using h.set_ 0 v
theorem Blk.s2_1 {w : World} {b : Nat} {T : TypeId} {x y : Value} (h : Blk w b T #[x, y]) (v : Value) : Blk (w.setCell ⟨b, 1, none⟩ v) b T #[x, v] := by simpa using h.set_ 1 v
theorem elY_lt {L E : List Int} {j : Nat} (h : j < L.length) : el (L ++ E) j = el L j := by unfold el; rw [List.getD_eq_getElem?_getD, List.getD_eq_getElem?_getD, List.getElem?_append_left h]
theorem elY_ge {L E : List Int} {j : Nat} : el (L ++ E) (L.length + j) = el E j := by unfold el; rw [List.getD_eq_getElem?_getD, List.getD_eq_getElem?_getD, List.getElem?_append_right (by omega), Nat.add_sub_cancel_left]
/-- A valid row of m fixes, and a time behind all of them. -/
def TkS (xs : List Int) (m : Nat) (t : Int) : Prop := xs.length = m * 3 ∧ fixTo xs m = true ∧ (m = 0 ∨ el xs ((m - 1) * 3) < t) ∧ 0 ≤ t
theorem TkS.nil {t : Int} (h : 0 ≤ t) : TkS [] 0 t := ⟨rfl, rfl, .inl rfl, h⟩
theorem fixTo_ext {xs ys : List Int} {m : Nat} (h : ∀ j, j < m * 3 → el ys j = el xs j) : fixTo ys m = fixTo xs m := by
  unfold fixTo
  rw [Bool.eq_iff_iff, List.all_eq_true, List.all_eq_true]
  have hh : ∀ k, k < m → fixAt ys k = fixAt xs k := fun k hk => by
    unfold fixAt
    rw [h (k * 3) (by omega), h (k * 3 + 1) (by omega), h (k * 3 + 2) (by omega), h ((k - 1) * 3) (by omega)]
  exact ⟨fun H k hk => by rw [← hh k (List.mem_range.1 hk)]; exact H k hk, fun H k hk => by rw [hh k (List.mem_range.1 hk)]; exact H k hk⟩
theorem TkS.next {xs : List Int} {m : Nat} {t x y t' : Int} (h : TkS xs m t) (ht : t ≤ 1000000000) (hp : ptB x y = true) (ht' : t < t') : TkS (xs ++ [t, x, y]) (m + 1) t' := by
  obtain ⟨h1, h2, h3, h4⟩ := h
  have e0 : el (xs ++ [t, x, y]) (m * 3) = t := by rw [show m * 3 = xs.length + 0 by omega, elY_ge]; rfl
  have e1 : el (xs ++ [t, x, y]) (m * 3 + 1) = x := by rw [show m * 3 + 1 = xs.length + 1 by omega, elY_ge]; rfl
  have e2 : el (xs ++ [t, x, y]) (m * 3 + 2) = y := by rw [show m * 3 + 2 = xs.length + 2 by omega, elY_ge]; rfl
  refine ⟨by simp; omega, ?_, .inr (by rw [Nat.add_sub_cancel, e0]; exact ht'), by omega⟩
  rw [fixTo_succ, fixTo_ext (fun j hj => elY_lt (by omega)), h2, Bool.true_and]
  refine fixAt_mk ⟨by rw [e0]; omega, by rw [e1, e2]; exact hp, ?_⟩
  rcases Nat.eq_zero_or_pos m with h0 | h0
  · exact .inl h0
  · refine .inr ?_
    rw [e0, elY_lt (by omega)]
    omega
theorem TkS.trk {xs : List Int} {m : Nat} {t : Int} (h : TkS xs m t) (h2 : 2 ≤ m) (h40 : m ≤ 40) : isTrk xs m = true := by
  unfold isTrk
  rw [h.2.1, Bool.and_true]
  exact decide_eq_true ⟨h2, h40⟩
/-- A valid track of its own was drawn. -/
def DrawTV (w0 w : World) (g : Nat) (A : Option Addr) (n c : Nat) (e : Ending) (w' : World) : Prop := ∃ (B : Option Addr) (m d : Nat) (xs : List Int), e = .returned (.agg #[.slice B m d]) ∧ Own w' w.heap.size 98 3 (.slice B m d) m xs ∧ isTrk xs m = true ∧ Dr w0 w' g A n c ∧ w.grownBy w' (some g)
def PtV (w : World) (b : Nat) : Prop := ∃ x y : Int, Blk w b 25 #[.int .i64 x, .int .i64 y] ∧ ptB x y = true
theorem ptB_of {x y : Int} (h1 : -1000000 ≤ x ∧ x ≤ 1000000) (h2 : -1000000 ≤ y ∧ y ≤ 1000000) : ptB x y = true := decide_eq_true ⟨h1.1, h1.2, h2.1, h2.2⟩
theorem ptB_out {x y : Int} (h : ptB x y = true) : (-1000000 ≤ x ∧ x ≤ 1000000) ∧ (-1000000 ≤ y ∧ y ≤ 1000000) := by
  have := of_decide_eq_true h
  exact ⟨⟨this.1, this.2.1⟩, this.2.2⟩
set_option maxRecDepth 100000 in
set_option maxHeartbeats 16000000 in
theorem spec_l03DrawFromV {w0 w : World} {g : Nat} {A : Option Addr} {n c : Nat} (t : Int) (ht : 0 ≤ t ∧ t ≤ 1000) (h : Dr w0 w g A n c) (hn : n ≤ 140737488355327) : Calls Tryz.prog 74 #[.pointer (some ⟨g, 0, none⟩), .int .i64 t] w (DrawTV w0 w g A n c) := by
  have HD := DrT.start h
  have hlt := HD.glt
  have R0 := Blk.new w 43 #[.slice none 0 0]
  go_enter Tryz.func74, Tryz.ntmps74
  go_wp2_with fail
  refine (spec_l01DrawPoint (w0 := w0) (A := A) (n := n) (c := c) (DrT.dr (ws := w) (by ((repeat (first | exact HD | refine DrT.alloc ?_ _ | refine DrT.drewN ?_ _ | refine DrT.drew ?_ | refine DrT.set ?_ (by first | omega | (simp; omega)) _))))) hn).mono ?_
  rintro e1 w1 ⟨x1, y1, rfl, hp1, D1, G1⟩
  replace HD := DrT.step (ws := w) (by ((repeat (first | exact HD | refine DrT.alloc ?_ _ | refine DrT.drewN ?_ _ | refine DrT.drew ?_ | refine DrT.set ?_ (by first | omega | (simp; omega)) _)))) D1 G1
  have z1 := HD.size
  replace R0 := Blk.keepG (g := g) (R0.q (by (repeat (first | assumption | exact Q.refl _ | refine Q.alloc ?_ _ | refine Q.drewN ?_ _ | refine Q.drew ?_)))) G1 (by omega)
  have lR := R0.lt
  have P := (Blk.new w1 25 #[.int .i64 x1, .int .i64 y1]).alloc (.cells #[] 98)
  have O0 : OwnL ((w1.alloc (.cells #[.int .i64 x1, .int .i64 y1] 25)).alloc (.cells #[] 98)) (w.heap.size + 1) 98 3 (.slice (some ⟨(w1.alloc (.cells #[.int .i64 x1, .int .i64 y1] 25)).heap.size, 0, none⟩) 0 0) [] := OwnL.new _ _ _ (by simp; omega)
  rw [show (w1.alloc (.cells #[.int .i64 x1, .int .i64 y1] 25)).heap.size = w1.heap.size + 1 by simp] at O0
  replace HD := (HD.alloc (.cells #[.int .i64 x1, .int .i64 y1] 25)).alloc (.cells #[] 98)
  replace R0 := (R0.alloc (.cells #[.int .i64 x1, .int .i64 y1] 25)).alloc (.cells #[] 98)
  have hb : w.heap.size + 1 ≤ w1.heap.size := lR
  have hpV : ptB x1 y1 = true := ptB_of hp1.1 hp1.2
  clear D1 G1 hp1
  go_upto_region 3 with (fail)
  generalize hwb : (w1.alloc (.cells #[.int .i64 x1, .int .i64 y1] 25)).alloc (.cells #[] 98) = wb at *
  clear hwb
  have hbg : w1.heap.size ≠ g := by omega
  have hgb : g < w.heap.size + 1 := by omega
  have zb := HD.size
  go_wp2_with ((go_at_call 17; refine (spec_Next (w0 := w0) (A := A) (n := n) (c := c) _ (DrT.dr (ws := w) (by ((repeat (first | exact HD | refine DrT.alloc ?_ _ | refine DrT.drewN ?_ _ | refine DrT.drew ?_ | refine DrT.set ?_ (by first | omega | (simp; omega)) _))))) hn).mono ?_; rintro e2 w2 ⟨r2, rfl, hr2, D2, G2⟩; have HD := DrT.step (ws := w) (by ((repeat (first | exact HD | refine DrT.alloc ?_ _ | refine DrT.drewN ?_ _ | refine DrT.drew ?_ | refine DrT.set ?_ (by first | omega | (simp; omega)) _)))) D2 G2; have z2 := HD.size; obtain ⟨m2, rfl⟩ := Int.eq_ofNat_of_zero_le hr2.1; obtain ⟨v2, hv2, hvl2, hm2, hn2⟩ := pick3 9 61 301 hr2; (first | (have PP := (grown_box G2 (by omega)).cell) | (have PP := (grown_boxD G2 (by omega)).cell) | skip)); have O2 := (O0.q (by (repeat (first | assumption | exact Q.refl _ | refine Q.alloc ?_ _ | refine Q.drewN ?_ _ | refine Q.drew ?_)))).keepD G2 hgb; have P := Blk.keepG (P.q (by (repeat (first | assumption | exact Q.refl _ | refine Q.alloc ?_ _ | refine Q.drewN ?_ _ | refine Q.drew ?_)))) G2 hbg; have R0 := Blk.keepG (R0.q (by (repeat (first | assumption | exact Q.refl _ | refine Q.alloc ?_ _ | refine Q.drewN ?_ _ | refine Q.drew ?_)))) G2 (by omega))
  refine (spec_Next (w0 := w0) (A := A) (n := n) (c := c) _ (DrT.dr (ws := w) (by ((repeat (first | exact HD | refine DrT.alloc ?_ _ | refine DrT.drewN ?_ _ | refine DrT.drew ?_ | refine DrT.set ?_ (by first | omega | (simp; omega)) _))))) hn).mono ?_
  rintro e3 w3 ⟨r3, rfl, hr3, D3, G3⟩
  have HD := DrT.step (ws := w) (by ((repeat (first | exact HD | refine DrT.alloc ?_ _ | refine DrT.drewN ?_ _ | refine DrT.drew ?_ | refine DrT.set ?_ (by first | omega | (simp; omega)) _)))) D3 G3
  have z3 := HD.size
  replace O2 := O2.keepD G3 hgb
  replace P := Blk.keepG P G3 hbg
  replace R0 := Blk.keepG R0 G3 (by omega)
  clear O0
  go_wp2_with fail
  go_loopw [1, 6, 8] (fun t v i wr => ∃ (tt : Int) (k : Nat) (xs : List Int), t = .int .i64 tt ∧ i = .int .i64 k ∧ OwnL wr (w.heap.size + 1) 98 3 v xs ∧ (xs.length + k * 3 ≤ 24 ∧ 6 ≤ xs.length + k * 3) ∧ (tt + 2000 * k ≤ 20000 ∧ TkS xs (xs.length / 3) tt) ∧ PtV wr w1.heap.size ∧ Blk wr w.heap.size 43 #[.slice none 0 0] ∧ DrT w0 w wr g A n c) (fun _ _ i _ => (intOf i).toNat)
  case atStart =>
    obtain ⟨k, hk⟩ := Int.eq_ofNat_of_zero_le hr3.1
    exact ⟨t, 2 + k, [], rfl, by rw [hk]; go_num, O2, by simp; omega, ⟨by omega, TkS.nil ht.1⟩, ⟨_, _, P, hpV⟩, R0, HD⟩
  case round =>
    clear O2 P R0 HD D3 G3 hr3 z3 D2 G2
    obtain ⟨tt, k, xs, rfl, rfl, ⟨A1, m, d1, rfl, hown⟩, hlen, ⟨htt, HTS⟩, ⟨px, py, P, hpB⟩, R0, HD⟩ := hrel
    have hmx := hown.len
    rw [show xs.length / 3 = m by omega] at HTS
    have ht0 : 0 ≤ tt := HTS.2.2.2
    replace HTS := Lib.hid HTS
    replace hpB := Lib.hid hpB
    have hsz := HD.size
    have lR := R0.lt
    by_cases hk0 : 0 < k
    · have hkI : (0 : Int) < (k : Int) := by omega
      obtain ⟨j, rfl⟩ : ∃ j, k = j + 1 := ⟨k - 1, by omega⟩
      have cP := P.cell
      have lP := P.lt
      go_wp2_with (at_builtin; refine appK elFix rfl _ _ rfl [tt, px, py] rfl hown rfl (by simp) rfl _ _ rfl (by omega) (by omega) ?_; intro A' c' w' hown' hg' hgr'; replace HD := DrT.markE HD hown (by omega) hg'; replace P := Blk.markO P hown (by decide) hg'; replace R0 := Blk.markO R0 hown (by decide) hg')
      refine (spec_Next (w0 := w0) (A := A) (n := n) (c := c) _ (DrT.dr (ws := w) (by ((repeat (first | exact HD | refine DrT.alloc ?_ _ | refine DrT.drewN ?_ _ | refine DrT.drew ?_ | refine DrT.set ?_ (by first | omega | (simp; omega)) _))))) hn).mono ?_
      rintro e4 w4 ⟨r4, rfl, hr4, D4, G4⟩
      have HD := DrT.step (ws := w) (by ((repeat (first | exact HD | refine DrT.alloc ?_ _ | refine DrT.drewN ?_ _ | refine DrT.drew ?_ | refine DrT.set ?_ (by first | omega | (simp; omega)) _)))) D4 G4
      have z4 := HD.size
      replace hown' := hown'.keepD G4 hgb
      replace P := Blk.keepG P G4 hbg
      replace R0 := Blk.keepG R0 G4 (by omega)
      go_upto_region 9 with (fail)
      go_cut [] from 20 to 61 (fun wc => PtV wc w1.heap.size ∧ Own wc (w.heap.size + 1) 98 3 (.slice A' (m + 1) c') (m + 1) (xs ++ [tt, px, py]) ∧ Blk wc w.heap.size 43 #[.slice none 0 0] ∧ DrT w0 w wc g A n c)
      case first =>
        obtain ⟨bx1, bx2⟩ := ptB_out hpB.out
        have cP := P.cell
        have fP := P.frozen
        have lP := P.lt
        have hsz := HD.size
        go_region_with ((go_at_call 17; refine (spec_Next (w0 := w0) (A := A) (n := n) (c := c) _ (DrT.dr (ws := w) (by ((repeat (first | exact HD | refine DrT.alloc ?_ _ | refine DrT.drewN ?_ _ | refine DrT.drew ?_ | refine DrT.set ?_ (by first | omega | (simp; omega)) _))))) hn).mono ?_; rintro e5 w5 ⟨r5, rfl, hr5, D5, G5⟩; have HD := DrT.step (ws := w) (by ((repeat (first | exact HD | refine DrT.alloc ?_ _ | refine DrT.drewN ?_ _ | refine DrT.drew ?_ | refine DrT.set ?_ (by first | omega | (simp; omega)) _)))) D5 G5; have z5 := HD.size; have P := Blk.keepG (g := g) (P.q (by (repeat (first | assumption | exact Q.refl _ | refine Q.alloc ?_ _ | refine Q.drewN ?_ _ | refine Q.drew ?_)))) G5 (by omega); have cP := P.cell; have fP := P.frozen; have lP := P.lt; have R0 := Blk.keepG (g := g) (R0.q (by (repeat (first | assumption | exact Q.refl _ | refine Q.alloc ?_ _ | refine Q.drewN ?_ _ | refine Q.drew ?_)))) G5 (by omega); have cR0 := R0.cell; have fR0 := R0.frozen; have lR0 := R0.lt); have hown' := (hown'.q (by (repeat (first | assumption | exact Q.refl _ | refine Q.alloc ?_ _ | refine Q.drewN ?_ _ | refine Q.drew ?_)))).keepD G5 hgb)
        all_goals go_wp2_with fail
        all_goals go_meet
        all_goals exact ⟨⟨_, _, (P.s2_0 _).q (by (repeat (first | assumption | exact Q.refl _ | refine Q.alloc ?_ _ | refine Q.drewN ?_ _ | refine Q.drew ?_))), ptB_of (by omega) bx2⟩, (hown'.setFar (Own.ne_blk hown' P (by decide)) 0 _).q (by (repeat (first | assumption | exact Q.refl _ | refine Q.alloc ?_ _ | refine Q.drewN ?_ _ | refine Q.drew ?_))), (R0.far (p := ⟨w1.heap.size, 0, none⟩) (by simp only; omega) _).q (by (repeat (first | assumption | exact Q.refl _ | refine Q.alloc ?_ _ | refine Q.drewN ?_ _ | refine Q.drew ?_))), (HD.set (b := w1.heap.size) (i := 0) (by omega) _).q (by (repeat (first | assumption | exact Q.refl _ | refine Q.alloc ?_ _ | refine Q.drewN ?_ _ | refine Q.drew ?_)))⟩
      case rest =>
        clear P hown' R0 HD D4 G4
        obtain ⟨⟨px', py', P, hpB'⟩, hown', R0, HD⟩ := hcut
        obtain ⟨bx1, bx2⟩ := ptB_out hpB'
        clear hpB'
        go_upto_region 10 with (fail)
        have cP := P.cell
        have fP := P.frozen
        have lP := P.lt
        have hsz := HD.size
        go_region_with ((go_at_call 17; refine (spec_Next (w0 := w0) (A := A) (n := n) (c := c) _ (DrT.dr (ws := w) (by ((repeat (first | exact HD | refine DrT.alloc ?_ _ | refine DrT.drewN ?_ _ | refine DrT.drew ?_ | refine DrT.set ?_ (by first | omega | (simp; omega)) _))))) hn).mono ?_; rintro e6 w6 ⟨r6, rfl, hr6, D6, G6⟩; have HD := DrT.step (ws := w) (by ((repeat (first | exact HD | refine DrT.alloc ?_ _ | refine DrT.drewN ?_ _ | refine DrT.drew ?_ | refine DrT.set ?_ (by first | omega | (simp; omega)) _)))) D6 G6; have z6 := HD.size; have P := Blk.keepG (g := g) (P.q (by (repeat (first | assumption | exact Q.refl _ | refine Q.alloc ?_ _ | refine Q.drewN ?_ _ | refine Q.drew ?_)))) G6 (by omega); have cP := P.cell; have fP := P.frozen; have lP := P.lt; have R0 := Blk.keepG (g := g) (R0.q (by (repeat (first | assumption | exact Q.refl _ | refine Q.alloc ?_ _ | refine Q.drewN ?_ _ | refine Q.drew ?_)))) G6 (by omega); have cR0 := R0.cell; have fR0 := R0.frozen; have lR0 := R0.lt); have hown' := (hown'.q (by (repeat (first | assumption | exact Q.refl _ | refine Q.alloc ?_ _ | refine Q.drewN ?_ _ | refine Q.drew ?_)))).keepD G6 hgb)
        all_goals go_wp2_with fail
        all_goals
          go_roundw
          case rel => exact ⟨_, j, _, rfl, by go_num, ⟨_, _, _, rfl, (hown'.setFar (Own.ne_blk hown' P (by decide)) 1 _).q (by (repeat (first | assumption | exact Q.refl _ | refine Q.alloc ?_ _ | refine Q.drewN ?_ _ | refine Q.drew ?_)))⟩, ⟨by simp; omega, by simp; omega⟩, ⟨by omega, by rw [show (xs ++ [tt, px, py]).length / 3 = m + 1 by simp; omega]; exact HTS.out.next (by omega) hpB.out (by omega)⟩, ⟨_, _, (P.s2_1 _).q (by (repeat (first | assumption | exact Q.refl _ | refine Q.alloc ?_ _ | refine Q.drewN ?_ _ | refine Q.drew ?_))), ptB_of bx1 (by omega)⟩, (R0.far (p := ⟨w1.heap.size, 1, none⟩) (by simp only; omega) _).q (by (repeat (first | assumption | exact Q.refl _ | refine Q.alloc ?_ _ | refine Q.drewN ?_ _ | refine Q.drew ?_))), (HD.set (b := w1.heap.size) (i := 1) (by omega) _).q (by (repeat (first | assumption | exact Q.refl _ | refine Q.alloc ?_ _ | refine Q.drewN ?_ _ | refine Q.drew ?_)))⟩
          case measure => simp [intOf]
    · obtain rfl : k = 0 := by omega
      have hT : isTrk xs m = true := HTS.out.trk (by omega) (by omega)
      replace hT := Lib.hid hT
      have cR := R0.cell
      have fR := R0.frozen
      go_wp2_with fail
      have F := (R0.s1_0 (.slice A1 m d1)).cell
      refine bodyPost_ret (v := .agg #[.slice A1 m d1]) (by simp [results, Tryz.results74, go_sem, F]) rfl ⟨A1, m, d1, xs, rfl, (hown.setFar (Own.ne_blk hown R0 (by decide)) 0 _).mono (by omega), hT.out, ?_, ?_⟩
      · exact DrT.dr (ws := w) (by ((repeat (first | exact HD | refine DrT.alloc ?_ _ | refine DrT.drewN ?_ _ | refine DrT.drew ?_ | refine DrT.set ?_ (by first | omega | (simp; omega)) _))))
      · exact DrT.gr (w0 := w0) (g := g) (A := A) (n := n) (c := c) (by ((repeat (first | exact HD | refine DrT.alloc ?_ _ | refine DrT.drewN ?_ _ | refine DrT.drew ?_ | refine DrT.set ?_ (by first | omega | (simp; omega)) _))))
theorem spec_l03DrawV {w0 w : World} {g : Nat} {A : Option Addr} {n c : Nat} (h : Dr w0 w g A n c) (hn : n ≤ 140737488355327) : Calls Tryz.prog 38 #[.pointer (some ⟨g, 0, none⟩)] w (DrawTV w0 w g A n c) := by
  have HD := DrT.start h
  have hlt := HD.glt
  have R0 := Blk.new w 43 #[.slice none 0 0]
  go_enter Tryz.func38, Tryz.ntmps38
  go_wp2_with fail
  refine (spec_Next (w0 := w0) (A := A) (n := n) (c := c) _ (DrT.dr (ws := w) (by ((repeat (first | exact HD | refine DrT.alloc ?_ _ | refine DrT.drewN ?_ _ | refine DrT.drew ?_ | refine DrT.set ?_ (by first | omega | (simp; omega)) _))))) hn).mono ?_
  rintro e1 w1 ⟨r1, rfl, hr1, D1, G1⟩
  have HD := DrT.step (ws := w) (by ((repeat (first | exact HD | refine DrT.alloc ?_ _ | refine DrT.drewN ?_ _ | refine DrT.drew ?_ | refine DrT.set ?_ (by first | omega | (simp; omega)) _)))) D1 G1
  have z1 := HD.size
  replace R0 := Blk.keepG (g := g) (R0.q (by (repeat (first | assumption | exact Q.refl _ | refine Q.alloc ?_ _ | refine Q.drewN ?_ _ | refine Q.drew ?_)))) G1 (by omega)
  go_wp2_with fail
  refine (spec_l03DrawFromV (w0 := w0) (A := A) (n := n) (c := c) r1 (by omega) (DrT.dr (ws := w) (by ((repeat (first | exact HD | refine DrT.alloc ?_ _ | refine DrT.drewN ?_ _ | refine DrT.drew ?_ | refine DrT.set ?_ (by first | omega | (simp; omega)) _))))) hn).mono ?_
  rintro e2 w2 ⟨B, m, d, xs, rfl, hown, hm, D2, G2⟩
  replace HD := DrT.step (ws := w) (by ((repeat (first | exact HD | refine DrT.alloc ?_ _ | refine DrT.drewN ?_ _ | refine DrT.drew ?_ | refine DrT.set ?_ (by first | omega | (simp; omega)) _)))) D2 G2
  replace R0 := Blk.keepG (g := g) (R0.q (by (repeat (first | assumption | exact Q.refl _ | refine Q.alloc ?_ _ | refine Q.drewN ?_ _ | refine Q.drew ?_)))) G2 (by omega)
  have cR := R0.cell
  have fR := R0.frozen
  have f1 := hown.from
  have hmh := Lib.hid hm
  clear hm
  have hsz := R0.lt
  go_wp2_with fail
  have F := (R0.s1_0 (.slice B m d)).cell
  refine bodyPost_ret (v := .agg #[.slice B m d]) (by simp [results, Tryz.results38, go_sem, F]) rfl ⟨B, m, d, xs, rfl, (hown.setFar (Own.ne_blk hown R0 (by decide)) 0 _).mono z1, hmh.out, ?_, ?_⟩
  · exact DrT.dr (ws := w) (by ((repeat (first | exact HD | refine DrT.alloc ?_ _ | refine DrT.drewN ?_ _ | refine DrT.drew ?_ | refine DrT.set ?_ (by first | omega | (simp; omega)) _))))
  · exact DrT.gr (w0 := w0) (g := g) (A := A) (n := n) (c := c) (by ((repeat (first | exact HD | refine DrT.alloc ?_ _ | refine DrT.drewN ?_ _ | refine DrT.drew ?_ | refine DrT.set ?_ (by first | omega | (simp; omega)) _))))
theorem Own.cut1 {w : World} {B : Nat} {e : TypeId} {k n c : Nat} {A : Option Addr} {xs : List Int} (h : Own w B e k (.slice A n c) n xs) (hn : 1 ≤ n) : Own w B e k (.slice A 1 c) 1 (xs.take k) := by
  have hl := h.len
  have hk : k ≤ n * k := Nat.le_mul_of_pos_left _ hn
  refine ⟨by rw [List.length_map, List.length_take]; omega, ?_⟩
  rcases h.2 with ⟨_, h0⟩ | ⟨g, cap, cur, hv, hg, hh, hnc, hcm, hcs, hx⟩
  · omega
  · injection hv with e1 _ e3
    subst e1 e3
    refine .inr ⟨g, c, cur, rfl, hg, hh, by omega, hcm, hcs, ?_⟩
    rw [List.map_take, ← hx, List.take_take, Nat.one_mul, Nat.min_eq_left hk]
theorem spec_l03Draw {w0 w : World} {g : Nat} {A : Option Addr} {n c : Nat} (h : Dr w0 w g A n c) (hn : n ≤ 140737488355327) : Calls Tryz.prog 38 #[.pointer (some ⟨g, 0, none⟩)] w (DrawTk 2 40 w0 w g A n c) :=
  (spec_l03DrawV h hn).mono fun _ _ ⟨B, m, d, xs, h1, h2, h3, h4⟩ => ⟨B, m, d, xs, h1, h2, trk_n h3, h4⟩
def slLen' : Value → Nat
  | .slice _ n _ => n
  | _ => 0
theorem own_lit0 {w : World} {B h : Nat} (T : TypeId) (hh : w.heap.size = h) (hB : B ≤ w.heap.size) : Own (w.alloc (.cells #[] T)) B T 3 (.slice (some ⟨h, 0, none⟩) 0 0) 0 [] := by
  subst hh
  exact Own.lit w T 3 0 [] rfl hB (by simp) (by decide)
/-- A track in block b, of its own. -/
def TkB (w : World) (B0 b : Nat) (lo : Nat) : Prop := ∃ (B : Option Addr) (m d : Nat) (xs : List Int), Blk w b 43 #[.slice B m d] ∧ Own w B0 98 3 (.slice B m d) m xs ∧ lo ≤ m ∧ m ≤ 41
set_option maxRecDepth 100000 in
set_option maxHeartbeats 16000000 in
theorem spec_l03DrawAny {w0 w : World} {g : Nat} {A : Option Addr} {n c : Nat} (h : Dr w0 w g A n c) (hn : n ≤ 140737488355327) : Calls Tryz.prog 33 #[.pointer (some ⟨g, 0, none⟩)] w (DrawTk 1 41 w0 w g A n c) := by
  have HD := DrT.start h
  have hlt := HD.glt
  have R0 := Blk.new w 43 #[.slice none 0 0]
  go_enter Tryz.func33, Tryz.ntmps33
  go_wp2_with fail
  refine (spec_l03Draw (w0 := w0) (A := A) (n := n) (c := c) (DrT.dr (ws := w) (by ((repeat (first | exact HD | refine DrT.alloc ?_ _ | refine DrT.drewN ?_ _ | refine DrT.drew ?_ | refine DrT.set ?_ (by first | omega | (simp; omega)) _))))) hn).mono ?_
  rintro e1 w1 ⟨B, m, d, xs, rfl, hown, hm, D1, G1⟩
  replace HD := DrT.step (ws := w) (by ((repeat (first | exact HD | refine DrT.alloc ?_ _ | refine DrT.drewN ?_ _ | refine DrT.drew ?_ | refine DrT.set ?_ (by first | omega | (simp; omega)) _)))) D1 G1
  replace R0 := Blk.keepG (g := g) (R0.q (by (repeat (first | assumption | exact Q.refl _ | refine Q.alloc ?_ _ | refine Q.drewN ?_ _ | refine Q.drew ?_)))) G1 (by omega)
  rw [show (w.alloc (.cells #[.slice none 0 0] 43)).heap.size = w.heap.size + 1 by simp] at hown
  have lR := R0.lt
  have T := Blk.new w1 43 #[.slice B m d]
  replace HD := HD.alloc (.cells #[.slice B m d] 43)
  replace R0 := R0.alloc (.cells #[.slice B m d] 43)
  replace hown := hown.q ((Q.refl _).alloc (.cells #[.slice B m d] 43))
  have hbg : w1.heap.size ≠ g := by omega
  have hgb : g < w.heap.size + 1 := by omega
  clear D1 G1
  go_upto_region 2 with (fail)
  generalize hwb : w1.alloc (.cells #[.slice B m d] 43) = wb at *
  clear hwb
  have cT := T.cell
  have lT := T.lt
  have zb := HD.size
  go_wp2_with fail
  refine (spec_Next (w0 := w0) (A := A) (n := n) (c := c) _ (DrT.dr (ws := w) (by ((repeat (first | exact HD | refine DrT.alloc ?_ _ | refine DrT.drewN ?_ _ | refine DrT.drew ?_ | refine DrT.set ?_ (by first | omega | (simp; omega)) _))))) hn).mono ?_
  rintro e2 w2 ⟨r2, rfl, hr2, D2, G2⟩
  have HD := DrT.step (ws := w) (by ((repeat (first | exact HD | refine DrT.alloc ?_ _ | refine DrT.drewN ?_ _ | refine DrT.drew ?_ | refine DrT.set ?_ (by first | omega | (simp; omega)) _)))) D2 G2
  have z2 := HD.size
  replace hown := hown.keepD G2 hgb
  replace T := Blk.keepG T G2 hbg
  replace R0 := Blk.keepG R0 G2 (by omega)
  obtain ⟨k, rfl⟩ := Int.eq_ofNat_of_zero_le hr2.1
  have hk : k < m := by omega
  have hkI : (k : Int) < (m : Int) := by omega
  clear hr2 D2 G2
  go_wp2_with fail
  refine (spec_Next (w0 := w0) (A := A) (n := n) (c := c) _ (DrT.dr (ws := w) (by ((repeat (first | exact HD | refine DrT.alloc ?_ _ | refine DrT.drewN ?_ _ | refine DrT.drew ?_ | refine DrT.set ?_ (by first | omega | (simp; omega)) _))))) hn).mono ?_
  rintro e3 w3 ⟨r3, rfl, hr3, D3, G3⟩
  have HD := DrT.step (ws := w) (by ((repeat (first | exact HD | refine DrT.alloc ?_ _ | refine DrT.drewN ?_ _ | refine DrT.drew ?_ | refine DrT.set ?_ (by first | omega | (simp; omega)) _)))) D3 G3
  have z3 := HD.size
  replace hown := hown.keepD G3 hgb
  replace T := Blk.keepG T G3 hbg
  replace R0 := Blk.keepG R0 G3 (by omega)
  clear D3 G3 cT lT zb z2
  go_upto_block 0 with (fail)
  go_cut [] from 5 to 81 (fun wc => TkB wc (w.heap.size + 1) w1.heap.size 1 ∧ Blk wc w.heap.size 43 #[.slice none 0 0] ∧ DrT w0 w wc g A n c)
  case first =>
    have hmx := hown.len
    have hm1 : 1 ≤ m := by omega
    obtain ⟨gl, rfl, hgl⟩ := hown.split (show 0 < m by omega)
    have hcap := hown.cap
    have hne := Own.ne_blk hown T (by decide)
    have hneR := Own.ne_blk hown R0 (by decide)
    have cT := T.cell
    have fT := T.frozen
    have lT := T.lt
    have tg : w1.heap.size ≠ gl := fun e => hne _ rfl e.symm
    have rg : w.heap.size ≠ gl := fun e => hneR _ rfl e.symm
    by_cases h0 : r3 = 0
    · subst h0
      clear hr3
      have hc1 : 1 ≤ d := by omega
      have hc1I : (1 : Int) ≤ (d : Int) := by omega
      go_wp2_with fail
      go_meet
      exact ⟨⟨_, 1, _, _, T.s1_0 _, (hown.cut1 hm1).setFar (fun a ha => by cases ha; exact tg.symm) 0 _, by omega, by omega⟩, R0.far (p := ⟨w1.heap.size, 0, none⟩) (by simp only; omega) _, HD.set (by omega) _⟩
    · have b0 : (r3 == 0) = false := by simpa using h0
      by_cases h1 : r3 = 1
      · subst h1
        clear hr3 h0
        have f0 := hown.frozen (k * 3)
        have c0 := hown.cell (j := k * 3) (by omega)
        go_wp2_with fail
        go_region_with ((go_at_call 17; refine (spec_Next (w0 := w0) (A := A) (n := n) (c := c) _ (DrT.dr (ws := w) (by ((repeat (first | exact HD | refine DrT.alloc ?_ _ | refine DrT.drewN ?_ _ | refine DrT.drew ?_ | refine DrT.set ?_ (by first | omega | (simp; omega)) _))))) hn).mono ?_; rintro e4 w4 ⟨r4, rfl, hr4, D4, G4⟩; have HD := DrT.step (ws := w) (by ((repeat (first | exact HD | refine DrT.alloc ?_ _ | refine DrT.drewN ?_ _ | refine DrT.drew ?_ | refine DrT.set ?_ (by first | omega | (simp; omega)) _)))) D4 G4; have z4 := HD.size; have T := Blk.keepG (g := g) (T.q (by (repeat (first | assumption | exact Q.refl _ | refine Q.alloc ?_ _ | refine Q.drewN ?_ _ | refine Q.drew ?_)))) G4 (by omega); have cT := T.cell; have fT := T.frozen; have lT := T.lt; have R0 := Blk.keepG (g := g) (R0.q (by (repeat (first | assumption | exact Q.refl _ | refine Q.alloc ?_ _ | refine Q.drewN ?_ _ | refine Q.drew ?_)))) G4 (by omega); have cR0 := R0.cell; have fR0 := R0.frozen; have lR0 := R0.lt; obtain ⟨m4, rfl⟩ := Int.eq_ofNat_of_zero_le hr4.1; obtain ⟨v4, hv4, hvl4, hm4, hn4⟩ := pick4 (-1) 0 1000000001 300 hr4; (first | (have PP := (grown_box G4 (by omega)).cell) | (have PP := (grown_boxD G4 (by omega)).cell) | skip)); have hown := (hown.q (by (repeat (first | assumption | exact Q.refl _ | refine Q.alloc ?_ _ | refine Q.drewN ?_ _ | refine Q.drew ?_)))).keepD G4 hgb; (first | (have PP := (grown_box G4 (by first | omega | (simp; omega))).cell; simp only [World.size_alloc] at PP) | (have PP := (grown_boxD G4 (by first | omega | (simp; omega))).cell) | (have PP := (grown_box G4 (by first | omega | (simp; omega))).cell) | skip); have fl := hown.frozen (k * 3); have cl := hown.cell (j := k * 3) (by omega); have lq : gl < w4.heap.size := (hown.from _ rfl).2; clear hr4 G4 D4)
        all_goals go_wp2_with fail
        all_goals go_meet
        all_goals exact ⟨⟨_, _, _, _, (T.far (p := ⟨gl, k * 3, none⟩) tg _).q (by (repeat (first | assumption | exact Q.refl _ | refine Q.alloc ?_ _ | refine Q.drewN ?_ _ | refine Q.drew ?_))), (hown.stored _ _).q (by (repeat (first | assumption | exact Q.refl _ | refine Q.alloc ?_ _ | refine Q.drewN ?_ _ | refine Q.drew ?_))), by omega, by omega⟩, (R0.far (p := ⟨gl, k * 3, none⟩) rg _).q (by (repeat (first | assumption | exact Q.refl _ | refine Q.alloc ?_ _ | refine Q.drewN ?_ _ | refine Q.drew ?_))), (by ((repeat (first | exact HD | refine DrT.alloc ?_ _ | refine DrT.drewN ?_ _ | refine DrT.drew ?_ | refine DrT.set ?_ (by first | omega | (simp; omega)) _))))⟩
      · have b1 : (r3 == 1) = false := by simpa using h1
        by_cases h2 : r3 = 2
        · subst h2
          clear hr3 h0 h1
          have f0 := hown.frozen (k * 3 + 1)
          have c0 := hown.cell (j := k * 3 + 1) (by omega)
          go_wp2_with fail
          go_meet
          exact ⟨⟨_, _, _, _, T.far (p := ⟨gl, k * 3 + 1, none⟩) tg _, hown.stored _ _, by omega, by omega⟩, R0.far (p := ⟨gl, k * 3 + 1, none⟩) rg _, HD.set (by omega) _⟩
        · have b2 : (r3 == 2) = false := by simpa using h2
          by_cases h3 : r3 = 3
          · subst h3
            clear hr3 h0 h1 h2
            go_wp2_with fail
            go_loopw [] (fun wr => ∃ (B : Option Addr) (m d : Nat) (xs : List Int), Blk wr w1.heap.size 43 #[.slice B m d] ∧ Own wr (w.heap.size + 1) 98 3 (.slice B m d) m xs ∧ (1 ≤ m ∧ m ≤ 41) ∧ Blk wr w.heap.size 43 #[.slice none 0 0] ∧ DrT w0 w wr g A n c) (fun wr => 41 - slLen' ((wr.cell? ⟨w1.heap.size, 0, none⟩).getD (.int .i64 0)))
            case atStart => exact ⟨_, _, _, _, T, hown, by omega, R0, HD⟩
            case round =>
              clear T hown R0 HD hm hmx hm1 hgl hcap hne hneR cT fT lT tg rg hk hkI
              obtain ⟨B, m, d, xs, T, hown, hm, R0, HD⟩ := hrel
              obtain ⟨m, rfl⟩ : ∃ m', m = m' + 1 := ⟨m - 1, by omega⟩
              obtain ⟨gq, rfl, hgq⟩ := hown.split (show 0 < m + 1 by omega)
              have hlx := hown.len
              have hcap := hown.cap
              have cT := T.cell
              have fT := T.frozen
              have lT := T.lt
              have zr := HD.size
              have HT0 := Lib.hid (show wr.cell? ⟨w1.heap.size, 0, none⟩ = some (.slice (some ⟨gq, 0, none⟩) (m + 1) d) by simpa using T.cell 0)
              have tq : w1.heap.size ≠ gq := fun e => Own.ne_blk hown T (by decide) _ rfl e.symm
              go_wp2_with fail
              go_region_with ((go_at_call 17; refine (spec_Next (w0 := w0) (A := A) (n := n) (c := c) _ (DrT.dr (ws := w) (by ((repeat (first | exact HD | refine DrT.alloc ?_ _ | refine DrT.drewN ?_ _ | refine DrT.drew ?_ | refine DrT.set ?_ (by first | omega | (simp; omega)) _))))) hn).mono ?_; rintro e5 w5 ⟨r5, rfl, hr5, D5, G5⟩; have HD := DrT.step (ws := w) (by ((repeat (first | exact HD | refine DrT.alloc ?_ _ | refine DrT.drewN ?_ _ | refine DrT.drew ?_ | refine DrT.set ?_ (by first | omega | (simp; omega)) _)))) D5 G5; have z5 := HD.size; have T := Blk.keepG (g := g) (T.q (by (repeat (first | assumption | exact Q.refl _ | refine Q.alloc ?_ _ | refine Q.drewN ?_ _ | refine Q.drew ?_)))) G5 (by omega); have cT := T.cell; have fT := T.frozen; have lT := T.lt; have R0 := Blk.keepG (g := g) (R0.q (by (repeat (first | assumption | exact Q.refl _ | refine Q.alloc ?_ _ | refine Q.drewN ?_ _ | refine Q.drew ?_)))) G5 (by omega); have cR0 := R0.cell; have fR0 := R0.frozen; have lR0 := R0.lt); have hown := (hown.q (by (repeat (first | assumption | exact Q.refl _ | refine Q.alloc ?_ _ | refine Q.drewN ?_ _ | refine Q.drew ?_)))).keepD G5 hgb; have hw5 : IntKind.i64.wrap (40 + r5) = 40 + r5 := by rw [IntKind.wrap_i64]; omega)
              all_goals
                clear cT fT lT
                obtain ⟨x0, c0⟩ : ∃ x : Int, w5.cell? ⟨gq, m * 3, none⟩ = some (.int .i64 x) := ⟨_, hown.cell (j := m * 3) (by omega)⟩
                obtain ⟨x1, c1⟩ : ∃ x : Int, w5.cell? ⟨gq, m * 3 + 1, none⟩ = some (.int .i64 x) := ⟨_, hown.cell (j := m * 3 + 1) (by omega)⟩
                obtain ⟨x2, c2⟩ : ∃ x : Int, w5.cell? ⟨gq, m * 3 + 2, none⟩ = some (.int .i64 x) := ⟨_, hown.cell (j := m * 3 + 2) (by omega)⟩
                have cT := T.cell
                have fT := T.frozen
                have lT := T.lt
                go_wp2_with fail
              all_goals first
                | (go_meet; exact ⟨⟨_, _, _, _, T, hown, by omega, by omega⟩, R0, HD⟩)
                | skip
              all_goals
                have hx5 : m + 1 ≤ 40 := by omega
                replace hown := hown.q ((Q.refl _).alloc (.cells #[.int .i64 x0, .int .i64 x1, .int .i64 x2] 98))
                have Fb := Blk.new w5 98 #[.int .i64 x0, .int .i64 x1, .int .i64 x2]
                replace T := T.alloc (.cells #[.int .i64 x0, .int .i64 x1, .int .i64 x2] 98)
                replace R0 := R0.alloc (.cells #[.int .i64 x0, .int .i64 x1, .int .i64 x2] 98)
                replace HD := HD.alloc (.cells #[.int .i64 x0, .int .i64 x1, .int .i64 x2] 98)
                generalize hwz : w5.alloc (.cells #[.int .i64 x0, .int .i64 x1, .int .i64 x2] 98) = wz at *
                have fT := T.frozen
                have lT := T.lt
                have lF := Fb.lt
                have zw := HD.size
                have lq : gq < wz.heap.size := (hown.from _ rfl).2
                have tF : w1.heap.size ≠ w5.heap.size := by
                  rintro e
                  rw [e] at T
                  have h1 := T.cell 0
                  have h2 := Fb.cell 0
                  have h3 := h1.symm.trans h2
                  simp at h3
                have hS : ∀ w', Q wz w' → (Q wz w' ∧ w'.cell? ⟨w1.heap.size, 0, none⟩ = some (.slice (some ⟨gq, 0, none⟩) (m + 1) d) ∧ w'.cell? ⟨w5.heap.size, 0, none⟩ = some (.int .i64 x0) ∧ w'.cell? ⟨w5.heap.size, 1, none⟩ = some (.int .i64 x1) ∧ w'.cell? ⟨w5.heap.size, 2, none⟩ = some (.int .i64 x2)) := fun w' q => ⟨q, by simpa using (T.q q).cell 0, by simpa using (Fb.q q).cell 0, by simpa using (Fb.q q).cell 1, by simpa using (Fb.q q).cell 2⟩
                clear hwz cT fT c0 c1 c2 cR0 fR0
                have hS0 := hS _ ((Q.refl wz).drew)
                refine wp_region_Z (fun w' => Q wz w' ∧ w'.cell? ⟨w1.heap.size, 0, none⟩ = some (.slice (some ⟨gq, 0, none⟩) (m + 1) d) ∧ w'.cell? ⟨w5.heap.size, 0, none⟩ = some (.int .i64 x0) ∧ w'.cell? ⟨w5.heap.size, 1, none⟩ = some (.int .i64 x1) ∧ w'.cell? ⟨w5.heap.size, 2, none⟩ = some (.int .i64 x2)) 15 (by kernel_rfl) ?_
                (refine wpAnyZ_take 1 (v := ?_) rfl (by kernel_rfl) (by kernel_rfl) (by kernel_rfl) (by kernel_rfl) (fun _ _ _ h => h) (Or.inl ⟨by rfl, ?_⟩) hS0 ?_; rotate_left 1; (focus (intro w hSw; (try dsimp only at hSw); go_simp; try with_reducible rfl)); try simp only [Act.put, List.setIfInBounds_toArray, List.set_cons_zero, List.set_cons_succ, List.getElem_toArray, List.getElem_cons_succ, List.getElem_cons_zero]; try simp only [Nat.zero_add])
                (refine wpAnyZ_take 2 (v := ?_) rfl (by kernel_rfl) (by kernel_rfl) (by kernel_rfl) (by kernel_rfl) (fun _ _ _ h => h) (Or.inl ⟨by rfl, ?_⟩) hS0 ?_; rotate_left 1; (focus (intro w hSw; (try dsimp only at hSw); go_simp; try with_reducible rfl)); try simp only [Act.put, List.setIfInBounds_toArray, List.set_cons_zero, List.set_cons_succ, List.getElem_toArray, List.getElem_cons_succ, List.getElem_cons_zero]; try simp only [Nat.zero_add])
                (refine wpAnyZ_take 4 (v := ?_) rfl (by kernel_rfl) (by kernel_rfl) (by kernel_rfl) (by kernel_rfl) (fun _ _ _ h => h) (Or.inl ⟨by rfl, ?_⟩) hS0 ?_; rotate_left 1; (focus (intro w hSw; (try dsimp only at hSw); go_simp; try with_reducible rfl)); try simp only [Act.put, List.setIfInBounds_toArray, List.set_cons_zero, List.set_cons_succ, List.getElem_toArray, List.getElem_cons_succ, List.getElem_cons_zero]; try simp only [Nat.zero_add])
                (refine wpAnyZ_take 5 (v := ?_) rfl (by kernel_rfl) (by kernel_rfl) (by kernel_rfl) (by kernel_rfl) (fun _ _ _ h => h) (Or.inl ⟨by rfl, ?_⟩) hS0 ?_; rotate_left 1; (focus (intro w hSw; (try dsimp only at hSw); go_simp; try with_reducible rfl)); try simp only [Act.put, List.setIfInBounds_toArray, List.set_cons_zero, List.set_cons_succ, List.getElem_toArray, List.getElem_cons_succ, List.getElem_cons_zero]; try simp only [Nat.zero_add])
                (refine wpAnyZ_take 6 (v := ?_) rfl (by kernel_rfl) (by kernel_rfl) (by kernel_rfl) (by kernel_rfl) (fun _ _ _ h => h) (Or.inl ⟨by rfl, ?_⟩) hS0 ?_; rotate_left 1; (focus (intro w hSw; (try dsimp only at hSw); go_simp; try with_reducible rfl)); try simp only [Act.put, List.setIfInBounds_toArray, List.set_cons_zero, List.set_cons_succ, List.getElem_toArray, List.getElem_cons_succ, List.getElem_cons_zero]; try simp only [Nat.zero_add])
                (refine wpAnyZ_take 7 (v := ?_) rfl (by kernel_rfl) (by kernel_rfl) (by kernel_rfl) (by kernel_rfl) (fun _ _ _ h => h) (Or.inl ⟨by rfl, ?_⟩) hS0 ?_; rotate_left 1; (focus (intro w hSw; (try dsimp only at hSw); go_simp; try with_reducible rfl)); try simp only [Act.put, List.setIfInBounds_toArray, List.set_cons_zero, List.set_cons_succ, List.getElem_toArray, List.getElem_cons_succ, List.getElem_cons_zero]; try simp only [Nat.zero_add])
                (refine wpAnyZ_take 8 (v := ?_) rfl (by kernel_rfl) (by kernel_rfl) (by kernel_rfl) (by kernel_rfl) (fun _ _ _ h => h) (Or.inl ⟨by rfl, ?_⟩) hS0 ?_; rotate_left 1; (focus (intro w hSw; (try dsimp only at hSw); go_simp; try with_reducible rfl)); try simp only [Act.put, List.setIfInBounds_toArray, List.set_cons_zero, List.set_cons_succ, List.getElem_toArray, List.getElem_cons_succ, List.getElem_cons_zero]; try simp only [Nat.zero_add])
                (refine wpAnyZ_take 9 (v := ?_) rfl (by kernel_rfl) (by kernel_rfl) (by kernel_rfl) (by kernel_rfl) (fun _ _ _ h => h) (Or.inl ⟨by rfl, ?_⟩) hS0 ?_; rotate_left 1; (focus (intro w hSw; (try dsimp only at hSw); go_simp; try with_reducible rfl)); try simp only [Act.put, List.setIfInBounds_toArray, List.set_cons_zero, List.set_cons_succ, List.getElem_toArray, List.getElem_cons_succ, List.getElem_cons_zero]; try simp only [Nat.zero_add])
                (refine wpAnyZ_take 10 (v := ?_) rfl (by kernel_rfl) (by kernel_rfl) (by kernel_rfl) (by kernel_rfl) (fun _ _ _ h => h) (Or.inl ⟨by rfl, ?_⟩) hS0 ?_; rotate_left 1; (focus (intro w hSw; (try dsimp only at hSw); go_simp; try with_reducible rfl)); try simp only [Act.put, List.setIfInBounds_toArray, List.set_cons_zero, List.set_cons_succ, List.getElem_toArray, List.getElem_cons_succ, List.getElem_cons_zero]; try simp only [Nat.zero_add])
                (refine wpAnyZ_take 11 (v := ?_) rfl (by kernel_rfl) (by kernel_rfl) (by kernel_rfl) (by kernel_rfl) (fun _ _ _ h => h) (Or.inl ⟨by rfl, ?_⟩) hS0 ?_; rotate_left 1; (focus (intro w hSw; (try dsimp only at hSw); go_simp; try with_reducible rfl)); try simp only [Act.put, List.setIfInBounds_toArray, List.set_cons_zero, List.set_cons_succ, List.getElem_toArray, List.getElem_cons_succ, List.getElem_cons_zero]; try simp only [Nat.zero_add])
                refine wpAnyZ_two 0 12 (by kernel_rfl) rfl rfl (fun K hK => ?_) (fun K hK => ?_)
                · go_simp
                  refine hK.out _ _ (hS _ (by ((repeat (first | assumption | exact Q.refl _ | refine Q.alloc ?_ _ | refine Q.drewN ?_ _ | refine Q.drew ?_)); done))) ?_
                  clear hK K
                  try simp only [Act.put, List.setIfInBounds_toArray, List.set_cons_zero, List.set_cons_succ, List.getElem_toArray, List.getElem_cons_succ, List.getElem_cons_zero]; try simp only [Nat.zero_add]
                  refine wpAnyZ_two 3 12 (by kernel_rfl) rfl rfl (fun K hK => ?_) (fun K hK => ?_)
                  · (refine stepKs elFix (B := wz.heap.size) (by rfl) (.tmp 57) (.tmp 59) (by rfl) (by rfl) ((own_lit0 (w := wz) (B := wz.heap.size) 98 rfl (Nat.le_refl _)).q ((Q.refl _).drew)) (by rfl) (ys := xs) (fun j hj => by rw [Nat.zero_add]; exact (hown.q (by ((repeat (first | assumption | exact Q.refl _ | refine Q.alloc ?_ _ | refine Q.drewN ?_ _ | refine Q.drew ?_)); done))).cell (by omega)) (by omega) (by omega) (by omega) (by simp) ?_; intro g7 c7 w7 hown7 hg7 hl7; rw [Nat.zero_add, List.nil_append] at hown7; have Q7 : Q wz w7 := Q.mark (B := wz.heap.size) (by ((repeat (first | assumption | exact Q.refl _ | refine Q.alloc ?_ _ | refine Q.drewN ?_ _ | refine Q.drew ?_)); done)) ((own_lit0 (w := wz) (B := wz.heap.size) 98 rfl (Nat.le_refl _)).q ((Q.refl _).drew)) (Nat.le_refl _) hg7; have z7 := Q7.size)
                    refine hK.out _ _ (hS _ Q7) ?_
                    clear hK K
                    try simp only [Act.put, List.setIfInBounds_toArray, List.set_cons_zero, List.set_cons_succ, List.getElem_toArray, List.getElem_cons_succ, List.getElem_cons_zero]; try simp only [Nat.zero_add]
                    refine wpAnyZ_one 12 (by kernel_rfl) rfl (fun K hK => ?_)
                    go_simp
                    refine hK.out _ _ (hS _ (by ((repeat (first | assumption | exact Q.refl _ | refine Q.alloc ?_ _ | refine Q.drewN ?_ _ | refine Q.drew ?_)); done))) ?_
                    clear hK K
                    try simp only [Act.put, List.setIfInBounds_toArray, List.set_cons_zero, List.set_cons_succ, List.getElem_toArray, List.getElem_cons_succ, List.getElem_cons_zero]; try simp only [Nat.zero_add]
                    refine wpAnyZ_one 13 (by kernel_rfl) rfl (fun K hK => ?_)
                    (refine stepKs elFix (B := wz.heap.size) (by rfl) (.tmp 60) (.tmp 69) (by rfl) (by rfl) (hown7.q (by ((repeat (first | assumption | exact Q.refl _ | refine Q.alloc ?_ _ | refine Q.drewN ?_ _ | refine Q.drew ?_)); done))) (by rfl) (lit_reads (blk_new1 (w := w7) _ _ rfl)) (by rfl) (by decide) (by omega) (by first | omega | (simp; omega)) ?_; intro g8 c8 w8 hown8 hg8 hl8; have Q8 : Q wz w8 := Q.mark (by ((repeat (first | assumption | exact Q.refl _ | refine Q.alloc ?_ _ | refine Q.drewN ?_ _ | refine Q.drew ?_)); done)) (hown7.q (by ((repeat (first | assumption | exact Q.refl _ | refine Q.alloc ?_ _ | refine Q.drewN ?_ _ | refine Q.drew ?_)); done))) (Nat.le_refl _) hg8; have z8 := Q8.size; have cT8 := (T.q Q8).cell; have fT8 := (T.q Q8).frozen; have lT8 := (T.q Q8).lt)
                    have hS8 := hS _ Q8
                    refine hK.out _ _ hS8 ?_
                    clear hK K
                    try simp only [Act.put, List.setIfInBounds_toArray, List.set_cons_zero, List.set_cons_succ, List.getElem_toArray, List.getElem_cons_succ, List.getElem_cons_zero]; try simp only [Nat.zero_add]
                    (refine wpAnyZ_take 14 (v := ?_) rfl (by kernel_rfl) (by kernel_rfl) (by kernel_rfl) (by kernel_rfl) (fun _ _ _ h => h) (Or.inl ⟨by rfl, ?_⟩) hS8 ?_; rotate_left 1; (focus (intro w hSw; (try dsimp only at hSw); go_simp; try with_reducible rfl)); try simp only [Act.put, List.setIfInBounds_toArray, List.set_cons_zero, List.set_cons_succ, List.getElem_toArray, List.getElem_cons_succ, List.getElem_cons_zero]; try simp only [Nat.zero_add])
                    refine wpAnyZ_last (by kernel_rfl) rfl (fun K hK => ?_)
                    go_simp
                    refine hK.out _ _ ?_
                    clear hK K
                    try simp only [Act.put, List.setIfInBounds_toArray, List.set_cons_zero, List.set_cons_succ, List.getElem_toArray, List.getElem_cons_succ, List.getElem_cons_zero]; try simp only [Nat.zero_add]
                    refine wpAnyZ_done (by kernel_rfl) ?_ _
                    go_wp2_with fail
                    go_roundw
                    case rel => exact ⟨_, m + 1 + 1, _, _, (T.q Q8).s1_0 _, (hown8.setFar (Own.ne_blk hown8 (T.q Q8) (by decide)) 0 _).mono (by omega), by omega, (R0.q Q8).far (p := ⟨w1.heap.size, 0, none⟩) (by simp only; omega) _, (HD.q Q8).set (b := w1.heap.size) (i := 0) (by omega) _⟩
                    case measure => (have c2 := ((T.q Q8).s1_0 (.slice (some ⟨g8, 0, none⟩) (m + 1 + 1) c8)).cell 0; simp [slLen', HT0.out, c2]; omega)
                  · go_simp
                    refine hK.out _ _ (hS _ (by ((repeat (first | assumption | exact Q.refl _ | refine Q.alloc ?_ _ | refine Q.drewN ?_ _ | refine Q.drew ?_)); done))) ?_
                    clear hK K
                    try simp only [Act.put, List.setIfInBounds_toArray, List.set_cons_zero, List.set_cons_succ, List.getElem_toArray, List.getElem_cons_succ, List.getElem_cons_zero]; try simp only [Nat.zero_add]
                    refine wpAnyZ_one 3 (by kernel_rfl) rfl (fun K hK => ?_)
                    (refine stepKs elFix (B := wz.heap.size) (by rfl) (.tmp 57) (.tmp 59) (by rfl) (by rfl) ((own_lit0 (w := wz) (B := wz.heap.size) 98 rfl (Nat.le_refl _)).q (((Q.refl _).alloc (.cells #[.int .i64 (IntKind.i64.wrap (x0 + 10)), .int .i64 x1, .int .i64 x2] 98)).drew)) (by rfl) (ys := xs) (fun j hj => by rw [Nat.zero_add]; exact (hown.q (by ((repeat (first | assumption | exact Q.refl _ | refine Q.alloc ?_ _ | refine Q.drewN ?_ _ | refine Q.drew ?_)); done))).cell (by omega)) (by omega) (by omega) (by omega) (by simp; omega) ?_; intro g7 c7 w7 hown7 hg7 hl7; rw [Nat.zero_add, List.nil_append] at hown7; have Q7 : Q wz w7 := Q.mark (B := wz.heap.size) (by ((repeat (first | assumption | exact Q.refl _ | refine Q.alloc ?_ _ | refine Q.drewN ?_ _ | refine Q.drew ?_)); done)) ((own_lit0 (w := wz) (B := wz.heap.size) 98 rfl (Nat.le_refl _)).q (((Q.refl _).alloc (.cells #[.int .i64 (IntKind.i64.wrap (x0 + 10)), .int .i64 x1, .int .i64 x2] 98)).drew)) (Nat.le_refl _) hg7; have z7 := Q7.size)
                    have L7 := ((show Blk ((wz.alloc (.cells #[] 98)).alloc (.cells #[.int .i64 (IntKind.i64.wrap (x0 + 10)), .int .i64 x1, .int .i64 x2] 98)) (wz.heap.size + 1) 98 #[.int .i64 (IntKind.i64.wrap (x0 + 10)), .int .i64 x1, .int .i64 x2] from by simpa using Blk.new (wz.alloc (.cells #[] 98)) 98 #[.int .i64 (IntKind.i64.wrap (x0 + 10)), .int .i64 x1, .int .i64 x2]).drew).grown hg7 (by simp)
                    refine hK.out _ _ (hS _ Q7) ?_
                    clear hK K
                    try simp only [Act.put, List.setIfInBounds_toArray, List.set_cons_zero, List.set_cons_succ, List.getElem_toArray, List.getElem_cons_succ, List.getElem_cons_zero]; try simp only [Nat.zero_add]
                    refine wpAnyZ_one 13 (by kernel_rfl) rfl (fun K hK => ?_)
                    (refine stepKs elFix (B := wz.heap.size) (by rfl) (.tmp 60) (.tmp 69) (by rfl) (by rfl) (hown7.q (by ((repeat (first | assumption | exact Q.refl _ | refine Q.alloc ?_ _ | refine Q.drewN ?_ _ | refine Q.drew ?_)); done))) (by rfl) (lit_reads (L7.q (by ((repeat (first | assumption | exact Q.refl _ | refine Q.alloc ?_ _ | refine Q.drewN ?_ _ | refine Q.drew ?_)); done)))) (by rfl) (by decide) (by omega) (by first | omega | (simp; omega)) ?_; intro g8 c8 w8 hown8 hg8 hl8; have Q8 : Q wz w8 := Q.mark (by ((repeat (first | assumption | exact Q.refl _ | refine Q.alloc ?_ _ | refine Q.drewN ?_ _ | refine Q.drew ?_)); done)) (hown7.q (by ((repeat (first | assumption | exact Q.refl _ | refine Q.alloc ?_ _ | refine Q.drewN ?_ _ | refine Q.drew ?_)); done))) (Nat.le_refl _) hg8; have z8 := Q8.size; have cT8 := (T.q Q8).cell; have fT8 := (T.q Q8).frozen; have lT8 := (T.q Q8).lt)
                    have hS8 := hS _ Q8
                    refine hK.out _ _ hS8 ?_
                    clear hK K
                    try simp only [Act.put, List.setIfInBounds_toArray, List.set_cons_zero, List.set_cons_succ, List.getElem_toArray, List.getElem_cons_succ, List.getElem_cons_zero]; try simp only [Nat.zero_add]
                    (refine wpAnyZ_take 14 (v := ?_) rfl (by kernel_rfl) (by kernel_rfl) (by kernel_rfl) (by kernel_rfl) (fun _ _ _ h => h) (Or.inl ⟨by rfl, ?_⟩) hS8 ?_; rotate_left 1; (focus (intro w hSw; (try dsimp only at hSw); go_simp; try with_reducible rfl)); try simp only [Act.put, List.setIfInBounds_toArray, List.set_cons_zero, List.set_cons_succ, List.getElem_toArray, List.getElem_cons_succ, List.getElem_cons_zero]; try simp only [Nat.zero_add])
                    refine wpAnyZ_last (by kernel_rfl) rfl (fun K hK => ?_)
                    go_simp
                    refine hK.out _ _ ?_
                    clear hK K
                    try simp only [Act.put, List.setIfInBounds_toArray, List.set_cons_zero, List.set_cons_succ, List.getElem_toArray, List.getElem_cons_succ, List.getElem_cons_zero]; try simp only [Nat.zero_add]
                    refine wpAnyZ_done (by kernel_rfl) ?_ _
                    go_wp2_with fail
                    go_roundw
                    case rel => exact ⟨_, m + 1 + 1, _, _, (T.q Q8).s1_0 _, (hown8.setFar (Own.ne_blk hown8 (T.q Q8) (by decide)) 0 _).mono (by omega), by omega, (R0.q Q8).far (p := ⟨w1.heap.size, 0, none⟩) (by simp only; omega) _, (HD.q Q8).set (b := w1.heap.size) (i := 0) (by omega) _⟩
                    case measure => (have c2 := ((T.q Q8).s1_0 (.slice (some ⟨g8, 0, none⟩) (m + 1 + 1) c8)).cell 0; simp [slLen', HT0.out, c2]; omega)
                · go_simp
                  refine hK.out _ _ (hS _ (by ((repeat (first | assumption | exact Q.refl _ | refine Q.alloc ?_ _ | refine Q.drewN ?_ _ | refine Q.drew ?_)); done))) ?_
                  clear hK K
                  try simp only [Act.put, List.setIfInBounds_toArray, List.set_cons_zero, List.set_cons_succ, List.getElem_toArray, List.getElem_cons_succ, List.getElem_cons_zero]; try simp only [Nat.zero_add]
                  refine wpAnyZ_one 0 (by kernel_rfl) rfl (fun K hK => ?_)
                  go_simp
                  refine hK.out _ _ (hS _ (by ((repeat (first | assumption | exact Q.refl _ | refine Q.alloc ?_ _ | refine Q.drewN ?_ _ | refine Q.drew ?_)); done))) ?_
                  clear hK K
                  try simp only [Act.put, List.setIfInBounds_toArray, List.set_cons_zero, List.set_cons_succ, List.getElem_toArray, List.getElem_cons_succ, List.getElem_cons_zero]; try simp only [Nat.zero_add]
                  refine wpAnyZ_one 3 (by kernel_rfl) rfl (fun K hK => ?_)
                  (refine stepKs elFix (B := wz.heap.size) (by rfl) (.tmp 57) (.tmp 59) (by rfl) (by rfl) ((own_lit0 (w := wz.alloc (.cells #[.int .i64 (IntKind.i64.wrap (x0 + 10)), .int .i64 x1, .int .i64 x2] 98)) (B := wz.heap.size) (h := wz.heap.size + 1) 98 (by simp) (by simp)).q ((Q.refl _).drew)) (by rfl) (ys := xs) (fun j hj => by rw [Nat.zero_add]; exact (hown.q (by ((repeat (first | assumption | exact Q.refl _ | refine Q.alloc ?_ _ | refine Q.drewN ?_ _ | refine Q.drew ?_)); done))).cell (by omega)) (by omega) (by omega) (by omega) (by simp; omega) ?_; intro g7 c7 w7 hown7 hg7 hl7; rw [Nat.zero_add, List.nil_append] at hown7; have Q7 : Q wz w7 := Q.mark (B := wz.heap.size) (by ((repeat (first | assumption | exact Q.refl _ | refine Q.alloc ?_ _ | refine Q.drewN ?_ _ | refine Q.drew ?_)); done)) ((own_lit0 (w := wz.alloc (.cells #[.int .i64 (IntKind.i64.wrap (x0 + 10)), .int .i64 x1, .int .i64 x2] 98)) (B := wz.heap.size) (h := wz.heap.size + 1) 98 (by simp) (by simp)).q ((Q.refl _).drew)) (Nat.le_refl _) hg7; have z7 := Q7.size)
                  have L7 := (((Blk.new wz 98 #[.int .i64 (IntKind.i64.wrap (x0 + 10)), .int .i64 x1, .int .i64 x2]).alloc (.cells #[] 98)).drew).grown hg7 (by simp)
                  refine hK.out _ _ (hS _ Q7) ?_
                  clear hK K
                  try simp only [Act.put, List.setIfInBounds_toArray, List.set_cons_zero, List.set_cons_succ, List.getElem_toArray, List.getElem_cons_succ, List.getElem_cons_zero]; try simp only [Nat.zero_add]
                  refine wpAnyZ_one 13 (by kernel_rfl) rfl (fun K hK => ?_)
                  (refine stepKs elFix (B := wz.heap.size) (by rfl) (.tmp 60) (.tmp 69) (by rfl) (by rfl) (hown7.q (by ((repeat (first | assumption | exact Q.refl _ | refine Q.alloc ?_ _ | refine Q.drewN ?_ _ | refine Q.drew ?_)); done))) (by rfl) (lit_reads (L7.q (by ((repeat (first | assumption | exact Q.refl _ | refine Q.alloc ?_ _ | refine Q.drewN ?_ _ | refine Q.drew ?_)); done)))) (by rfl) (by decide) (by omega) (by first | omega | (simp; omega)) ?_; intro g8 c8 w8 hown8 hg8 hl8; have Q8 : Q wz w8 := Q.mark (by ((repeat (first | assumption | exact Q.refl _ | refine Q.alloc ?_ _ | refine Q.drewN ?_ _ | refine Q.drew ?_)); done)) (hown7.q (by ((repeat (first | assumption | exact Q.refl _ | refine Q.alloc ?_ _ | refine Q.drewN ?_ _ | refine Q.drew ?_)); done))) (Nat.le_refl _) hg8; have z8 := Q8.size; have cT8 := (T.q Q8).cell; have fT8 := (T.q Q8).frozen; have lT8 := (T.q Q8).lt)
                  have hS8 := hS _ Q8
                  refine hK.out _ _ hS8 ?_
                  clear hK K
                  try simp only [Act.put, List.setIfInBounds_toArray, List.set_cons_zero, List.set_cons_succ, List.getElem_toArray, List.getElem_cons_succ, List.getElem_cons_zero]; try simp only [Nat.zero_add]
                  (refine wpAnyZ_take 14 (v := ?_) rfl (by kernel_rfl) (by kernel_rfl) (by kernel_rfl) (by kernel_rfl) (fun _ _ _ h => h) (Or.inl ⟨by rfl, ?_⟩) hS8 ?_; rotate_left 1; (focus (intro w hSw; (try dsimp only at hSw); go_simp; try with_reducible rfl)); try simp only [Act.put, List.setIfInBounds_toArray, List.set_cons_zero, List.set_cons_succ, List.getElem_toArray, List.getElem_cons_succ, List.getElem_cons_zero]; try simp only [Nat.zero_add])
                  refine wpAnyZ_last (by kernel_rfl) rfl (fun K hK => ?_)
                  go_simp
                  refine hK.out _ _ ?_
                  clear hK K
                  try simp only [Act.put, List.setIfInBounds_toArray, List.set_cons_zero, List.set_cons_succ, List.getElem_toArray, List.getElem_cons_succ, List.getElem_cons_zero]; try simp only [Nat.zero_add]
                  refine wpAnyZ_done (by kernel_rfl) ?_ _
                  go_wp2_with fail
                  go_roundw
                  case rel => exact ⟨_, m + 1 + 1, _, _, (T.q Q8).s1_0 _, (hown8.setFar (Own.ne_blk hown8 (T.q Q8) (by decide)) 0 _).mono (by omega), by omega, (R0.q Q8).far (p := ⟨w1.heap.size, 0, none⟩) (by simp only; omega) _, (HD.q Q8).set (b := w1.heap.size) (i := 0) (by omega) _⟩
                  case measure => (have c2 := ((T.q Q8).s1_0 (.slice (some ⟨g8, 0, none⟩) (m + 1 + 1) c8)).cell 0; simp [slLen', HT0.out, c2]; omega)
          · have b3 : (r3 == 3) = false := by simpa using h3
            by_cases h4 : r3 = 4
            · subst h4
              clear hr3 h0 h1 h2 h3
              obtain ⟨m', rfl⟩ : ∃ m', m = m' + 1 := ⟨m - 1, by omega⟩
              have f0 := hown.frozen (m' * 3)
              have c0 := hown.cell (j := m' * 3) (by omega)
              go_wp2_with fail
              go_meet
              exact ⟨⟨_, _, _, _, T.far (p := ⟨gl, m' * 3, none⟩) tg _, hown.stored _ _, by omega, by omega⟩, R0.far (p := ⟨gl, m' * 3, none⟩) rg _, HD.set (by omega) _⟩
            · have b4 : (r3 == 4) = false := by simpa using h4
              go_wp2_with fail
              go_meet
              exact ⟨⟨_, _, _, _, T, hown, by omega, by omega⟩, R0, HD⟩
  case rest =>
    clear T R0 HD hown
    obtain ⟨⟨B', m', d', ys, T, hown, hm1, hm2⟩, R0, HD⟩ := hcut
    have cT := T.cell
    have lT := T.lt
    have cR := R0.cell
    have fR := R0.frozen
    go_wp2_with fail
    have F := (R0.s1_0 (.slice B' m' d')).cell
    refine bodyPost_ret (v := .agg #[.slice B' m' d']) (by simp [results, Tryz.results33, go_sem, F]) rfl ⟨B', m', d', ys, rfl, (hown.setFar (Own.ne_blk hown R0 (by decide)) 0 _).mono (by omega), ⟨hm1, hm2⟩, ?_, ?_⟩
    · exact DrT.dr (ws := w) (by ((repeat (first | exact HD | refine DrT.alloc ?_ _ | refine DrT.drewN ?_ _ | refine DrT.drew ?_ | refine DrT.set ?_ (by first | omega | (simp; omega)) _))))
    · exact DrT.gr (w0 := w0) (g := g) (A := A) (n := n) (c := c) (by ((repeat (first | exact HD | refine DrT.alloc ?_ _ | refine DrT.drewN ?_ _ | refine DrT.drew ?_ | refine DrT.set ?_ (by first | omega | (simp; omega)) _))))
end Go.Proofs.YteofhfefbphjdaaGreatDoor
