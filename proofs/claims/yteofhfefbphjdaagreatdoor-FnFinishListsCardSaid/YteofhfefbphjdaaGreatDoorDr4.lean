/- Walks: the reference's draw of a course that is rarely not valid. No condition. -/
import Derived.Test.YteofhfefbphjdaaGreatDoorDrR
namespace Go.Proofs.YteofhfefbphjdaaGreatDoor
open Go.RowKit Go.WideShapes Go.ChangeShapes
def DrawCA (w0 w : World) (g : Nat) (A : Option Addr) (n c : Nat) (e : Ending) (w' : World) : Prop := ∃ (x0 x1 x2 x3 x4 x5 x6 x7 : Int) (B : Option Addr) (m d : Nat) (ms : List Mk),
  e = .returned (.agg #[.int .i64 x0, .int .i64 x1, .int .i64 x2, .int .i64 x3, .int .i64 x4, .int .i64 x5, .int .i64 x6, .int .i64 x7, .slice B m d]) ∧
  OwC w' w.heap.size B m d ms ∧ m ≤ 10 ∧ Dr w0 w' g A n c ∧ w.grownBy w' (some g)
theorem mkV_set : ∀ (ms : List Mk) (k i : Nat) (u : Value) (m' : Mk), k < ms.length → i < 5 → m'.val = ((mx ms k).val).set i u → mkV (ms.set k m') = (mkV ms).set (k * 5 + i) u
  | [], k, _, _, _, hk, _, _ => absurd hk (Nat.not_lt_zero _)
  | m :: ms, 0, i, u, m', _, hi, h => by
    show m'.val ++ mkV ms = (m.val ++ mkV ms).set (0 * 5 + i) u
    rw [Nat.zero_mul, Nat.zero_add, List.set_append, if_pos (by simpa [Mk.val] using hi), h]
    rfl
  | m :: ms, k + 1, i, u, m', hk, hi, h => by
    have h5 : m.val.length = 5 := rfl
    show m.val ++ mkV (ms.set k m') = (m.val ++ mkV ms).set ((k + 1) * 5 + i) u
    rw [List.set_append, if_neg (by omega), h5, show (k + 1) * 5 + i - 5 = k * 5 + i by omega, mkV_set ms k i u m' (by simpa using hk) hi h]
theorem OwC.cellE {w : World} {B n c g : Nat} {ms : List Mk} (h : OwC w B (some ⟨g, 0, none⟩) n c ms) {j : Nat} (hj : j < n * 5) : ∃ v, w.cell? ⟨g, j, none⟩ = some v := by
  have hl : j < (mkV ms).length := by have := h.1.1; omega
  exact ⟨_, (World.ownsRow.cellAt h.1 j hj).trans (List.getElem?_eq_getElem hl)⟩
theorem OwC.frozen {w : World} {B n c g : Nat} {ms : List Mk} (h : OwC w B (some ⟨g, 0, none⟩) n c ms) (j : Nat) : w.frozen? ⟨g, j, none⟩ = false := World.ownsRow.frozenAt h.1 j
theorem OwC.put {w : World} {B n c g : Nat} {ms : List Mk} (h : OwC w B (some ⟨g, 0, none⟩) n c ms) {k i : Nat} (hk : k < n) (hi : i < 5) (u : Value) (m' : Mk) (hu : m'.val = ((mx ms k).val).set i u) (hs : m'.nm.size ≤ 100) : OwC (w.setCell ⟨g, k * 5 + i, none⟩ u) B (some ⟨g, 0, none⟩) n c (ms.set k m') := by
  have hl := h.len
  refine ⟨?_, fun q hq => ?_⟩
  · rw [mkV_set ms k i u m' (by omega) hi hu]
    exact (World.ownsRow.stored h.1 (k * 5 + i) u).1
  · rcases List.mem_or_eq_of_mem_set hq with h1 | h1
    · exact h.2 q h1
    · rw [h1]; exact hs
theorem OwC.nmz {w : World} {B n c : Nat} {A : Option Addr} {ms : List Mk} (h : OwC w B A n c ms) (k : Nat) : (mx ms k).nm.size ≤ 100 := by
  unfold mx
  rcases Nat.lt_or_ge k ms.length with hk | hk
  · rw [List.getD_eq_getElem?_getD, List.getElem?_eq_getElem hk]; exact h.2 _ (List.getElem_mem _)
  · rw [List.getD_eq_getElem?_getD, List.getElem?_eq_none hk]; decide
theorem pickS {m : Nat} (h : 0 ≤ (m : Int) ∧ ((m : Int) < 4 ∨ (m : Int) = 0)) {w : World} {b : Nat} (hb : Blk w b 9 #[.string ⟨#[]⟩, .string ⟨#[77]⟩, .string ⟨#[109, 117, 99, 104, 116, 111, 111, 108, 111, 110, 103]⟩, .string ⟨#[109, 49]⟩]) : ∃ s : ByteArray, w.cell? ⟨b, m, none⟩ = some (.string s) ∧ s.size ≤ 100 := by
  have hm : m < 4 := by omega
  match m, hm with
  | 0, _ => exact ⟨_, hb.cell 0, by decide⟩
  | 1, _ => exact ⟨_, hb.cell 1, by decide⟩
  | 2, _ => exact ⟨_, hb.cell 2, by decide⟩
  | 3, _ => exact ⟨_, hb.cell 3, by decide⟩
theorem one_byteD (w : World) (x : Int) (b : UInt8) (hx : x = (b.toNat : Int)) : (convert 22 9 (.slice (some ⟨w.heap.size, 0, none⟩) 1 1)).run Tryz.prog (w.alloc (.cells #[.int .u8 x] 5)) = .ok (.string ⟨#[b]⟩) (w.alloc (.cells #[.int .u8 x] 5)) := by
  subst hx
  exact run_convert_bytes_back (P := Tryz.prog) _ 22 9 5 ⟨w.heap.size, 0, none⟩ 1 [b] Tryz.underlying22 Tryz.underlying5 Tryz.underlying9 (fun j hj => by
    have hj : j < 1 := hj
    obtain rfl : j = 0 := by omega
    simp [Addr.add])
set_option maxRecDepth 100000 in
theorem spec_NumD (n : Nat) (h10 : n < 10) (w : World) : Calls Tryz.prog 72 #[.int .i64 n] w fun e w' => ∃ s : ByteArray, e = .returned (.string s) ∧ (⟨#[110]⟩ ++ s : ByteArray).size ≤ 100 ∧ s.size ≤ 50 ∧ Q w w' := by
  obtain ⟨q, hx⟩ : ∃ q : UInt8, 48 + (n : Int) = (q.toNat : Int) := ⟨UInt8.ofNat (48 + n), by rw [UInt8.toNat_ofNat']; omega⟩
  have hcv := one_byteD w (48 + (n : Int)) q hx
  clear hx
  go_enter Tryz.func72, Tryz.ntmps72
  go_wp2_with fail
  go_ret
  exact ⟨_, rfl, by rw [ByteArray.size_append]; exact (by decide : (2 : Nat) ≤ 100), (by decide : (1 : Nat) ≤ 50), (Q.refl _).alloc _⟩
/-- The course so far: its row of marks, its box, the result's box. -/
def CoA (w0 w wr : World) (b g : Nat) (A : Option Addr) (n c : Nat) (x0 x1 x2 x3 : Int) : Prop :=
  ∃ (x4 x5 x6 x7 : Int) (C : Option Addr) (m d : Nat) (ms : List Mk), m ≤ 10 ∧ OwC wr (w.heap.size + 1) C m d ms ∧ Blk wr b 30 #[.int .i64 x0, .int .i64 x1, .int .i64 x2, .int .i64 x3, .int .i64 x4, .int .i64 x5, .int .i64 x6, .int .i64 x7, .slice C m d] ∧ Blk wr w.heap.size 30 #[.int .i64 0, .int .i64 0, .int .i64 0, .int .i64 0, .int .i64 0, .int .i64 0, .int .i64 0, .int .i64 0, .slice none 0 0] ∧ DrT w0 w wr g A n c
def CoE (w0 w wr : World) (b g : Nat) (A : Option Addr) (n c : Nat) (x0 x1 x2 x3 x4 x5 x6 x7 : Int) (C : Option Addr) (m d : Nat) (ms : List Mk) : Prop :=
  CoD w0 w wr b g A n c #[.int .i64 x0, .int .i64 x1, .int .i64 x2, .int .i64 x3, .int .i64 x4, .int .i64 x5, .int .i64 x6, .int .i64 x7, .slice C m d] (w.heap.size + 1) C m d ms b 30 #[.int .i64 x0, .int .i64 x1, .int .i64 x2, .int .i64 x3, .int .i64 x4, .int .i64 x5, .int .i64 x6, .int .i64 x7, .slice C m d]
theorem CoE.of {w0 w wr : World} {b g : Nat} {A : Option Addr} {n c : Nat} {x0 x1 x2 x3 x4 x5 x6 x7 : Int} {C : Option Addr} {m d : Nat} {ms : List Mk} (Z : CoE w0 w wr b g A n c x0 x1 x2 x3 x4 x5 x6 x7 C m d ms) (hm : m ≤ 10) : CoA w0 w wr b g A n c x0 x1 x2 x3 :=
  ⟨x4, x5, x6, x7, C, m, d, ms, hm, Z.1, Z.2.1, Z.2.2.2.1, Z.2.2.2.2⟩
theorem CoE.put {w0 w wr : World} {b g : Nat} {A : Option Addr} {n c : Nat} {x0 x1 x2 x3 x4 x5 x6 x7 : Int} {gC m d : Nat} {ms : List Mk} (Z : CoE w0 w wr b g A n c x0 x1 x2 x3 x4 x5 x6 x7 (some ⟨gC, 0, none⟩) m d ms) {k i : Nat} (hk : k < m) (hi : i < 5) (u : Value) (m' : Mk) (hu : m'.val = ((mx ms k).val).set i u) (hs : m'.nm.size ≤ 100) : CoE w0 w (wr.setCell ⟨gC, k * 5 + i, none⟩ u) b g A n c x0 x1 x2 x3 x4 x5 x6 x7 (some ⟨gC, 0, none⟩) m d (ms.set k m') := by
  have tg : b ≠ gC := fun e => Z.1.ne Z.2.1 (by decide) _ rfl e.symm
  have rg : w.heap.size + 1 ≤ gC := (Z.1.from _ rfl).1
  have hB := Z.2.1.far (p := ⟨gC, k * 5 + i, none⟩) tg u
  exact ⟨Z.1.put hk hi u m' hu hs, hB, hB, Z.2.2.2.1.far (p := ⟨gC, k * 5 + i, none⟩) (by simp only; omega) u, Z.2.2.2.2.set (by omega) u⟩
set_option maxRecDepth 100000 in
set_option maxHeartbeats 8000000 in
theorem spec_l04DrawAny {w0 w : World} {g : Nat} {A : Option Addr} {n c : Nat} (h : Dr w0 w g A n c) (hn : n ≤ 140737488355327) : Calls Tryz.prog 32 #[.pointer (some ⟨g, 0, none⟩)] w (DrawCA w0 w g A n c) := by
  have HD := DrT.start h
  have hlt := HD.glt
  have R0 := Blk.new w 30 #[.int .i64 0, .int .i64 0, .int .i64 0, .int .i64 0, .int .i64 0, .int .i64 0, .int .i64 0, .int .i64 0, .slice none 0 0]
  replace HD := HD.alloc (.cells #[.int .i64 0, .int .i64 0, .int .i64 0, .int .i64 0, .int .i64 0, .int .i64 0, .int .i64 0, .int .i64 0, .slice none 0 0] 30)
  go_enter Tryz.func32, Tryz.ntmps32
  go_wp2_with fail
  refine (spec_l04Draw (w0 := w0) (A := A) (n := n) (c := c) HD.dr hn).mono ?_
  rintro e1 w1 ⟨x0, x1, x2, x3, x4, x5, x6, x7, C, m, d, ms, rfl, ⟨hp1, _⟩, O, hm, D1, G1⟩
  rw [show (w.alloc (.cells #[.int .i64 0, .int .i64 0, .int .i64 0, .int .i64 0, .int .i64 0, .int .i64 0, .int .i64 0, .int .i64 0, .slice none 0 0] 30)).heap.size = w.heap.size + 1 by simp] at O
  have HP1 := Lib.hid hp1
  replace HD := HD.step D1 G1
  replace R0 := Blk.keepG R0 G1 (by omega)
  clear D1 G1 h hp1
  have lR := R0.lt
  obtain ⟨b, hb⟩ : ∃ b, b = w1.heap.size := ⟨_, rfl⟩
  have BC : Blk (w1.alloc (.cells #[.int .i64 x0, .int .i64 x1, .int .i64 x2, .int .i64 x3, .int .i64 x4, .int .i64 x5, .int .i64 x6, .int .i64 x7, .slice C m d] 30)) b 30 #[.int .i64 x0, .int .i64 x1, .int .i64 x2, .int .i64 x3, .int .i64 x4, .int .i64 x5, .int .i64 x6, .int .i64 x7, .slice C m d] := by rw [hb]; exact Blk.new _ _ _
  replace R0 := R0.alloc (.cells #[.int .i64 x0, .int .i64 x1, .int .i64 x2, .int .i64 x3, .int .i64 x4, .int .i64 x5, .int .i64 x6, .int .i64 x7, .slice C m d] 30)
  replace HD := HD.alloc (.cells #[.int .i64 x0, .int .i64 x1, .int .i64 x2, .int .i64 x3, .int .i64 x4, .int .i64 x5, .int .i64 x6, .int .i64 x7, .slice C m d] 30)
  replace O := O.q ((Q.refl _).alloc (.cells #[.int .i64 x0, .int .i64 x1, .int .i64 x2, .int .i64 x3, .int .i64 x4, .int .i64 x5, .int .i64 x6, .int .i64 x7, .slice C m d] 30))
  go_upto_region 2 with (fail)
  rw [← hb] at lR ⊢
  generalize w1.alloc (.cells #[.int .i64 x0, .int .i64 x1, .int .i64 x2, .int .i64 x3, .int .i64 x4, .int .i64 x5, .int .i64 x6, .int .i64 x7, .slice C m d] 30) = wb at *
  clear hb
  have hgB : g < w.heap.size + 1 := by omega
  have cC := BC.cell
  have lC := BC.lt
  go_wp2_with fail
  refine (spec_Next (w0 := w0) (A := A) (n := n) (c := c) _ (DrT.dr (ws := w) (by ((repeat (first | exact HD | refine DrT.alloc ?_ _ | refine DrT.drewN ?_ _ | refine DrT.drew ?_ | refine DrT.set ?_ (by first | omega | (simp; omega)) _))))) hn).mono ?_
  rintro e2 w2 ⟨r2, rfl, hr2, D2, G2⟩
  have HD := DrT.step (ws := w) (by ((repeat (first | exact HD | refine DrT.alloc ?_ _ | refine DrT.drewN ?_ _ | refine DrT.drew ?_ | refine DrT.set ?_ (by first | omega | (simp; omega)) _)))) D2 G2
  have z2 := HD.size
  replace R0 := Blk.keepG (g := g) (R0.q (by (repeat (first | assumption | exact Q.refl _ | refine Q.alloc ?_ _ | refine Q.drewN ?_ _ | refine Q.drew ?_)))) G2 (by omega)
  replace BC := Blk.keepG (g := g) (BC.q (by (repeat (first | assumption | exact Q.refl _ | refine Q.alloc ?_ _ | refine Q.drewN ?_ _ | refine Q.drew ?_)))) G2 (by omega)
  replace O := O.kept G2 (fun _ hk => by cases hk; exact hgB)
  obtain ⟨kk, rfl⟩ := Int.eq_ofNat_of_zero_le hr2.1
  have hkk : kk < m := by omega
  clear D2 G2 cC hr2
  have lC := BC.lt
  go_wp2_with fail
  refine (spec_Next (w0 := w0) (A := A) (n := n) (c := c) _ (DrT.dr (ws := w) (by ((repeat (first | exact HD | refine DrT.alloc ?_ _ | refine DrT.drewN ?_ _ | refine DrT.drew ?_ | refine DrT.set ?_ (by first | omega | (simp; omega)) _))))) hn).mono ?_
  rintro e3 w3 ⟨r3, rfl, hr3, D3, G3⟩
  have HD := DrT.step (ws := w) (by ((repeat (first | exact HD | refine DrT.alloc ?_ _ | refine DrT.drewN ?_ _ | refine DrT.drew ?_ | refine DrT.set ?_ (by first | omega | (simp; omega)) _)))) D3 G3
  have z3 := HD.size
  replace R0 := Blk.keepG (g := g) (R0.q (by (repeat (first | assumption | exact Q.refl _ | refine Q.alloc ?_ _ | refine Q.drewN ?_ _ | refine Q.drew ?_)))) G3 (by omega)
  replace BC := Blk.keepG (g := g) (BC.q (by (repeat (first | assumption | exact Q.refl _ | refine Q.alloc ?_ _ | refine Q.drewN ?_ _ | refine Q.drew ?_)))) G3 (by omega)
  replace O := O.kept G3 (fun _ hk => by cases hk; exact hgB)
  clear D3 G3 lC z2
  go_upto_block 0 with (fail)
  go_cut [] from 5 to 96 (fun wc => CoA w0 w wc b g A n c x0 x1 x2 x3)
  case first =>
    have hkI : (kk : Int) < (m : Int) := by omega
    have zI := HD.size
    have lC := BC.lt
    obtain ⟨gC, rfl⟩ : ∃ g, C = some ⟨g, 0, none⟩ := by
      rcases O.row with ⟨_, h2, _⟩ | ⟨g, h2, _⟩
      · omega
      · exact ⟨g, h2⟩
    have tg : b ≠ gC := fun e => O.ne BC (by decide) _ rfl e.symm
    have rg : w.heap.size < gC := (O.from _ rfl).1
    by_cases h0 : r3 = 0
    · subst h0
      clear hr3
      go_upto_region 5 with (fail)
      have Z : CoE w0 w _ b g A n c x0 x1 x2 x3 x4 x5 x6 x7 (some ⟨gC, 0, none⟩) m d ms := ⟨O, BC, BC, R0, HD⟩
      have hgb : g < b ∧ g < b ∧ g < w.heap.size + 1 := by have := BC.lt; omega
      clear O BC R0 HD
      replace Z := CoD.q Z (Q.refl _).drew
      refine wp_region_Z (fun w' : World => Blk w' b 30 #[.int .i64 x0, .int .i64 x1, .int .i64 x2, .int .i64 x3, .int .i64 x4, .int .i64 x5, .int .i64 x6, .int .i64 x7, .slice (some ⟨gC, 0, none⟩) m d]) 10 (by kernel_rfl) ?_
      generalize w3.drew = wd at *
      (refine tkZ 0 (v := ?_) rfl (by kernel_rfl) (fun _ _ _ h => h) Z.2.1 rfl ?_ ?_; rotate_left 1; focus (intro w s; have cA := s.cell; go_simp; try with_reducible rfl))
      (refine tkZ 1 (v := ?_) rfl (by kernel_rfl) (fun _ _ _ h => h) Z.2.1 rfl ?_ ?_; rotate_left 1; focus (intro w s; have cA := s.cell; go_simp; try with_reducible rfl))
      (refine tkZ 2 (v := ?_) rfl (by kernel_rfl) (fun _ _ _ h => h) Z.2.1 rfl ?_ ?_; rotate_left 1; focus (intro w s; have cA := s.cell; go_simp; try with_reducible rfl))
      (refine tkZ 4 (v := ?_) rfl (by kernel_rfl) (fun _ _ _ h => h) Z.2.1 rfl ?_ ?_; rotate_left 1; focus (intro w s; have cA := s.cell; go_simp; try with_reducible rfl))
      try simp only [Act.put, List.setIfInBounds_toArray, List.set_cons_zero, List.set_cons_succ, List.getElem_toArray, List.getElem_cons_succ, List.getElem_cons_zero]; try simp only [Nat.zero_add]
      refine wpAnyZ_two 3 5 (by kernel_rfl) rfl rfl (fun K hK => ?_) (fun K hK => ?_)
      · go_simp
        have NB := Blk.new wd 9 #[.string ⟨#[]⟩, .string ⟨#[77]⟩, .string ⟨#[109, 117, 99, 104, 116, 111, 111, 108, 111, 110, 103]⟩, .string ⟨#[109, 49]⟩]
        have hnb := Z.2.1.lt
        replace Z := CoD.q Z ((Q.refl wd).alloc (.cells #[.string ⟨#[]⟩, .string ⟨#[77]⟩, .string ⟨#[109, 117, 99, 104, 116, 111, 111, 108, 111, 110, 103]⟩, .string ⟨#[109, 49]⟩] 9))
        generalize wd.alloc (.cells #[.string ⟨#[]⟩, .string ⟨#[77]⟩, .string ⟨#[109, 117, 99, 104, 116, 111, 111, 108, 111, 110, 103]⟩, .string ⟨#[109, 49]⟩] 9) = wda at *
        generalize wd.heap.size = nb at *
        refine hK.out _ _ Z.2.1 ?_
        clear hK K
        refine wpAnyZ_one 5 (by kernel_rfl) rfl (fun K hK => ?_)
        go_simp
        go_at_call 17
        refine (spec_Next _ Z.dr hn).mono ?_
        rintro e5 w5 ⟨r5, rfl, hr5, D5, G5⟩
        replace Z := CoD.draw Z D5 G5 hgb
        replace NB := NB.keepG G5 (by omega)
        clear D5 G5
        refine hK.out _ _ Z.2.1 ?_
        clear hK K
        refine wpAnyZ_one 6 (by kernel_rfl) rfl (fun K hK => ?_)
        have h5I : 0 ≤ r5 ∧ r5 < 4 := by omega
        go_simp
        refine hK.out _ _ Z.2.1 ?_
        clear hK K
        refine wpAnyZ_one 7 (by kernel_rfl) rfl (fun K hK => ?_)
        obtain ⟨m5, rfl⟩ := Int.eq_ofNat_of_zero_le hr5.1
        obtain ⟨s5, cN, hs5⟩ := pickS hr5 NB
        go_simp
        refine hK.out _ _ Z.2.1 ?_
        clear hK K
        refine wpAnyZ_one 8 (by kernel_rfl) rfl (fun K hK => ?_)
        go_simp
        refine hK.out _ _ Z.2.1 ?_
        clear hK K
        (refine tkZ 9 (v := ?_) rfl (by kernel_rfl) (fun _ _ _ h => h) Z.2.1 rfl ?_ ?_; rotate_left 1; focus (intro w s; have cA := s.cell; go_simp; try with_reducible rfl))
        try simp only [Act.put, List.setIfInBounds_toArray, List.set_cons_zero, List.set_cons_succ, List.getElem_toArray, List.getElem_cons_succ, List.getElem_cons_zero]; try simp only [Nat.zero_add]
        refine wpAnyZ_last (by kernel_rfl) rfl (fun K hK => ?_)
        obtain ⟨v0, cM0⟩ := Z.1.cellE (j := kk * 5) (by omega)
        have fM0 := Z.1.frozen (kk * 5)
        go_simp
        refine hK.out _ _ ?_
        clear hK K
        try simp only [Act.put]
        refine wpAnyZ_done (by kernel_rfl) ?_ _
        go_wp2_with fail
        go_meet
        exact CoE.of (CoE.put (i := 0) Z hkk (by decide) (.string s5) ⟨s5, (mx ms kk).x, (mx ms kk).y, (mx ms kk).sd, (mx ms kk).zn⟩ rfl hs5) (by omega)
      go_simp
      go_at_call 17
      refine (spec_Next _ Z.dr hn).mono ?_
      rintro e5 w5 ⟨r5, rfl, hr5, D5, G5⟩
      replace Z := CoD.draw Z D5 G5 hgb
      clear D5 G5
      refine hK.out _ _ Z.2.1 ?_
      clear hK K
      refine wpAnyZ_one 3 (by kernel_rfl) rfl (fun K hK => ?_)
      go_simp
      have NB := Blk.new w5 9 #[.string ⟨#[]⟩, .string ⟨#[77]⟩, .string ⟨#[109, 117, 99, 104, 116, 111, 111, 108, 111, 110, 103]⟩, .string ⟨#[109, 49]⟩]
      have hnb := Z.2.1.lt
      replace Z := CoD.q Z ((Q.refl w5).alloc (.cells #[.string ⟨#[]⟩, .string ⟨#[77]⟩, .string ⟨#[109, 117, 99, 104, 116, 111, 111, 108, 111, 110, 103]⟩, .string ⟨#[109, 49]⟩] 9))
      generalize w5.alloc (.cells #[.string ⟨#[]⟩, .string ⟨#[77]⟩, .string ⟨#[109, 117, 99, 104, 116, 111, 111, 108, 111, 110, 103]⟩, .string ⟨#[109, 49]⟩] 9) = w5a at *
      generalize w5.heap.size = nb at *
      refine hK.out _ _ Z.2.1 ?_
      clear hK K
      refine wpAnyZ_one 6 (by kernel_rfl) rfl (fun K hK => ?_)
      have h5I : 0 ≤ r5 ∧ r5 < 4 := by omega
      go_simp
      refine hK.out _ _ Z.2.1 ?_
      clear hK K
      refine wpAnyZ_one 7 (by kernel_rfl) rfl (fun K hK => ?_)
      obtain ⟨m5, rfl⟩ := Int.eq_ofNat_of_zero_le hr5.1
      obtain ⟨s5, cN, hs5⟩ := pickS hr5 NB
      go_simp
      refine hK.out _ _ Z.2.1 ?_
      clear hK K
      refine wpAnyZ_one 8 (by kernel_rfl) rfl (fun K hK => ?_)
      go_simp
      refine hK.out _ _ Z.2.1 ?_
      clear hK K
      (refine tkZ 9 (v := ?_) rfl (by kernel_rfl) (fun _ _ _ h => h) Z.2.1 rfl ?_ ?_; rotate_left 1; focus (intro w s; have cA := s.cell; go_simp; try with_reducible rfl))
      try simp only [Act.put, List.setIfInBounds_toArray, List.set_cons_zero, List.set_cons_succ, List.getElem_toArray, List.getElem_cons_succ, List.getElem_cons_zero]; try simp only [Nat.zero_add]
      refine wpAnyZ_last (by kernel_rfl) rfl (fun K hK => ?_)
      obtain ⟨v0, cM0⟩ := Z.1.cellE (j := kk * 5) (by omega)
      have fM0 := Z.1.frozen (kk * 5)
      go_simp
      refine hK.out _ _ ?_
      clear hK K
      try simp only [Act.put]
      refine wpAnyZ_done (by kernel_rfl) ?_ _
      go_wp2_with fail
      go_meet
      exact CoE.of (CoE.put (i := 0) Z hkk (by decide) (.string s5) ⟨s5, (mx ms kk).x, (mx ms kk).y, (mx ms kk).sd, (mx ms kk).zn⟩ rfl hs5) (by omega)
    · have b0 : (r3 == 0) = false := by simpa using h0
      by_cases h1 : r3 = 1
      · subst h1
        clear hr3 h0
        go_upto_region 7 with (fail)
        have Z : CoE w0 w _ b g A n c x0 x1 x2 x3 x4 x5 x6 x7 (some ⟨gC, 0, none⟩) m d ms := ⟨O, BC, BC, R0, HD⟩
        have hgb : g < b ∧ g < b ∧ g < w.heap.size + 1 := by have := BC.lt; omega
        clear O BC R0 HD
        replace Z := CoD.q Z (Q.refl _).drew
        refine wp_region_Z (fun w' : World => Blk w' b 30 #[.int .i64 x0, .int .i64 x1, .int .i64 x2, .int .i64 x3, .int .i64 x4, .int .i64 x5, .int .i64 x6, .int .i64 x7, .slice (some ⟨gC, 0, none⟩) m d]) 8 (by kernel_rfl) ?_
        generalize w3.drew = wd at *
        (refine tkZ 0 (v := ?_) rfl (by kernel_rfl) (fun _ _ _ h => h) Z.2.1 rfl ?_ ?_; rotate_left 1; focus (intro w s; have cA := s.cell; go_simp; try with_reducible rfl))
        (refine tkZ 1 (v := ?_) rfl (by kernel_rfl) (fun _ _ _ h => h) Z.2.1 rfl ?_ ?_; rotate_left 1; focus (intro w s; have cA := s.cell; go_simp; try with_reducible rfl))
        (refine tkZ 2 (v := ?_) rfl (by kernel_rfl) (fun _ _ _ h => h) Z.2.1 rfl ?_ ?_; rotate_left 1; focus (intro w s; have cA := s.cell; go_simp; try with_reducible rfl))
        (refine tkZ 3 (v := ?_) rfl (by kernel_rfl) (fun _ _ _ h => h) Z.2.1 rfl ?_ ?_; rotate_left 1; focus (intro w s; have cA := s.cell; go_simp; try with_reducible rfl))
        try simp only [Act.put, List.setIfInBounds_toArray, List.set_cons_zero, List.set_cons_succ, List.getElem_toArray, List.getElem_cons_succ, List.getElem_cons_zero]; try simp only [Nat.zero_add]
        refine wpAnyZ_one 4 (by kernel_rfl) rfl (fun K hK => ?_)
        go_simp
        go_at_call 17
        refine (spec_Next _ Z.dr hn).mono ?_
        rintro e5 w5 ⟨r5, rfl, hr5, D5, G5⟩
        replace Z := CoD.draw Z D5 G5 hgb
        clear D5 G5
        refine hK.out _ _ Z.2.1 ?_
        clear hK K
        (refine tkZ 5 (v := ?_) rfl (by kernel_rfl) (fun _ _ _ h => h) Z.2.1 rfl ?_ ?_; rotate_left 1; focus (intro w s; have cA := s.cell; go_simp; try with_reducible rfl))
        try simp only [Act.put, List.setIfInBounds_toArray, List.set_cons_zero, List.set_cons_succ, List.getElem_toArray, List.getElem_cons_succ, List.getElem_cons_zero]; try simp only [Nat.zero_add]
        refine wpAnyZ_one 6 (by kernel_rfl) rfl (fun K hK => ?_)
        go_simp
        refine hK.out _ _ Z.2.1 ?_
        clear hK K
        (refine tkZ 7 (v := ?_) rfl (by kernel_rfl) (fun _ _ _ h => h) Z.2.1 rfl ?_ ?_; rotate_left 1; focus (intro w s; have cA := s.cell; go_simp; try with_reducible rfl))
        try simp only [Act.put, List.setIfInBounds_toArray, List.set_cons_zero, List.set_cons_succ, List.getElem_toArray, List.getElem_cons_succ, List.getElem_cons_zero]; try simp only [Nat.zero_add]
        refine wpAnyZ_last (by kernel_rfl) rfl (fun K hK => ?_)
        obtain ⟨v0, cM0⟩ := Z.1.cellE (j := kk * 5 + 3) (by omega)
        have fM0 := Z.1.frozen (kk * 5 + 3)
        go_simp
        refine hK.out _ _ ?_
        clear hK K
        try simp only [Act.put]
        refine wpAnyZ_done (by kernel_rfl) ?_ _
        go_wp2_with fail
        go_meet
        exact CoE.of (CoE.put (i := 3) Z hkk (by decide) (.int .i64 (IntKind.i64.wrap (3 * r5))) ⟨(mx ms kk).nm, (mx ms kk).x, (mx ms kk).y, IntKind.i64.wrap (3 * r5), (mx ms kk).zn⟩ rfl (Z.1.nmz kk)) (by omega)
      · have b1 : (r3 == 1) = false := by simpa using h1
        by_cases h2 : r3 = 2
        · subst h2
          clear hr3 h0 h1
          go_upto_region 9 with (fail)
          have Z : CoE w0 w _ b g A n c x0 x1 x2 x3 x4 x5 x6 x7 (some ⟨gC, 0, none⟩) m d ms := ⟨O, BC, BC, R0, HD⟩
          have hgb : g < b ∧ g < b ∧ g < w.heap.size + 1 := by have := BC.lt; omega
          clear O BC R0 HD
          replace Z := CoD.q Z (Q.refl _).drew
          refine wp_region_Z (fun w' : World => Blk w' b 30 #[.int .i64 x0, .int .i64 x1, .int .i64 x2, .int .i64 x3, .int .i64 x4, .int .i64 x5, .int .i64 x6, .int .i64 x7, .slice (some ⟨gC, 0, none⟩) m d]) 10 (by kernel_rfl) ?_
          generalize w3.drew = wd at *
          (refine tkZ 0 (v := ?_) rfl (by kernel_rfl) (fun _ _ _ h => h) Z.2.1 rfl ?_ ?_; rotate_left 1; focus (intro w s; have cA := s.cell; go_simp; try with_reducible rfl))
          (refine tkZ 1 (v := ?_) rfl (by kernel_rfl) (fun _ _ _ h => h) Z.2.1 rfl ?_ ?_; rotate_left 1; focus (intro w s; have cA := s.cell; go_simp; try with_reducible rfl))
          (refine tkZ 2 (v := ?_) rfl (by kernel_rfl) (fun _ _ _ h => h) Z.2.1 rfl ?_ ?_; rotate_left 1; focus (intro w s; have cA := s.cell; go_simp; try with_reducible rfl))
          (refine tkZ 4 (v := ?_) rfl (by kernel_rfl) (fun _ _ _ h => h) Z.2.1 rfl ?_ ?_; rotate_left 1; focus (intro w s; have cA := s.cell; go_simp; try with_reducible rfl))
          try simp only [Act.put, List.setIfInBounds_toArray, List.set_cons_zero, List.set_cons_succ, List.getElem_toArray, List.getElem_cons_succ, List.getElem_cons_zero]; try simp only [Nat.zero_add]
          refine wpAnyZ_two 3 5 (by kernel_rfl) rfl rfl (fun K hK => ?_) (fun K hK => ?_)
          · go_simp
            have NB := Blk.new wd 2 #[.int .i64 0, .int .i64 5000, .int .i64 5001]
            have hnb := Z.2.1.lt
            replace Z := CoD.q Z ((Q.refl wd).alloc (.cells #[.int .i64 0, .int .i64 5000, .int .i64 5001] 2))
            generalize wd.alloc (.cells #[.int .i64 0, .int .i64 5000, .int .i64 5001] 2) = wda at *
            generalize wd.heap.size = nb at *
            refine hK.out _ _ Z.2.1 ?_
            clear hK K
            refine wpAnyZ_one 5 (by kernel_rfl) rfl (fun K hK => ?_)
            go_simp
            go_at_call 17
            refine (spec_Next _ Z.dr hn).mono ?_
            rintro e5 w5 ⟨r5, rfl, hr5, D5, G5⟩
            replace Z := CoD.draw Z D5 G5 hgb
            replace NB := NB.keepG G5 (by omega)
            clear D5 G5
            refine hK.out _ _ Z.2.1 ?_
            clear hK K
            refine wpAnyZ_one 6 (by kernel_rfl) rfl (fun K hK => ?_)
            obtain ⟨m5, rfl⟩ := Int.eq_ofNat_of_zero_le hr5.1
            obtain ⟨v5, hv5, hvl5, hm5, hn5⟩ := pick3 0 5000 5001 hr5
            go_simp
            refine hK.out _ _ Z.2.1 ?_
            clear hK K
            refine wpAnyZ_one 7 (by kernel_rfl) rfl (fun K hK => ?_)
            have cN5 := (NB.cell m5).trans hv5
            go_simp
            refine hK.out _ _ Z.2.1 ?_
            clear hK K
            refine wpAnyZ_one 8 (by kernel_rfl) rfl (fun K hK => ?_)
            go_simp
            refine hK.out _ _ Z.2.1 ?_
            clear hK K
            (refine tkZ 9 (v := ?_) rfl (by kernel_rfl) (fun _ _ _ h => h) Z.2.1 rfl ?_ ?_; rotate_left 1; focus (intro w s; have cA := s.cell; go_simp; try with_reducible rfl))
            try simp only [Act.put, List.setIfInBounds_toArray, List.set_cons_zero, List.set_cons_succ, List.getElem_toArray, List.getElem_cons_succ, List.getElem_cons_zero]; try simp only [Nat.zero_add]
            refine wpAnyZ_last (by kernel_rfl) rfl (fun K hK => ?_)
            obtain ⟨v0, cM0⟩ := Z.1.cellE (j := kk * 5 + 4) (by omega)
            have fM0 := Z.1.frozen (kk * 5 + 4)
            go_simp
            refine hK.out _ _ ?_
            clear hK K
            try simp only [Act.put]
            refine wpAnyZ_done (by kernel_rfl) ?_ _
            go_wp2_with fail
            go_meet
            exact CoE.of (CoE.put (i := 4) Z hkk (by decide) (.int .i64 v5) ⟨(mx ms kk).nm, (mx ms kk).x, (mx ms kk).y, (mx ms kk).sd, v5⟩ rfl (Z.1.nmz kk)) (by omega)
          go_simp
          go_at_call 17
          refine (spec_Next _ Z.dr hn).mono ?_
          rintro e5 w5 ⟨r5, rfl, hr5, D5, G5⟩
          replace Z := CoD.draw Z D5 G5 hgb
          clear D5 G5
          refine hK.out _ _ Z.2.1 ?_
          clear hK K
          refine wpAnyZ_one 3 (by kernel_rfl) rfl (fun K hK => ?_)
          go_simp
          have NB := Blk.new w5 2 #[.int .i64 0, .int .i64 5000, .int .i64 5001]
          have hnb := Z.2.1.lt
          replace Z := CoD.q Z ((Q.refl w5).alloc (.cells #[.int .i64 0, .int .i64 5000, .int .i64 5001] 2))
          generalize w5.alloc (.cells #[.int .i64 0, .int .i64 5000, .int .i64 5001] 2) = w5a at *
          generalize w5.heap.size = nb at *
          refine hK.out _ _ Z.2.1 ?_
          clear hK K
          refine wpAnyZ_one 6 (by kernel_rfl) rfl (fun K hK => ?_)
          obtain ⟨m5, rfl⟩ := Int.eq_ofNat_of_zero_le hr5.1
          obtain ⟨v5, hv5, hvl5, hm5, hn5⟩ := pick3 0 5000 5001 hr5
          go_simp
          refine hK.out _ _ Z.2.1 ?_
          clear hK K
          refine wpAnyZ_one 7 (by kernel_rfl) rfl (fun K hK => ?_)
          have cN5 := (NB.cell m5).trans hv5
          go_simp
          refine hK.out _ _ Z.2.1 ?_
          clear hK K
          refine wpAnyZ_one 8 (by kernel_rfl) rfl (fun K hK => ?_)
          go_simp
          refine hK.out _ _ Z.2.1 ?_
          clear hK K
          (refine tkZ 9 (v := ?_) rfl (by kernel_rfl) (fun _ _ _ h => h) Z.2.1 rfl ?_ ?_; rotate_left 1; focus (intro w s; have cA := s.cell; go_simp; try with_reducible rfl))
          try simp only [Act.put, List.setIfInBounds_toArray, List.set_cons_zero, List.set_cons_succ, List.getElem_toArray, List.getElem_cons_succ, List.getElem_cons_zero]; try simp only [Nat.zero_add]
          refine wpAnyZ_last (by kernel_rfl) rfl (fun K hK => ?_)
          obtain ⟨v0, cM0⟩ := Z.1.cellE (j := kk * 5 + 4) (by omega)
          have fM0 := Z.1.frozen (kk * 5 + 4)
          go_simp
          refine hK.out _ _ ?_
          clear hK K
          try simp only [Act.put]
          refine wpAnyZ_done (by kernel_rfl) ?_ _
          go_wp2_with fail
          go_meet
          exact CoE.of (CoE.put (i := 4) Z hkk (by decide) (.int .i64 v5) ⟨(mx ms kk).nm, (mx ms kk).x, (mx ms kk).y, (mx ms kk).sd, v5⟩ rfl (Z.1.nmz kk)) (by omega)
        · have b2 : (r3 == 2) = false := by simpa using h2
          by_cases h3 : r3 = 3
          · subst h3
            clear hr3 h0 h1 h2
            have cC := BC.cell
            have fC := BC.frozen
            go_wp2_with fail
            go_meet
            exact ⟨x4, x5, x4, x5, _, m, d, ms, by omega, (O.far (O.ne BC (by decide)) 6 _).far (O.ne BC (by decide)) 7 _, by simpa using (BC.set_ 6 (.int .i64 x4)).set_ 7 (.int .i64 x5), (R0.far (p := ⟨b, 6, none⟩) (by simp only; omega) _).far (p := ⟨b, 7, none⟩) (by simp only; omega) _, (HD.set (b := b) (i := 6) (by omega) _).set (b := b) (i := 7) (by omega) _⟩
          · have b3 : (r3 == 3) = false := by simpa using h3
            by_cases h4 : r3 = 4
            · subst h4
              clear hr3 h0 h1 h2 h3
              have cC := BC.cell
              have fC := BC.frozen
              go_wp2_with fail
              go_meet
              exact ⟨x4, x5, x6, x7, none, 0, 0, [], by omega, OwC.nil, by simpa using BC.set_ 8 (.slice none 0 0), R0.far (p := ⟨b, 8, none⟩) (by simp only; omega) _, HD.set (b := b) (i := 8) (by omega) _⟩
            · have b4 : (r3 == 4) = false := by simpa using h4
              by_cases h5 : r3 = 5
              · subst h5
                clear hr3 h0 h1 h2 h3 h4
                go_upto_region 15 with (fail)
                have Z : CoE w0 w _ b g A n c x0 x1 x2 x3 x4 x5 x6 x7 (some ⟨gC, 0, none⟩) m d ms := ⟨O, BC, BC, R0, HD⟩
                have hgb : g < b ∧ g < b ∧ g < w.heap.size + 1 := by have := BC.lt; omega
                clear O BC R0 HD
                replace Z := CoD.q Z (Q.refl _).drew
                refine wp_region_Z (fun w' : World => Blk w' b 30 #[.int .i64 x0, .int .i64 x1, .int .i64 x2, .int .i64 x3, .int .i64 x4, .int .i64 x5, .int .i64 x6, .int .i64 x7, .slice (some ⟨gC, 0, none⟩) m d]) 8 (by kernel_rfl) ?_
                generalize w3.drew = wd at *
                (refine tkZ 0 (v := ?_) rfl (by kernel_rfl) (fun _ _ _ h => h) Z.2.1 rfl ?_ ?_; rotate_left 1; focus (intro w s; have cA := s.cell; go_simp; try with_reducible rfl))
                (refine tkZ 1 (v := ?_) rfl (by kernel_rfl) (fun _ _ _ h => h) Z.2.1 rfl ?_ ?_; rotate_left 1; focus (intro w s; have cA := s.cell; go_simp; try with_reducible rfl))
                (refine tkZ 2 (v := ?_) rfl (by kernel_rfl) (fun _ _ _ h => h) Z.2.1 rfl ?_ ?_; rotate_left 1; focus (intro w s; have cA := s.cell; go_simp; try with_reducible rfl))
                (refine tkZ 3 (v := ?_) rfl (by kernel_rfl) (fun _ _ _ h => h) Z.2.1 rfl ?_ ?_; rotate_left 1; focus (intro w s; have cA := s.cell; go_simp; try with_reducible rfl))
                (refine tkZ 4 (v := ?_) rfl (by kernel_rfl) (fun _ _ _ h => h) Z.2.1 rfl ?_ ?_; rotate_left 1; focus (intro w s; have cA := s.cell; go_simp; try with_reducible rfl))
                try simp only [Act.put, List.setIfInBounds_toArray, List.set_cons_zero, List.set_cons_succ, List.getElem_toArray, List.getElem_cons_succ, List.getElem_cons_zero]; try simp only [Nat.zero_add]
                refine wpAnyZ_one 5 (by kernel_rfl) rfl (fun K hK => ?_)
                go_simp
                go_at_call 40
                refine (spec_middle x0 x1 x2 x3 _ (hbd HP1.out)).mono ?_
                rintro e5 w5 ⟨rfl, q5⟩
                replace Z := CoD.q Z q5
                clear q5
                generalize mdX x0 x2 = px at *
                generalize mdX x1 x3 = py at *
                refine hK.out _ _ Z.2.1 ?_
                clear hK K
                refine wpAnyZ_one 6 (by kernel_rfl) rfl (fun K hK => ?_)
                go_simp
                refine hK.out _ _ Z.2.1 ?_
                clear hK K
                (refine tkZ 7 (v := ?_) rfl (by kernel_rfl) (fun _ _ _ h => h) Z.2.1 rfl ?_ ?_; rotate_left 1; focus (intro w s; have cA := s.cell; go_simp; try with_reducible rfl))
                try simp only [Act.put, List.setIfInBounds_toArray, List.set_cons_zero, List.set_cons_succ, List.getElem_toArray, List.getElem_cons_succ, List.getElem_cons_zero]; try simp only [Nat.zero_add]
                refine wpAnyZ_last (by kernel_rfl) rfl (fun K hK => ?_)
                obtain ⟨v0, cM0⟩ := Z.1.cellE (j := kk * 5 + 1) (by omega)
                have fM0 := Z.1.frozen (kk * 5 + 1)
                obtain ⟨v1, cM1⟩ := Z.1.cellE (j := kk * 5 + 2) (by omega)
                have fM1 := Z.1.frozen (kk * 5 + 2)
                go_simp
                refine hK.out _ _ ?_
                clear hK K
                try simp only [Act.put]
                refine wpAnyZ_done (by kernel_rfl) ?_ _
                go_wp2_with fail
                go_meet
                have Z2 := CoE.put (i := 1) Z hkk (by decide) (.int .i64 px) ⟨(mx ms kk).nm, px, (mx ms kk).y, (mx ms kk).sd, (mx ms kk).zn⟩ rfl (Z.1.nmz kk)
                exact CoE.of (CoE.put (i := 2) Z2 hkk (by decide) (.int .i64 py) ⟨(mx (ms.set kk ⟨(mx ms kk).nm, px, (mx ms kk).y, (mx ms kk).sd, (mx ms kk).zn⟩) kk).nm, (mx (ms.set kk ⟨(mx ms kk).nm, px, (mx ms kk).y, (mx ms kk).sd, (mx ms kk).zn⟩) kk).x, py, (mx (ms.set kk ⟨(mx ms kk).nm, px, (mx ms kk).y, (mx ms kk).sd, (mx ms kk).zn⟩) kk).sd, (mx (ms.set kk ⟨(mx ms kk).nm, px, (mx ms kk).y, (mx ms kk).sd, (mx ms kk).zn⟩) kk).zn⟩ rfl (Z2.1.nmz kk)) (by omega)
              · have b5 : (r3 == 5) = false := by simpa using h5
                by_cases h6 : r3 = 6
                · subst h6
                  clear hr3 h0 h1 h2 h3 h4 h5
                  go_upto_region 17 with (fail)
                  have hm10 : m ≤ 8 := by omega
                  go_loopw [] (fun wc => ∃ (C : Option Addr) (m d : Nat) (ms : List Mk), m ≤ 9 ∧ CoE w0 w wc b g A n c x0 x1 x2 x3 x4 x5 x6 x7 C m d ms) (fun wr => 10 - slLen' ((wr.cell? ⟨b, 8, none⟩).getD (.int .i64 0)))
                  case atStart => exact ⟨_, m, d, ms, by omega, O, BC, BC, R0, HD⟩
                  case round =>
                    have lbg : g < b ∧ g < b ∧ g < w.heap.size + 1 := by omega
                    clear O BC R0 HD hm hkk hkI tg rg hm10 zI lC
                    obtain ⟨C, m, d, ms, hm9, Z⟩ := hrel
                    have HT0 := Lib.hid (show wr.cell? ⟨b, 8, none⟩ = some (.slice C m d) from Z.2.1.cell 8)
                    have hgb := lbg
                    go_upto_region 17 with (fail)
                    replace Z := CoD.q Z (Q.refl _).drew
                    refine wp_region_H (fun w' : World => Blk w' b 30 #[.int .i64 x0, .int .i64 x1, .int .i64 x2, .int .i64 x3, .int .i64 x4, .int .i64 x5, .int .i64 x6, .int .i64 x7, .slice C m d]) (by kernel_rfl) ?_
                    generalize wr.drew = wd at *
                    (refine tkH 0 (v := ?_) rfl (by kernel_rfl) (fun _ _ _ h => h) Z.2.1 rfl ?_ ?_; rotate_left 1; focus (intro w s; have cA := s.cell; go_simp; try with_reducible rfl))
                    (refine tkH 1 (v := ?_) rfl (by kernel_rfl) (fun _ _ _ h => h) Z.2.1 rfl ?_ ?_; rotate_left 1; focus (intro w s; have cA := s.cell; go_simp; try with_reducible rfl))
                    (refine tkH 2 (v := ?_) rfl (by kernel_rfl) (fun _ _ _ h => h) Z.2.1 rfl ?_ ?_; rotate_left 1; focus (intro w s; have cA := s.cell; go_simp; try with_reducible rfl))
                    (refine tkH 3 (v := ?_) rfl (by kernel_rfl) (fun _ _ _ h => h) Z.2.1 rfl ?_ ?_; rotate_left 1; focus (intro w s; have cA := s.cell; go_simp; try with_reducible rfl))
                    try simp only [Act.put, List.setIfInBounds_toArray, List.set_cons_zero, List.set_cons_succ, List.getElem_toArray, List.getElem_cons_succ, List.getElem_cons_zero]; try simp only [Nat.zero_add]
                    refine wpAnyH_one 4 (by kernel_rfl) rfl (fun K hK => ?_)
                    go_simp
                    go_at_call 17
                    refine (spec_Next _ Z.dr hn).mono ?_
                    rintro e5 w5 ⟨r5, rfl, hr5, D5, G5⟩
                    replace Z := CoD.draw Z D5 G5 hgb
                    clear D5 G5
                    refine hK.out _ _ Z.2.1 ?_
                    clear hK K
                    (refine tkH 5 (v := ?_) rfl (by kernel_rfl) (fun _ _ _ h => h) Z.2.1 rfl ?_ ?_; rotate_left 1; focus (intro w s; have cA := s.cell; go_simp; try with_reducible rfl))
                    (refine tkH 6 (v := ?_) rfl (by kernel_rfl) (fun _ _ _ h => h) Z.2.1 rfl ?_ ?_; rotate_left 1; focus (intro w s; have cA := s.cell; go_simp; try with_reducible rfl))
                    try simp only [Act.put, List.setIfInBounds_toArray, List.set_cons_zero, List.set_cons_succ, List.getElem_toArray, List.getElem_cons_succ, List.getElem_cons_zero]; try simp only [Nat.zero_add]
                    refine wpAnyH_done (by kernel_rfl) ?_ _
                    rw [show IntKind.i64.wrap (8 + r5) = 8 + r5 by rw [IntKind.wrap_i64]; omega]
                    by_cases hmc : (m : Int) < 8 + r5
                    · have hm8 : m ≤ 8 := by omega
                      rw [show decide ((m : Int) < 8 + r5) = true from decide_eq_true hmc]
                      clear hmc
                      generalize 8 + r5 = r58
                      clear hr5
                      go_upto_region 18 with (fail)
                      go_cut [5] from 78 to 96 (fun v wc => ∃ (bm : Nat) (mk : Mk), v = .pointer (some ⟨bm, 0, none⟩) ∧ Blk wc bm 85 #[.string mk.nm, .int .i64 mk.x, .int .i64 mk.y, .int .i64 mk.sd, .int .i64 mk.zn] ∧ mk.nm.size ≤ 100 ∧ CoE w0 w wc b g A n c x0 x1 x2 x3 x4 x5 x6 x7 C m d ms)
                      case first =>
                        replace Z := CoD.q Z (Q.refl _).drew
                        refine wp_region_Z (fun w' : World => Blk w' b 30 #[.int .i64 x0, .int .i64 x1, .int .i64 x2, .int .i64 x3, .int .i64 x4, .int .i64 x5, .int .i64 x6, .int .i64 x7, .slice C m d]) 12 (by kernel_rfl) ?_
                        generalize w5.drew = wd at *
                        (refine tkZ 0 (v := ?_) rfl (by kernel_rfl) (fun _ _ _ h => h) Z.2.1 rfl ?_ ?_; rotate_left 1; focus (intro w s; have cA := s.cell; go_simp; try with_reducible rfl))
                        (refine tkZ 1 (v := ?_) rfl (by kernel_rfl) (fun _ _ _ h => h) Z.2.1 rfl ?_ ?_; rotate_left 1; focus (intro w s; have cA := s.cell; go_simp; try with_reducible rfl))
                        (refine tkZ 2 (v := ?_) rfl (by kernel_rfl) (fun _ _ _ h => h) Z.2.1 rfl ?_ ?_; rotate_left 1; focus (intro w s; have cA := s.cell; go_simp; try with_reducible rfl))
                        (refine tkZ 5 (v := ?_) rfl (by kernel_rfl) (fun _ _ _ h => h) Z.2.1 rfl ?_ ?_; rotate_left 1; focus (intro w s; have cA := s.cell; go_simp; try with_reducible rfl))
                        (refine tkZ 6 (v := ?_) rfl (by kernel_rfl) (fun _ _ _ h => h) Z.2.1 rfl ?_ ?_; rotate_left 1; focus (intro w s; have cA := s.cell; go_simp; try with_reducible rfl))
                        (refine tkZ 7 (v := ?_) rfl (by kernel_rfl) (fun _ _ _ h => h) Z.2.1 rfl ?_ ?_; rotate_left 1; focus (intro w s; have cA := s.cell; go_simp; try with_reducible rfl))
                        (refine tkZ 8 (v := ?_) rfl (by kernel_rfl) (fun _ _ _ h => h) Z.2.1 rfl ?_ ?_; rotate_left 1; focus (intro w s; have cA := s.cell; go_simp; try with_reducible rfl))
                        (refine tkZ 9 (v := ?_) rfl (by kernel_rfl) (fun _ _ _ h => h) Z.2.1 rfl ?_ ?_; rotate_left 1; focus (intro w s; have cA := s.cell; go_simp; try with_reducible rfl))
                        try simp only [Act.put, List.setIfInBounds_toArray, List.set_cons_zero, List.set_cons_succ, List.getElem_toArray, List.getElem_cons_succ, List.getElem_cons_zero]; try simp only [Nat.zero_add]
                        refine wpAnyZ_two 3 11 (by kernel_rfl) rfl rfl (fun K hK => ?_) (fun K hK => ?_)
                        · go_simp
                          go_at_call 72
                          refine (spec_NumD m (by omega) _).mono ?_
                          rintro e6 w6 ⟨s6, rfl, hs6, hs50, q6⟩
                          have hz6 : ¬ 9223372036854775807 < 1 + s6.size := by omega
                          replace Z := CoD.q Z q6
                          clear q6
                          refine hK.out _ _ Z.2.1 ?_
                          clear hK K
                          (refine tkZ 4 (v := ?_) rfl (by kernel_rfl) (fun _ _ _ h => h) Z.2.1 rfl ?_ ?_; rotate_left 1; focus (intro w s; have cA := s.cell; go_simp; try with_reducible rfl))
                          (refine tkZ 10 (v := ?_) rfl (by kernel_rfl) (fun _ _ _ h => h) Z.2.1 rfl ?_ ?_; rotate_left 1; focus (intro w s; have cA := s.cell; go_simp; try with_reducible rfl))
                          try simp only [Act.put, List.setIfInBounds_toArray, List.set_cons_zero, List.set_cons_succ, List.getElem_toArray, List.getElem_cons_succ, List.getElem_cons_zero]; try simp only [Nat.zero_add]
                          refine wpAnyZ_one 11 (by kernel_rfl) rfl (fun K hK => ?_)
                          go_simp
                          have T := CoD.top Z
                          have PM := Blk.new w6 85 #[.string ⟨#[]⟩, .int .i64 0, .int .i64 0, .int .i64 0, .int .i64 0]
                          replace Z := CoD.q Z ((Q.refl _).alloc (.cells #[.string ⟨#[]⟩, .int .i64 0, .int .i64 0, .int .i64 0, .int .i64 0] 85))
                          generalize w6.heap.size = bm at *
                          generalize w6.alloc (.cells #[.string ⟨#[]⟩, .int .i64 0, .int .i64 0, .int .i64 0, .int .i64 0] 85) = w6a at *
                          refine hK.out _ _ Z.2.1 ?_
                          clear hK K
                          refine wpAnyZ_last (by kernel_rfl) rfl (fun K hK => ?_)
                          refine step_store rfl 85 _ _ rfl bm _ rfl rfl PM.there (by kernel_rfl) (by simp [Value.oneCell']) ?_
                          refine hK.out _ _ ?_
                          clear hK K
                          try simp only [Act.put]
                          refine wpAnyZ_done (by kernel_rfl) ?_ _
                          go_wp2_with fail
                          go_meet
                          exact ⟨bm, ⟨_, _, _, _, _⟩, rfl, PM.all5 _ _ _ _ _, hs6, CoD.setAll Z T _ _⟩
                        go_simp
                        have T := CoD.top Z
                        have PM := Blk.new wd 85 #[.string ⟨#[]⟩, .int .i64 0, .int .i64 0, .int .i64 0, .int .i64 0]
                        replace Z := CoD.q Z ((Q.refl _).alloc (.cells #[.string ⟨#[]⟩, .int .i64 0, .int .i64 0, .int .i64 0, .int .i64 0] 85))
                        generalize wd.heap.size = bm at *
                        generalize wd.alloc (.cells #[.string ⟨#[]⟩, .int .i64 0, .int .i64 0, .int .i64 0, .int .i64 0] 85) = wda at *
                        refine hK.out _ _ Z.2.1 ?_
                        clear hK K
                        refine wpAnyZ_one 3 (by kernel_rfl) rfl (fun K hK => ?_)
                        go_simp
                        go_at_call 72
                        refine (spec_NumD m (by omega) _).mono ?_
                        rintro e6 w6 ⟨s6, rfl, hs6, hs50, q6⟩
                        have hz6 : ¬ 9223372036854775807 < 1 + s6.size := by omega
                        replace Z := CoD.q Z q6
                        replace PM := PM.q q6
                        clear q6
                        refine hK.out _ _ Z.2.1 ?_
                        clear hK K
                        (refine tkZ 4 (v := ?_) rfl (by kernel_rfl) (fun _ _ _ h => h) Z.2.1 rfl ?_ ?_; rotate_left 1; focus (intro w s; have cA := s.cell; go_simp; try with_reducible rfl))
                        (refine tkZ 10 (v := ?_) rfl (by kernel_rfl) (fun _ _ _ h => h) Z.2.1 rfl ?_ ?_; rotate_left 1; focus (intro w s; have cA := s.cell; go_simp; try with_reducible rfl))
                        try simp only [Act.put, List.setIfInBounds_toArray, List.set_cons_zero, List.set_cons_succ, List.getElem_toArray, List.getElem_cons_succ, List.getElem_cons_zero]; try simp only [Nat.zero_add]
                        refine wpAnyZ_last (by kernel_rfl) rfl (fun K hK => ?_)
                        refine step_store rfl 85 _ _ rfl bm _ rfl rfl PM.there (by kernel_rfl) (by simp [Value.oneCell']) ?_
                        refine hK.out _ _ ?_
                        clear hK K
                        try simp only [Act.put]
                        refine wpAnyZ_done (by kernel_rfl) ?_ _
                        go_wp2_with fail
                        go_meet
                        exact ⟨bm, ⟨_, _, _, _, _⟩, rfl, PM.all5 _ _ _ _ _, hs6, CoD.setAll Z T _ _⟩
                      case rest =>
                        clear Z
                        obtain ⟨bm, mk, rfl, PM, hmz, Z⟩ := hcut
                        go_upto_region 19 with (fail)
                        replace Z := CoD.q Z (Q.refl _).drew
                        replace PM := PM.drew
                        refine wp_region_Z (fun w' : World => Blk w' b 30 #[.int .i64 x0, .int .i64 x1, .int .i64 x2, .int .i64 x3, .int .i64 x4, .int .i64 x5, .int .i64 x6, .int .i64 x7, .slice C m d] ∧ Blk w' bm 85 #[.string mk.nm, .int .i64 mk.x, .int .i64 mk.y, .int .i64 mk.sd, .int .i64 mk.zn]) 8 (by kernel_rfl) ?_
                        generalize wc.drew = wd at *
                        have T := CoD.top Z
                        have hm := PM.lt
                        obtain ⟨H, hH⟩ : ∃ q, q = wd.heap.size := ⟨_, rfl⟩
                        have zH : H ≤ wd.heap.size := Nat.le_of_eq hH
                        rw [← hH] at T hm
                        clear hH
                        (refine tkZ 1 (v := ?_) rfl (by kernel_rfl) (fun _ _ _ h => h) ⟨Z.2.1, PM⟩ rfl ?_ ?_; rotate_left 1; focus (intro w s; have cA := s.1.cell; have cB := s.2.cell; go_simp; try with_reducible rfl))
                        (refine tkZ 2 (v := ?_) rfl (by kernel_rfl) (fun _ _ _ h => h) ⟨Z.2.1, PM⟩ rfl ?_ ?_; rotate_left 1; focus (intro w s; have cA := s.1.cell; have cB := s.2.cell; go_simp; try with_reducible rfl))
                        (refine tkZ 4 (v := ?_) rfl (by kernel_rfl) (fun _ _ _ h => h) ⟨Z.2.1, PM⟩ rfl ?_ ?_; rotate_left 1; focus (intro w s; have cA := s.1.cell; have cB := s.2.cell; go_simp; try with_reducible rfl))
                        try simp only [Act.put, List.setIfInBounds_toArray, List.set_cons_zero, List.set_cons_succ, List.getElem_toArray, List.getElem_cons_succ, List.getElem_cons_zero]; try simp only [Nat.zero_add]
                        refine wpAnyZ_two 0 5 (by kernel_rfl) rfl rfl (fun K hK => ?_) (fun K hK => ?_)
                        · go_simp
                          have q := (Q.refl wd).alloc (.cells #[] 85)
                          have OE := OwC.new wd zH
                          have heH := zH
                          replace Z := CoD.q Z q
                          replace PM := PM.q q
                          replace zH := Nat.le_trans zH q.size
                          clear q
                          generalize wd.alloc (.cells #[] 85) = wda at *
                          generalize wd.heap.size = e at *
                          refine hK.out _ _ ⟨Z.2.1, PM⟩ ?_
                          clear hK K
                          refine wpAnyZ_two 3 5 (by kernel_rfl) rfl rfl (fun K hK => ?_) (fun K hK => ?_)
                          · refine stepMs rfl _ _ rfl rfl OE rfl Z.1 (by omega) zH ?_
                            intro A7 c7 w7 O7 g7
                            rw [Nat.zero_add, List.nil_append] at O7
                            rw [Nat.zero_add]
                            have u := OE.up (rfl : (some ⟨e, 0, none⟩ : Option Addr).map (·.block) = _)
                            replace Z := CoD.grow Z g7 u T
                            replace PM := PM.above g7 u hm
                            replace zH := Nat.le_trans zH g7.size
                            clear u g7 OE
                            refine hK.out _ _ ⟨Z.2.1, PM⟩ ?_
                            clear hK K
                            refine wpAnyZ_one 5 (by kernel_rfl) rfl (fun K hK => ?_)
                            go_simp
                            have q := (Q.refl w7).alloc (.cells #[.string mk.nm, .int .i64 mk.x, .int .i64 mk.y, .int .i64 mk.sd, .int .i64 mk.zn] 85)
                            have BLn := Blk.new w7 85 #[.string mk.nm, .int .i64 mk.x, .int .i64 mk.y, .int .i64 mk.sd, .int .i64 mk.zn]
                            replace Z := CoD.q Z q
                            replace PM := PM.q q
                            replace O7 := O7.q q
                            replace zH := Nat.le_trans zH q.size
                            clear q
                            generalize w7.alloc (.cells #[.string mk.nm, .int .i64 mk.x, .int .i64 mk.y, .int .i64 mk.sd, .int .i64 mk.zn] 85) = w7a at *
                            generalize w7.heap.size = L at *
                            have BL := BLn
                            clear BLn
                            refine hK.out _ _ ⟨Z.2.1, PM⟩ ?_
                            clear hK K
                            refine wpAnyZ_one 6 (by kernel_rfl) rfl (fun K hK => ?_)
                            refine stepM1 rfl _ _ rfl rfl O7 mk rfl BL hmz (by omega) zH ?_
                            intro A8 c8 w8 O8 g8
                            have u := O7.up (rfl : A7.map (·.block) = _)
                            replace Z := CoD.grow Z g8 u T
                            replace PM := PM.above g8 u hm
                            replace zH := Nat.le_trans zH g8.size
                            clear u g8 O7
                            clear BL
                            refine hK.out _ _ ⟨Z.2.1, PM⟩ ?_
                            clear hK K
                            (refine tkZ 7 (v := ?_) rfl (by kernel_rfl) (fun _ _ _ h => h) ⟨Z.2.1, PM⟩ rfl ?_ ?_; rotate_left 1; focus (intro w s; have cA := s.1.cell; have cB := s.2.cell; go_simp; try with_reducible rfl))
                            try simp only [Act.put, List.setIfInBounds_toArray, List.set_cons_zero, List.set_cons_succ, List.getElem_toArray, List.getElem_cons_succ, List.getElem_cons_zero]; try simp only [Nat.zero_add]
                            refine wpAnyZ_last (by kernel_rfl) rfl (fun K hK => ?_)
                            have cC := Z.2.1.cell
                            have fC := Z.2.1.frozen
                            have lC := Z.2.1.lt
                            go_simp
                            refine hK.out _ _ ?_
                            clear hK K
                            try simp only [Act.put]
                            refine wpAnyZ_done (by kernel_rfl) ?_ _
                            go_wp2_with fail
                            have hB : Blk (w8.setCell ⟨b, 8, none⟩ (.slice A8 (m + 1) c8)) b 30 #[.int .i64 x0, .int .i64 x1, .int .i64 x2, .int .i64 x3, .int .i64 x4, .int .i64 x5, .int .i64 x6, .int .i64 x7, .slice A8 (m + 1) c8] := by simpa using Z.2.1.set_ 8 (.slice A8 (m + 1) c8)
                            go_roundw
                            case rel => exact ⟨A8, m + 1, c8, ms ++ [mk], by omega, (O8.far (O8.ne Z.2.1 (by decide)) 8 _).mono T.2.2.1, hB, hB, Z.2.2.2.1.far (p := ⟨b, 8, none⟩) (Nat.ne_of_lt lR) _, Z.2.2.2.2.set (b := b) (i := 8) (Nat.le_of_lt lR) _⟩
                            case measure => (have e0 := HT0.out; have e1 := hB.cell 8; simp [slLen', e0, e1]; omega)
                          go_simp
                          have q := (Q.refl wda).alloc (.cells #[.string mk.nm, .int .i64 mk.x, .int .i64 mk.y, .int .i64 mk.sd, .int .i64 mk.zn] 85)
                          have BLn := Blk.new wda 85 #[.string mk.nm, .int .i64 mk.x, .int .i64 mk.y, .int .i64 mk.sd, .int .i64 mk.zn]
                          have hLe := Nat.ne_of_gt (OE.from _ rfl).2
                          replace Z := CoD.q Z q
                          replace PM := PM.q q
                          replace OE := OE.q q
                          replace zH := Nat.le_trans zH q.size
                          clear q
                          generalize wda.alloc (.cells #[.string mk.nm, .int .i64 mk.x, .int .i64 mk.y, .int .i64 mk.sd, .int .i64 mk.zn] 85) = wdaa at *
                          generalize wda.heap.size = L at *
                          have BL := BLn
                          clear BLn
                          refine hK.out _ _ ⟨Z.2.1, PM⟩ ?_
                          clear hK K
                          refine wpAnyZ_one 3 (by kernel_rfl) rfl (fun K hK => ?_)
                          refine stepMs rfl _ _ rfl rfl OE rfl Z.1 (by omega) zH ?_
                          intro A7 c7 w7 O7 g7
                          rw [Nat.zero_add, List.nil_append] at O7
                          rw [Nat.zero_add]
                          have u := OE.up (rfl : (some ⟨e, 0, none⟩ : Option Addr).map (·.block) = _)
                          replace BL := BL.grown g7 (fun e2 => hLe (Option.some.inj e2))
                          replace Z := CoD.grow Z g7 u T
                          replace PM := PM.above g7 u hm
                          replace zH := Nat.le_trans zH g7.size
                          clear u g7 OE
                          refine hK.out _ _ ⟨Z.2.1, PM⟩ ?_
                          clear hK K
                          refine wpAnyZ_one 6 (by kernel_rfl) rfl (fun K hK => ?_)
                          refine stepM1 rfl _ _ rfl rfl O7 mk rfl BL hmz (by omega) zH ?_
                          intro A8 c8 w8 O8 g8
                          have u := O7.up (rfl : A7.map (·.block) = _)
                          replace Z := CoD.grow Z g8 u T
                          replace PM := PM.above g8 u hm
                          replace zH := Nat.le_trans zH g8.size
                          clear u g8 O7
                          clear BL
                          refine hK.out _ _ ⟨Z.2.1, PM⟩ ?_
                          clear hK K
                          (refine tkZ 7 (v := ?_) rfl (by kernel_rfl) (fun _ _ _ h => h) ⟨Z.2.1, PM⟩ rfl ?_ ?_; rotate_left 1; focus (intro w s; have cA := s.1.cell; have cB := s.2.cell; go_simp; try with_reducible rfl))
                          try simp only [Act.put, List.setIfInBounds_toArray, List.set_cons_zero, List.set_cons_succ, List.getElem_toArray, List.getElem_cons_succ, List.getElem_cons_zero]; try simp only [Nat.zero_add]
                          refine wpAnyZ_last (by kernel_rfl) rfl (fun K hK => ?_)
                          have cC := Z.2.1.cell
                          have fC := Z.2.1.frozen
                          have lC := Z.2.1.lt
                          go_simp
                          refine hK.out _ _ ?_
                          clear hK K
                          try simp only [Act.put]
                          refine wpAnyZ_done (by kernel_rfl) ?_ _
                          go_wp2_with fail
                          have hB : Blk (w8.setCell ⟨b, 8, none⟩ (.slice A8 (m + 1) c8)) b 30 #[.int .i64 x0, .int .i64 x1, .int .i64 x2, .int .i64 x3, .int .i64 x4, .int .i64 x5, .int .i64 x6, .int .i64 x7, .slice A8 (m + 1) c8] := by simpa using Z.2.1.set_ 8 (.slice A8 (m + 1) c8)
                          go_roundw
                          case rel => exact ⟨A8, m + 1, c8, ms ++ [mk], by omega, (O8.far (O8.ne Z.2.1 (by decide)) 8 _).mono T.2.2.1, hB, hB, Z.2.2.2.1.far (p := ⟨b, 8, none⟩) (Nat.ne_of_lt lR) _, Z.2.2.2.2.set (b := b) (i := 8) (Nat.le_of_lt lR) _⟩
                          case measure => (have e0 := HT0.out; have e1 := hB.cell 8; simp [slLen', e0, e1]; omega)
                        go_simp
                        have q := (Q.refl wd).alloc (.cells #[.string mk.nm, .int .i64 mk.x, .int .i64 mk.y, .int .i64 mk.sd, .int .i64 mk.zn] 85)
                        have BLn := Blk.new wd 85 #[.string mk.nm, .int .i64 mk.x, .int .i64 mk.y, .int .i64 mk.sd, .int .i64 mk.zn]
                        replace Z := CoD.q Z q
                        replace PM := PM.q q
                        replace zH := Nat.le_trans zH q.size
                        clear q
                        generalize wd.alloc (.cells #[.string mk.nm, .int .i64 mk.x, .int .i64 mk.y, .int .i64 mk.sd, .int .i64 mk.zn] 85) = wda at *
                        generalize wd.heap.size = L at *
                        have BL := BLn
                        clear BLn
                        refine hK.out _ _ ⟨Z.2.1, PM⟩ ?_
                        clear hK K
                        refine wpAnyZ_one 0 (by kernel_rfl) rfl (fun K hK => ?_)
                        go_simp
                        have q := (Q.refl wda).alloc (.cells #[] 85)
                        have OE := OwC.new wda zH
                        have heH := zH
                        have hLe := Nat.ne_of_lt BL.lt
                        replace Z := CoD.q Z q
                        replace PM := PM.q q
                        replace BL := BL.q q
                        replace zH := Nat.le_trans zH q.size
                        clear q
                        generalize wda.alloc (.cells #[] 85) = wdaa at *
                        generalize wda.heap.size = e at *
                        refine hK.out _ _ ⟨Z.2.1, PM⟩ ?_
                        clear hK K
                        refine wpAnyZ_one 3 (by kernel_rfl) rfl (fun K hK => ?_)
                        refine stepMs rfl _ _ rfl rfl OE rfl Z.1 (by omega) zH ?_
                        intro A7 c7 w7 O7 g7
                        rw [Nat.zero_add, List.nil_append] at O7
                        rw [Nat.zero_add]
                        have u := OE.up (rfl : (some ⟨e, 0, none⟩ : Option Addr).map (·.block) = _)
                        replace BL := BL.grown g7 (fun e2 => hLe (Option.some.inj e2))
                        replace Z := CoD.grow Z g7 u T
                        replace PM := PM.above g7 u hm
                        replace zH := Nat.le_trans zH g7.size
                        clear u g7 OE
                        refine hK.out _ _ ⟨Z.2.1, PM⟩ ?_
                        clear hK K
                        refine wpAnyZ_one 6 (by kernel_rfl) rfl (fun K hK => ?_)
                        refine stepM1 rfl _ _ rfl rfl O7 mk rfl BL hmz (by omega) zH ?_
                        intro A8 c8 w8 O8 g8
                        have u := O7.up (rfl : A7.map (·.block) = _)
                        replace Z := CoD.grow Z g8 u T
                        replace PM := PM.above g8 u hm
                        replace zH := Nat.le_trans zH g8.size
                        clear u g8 O7
                        clear BL
                        refine hK.out _ _ ⟨Z.2.1, PM⟩ ?_
                        clear hK K
                        (refine tkZ 7 (v := ?_) rfl (by kernel_rfl) (fun _ _ _ h => h) ⟨Z.2.1, PM⟩ rfl ?_ ?_; rotate_left 1; focus (intro w s; have cA := s.1.cell; have cB := s.2.cell; go_simp; try with_reducible rfl))
                        try simp only [Act.put, List.setIfInBounds_toArray, List.set_cons_zero, List.set_cons_succ, List.getElem_toArray, List.getElem_cons_succ, List.getElem_cons_zero]; try simp only [Nat.zero_add]
                        refine wpAnyZ_last (by kernel_rfl) rfl (fun K hK => ?_)
                        have cC := Z.2.1.cell
                        have fC := Z.2.1.frozen
                        have lC := Z.2.1.lt
                        go_simp
                        refine hK.out _ _ ?_
                        clear hK K
                        try simp only [Act.put]
                        refine wpAnyZ_done (by kernel_rfl) ?_ _
                        go_wp2_with fail
                        have hB : Blk (w8.setCell ⟨b, 8, none⟩ (.slice A8 (m + 1) c8)) b 30 #[.int .i64 x0, .int .i64 x1, .int .i64 x2, .int .i64 x3, .int .i64 x4, .int .i64 x5, .int .i64 x6, .int .i64 x7, .slice A8 (m + 1) c8] := by simpa using Z.2.1.set_ 8 (.slice A8 (m + 1) c8)
                        go_roundw
                        case rel => exact ⟨A8, m + 1, c8, ms ++ [mk], by omega, (O8.far (O8.ne Z.2.1 (by decide)) 8 _).mono T.2.2.1, hB, hB, Z.2.2.2.1.far (p := ⟨b, 8, none⟩) (Nat.ne_of_lt lR) _, Z.2.2.2.2.set (b := b) (i := 8) (Nat.le_of_lt lR) _⟩
                        case measure => (have e0 := HT0.out; have e1 := hB.cell 8; simp [slLen', e0, e1]; omega)
                    rw [show decide ((m : Int) < 8 + r5) = false from decide_eq_false hmc]
                    clear hr5
                    go_wp2_with fail
                    go_meet
                    exact CoE.of Z (by omega)
                · have b6 : (r3 == 6) = false := by simpa using h6
                  go_wp2_with fail
                  go_meet
                  exact ⟨x4, x5, x6, x7, _, m, d, ms, by omega, O, BC, R0, HD⟩
  case rest =>
    clear O BC R0 HD
    obtain ⟨x4, x5, x6, x7, C, m, d, ms, hm10, O, BC, R0, HD⟩ := hcut
    have cC := BC.cell
    have lC := BC.lt
    have cR := R0.cell
    have fR := R0.frozen
    have lR' := R0.lt
    go_wp2_with fail
    have F := (R0.ch9 (.int .i64 x0) (.int .i64 x1) (.int .i64 x2) (.int .i64 x3) (.int .i64 x4) (.int .i64 x5) (.int .i64 x6) (.int .i64 x7) (.slice C m d)).cell
    refine bodyPost_ret (v := .agg #[.int .i64 x0, .int .i64 x1, .int .i64 x2, .int .i64 x3, .int .i64 x4, .int .i64 x5, .int .i64 x6, .int .i64 x7, .slice C m d]) (by simp [results, Tryz.results32, go_sem, F]) rfl ⟨x0, x1, x2, x3, x4, x5, x6, x7, C, m, d, ms, rfl, (O.fr9 (O.ne R0 (by decide)) _ _ _ _ _ _ _ _ _).mono (by omega), hm10, ?_, ?_⟩
    · exact DrT.dr (ws := w) (HD.fr9 (Nat.le_refl _) _ _ _ _ _ _ _ _ _)
    · exact DrT.gr (w0 := w0) (g := g) (A := A) (n := n) (c := c) (HD.fr9 (Nat.le_refl _) _ _ _ _ _ _ _ _ _)
end Go.Proofs.YteofhfefbphjdaaGreatDoor
