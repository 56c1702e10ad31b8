/- Walks: the source of numbers that the reference draws from: it is made of the code, and each number is below its bound. No condition. Walks: the laws' own small functions on codes and on slices of numbers. No condition. -/
import Derived.Test.YteofhfefbphjdaaGreatDoorK
import Derived.Outline
import Derived.Deep.Cut
namespace Go.Proofs.YteofhfefbphjdaaGreatDoor
open Go.RowKit Go.WideShapes Go.ChangeShapes Go.Deep
/-- A slice of n bytes. -/
def Rd8 (w : World) (A : Option Addr) (n : Nat) : Prop := ∃ b o, (0 < n → A = some ⟨b, o, none⟩) ∧ ∀ j, j < n → ∃ x : Int, w.cell? ⟨b, o + j, none⟩ = some (.int .u8 x) ∧ 0 ≤ x ∧ x ≤ 255
theorem Rd8.q {w w' : World} {A : Option Addr} {n : Nat} (h : Rd8 w A n) (hq : Q w w') : Rd8 w' A n := by
  obtain ⟨b, o, hA, hc⟩ := h
  refine ⟨b, o, hA, fun j hj => ?_⟩
  obtain ⟨x, hx, h1⟩ := hc j hj
  exact ⟨x, hq.cell hx, h1⟩
theorem Rd8.at_ {w : World} {A : Option Addr} {n k : Nat} (h : Rd8 w A n) (hk : k < n) : ∃ b o x, A = some ⟨b, o, none⟩ ∧ w.cell? ⟨b, o + k, none⟩ = some (.int .u8 x) ∧ 0 ≤ x ∧ x ≤ 255 := by
  obtain ⟨b, o, hA, hc⟩ := h
  obtain ⟨x, hx, h1⟩ := hc k hk
  exact ⟨b, o, x, hA (by omega), hx, h1⟩
theorem open_bytes8 {P : Program} {H : Type} {enc : TypeId × Value → H} {w : World} {base : Nat} {spare : Nat → Bool} {held : Bool} {r : Reach} {b0 : Nat} {t e : TypeId} {v : Value} {d : DataW H} {p : List MemPlace}
    (ht : P.underlying t = some (.slice e)) (he : P.underlying e = some (.int .u8)) (hC : P.cellsOf e = 1) (hv : Value.okWide P w r b0 t v) (h : DataW.Trod enc P w base spare held t v d p) :
    ∃ A len cap, v = .slice A len cap ∧ Rd8 w A len ∧ len ≤ cap ∧ cap ≤ maxLen := by
  obtain ⟨A, len, cap, rfl⟩ := okWide_slice ht hv
  obtain ⟨fuel, hf⟩ := h
  rcases open_slice ht hf with ⟨hcs, _⟩ | ⟨a, len', cap', m, n, D, Pl, hcs, hb, hl, hm, hmm, hx, hi⟩
  · simp [Value.cells] at hcs
    obtain ⟨rfl, rfl, rfl⟩ := hcs
    exact ⟨none, 0, 0, rfl, ⟨0, 0, fun h => absurd h (by simp), fun j hj => absurd hj (by simp)⟩, Nat.le_refl _, Nat.zero_le _⟩
  · simp [Value.cells] at hcs
    obtain ⟨rfl, rfl, rfl⟩ := hcs
    have hlm : len ≤ m := by rw [hmm]; split <;> omega
    have hX : ∀ i, i < len → ∃ x : Int, w.cell? (a.add i) = some (.int .u8 x) ∧ 0 ≤ x ∧ x ≤ 255 := by
      intro i hil
      obtain ⟨cs', hc, ht'⟩ := hi i (by omega)
      rw [hC] at hc
      obtain ⟨x, rfl, _, hw⟩ := DataW.trod_int he ht'
      obtain ⟨_, hcl, hat⟩ := World.cells?_some hc
      have h1 := hat 0 (by omega)
      rw [Nat.mul_one] at h1
      refine ⟨x, ?_, by simpa [Lit.wf, IntKind.min, IntKind.max, IntKind.signed, IntKind.bits] using hw⟩
      have h0 : (a.add i).add 0 = a.add i := by simp [Addr.add]
      rw [h0] at h1
      simpa using h1
    refine ⟨some a, len, cap, rfl, ?_, hl, hm⟩
    rcases Nat.eq_zero_or_pos len with rfl | hpos
    · exact ⟨0, 0, fun h => absurd h (by simp), fun j hj => absurd hj (by simp)⟩
    · obtain ⟨b, off, spot⟩ := a
      obtain ⟨x0, hx0, _⟩ := hX 0 hpos
      have hspot : spot = none := by simpa [Addr.add] using World.cell?_spot hx0
      subst hspot
      refine ⟨b, off, fun _ => rfl, fun j hj => ?_⟩
      obtain ⟨x, hx, h1⟩ := hX j hj
      rw [Go.WideShapes.add_plain] at hx
      exact ⟨x, hx, h1⟩
/-- Block g is a source over n bytes. -/
def Src (w : World) (g : Nat) (A : Option Addr) (n c : Nat) : Prop := ∃ at_ : Nat, ∃ sd : Int, Blk w g 72 #[.slice A n c, .int .i64 at_, .int .i64 sd] ∧ at_ ≤ n ∧ 0 ≤ sd ∧ sd < 2147483647
/-- What a drawing law knows between two draws: what is old stands, the source lies in block g of its own. -/
structure Dr (w0 w : World) (g : Nat) (A : Option Addr) (n c : Nat) : Prop where
  q : Q w0 w
  src : Src w g A n c
  hg : w0.heap.size ≤ g
  rd : Rd8 w0 A n
theorem Dr.lt {w0 w : World} {g : Nat} {A : Option Addr} {n c : Nat} (h : Dr w0 w g A n c) : g < w.heap.size := by
  obtain ⟨_, _, hb, _⟩ := h.src
  exact hb.lt
theorem Dr.next {w0 w w' : World} {g : Nat} {A : Option Addr} {n c : Nat} (h : Dr w0 w g A n c) (hq : Q w w') : Dr w0 w' g A n c := by
  obtain ⟨a, s, hb, h1⟩ := h.src
  exact ⟨h.q.trans hq, ⟨a, s, hb.q hq, h1⟩, h.hg, h.rd⟩
/-- A write to another block of the call's own. -/
theorem Dr.far {w0 w w' : World} {g : Nat} {A : Option Addr} {n c : Nat} {row : Option Nat} (h : Dr w0 w g A n c) (hg : w.grownBy w' row) (hr : ∀ k, row = some k → w0.heap.size ≤ k ∧ k ≠ g) : Dr w0 w' g A n c := by
  obtain ⟨a, s, hb, h1⟩ := h.src
  exact ⟨h.q.grown hg (fun k hk => (hr k hk).1), ⟨a, s, hb.grown hg (fun e => (hr g e.symm).2 rfl), h1⟩, h.hg, h.rd⟩
def DrPost (w0 : World) (g : Nat) (A : Option Addr) (n c : Nat) (k : Int) (w : World) (e : Ending) (w' : World) : Prop := ∃ r : Int, e = .returned (.int .i64 r) ∧ (0 ≤ r ∧ (r < k ∨ r = 0)) ∧ Dr w0 w' g A n c ∧ w.grownBy w' (some g)
theorem Src.set2 {w : World} {g : Nat} {A : Option Addr} {n c at_ : Nat} {sd : Int} (h : Blk w g 72 #[.slice A n c, .int .i64 at_, .int .i64 sd]) (v : Int) : Blk (w.setCell ⟨g, 2, none⟩ (.int .i64 v)) g 72 #[.slice A n c, .int .i64 at_, .int .i64 v] := by
  have := h.set_ 2 (.int .i64 v)
  simpa using this
theorem Src.set1 {w : World} {g : Nat} {A : Option Addr} {n c at_ : Nat} {sd : Int} (h : Blk w g 72 #[.slice A n c, .int .i64 at_, .int .i64 sd]) (v : Nat) : Blk (w.setCell ⟨g, 1, none⟩ (.int .i64 v)) g 72 #[.slice A n c, .int .i64 v, .int .i64 sd] := by
  have := h.set_ 1 (.int .i64 v)
  simpa using this
theorem Dr.put {w0 w w' : World} {g : Nat} {A : Option Addr} {n c at_ : Nat} {sd : Int} (h : Dr w0 w g A n c) (hg : w.grownBy w' (some g)) (hb : Blk w' g 72 #[.slice A n c, .int .i64 at_, .int .i64 sd]) (h1 : at_ ≤ n) (h2 : 0 ≤ sd ∧ sd < 2147483647) : Dr w0 w' g A n c :=
  ⟨h.q.grown hg (fun k hk => by injection hk with hk; subst hk; exact h.hg), ⟨at_, sd, hb, h1, h2⟩, h.hg, h.rd⟩
set_option maxHeartbeats 1000000 in
theorem spec_Next {w0 w : World} {g : Nat} {A : Option Addr} {n c : Nat} (k : Int) (h : Dr w0 w g A n c) (hn : n ≤ 140737488355327) :
    Calls Tryz.prog 17 #[.pointer (some ⟨g, 0, none⟩), .int .i64 k] w (DrPost w0 g A n c k w) := by
  by_cases hk : k ≤ 1
  · go_enter Tryz.func17, Tryz.ntmps17
    go_wp2_with fail
    go_ret
    exact ⟨0, rfl, ⟨by omega, .inr rfl⟩, h, grown_refl _ _⟩
  · obtain ⟨a, s, hb, h1, h2, h3⟩ := h.src
    have c0 : w.cell? ⟨g, 2, none⟩ = some (.int .i64 s) := hb.cell 2
    have f0 := hb.frozen 2
    have HD := Lib.hid h
    clear h
    go_enter Tryz.func17, Tryz.ntmps17
    go_upto_region 4 with (fail)
    have hb1 := Src.set2 hb ((s * 48271 + 23) % 2147483647)
    have hg1 := grown_set (grown_refl w (some g)) 2 (.int .i64 ((s * 48271 + 23) % 2147483647))
    have hs0 : 0 ≤ (s * 48271 + 23) % 2147483647 := by omega
    have hs1 : (s * 48271 + 23) % 2147483647 < 2147483647 := by omega
    generalize hw1 : w.setCell ⟨g, 2, none⟩ (.int .i64 ((s * 48271 + 23) % 2147483647)) = w1 at *
    generalize (s * 48271 + 23) % 2147483647 = s1 at *
    clear c0 f0 hb hw1
    have HD1 := Lib.hid (Dr.put HD.out hg1 hb1 h1 ⟨hs0, hs1⟩)
    have e0 : w1.cell? ⟨g, 0, none⟩ = some (.slice A n c) := hb1.cell 0
    have e1 : w1.cell? ⟨g, 1, none⟩ = some (.int .i64 a) := hb1.cell 1
    have e2 : w1.cell? ⟨g, 2, none⟩ = some (.int .i64 s1) := hb1.cell 2
    by_cases hlt : a < n
    · obtain ⟨bl, o, x, rfl, hx, hx1, hx2⟩ := (HD1.out.rd.q HD1.out.q).at_ hlt
      have hltI : (a : Int) < (n : Int) := by omega
      have hge0 : (0 : Int) ≤ (a : Int) := by omega
      go_wp2_with fail
      refine wp_region_quiet_lit (by kernel_rfl) (by kernel_rfl) ?_
      repeat (any_goals (first | go_big_quiet_step ( fail) | quiet_step ( fail) | (refine wpQuiet_step (fun K hK => ?_); go_simp; split <;> (refine hK _ ?_; clear hK K))))
      all_goals (refine wpQuiet_nil ?_; intro _ hw'; obtain ⟨nq, hw''⟩ := hw'; subst hw'')
      obtain ⟨n1, rfl⟩ : ∃ n1, n1 = nq := ⟨_, rfl⟩
      all_goals go_wp2_with fail
      refine wp_region_quiet_lit (by kernel_rfl) (by kernel_rfl) ?_
      repeat (any_goals (first | go_big_quiet_step ( fail) | quiet_step ( fail) | (refine wpQuiet_step (fun K hK => ?_); go_simp; split <;> (refine hK _ ?_; clear hK K))))
      all_goals (refine wpQuiet_nil ?_; intro _ hw'; obtain ⟨nq, hw''⟩ := hw'; subst hw'')
      have f1 := hb1.frozen 1
      go_upto_region 8 with (fail)
      have hb2 := Src.set1 (hb1.drewN (n1 + nq)) (a + 1)
      have hg2 := grown_set (grown_drewN hg1 (n1 + nq)) 1 (.int .i64 ((a + 1 : Nat) : Int))
      rw [show ((a + 1 : Nat) : Int) = (a : Int) + 1 by omega] at hb2 hg2
      have hx3 := ((HD1.out.rd.q HD1.out.q).q ((Q.refl w1).drewN (n1 + nq)))
      have HD2 := Lib.hid (Dr.put (at_ := a + 1) HD.out hg2 (by rw [show ((a + 1 : Nat) : Int) = (a : Int) + 1 by omega]; exact hb2) (by omega) ⟨hs0, hs1⟩)
      clear hx3 hx e0 e1 e2 f1 hg1 hb1 HD1
      generalize hw2 : (w1.drewN (n1 + nq)).setCell ⟨g, 1, none⟩ (.int .i64 ((a : Int) + 1)) = w2 at *
      clear hw2
      have e0 : w2.cell? ⟨g, 0, none⟩ = some (.slice (some ⟨bl, o, none⟩) n c) := hb2.cell 0
      have e1 : w2.cell? ⟨g, 1, none⟩ = some (.int .i64 ((a : Int) + 1)) := hb2.cell 1
      obtain ⟨bl', o', x', hbl, hx', hx1', hx2'⟩ := (HD2.out.rd.q HD2.out.q).at_ hlt
      cases hbl
      have hpos : (0 : Int) ≤ s1 / 17 := by omega
      by_cases hk2 : k ≤ 256 ∧ ((a : Int) + 1) % 2 = 0
      · obtain ⟨hk3, hpar⟩ := hk2
        have hpb : (((a : Int) + 1) % 2 == 0) = true := by simpa using hpar
        clear hpar
        go_wp2_with fail
        refine wp_region_quiet_lit (by kernel_rfl) (by kernel_rfl) ?_
        repeat (any_goals (first | go_big_quiet_step ( fail) | quiet_step ( fail) | (refine wpQuiet_step (fun K hK => ?_); go_simp; split <;> (refine hK _ ?_; clear hK K))))
        all_goals (refine wpQuiet_nil ?_; intro _ hw'; obtain ⟨nq, hw''⟩ := hw'; subst hw'')
        all_goals go_wp2_with fail
        go_ret
        exact ⟨_, rfl, ⟨Int.emod_nonneg _ (by omega), .inl (Int.emod_lt_of_pos _ (show 0 < k by omega))⟩, HD2.out.next (by (repeat (first | assumption | exact Q.refl _ | refine Q.alloc ?_ _ | refine Q.drewN ?_ _ | refine Q.drew ?_))), grown_drewN hg2 _⟩
      · by_cases hk3 : k ≤ 256
        · have hpar : (((a : Int) + 1) % 2 == 0) = false := by simp; omega
          clear hk2
          go_wp2_with fail
          go_ret
          exact ⟨_, rfl, ⟨Int.emod_nonneg _ (by omega), .inl (Int.emod_lt_of_pos _ (show 0 < k by omega))⟩, HD2.out.next (by (repeat (first | assumption | exact Q.refl _ | refine Q.alloc ?_ _ | refine Q.drewN ?_ _ | refine Q.drew ?_))), hg2⟩
        · clear hk2
          go_wp2_with fail
          go_ret
          exact ⟨_, rfl, ⟨Int.emod_nonneg _ (by omega), .inl (Int.emod_lt_of_pos _ (show 0 < k by omega))⟩, HD2.out.next (by (repeat (first | assumption | exact Q.refl _ | refine Q.alloc ?_ _ | refine Q.drewN ?_ _ | refine Q.drew ?_))), hg2⟩
    · have hltI : decide ((a : Int) < (n : Int)) = false := by simp; omega
      go_wp2_with fail
      refine wp_region_quiet_lit (by kernel_rfl) (by kernel_rfl) ?_
      repeat (any_goals (first | go_big_quiet_step ( fail) | quiet_step ( fail) | (refine wpQuiet_step (fun K hK => ?_); go_simp; split <;> (refine hK _ ?_; clear hK K))))
      all_goals (refine wpQuiet_nil ?_; intro _ hw'; obtain ⟨nq, hw''⟩ := hw'; subst hw'')
      all_goals go_wp2_with fail
      go_ret
      exact ⟨_, rfl, ⟨Int.emod_nonneg _ (by omega), .inl (Int.emod_lt_of_pos _ (show 0 < k by omega))⟩, HD1.out.next (by (repeat (first | assumption | exact Q.refl _ | refine Q.alloc ?_ _ | refine Q.drewN ?_ _ | refine Q.drew ?_))), grown_drewN hg1 _⟩
def FromPost (w : World) (A : Option Addr) (n c : Nat) (e : Ending) (w' : World) : Prop := e = .returned (.pointer (some ⟨w.heap.size, 0, none⟩)) ∧ Dr w w' w.heap.size A n c
set_option maxHeartbeats 1000000 in
theorem spec_From (A : Option Addr) (n c : Nat) (w : World) (ha : Rd8 w A n) (hn : n ≤ 140737488355327) : Calls Tryz.prog 15 #[.slice A n c] w (FromPost w A n c) := by
  go_enter Tryz.func15, Tryz.ntmps15
  go_wp2_with fail
  have hb0 := Blk.new w 72 #[.slice A n c, .int .i64 0, .int .i64 61657]
  go_loopw [4] (fun i wr => ∃ (k : Nat) (sd : Int), k ≤ n ∧ i = .int .i64 k ∧ Blk wr w.heap.size 72 #[.slice A n c, .int .i64 (0 : Nat), .int .i64 sd] ∧ (0 ≤ sd ∧ sd < 2147483647) ∧ Q w wr) (fun i _ => n - (intOf i).toNat)
  case atStart => exact ⟨0, 61657, by omega, rfl, hb0, by omega, by (repeat (first | assumption | exact Q.refl _ | refine Q.alloc ?_ _ | refine Q.drewN ?_ _ | refine Q.drew ?_))⟩
  case round =>
    clear hb0
    obtain ⟨k, sd, hk, rfl, hb, hsd, hq⟩ := hrel
    by_cases hlt : k < n ∧ (k : Int) < 64
    · obtain ⟨hlt, h64⟩ := hlt
      obtain ⟨bl, o, x, rfl, hx, hx1, hx2⟩ := (ha.q hq).at_ hlt
      have hltI : (k : Int) < (n : Int) := by omega
      have l0 := later_cell (show wr.cell? ⟨w.heap.size, 2, none⟩ = some (.int .i64 sd) from hb.cell 2)
      have l1 := later_cell hx
      go_wp2_with fail
      refine wp_region_later_tail 15 (by kernel_rfl) (by kernel_rfl) ?_
      simp only [List.take_succ_cons, List.take_zero, List.drop_succ_cons, List.drop_zero]
      repeat (any_goals (first | go_big_quiet_step (fail) | quiet_step (fail) | (refine wpQuiet_step (fun K hK => ?_); go_simp; split <;> (refine hK _ ?_; clear hK K))))
      refine wpQuiet_nil ?_
      rintro w2 ⟨⟨w3, q2⟩, hw⟩
      obtain rfl : w2 = w3 := hw
      have hb2 := hb.q q2
      have c2 : w2.cell? ⟨w.heap.size, 2, none⟩ = some (.int .i64 sd) := hb2.cell 2
      have f2 := hb2.frozen 2
      go_wp2_with fail
      go_roundw
      case rel => exact ⟨k + 1, _, by omega, by go_num, Src.set2 hb2 _, ⟨Int.emod_nonneg _ (by omega), Int.emod_lt_of_pos _ (by omega)⟩, (hq.trans q2).setCell (p := ⟨w.heap.size, 2, none⟩) (Nat.le_refl _) _⟩
      case measure => simp [intOf]; omega
    · by_cases hlt2 : k < n
      · have h64 : ¬ (k : Int) < 64 := fun h => hlt ⟨hlt2, h⟩
        clear hlt
        go_wp2_with fail
        go_ret
        exact ⟨rfl, hq, ⟨0, sd, hb, by omega, hsd.1, hsd.2⟩, Nat.le_refl _, ha⟩
      · clear hlt
        go_wp2_with fail
        go_ret
        exact ⟨rfl, hq, ⟨0, sd, hb, by omega, hsd.1, hsd.2⟩, Nat.le_refl _, ha⟩
/-! ### A function that draws: from its first world ws on, only block g and new blocks have turned -/
structure DrT (w0 ws w : World) (g : Nat) (A : Option Addr) (n c : Nat) : Prop where
  dr : Dr w0 w g A n c
  gr : ws.grownBy w (some g)
  glt : g < ws.heap.size
theorem DrT.start {w0 w : World} {g : Nat} {A : Option Addr} {n c : Nat} (h : Dr w0 w g A n c) : DrT w0 w w g A n c := ⟨h, grown_refl _ _, h.lt⟩
theorem grown_trans3 {a b c : World} {row : Option Nat} (h : a.grownBy b row) (k : b.grownBy c row) : a.grownBy c row :=
  ⟨k.os.trans h.os, k.tape.trans h.tape, k.output.trans h.output, Nat.le_trans h.size k.size, fun i hi hne => (k.block i (Nat.lt_of_lt_of_le hi h.size) hne).trans (h.block i hi hne)⟩
theorem DrT.step {w0 ws w w' : World} {g : Nat} {A : Option Addr} {n c : Nat} (h : DrT w0 ws w g A n c) (d : Dr w0 w' g A n c) (k : w.grownBy w' (some g)) : DrT w0 ws w' g A n c := ⟨d, grown_trans3 h.gr k, h.glt⟩
theorem DrT.q {w0 ws w w' : World} {g : Nat} {A : Option Addr} {n c : Nat} (h : DrT w0 ws w g A n c) (hq : Q w w') : DrT w0 ws w' g A n c := ⟨h.dr.next hq, grown_q h.gr hq, h.glt⟩
theorem DrT.alloc {w0 ws w : World} {g : Nat} {A : Option Addr} {n c : Nat} (h : DrT w0 ws w g A n c) (o : Obj) : DrT w0 ws (w.alloc o) g A n c := h.q ((Q.refl w).alloc o)
theorem DrT.drewN {w0 ws w : World} {g : Nat} {A : Option Addr} {n c : Nat} (h : DrT w0 ws w g A n c) (k : Nat) : DrT w0 ws (w.drewN k) g A n c := h.q ((Q.refl w).drewN k)
theorem DrT.drew {w0 ws w : World} {g : Nat} {A : Option Addr} {n c : Nat} (h : DrT w0 ws w g A n c) : DrT w0 ws w.drew g A n c := h.q ((Q.refl w).drew)
theorem DrT.size {w0 ws w : World} {g : Nat} {A : Option Addr} {n c : Nat} (h : DrT w0 ws w g A n c) : ws.heap.size ≤ w.heap.size := h.gr.size
theorem DrT.back {w0 ws w : World} {g : Nat} {A : Option Addr} {n c : Nat} (_h : DrT w0 ws w g A n c) (hw : w0.heap.size ≤ ws.heap.size) : w0.heap.size ≤ ws.heap.size := hw
/-- A write to a block that the function has made. -/
theorem DrT.set {w0 ws w : World} {g : Nat} {A : Option Addr} {n c : Nat} (h : DrT w0 ws w g A n c) {b i : Nat} (hb : ws.heap.size ≤ b) (u : Value) : DrT w0 ws (w.setCell ⟨b, i, none⟩ u) g A n c := by
  have hne : b ≠ g := by have := h.glt; omega
  have hg0 := h.dr.hg
  have hgl := h.glt
  refine ⟨h.dr.far (row := some b) (grown_set (grown_refl w _) i u) (fun k hk => ?_), ?_, h.glt⟩
  · injection hk with hk
    subst hk
    exact ⟨by omega, hne⟩
  · exact ⟨h.gr.os, h.gr.tape, h.gr.output, by simpa [World.setCell] using h.gr.size, fun j hj hjn => (Below.heap_setCell w ⟨b, i, none⟩ u j (by simp only; omega)).trans (h.gr.block j hj hjn)⟩
theorem grown_box {w w1 : World} {g : Nat} {cs : Array Value} {T : TypeId} (h : (w.alloc (.cells cs T)).grownBy w1 (some g)) (hg : g < w.heap.size) : Blk w1 w.heap.size T cs := (Blk.new w T cs).grown h (by simp; omega)
theorem grown_boxD {w w1 : World} {g : Nat} {cs : Array Value} {T : TypeId} (h : (w.alloc (.cells cs T)).drew.grownBy w1 (some g)) (hg : g < w.heap.size) : Blk w1 w.heap.size T cs := (Blk.new w T cs).drew.grown h (by simp; omega)
theorem Blk.keepG {w w1 : World} {b g : Nat} {cs : Array Value} {T : TypeId} (hb : Blk w b T cs) (h : w.grownBy w1 (some g)) (hne : b ≠ g) : Blk w1 b T cs := hb.grown h (by simpa using hne)
def IntsA (cs : Array Value) (k : Nat) : Prop := ∃ xs : List Int, cs = (xs.map (Value.int .i64)).toArray ∧ xs.length = k
theorem Blk.pick {w : World} {b m k : Nat} {cs : Array Value} {T : TypeId} (hb : Blk w b T cs) (h : IntsA cs k) (hm : m < k) : ∃ v : Int, w.cell? ⟨b, m, none⟩ = some (.int .i64 v) := by
  obtain ⟨xs, rfl, hl⟩ := h
  refine ⟨xs.getD m 0, ?_⟩
  rw [hb.cell m]
  simp [List.getD_eq_getElem?_getD, List.getElem?_eq_getElem (show m < xs.length by omega)]
theorem pick2 (a0 a1 : Int) {m : Nat} (h : 0 ≤ (m : Int) ∧ ((m : Int) < 2 ∨ (m : Int) = 0)) : ∃ v : Int, (#[Value.int .i64 a0, Value.int .i64 a1] : Array Value)[m]? = some (.int .i64 v) ∧ (∀ h, ([Value.int .i64 a0, Value.int .i64 a1] : List Value)[m]'h = .int .i64 v) ∧ (m : Int) < 2 ∧ m < 2 := by
  have hm : m < 2 := by omega
  match m, hm with
  | 0, _ => exact ⟨a0, rfl, fun _ => rfl, by decide, by decide⟩
  | 1, _ => exact ⟨a1, rfl, fun _ => rfl, by decide, by decide⟩
theorem pick3 (a0 a1 a2 : Int) {m : Nat} (h : 0 ≤ (m : Int) ∧ ((m : Int) < 3 ∨ (m : Int) = 0)) : ∃ v : Int, (#[Value.int .i64 a0, Value.int .i64 a1, Value.int .i64 a2] : Array Value)[m]? = some (.int .i64 v) ∧ (∀ h, ([Value.int .i64 a0, Value.int .i64 a1, Value.int .i64 a2] : List Value)[m]'h = .int .i64 v) ∧ (m : Int) < 3 ∧ m < 3 := by
  have hm : m < 3 := by omega
  match m, hm with
  | 0, _ => exact ⟨a0, rfl, fun _ => rfl, by decide, by decide⟩
  | 1, _ => exact ⟨a1, rfl, fun _ => rfl, by decide, by decide⟩
  | 2, _ => exact ⟨a2, rfl, fun _ => rfl, by decide, by decide⟩
theorem pick4 (a0 a1 a2 a3 : Int) {m : Nat} (h : 0 ≤ (m : Int) ∧ ((m : Int) < 4 ∨ (m : Int) = 0)) : ∃ v : Int, (#[Value.int .i64 a0, Value.int .i64 a1, Value.int .i64 a2, Value.int .i64 a3] : Array Value)[m]? = some (.int .i64 v) ∧ (∀ h, ([Value.int .i64 a0, Value.int .i64 a1, Value.int .i64 a2, Value.int .i64 a3] : List Value)[m]'h = .int .i64 v) ∧ (m : Int) < 4 ∧ m < 4 := by
  have hm : m < 4 := by omega
  match m, hm with
  | 0, _ => exact ⟨a0, rfl, fun _ => rfl, by decide, by decide⟩
  | 1, _ => exact ⟨a1, rfl, fun _ => rfl, by decide, by decide⟩
  | 2, _ => exact ⟨a2, rfl, fun _ => rfl, by decide, by decide⟩
  | 3, _ => exact ⟨a3, rfl, fun _ => rfl, by decide, by decide⟩
theorem pick5 (a0 a1 a2 a3 a4 : Int) {m : Nat} (h : 0 ≤ (m : Int) ∧ ((m : Int) < 5 ∨ (m : Int) = 0)) : ∃ v : Int, (#[Value.int .i64 a0, Value.int .i64 a1, Value.int .i64 a2, Value.int .i64 a3, Value.int .i64 a4] : Array Value)[m]? = some (.int .i64 v) ∧ (∀ h, ([Value.int .i64 a0, Value.int .i64 a1, Value.int .i64 a2, Value.int .i64 a3, Value.int .i64 a4] : List Value)[m]'h = .int .i64 v) ∧ (m : Int) < 5 ∧ m < 5 := by
  have hm : m < 5 := by omega
  match m, hm with
  | 0, _ => exact ⟨a0, rfl, fun _ => rfl, by decide, by decide⟩
  | 1, _ => exact ⟨a1, rfl, fun _ => rfl, by decide, by decide⟩
  | 2, _ => exact ⟨a2, rfl, fun _ => rfl, by decide, by decide⟩
  | 3, _ => exact ⟨a3, rfl, fun _ => rfl, by decide, by decide⟩
  | 4, _ => exact ⟨a4, rfl, fun _ => rfl, by decide, by decide⟩
theorem pick6 (a0 a1 a2 a3 a4 a5 : Int) {m : Nat} (h : 0 ≤ (m : Int) ∧ ((m : Int) < 6 ∨ (m : Int) = 0)) : ∃ v : Int, (#[Value.int .i64 a0, Value.int .i64 a1, Value.int .i64 a2, Value.int .i64 a3, Value.int .i64 a4, Value.int .i64 a5] : Array Value)[m]? = some (.int .i64 v) ∧ (∀ h, ([Value.int .i64 a0, Value.int .i64 a1, Value.int .i64 a2, Value.int .i64 a3, Value.int .i64 a4, Value.int .i64 a5] : List Value)[m]'h = .int .i64 v) ∧ (m : Int) < 6 ∧ m < 6 := by
  have hm : m < 6 := by omega
  match m, hm with
  | 0, _ => exact ⟨a0, rfl, fun _ => rfl, by decide, by decide⟩
  | 1, _ => exact ⟨a1, rfl, fun _ => rfl, by decide, by decide⟩
  | 2, _ => exact ⟨a2, rfl, fun _ => rfl, by decide, by decide⟩
  | 3, _ => exact ⟨a3, rfl, fun _ => rfl, by decide, by decide⟩
  | 4, _ => exact ⟨a4, rfl, fun _ => rfl, by decide, by decide⟩
  | 5, _ => exact ⟨a5, rfl, fun _ => rfl, by decide, by decide⟩
theorem Blk.set3_0 {w : World} {b : Nat} {T : TypeId} {x y z : Value} (h : Blk w b T #[x, y, z]) (v : Value) : Blk (w.setCell ⟨b, 0, none⟩ v) b T #[v, y, z] := by
  have := h.set_ 0 v
  simpa using this
theorem Blk.set3_1 {w : World} {b : Nat} {T : TypeId} {x y z : Value} (h : Blk w b T #[x, y, z]) (v : Value) : Blk (w.setCell ⟨b, 1, none⟩ v) b T #[x, v, z] := by
  have := h.set_ 1 v
  simpa using this
theorem Blk.set3_2 {w : World} {b : Nat} {T : TypeId} {x y z : Value} (h : Blk w b T #[x, y, z]) (v : Value) : Blk (w.setCell ⟨b, 2, none⟩ v) b T #[x, y, v] := by
  have := h.set_ 2 v
  simpa using this
def Draw3 (w0 w : World) (g : Nat) (A : Option Addr) (n c : Nat) (e : Ending) (w' : World) : Prop := ∃ x y z : Int, e = .returned (.agg #[.int .i64 x, .int .i64 y, .int .i64 z]) ∧ Dr w0 w' g A n c ∧ w.grownBy w' (some g)
end Go.Proofs.YteofhfefbphjdaaGreatDoor
namespace Go.Proofs.YteofhfefbphjdaaGreatDoor
open Go.RowKit Go.WideShapes Go.ChangeShapes
theorem big_any (A : Option Addr) (n c : Nat) (w : World) (hn : n ≤ 9223372036854775807) : Calls Tryz.prog 5 #[.slice A n c] w fun e w' => e = .returned (.bool (decide (4096 < n))) ∧ w = w' := by
  go_enter Tryz.func5, Tryz.ntmps5
  go_wp2
  go_ret
  exact ⟨ret_bool (by rw [Bool.eq_iff_iff]; simp; omega), rfl⟩
theorem mem_take_succ {xs : List Int} {x : Int} {k : Nat} (hk : k < xs.length) : x ∈ xs.take (k + 1) ↔ x ∈ xs.take k ∨ x = el xs k := by
  rw [List.take_succ_eq_append_getElem hk, List.mem_append, List.mem_singleton]
  unfold el
  rw [List.getD_eq_getElem?_getD, List.getElem?_eq_getElem hk]
  rfl
end Go.Proofs.YteofhfefbphjdaaGreatDoor
