/- Walks: rows of incidents that are sorted: what is read, what a swap leaves, insertion. No condition. Walks: ranges of incidents swapped and rotated. No condition. -/
import Derived.Test.YtkpdoikjfibflaaGreatDoorUmP
import Derived.Test.YtkpdoikjfibflaaGreatDoorEqIncident
import Derived.Lib.SliceRun
import Derived.Shelf.Abstract
namespace Go.Proofs.YtkpdoikjfibflaaGreatDoor
open Go.RowKit Go.WideShapes Go.ChangeShapes Go.Shelf
/-- The row in block g holds the rows of X, that at f j at place j. -/
structure SO (w : World) (B g N c : Nat) (X : List Int) (f : Nat → Nat) : Prop where
  own : Own w B 42 5 (.slice (some ⟨g, 0, none⟩) N c) N (flatP X f N)
  lt : ∀ j, j < N → f j < N
def KB (X : List Int) (N : Nat) : Prop := ∀ i, i < N → 0 ≤ keyI X i ∧ keyI X i ≤ 1000000000
section
variable {w w' : World} {B g N c : Nat} {X : List Int} {f : Nat → Nat}
theorem SO.q (h : SO w B g N c X f) (q : Q w w') : SO w' B g N c X f := ⟨h.own.q q, h.lt⟩
theorem SO.cell (h : SO w B g N c X f) {j r : Nat} (hj : j < N) (hr : r < 5) : w.cell? ⟨g, j * 5 + r, none⟩ = some (.int .i64 (el X (f j * 5 + r))) := by
  have h1 := h.own.cell (j := j * 5 + r) (by omega)
  have h2 := flatP_el X f hr N hj
  unfold el at h2 ⊢
  rw [h1, h2]
theorem SO.cells (h : SO w B g N c X f) {j : Nat} (hj : j < N) : w.cell? ⟨g, j * 5, none⟩ = some (.int .i64 (el X (f j * 5))) ∧ w.cell? ⟨g, j * 5 + 1, none⟩ = some (.int .i64 (el X (f j * 5 + 1))) ∧ w.cell? ⟨g, j * 5 + 2, none⟩ = some (.int .i64 (el X (f j * 5 + 2))) ∧
    w.cell? ⟨g, j * 5 + 3, none⟩ = some (.int .i64 (el X (f j * 5 + 3))) ∧ w.cell? ⟨g, j * 5 + 4, none⟩ = some (.int .i64 (el X (f j * 5 + 4))) :=
  ⟨h.cell (r := 0) hj (by decide), h.cell (r := 1) hj (by decide), h.cell (r := 2) hj (by decide), h.cell (r := 3) hj (by decide), h.cell (r := 4) hj (by decide)⟩
theorem SO.frozen (h : SO w B g N c X f) (i : Nat) : w.frozen? ⟨g, i, none⟩ = false := h.own.frozen i
theorem SO.block (h : SO w B g N c X f) : g < w.heap.size := (h.own.from _ rfl).2
theorem swp_lt {j k : Nat} (h : ∀ j, j < N → f j < N) (hj : j < N) (hk : k < N) : ∀ i, i < N → (f ∘ swpF j k) i < N := fun i hi => by
  show f (swpF j k i) < N
  unfold swpF
  split
  · exact h _ hk
  · split
    · exact h _ hj
    · exact h _ hi
theorem SO.swap (h : SO w B g N c X f) {j k : Nat} (hj : j < N) (hk : k < N) : SO ((((((((((w.setCell ⟨g, j * 5, none⟩ (.int .i64 (el X (f k * 5)))).setCell ⟨g, j * 5 + 1, none⟩ (.int .i64 (el X (f k * 5 + 1)))).setCell ⟨g, j * 5 + 2, none⟩ (.int .i64 (el X (f k * 5 + 2)))).setCell ⟨g, j * 5 + 3, none⟩ (.int .i64 (el X (f k * 5 + 3)))).setCell ⟨g, j * 5 + 4, none⟩ (.int .i64 (el X (f k * 5 + 4)))).setCell ⟨g, k * 5, none⟩ (.int .i64 (el X (f j * 5)))).setCell ⟨g, k * 5 + 1, none⟩ (.int .i64 (el X (f j * 5 + 1)))).setCell ⟨g, k * 5 + 2, none⟩ (.int .i64 (el X (f j * 5 + 2)))).setCell ⟨g, k * 5 + 3, none⟩ (.int .i64 (el X (f j * 5 + 3)))).setCell ⟨g, k * 5 + 4, none⟩ (.int .i64 (el X (f j * 5 + 4)))) B g N c X (f ∘ swpF j k) := by
  refine ⟨?_, swp_lt h.lt hj hk⟩
  have h1 := ((((h.own.stored (j * 5) (el X (f k * 5))).stored (j * 5 + 1) (el X (f k * 5 + 1))).stored (j * 5 + 2) (el X (f k * 5 + 2))).stored (j * 5 + 3) (el X (f k * 5 + 3))).stored (j * 5 + 4) (el X (f k * 5 + 4))
  have e1 := flatP_set (X := X) (f := f) (n := N) (j := j) (k := f k) hj
  unfold set5 at e1
  rw [e1] at h1
  have h2 := ((((h1.stored (k * 5) (el X (f j * 5))).stored (k * 5 + 1) (el X (f j * 5 + 1))).stored (k * 5 + 2) (el X (f j * 5 + 2))).stored (k * 5 + 3) (el X (f j * 5 + 3))).stored (k * 5 + 4) (el X (f j * 5 + 4))
  have e2 := flatP_set (X := X) (f := upd f j (f k)) (n := N) (j := k) (k := f j) hk
  unfold set5 at e2
  rw [e2, upd_swp] at h2
  exact h2
theorem grown_swap {a : World} (h : a.grownBy w (some g)) (j k : Nat) (v0 v1 v2 v3 v4 u0 u1 u2 u3 u4 : Value) : a.grownBy ((((((((((w.setCell ⟨g, j * 5, none⟩ v0).setCell ⟨g, j * 5 + 1, none⟩ v1).setCell ⟨g, j * 5 + 2, none⟩ v2).setCell ⟨g, j * 5 + 3, none⟩ v3).setCell ⟨g, j * 5 + 4, none⟩ v4).setCell ⟨g, k * 5, none⟩ u0).setCell ⟨g, k * 5 + 1, none⟩ u1).setCell ⟨g, k * 5 + 2, none⟩ u2).setCell ⟨g, k * 5 + 3, none⟩ u3).setCell ⟨g, k * 5 + 4, none⟩ u4) (some g) :=
  grown_set (grown_set (grown_set (grown_set (grown_set (grown_set (grown_set (grown_set (grown_set (grown_set h _ _) _ _) _ _) _ _) _ _) _ _) _ _) _ _) _ _) _ _
end
theorem impl_cmpI (a0 a1 a2 a3 a4 b0 b1 b2 b3 b4 : Int) (w : World) (ha : 0 ≤ a0 ∧ a0 ≤ 1000000000) (hb : 0 ≤ b0 ∧ b0 ≤ 1000000000) :
    Calls Tryz.prog 22 #[.agg #[.int .i64 a0, .int .i64 a1, .int .i64 a2, .int .i64 a3, .int .i64 a4], .agg #[.int .i64 b0, .int .i64 b1, .int .i64 b2, .int .i64 b3, .int .i64 b4]] w fun e w' => e = .returned (.int .i64 (a0 - b0)) ∧ Q w w' := by
  go_enter Tryz.func22, Tryz.ntmps22
  go_wp2_with fail
  go_ret
  exact ⟨rfl, by (repeat (first | assumption | exact Q.refl _ | refine Q.alloc ?_ _ | refine Q.drewN ?_ _ | refine Q.drew ?_))⟩
theorem Sorts.one {K : Nat → Int} {a : Nat} {f g : Nat → Nat} (h : Sorts K a (a + 1) f g) : Sorts K a a f g := by
  obtain ⟨p, hp, rfl, _⟩ := h
  refine ⟨p, ⟨fun i _ => ?_, fun i h1 h2 => by omega, hp.inj, fun x h1 h2 => by omega⟩, rfl, fun i j h1 h2 h3 => by omega⟩
  by_cases c : a ≤ i ∧ i < a + 1
  · have := hp.into i c.1 c.2; omega
  · exact hp.out i c
set_option maxRecDepth 100000 in
set_option maxHeartbeats 2000000 in
theorem run_insertion (B g N c : Nat) (X : List Int) (f : Nat → Nat) (a b : Nat) (w : World) (h : SO w B g N c X f) (hK : KB X N) (hN : N ≤ 1000000000) (hab : a ≤ b) (hb : b ≤ N) (hI : Inc f a b) :
    Calls Tryz.prog 59 #[.slice (some ⟨g, 0, none⟩) N c, .int .i64 a, .int .i64 b, .func (.func 22) #[] #[]] w fun e w' => e = .returned (.tuple #[]) ∧ ∃ f', Sorts (keyI X) a b f f' ∧ SO w' B g N c X f' ∧ w.grownBy w' (some g) := by
  have HI := Lib.hid hI
  have HK := Lib.hid hK
  have ef := enters_of Tryz.func22 (by kernel_rfl) rfl
  have haI : (a : Int) ≤ 1000000000 := by omega
  have hbI : (b : Int) ≤ 1000000000 := by omega
  have hNI : (N : Int) ≤ 1000000000 := by omega
  clear hI hK
  go_enter Tryz.func59, Tryz.ntmps59
  go_wp2_with fail
  go_loopw [8, 9] (fun s8 _ wr => ∃ (i : Nat) (f1 : Nat → Nat), s8 = .int .i64 i ∧ a < i ∧ (i ≤ b ∨ i = a + 1) ∧ Hid (InsO (keyI X) a f i f1) ∧ SO wr B g N c X f1 ∧ w.grownBy wr (some g)) (fun s8 _ _ => b + 1 - (intOf s8).toNat)
  case atStart => exact ⟨a + 1, f, by go_num, by omega, .inr rfl, Lib.hid (InsO.start (by omega)), h, grown_refl _ _⟩
  case round =>
    obtain ⟨i, f1, rfl, hai, hi, HO, h1, hg⟩ := hrel
    have hiI : (i : Int) ≤ 1000000001 := by omega
    by_cases hlt : i < b
    · have hltI : (i : Int) < (b : Int) := by omega
      go_wp2_with fail
      go_loopw [9] (fun s9 wz => ∃ (j : Nat) (g1 : Nat → Nat), s9 = .int .i64 j ∧ a ≤ j ∧ j ≤ i ∧ Hid (InsR (keyI X) a i f1 j g1) ∧ SO wz B g N c X g1 ∧ w.grownBy wz (some g)) (fun s9 _ => (intOf s9).toNat)
      case atStart => exact ⟨i, f1, rfl, by omega, Nat.le_refl _, Lib.hid (HO.out.inner HI.out hai hlt), h1, hg⟩
      case round =>
        obtain ⟨j, g1, rfl, haj, hji, HR, h2, hg2⟩ := hrel
        clear h1 hg h
        by_cases hja : j = a
        · subst hja
          have HF := Lib.hid (HO.out.next (HR.out.done (.inl rfl)))
          go_wp2_with fail
          refine wp_region_later_lit (by kernel_rfl) (by kernel_rfl) ?_
          repeat (any_goals (first | go_big_quiet_step ((fail)) | quiet_step ((fail)) | (refine wpQuiet_step (fun K hK => ?_); go_simp; split <;> (refine hK _ ?_; clear hK K))))
          refine wpQuiet_nil ?_
          rintro w3 ⟨⟨w3x, q3⟩, hwx⟩
          obtain rfl : w3 = w3x := hwx
          go_wp2_with fail
          go_roundw
          case rel => exact ⟨i + 1, g1, by go_num, by omega, .inl (by omega), HF, h2.q q3, grown_q hg2 q3⟩
          case measure => simp [intOf]; omega
        · obtain ⟨d, rfl⟩ : ∃ d, j = d + 1 := ⟨j - 1, by omega⟩
          have hdN : d + 1 < N := by omega
          have hd0 : (0 : Int) ≤ (d : Int) := by omega
          have hdI : (d : Int) + 1 < (N : Int) := by omega
          have hdJ : (d : Int) < (N : Int) := by omega
          have hga : (a : Int) < (d : Int) + 1 := by omega
          have hdw : IntKind.i64.wrap (d : Int) = (d : Int) := by rw [IntKind.wrap_i64]; omega
          obtain ⟨x0, x1, x2, x3, x4⟩ := h2.cells (show d + 1 < N by omega)
          obtain ⟨y0, y1, y2, y3, y4⟩ := h2.cells (show d < N by omega)
          have k1 := HK.out (g1 (d + 1)) (h2.lt _ (by omega))
          have k2 := HK.out (g1 d) (h2.lt _ (by omega))
          unfold keyI at k1 k2
          have HSW := Lib.hid (fun (wv : World) (hv : SO wv B g N c X g1) => hv.swap (j := d + 1) (k := d) (by omega) (by omega))
          have HST := Lib.hid (fun (hk : el X (g1 (d + 1) * 5) < el X (g1 d * 5)) => HR.out.step (by omega) hk)
          have HDN := Lib.hid (fun (hk : ¬ el X (g1 (d + 1) * 5) < el X (g1 d * 5)) => HO.out.next (HR.out.done (.inr ⟨d, rfl, by omega, hk⟩)))
          have HH := Lib.hid h2
          have fz := h2.frozen
          have lb := h2.block
          clear h2 HR
          generalize el X (g1 (d + 1) * 5) = X0 at *
          generalize el X (g1 (d + 1) * 5 + 1) = X1 at *
          generalize el X (g1 (d + 1) * 5 + 2) = X2 at *
          generalize el X (g1 (d + 1) * 5 + 3) = X3 at *
          generalize el X (g1 (d + 1) * 5 + 4) = X4 at *
          generalize el X (g1 d * 5) = Y0 at *
          generalize el X (g1 d * 5 + 1) = Y1 at *
          generalize el X (g1 d * 5 + 2) = Y2 at *
          generalize el X (g1 d * 5 + 3) = Y3 at *
          generalize el X (g1 d * 5 + 4) = Y4 at *
          have KC := Lib.hid (fun wv => impl_cmpI X0 X1 X2 X3 X4 Y0 Y1 Y2 Y3 Y4 wv k1 k2)
          have lx0 := later_cell x0
          have ly0 := later_cell y0
          have lx1 := later_cell x1
          have ly1 := later_cell y1
          have lx2 := later_cell x2
          have ly2 := later_cell y2
          have lx3 := later_cell x3
          have ly3 := later_cell y3
          have lx4 := later_cell x4
          have ly4 := later_cell y4
          by_cases hlt2 : X0 < Y0
          · go_wp2_with fail
            refine wp_region_later_lit (by kernel_rfl) (by kernel_rfl) ?_
            repeat (any_goals (first | go_big_quiet_step ((go_at_call 22; exact later_call (KC.out _))) | quiet_step ((go_at_call 22; exact later_call (KC.out _))) | (refine wpQuiet_step (fun K hK => ?_); go_simp; split <;> (refine hK _ ?_; clear hK K))))
            refine wpQuiet_nil ?_
            rintro w3 ⟨⟨w3x, q3⟩, hwx⟩
            obtain rfl : w3 = w3x := hwx
            clear lx0 lx1 lx2 lx3 lx4 ly0 ly1 ly2 ly3 ly4
            have h3 := HH.out.q q3
            have hg3 := grown_q hg2 q3
            replace x0 := q3.cell x0
            replace x1 := q3.cell x1
            replace x2 := q3.cell x2
            replace x3 := q3.cell x3
            replace x4 := q3.cell x4
            replace y0 := q3.cell y0
            replace y1 := q3.cell y1
            replace y2 := q3.cell y2
            replace y3 := q3.cell y3
            replace y4 := q3.cell y4
            replace fz := h3.frozen
            go_wp2_with fail
            go_region
            all_goals go_wp2_with fail
            all_goals go_roundw
            case rel =>
              refine ⟨d, g1 ∘ swpF (d + 1) d, rfl, by omega, by omega, Lib.hid (HST.out hlt2), ?_, ?_⟩
              · with_reducible exact (HSW.out _ h3).q ((Q.refl _).drew)
              · with_reducible exact grown_q (grown_swap hg3 _ _ _ _ _ _ _ _ _ _ _ _) ((Q.refl _).drew)
            case measure => simp [intOf]
          · have hge : ¬ X0 - Y0 < 0 := by omega
            have hgb : decide (X0 - Y0 < 0) = false := decide_eq_false hge
            have HF := Lib.hid (HDN.out hlt2)
            go_wp2_with fail
            refine wp_region_later_lit (by kernel_rfl) (by kernel_rfl) ?_
            repeat (any_goals (first | go_big_quiet_step ((go_at_call 22; exact later_call (KC.out _))) | quiet_step ((go_at_call 22; exact later_call (KC.out _))) | (refine wpQuiet_step (fun K hK => ?_); go_simp; split <;> (refine hK _ ?_; clear hK K))))
            refine wpQuiet_nil ?_
            rintro w3 ⟨⟨w3x, q3⟩, hwx⟩
            obtain rfl : w3 = w3x := hwx
            clear lx0 lx1 lx2 lx3 lx4 ly0 ly1 ly2 ly3 ly4
            go_wp2_with fail
            go_roundw
            case rel => exact ⟨i + 1, g1, by go_num, by omega, .inl (by omega), HF, HH.out.q q3, grown_q hg2 q3⟩
            case measure => simp [intOf]; omega
    · have hltI : ¬ (i : Int) < (b : Int) := by omega
      go_wp2_with fail
      go_end0
      refine ⟨rfl, f1, ?_, h1, hg⟩
      rcases hi with hi | hi
      · obtain rfl : i = b := by omega
        exact HO.out
      · by_cases hib : i = b
        · subst hib; exact HO.out
        · obtain rfl : b = a := by omega
          subst hi
          exact Sorts.one HO.out
end Go.Proofs.YtkpdoikjfibflaaGreatDoor
namespace Go.Proofs.YtkpdoikjfibflaaGreatDoor
open Go.RowKit Go.WideShapes Go.ChangeShapes Go.Shelf
set_option maxRecDepth 100000 in
set_option maxHeartbeats 2000000 in
theorem run_swapRange (B g N c : Nat) (X : List Int) (f : Nat → Nat) (a b n : Nat) (w : World) (fv : Value) (h : SO w B g N c X f) (hN : N ≤ 1000000000) (hab : a + n ≤ b) (hb : b + n ≤ N) :
    Calls Tryz.prog 114 #[.slice (some ⟨g, 0, none⟩) N c, .int .i64 a, .int .i64 b, .int .i64 n, fv] w fun e w' => e = .returned (.tuple #[]) ∧ SO w' B g N c X (swR a b n f) ∧ w.grownBy w' (some g) := by
  have hNI : (N : Int) ≤ 1000000000 := by omega
  have haI : (a : Int) ≤ 1000000000 := by omega
  have hbI : (b : Int) ≤ 1000000000 := by omega
  have hnI : (n : Int) ≤ 1000000000 := by omega
  go_enter Tryz.func114, Tryz.ntmps114
  go_wp2_with fail
  go_loopw [10] (fun s wr => ∃ i : Nat, s = .int .i64 i ∧ i ≤ n ∧ SO wr B g N c X (swR a b i f) ∧ w.grownBy wr (some g)) (fun s _ => n - (intOf s).toNat)
  case atStart => exact ⟨0, rfl, by omega, by rw [swR_zero]; exact h, grown_refl _ _⟩
  case round =>
    obtain ⟨i, rfl, hi, h1, hg⟩ := hrel
    clear h
    by_cases hlt : i < n
    · have hltI : (i : Int) < (n : Int) := by omega
      have HE := Lib.hid (swR_succ (a := a) (b := b) f hab hlt)
      obtain ⟨p, hp⟩ : ∃ p, p = a + i := ⟨_, rfl⟩
      obtain ⟨q, hq⟩ : ∃ q, q = b + i := ⟨_, rfl⟩
      rw [← hp, ← hq] at HE
      have hpN : p < N := by omega
      have hqN : q < N := by omega
      have hpE : (a : Int) + (i : Int) = (p : Int) := by omega
      have hqE : (b : Int) + (i : Int) = (q : Int) := by omega
      have hpI : (p : Int) < (N : Int) := by omega
      have hqI : (q : Int) < (N : Int) := by omega
      have hpw : IntKind.i64.wrap (p : Int) = (p : Int) := by rw [IntKind.wrap_i64]; omega
      have hqw : IntKind.i64.wrap (q : Int) = (q : Int) := by rw [IntKind.wrap_i64]; omega
      generalize swR a b i f = g1 at *
      obtain ⟨x0, x1, x2, x3, x4⟩ := h1.cells hpN
      obtain ⟨y0, y1, y2, y3, y4⟩ := h1.cells hqN
      have HS := Lib.hid (h1.swap hpN hqN)
      have fz := h1.frozen
      clear h1 hp hq
      generalize el X (g1 p * 5) = X0 at *
      generalize el X (g1 p * 5 + 1) = X1 at *
      generalize el X (g1 p * 5 + 2) = X2 at *
      generalize el X (g1 p * 5 + 3) = X3 at *
      generalize el X (g1 p * 5 + 4) = X4 at *
      generalize el X (g1 q * 5) = Y0 at *
      generalize el X (g1 q * 5 + 1) = Y1 at *
      generalize el X (g1 q * 5 + 2) = Y2 at *
      generalize el X (g1 q * 5 + 3) = Y3 at *
      generalize el X (g1 q * 5 + 4) = Y4 at *
      go_wp2_with fail
      go_region
      all_goals go_wp2_with fail
      all_goals go_roundw
      case rel =>
        refine ⟨i + 1, by go_num, by omega, ?_, ?_⟩
        · rw [← HE.out]
          with_reducible exact HS.out.q ((Q.refl _).drew)
        · with_reducible exact grown_q (grown_swap hg _ _ _ _ _ _ _ _ _ _ _ _) ((Q.refl _).drew)
      case measure => simp [intOf]; omega
    · obtain rfl : i = n := by omega
      go_wp2_with fail
      go_end0
      exact ⟨rfl, h1, hg⟩
set_option maxRecDepth 100000 in
set_option maxHeartbeats 2000000 in
theorem run_rotate (B g N c : Nat) (X : List Int) (f : Nat → Nat) (a m b : Nat) (w : World) (fv : Value) (h : SO w B g N c X f) (hN : N ≤ 1000000000) (ham : a < m) (hmb : m < b) (hb : b ≤ N) :
    Calls Tryz.prog 79 #[.slice (some ⟨g, 0, none⟩) N c, .int .i64 a, .int .i64 m, .int .i64 b, fv] w fun e w' => e = .returned (.tuple #[]) ∧ SO w' B g N c X (rotF a m b f) ∧ w.grownBy w' (some g) := by
  have hNI : (N : Int) ≤ 1000000000 := by omega
  have haI : (a : Int) < (m : Int) := by omega
  have hmI : (m : Int) < (b : Int) := by omega
  have hbI : (b : Int) ≤ 1000000000 := by omega
  go_enter Tryz.func79, Tryz.ntmps79
  go_wp2_with fail
  go_loopw [10, 11] (fun s t wr => ∃ (i j : Nat) (g1 : Nat → Nat), s = .int .i64 i ∧ t = .int .i64 j ∧ (0 < i ∧ i ≤ m) ∧ (0 < j ∧ m + j ≤ N) ∧ Hid (rotF (m - i) m (m + j) g1 = rotF a m b f) ∧ SO wr B g N c X g1 ∧ w.grownBy wr (some g)) (fun s t _ => (intOf s).toNat + (intOf t).toNat)
  case atStart => exact ⟨m - a, b - m, f, by go_num, by go_num, by omega, by omega, Lib.hid (by rw [show m - (m - a) = a by omega, show m + (b - m) = b by omega]), h, grown_refl _ _⟩
  case round =>
    obtain ⟨i, j, g1, rfl, rfl, hi, hj, HE, h1, hg⟩ := hrel
    clear h
    have hiI : (i : Int) ≤ (m : Int) := by omega
    have hjI : (m : Int) + (j : Int) ≤ (N : Int) := by omega
    have hi0 : (0 : Int) < (i : Int) := by omega
    have hj0 : (0 : Int) < (j : Int) := by omega
    have ei : (m : Int) - (i : Int) = ((m - i : Nat) : Int) := by omega
    rcases Nat.lt_trichotomy i j with hij | hij | hij
    · have hijI : (i : Int) < (j : Int) := by omega
      have hne : ¬ (i : Int) = (j : Int) := by omega
      have e1 : (m : Int) + (j : Int) - (i : Int) = ((m + j - i : Nat) : Int) := by omega
      have e2 : (j : Int) - (i : Int) = ((j - i : Nat) : Int) := by omega
      have K := Lib.hid (run_swapRange B g N c X g1 (m - i) (m + j - i) i)
      have HR := Lib.hid (rot_lt g1 hij hi.2 hi.1)
      go_wp2_with fail
      refine (K.out _ _ h1 hN (by omega) (by omega)).mono ?_
      rintro e w2 ⟨rfl, h2, hg2⟩
      go_wp2_with fail
      go_roundw
      case rel => exact ⟨i, j - i, _, rfl, by go_num, hi, by omega, Lib.hid (HR.out.trans HE.out), h2, hg.andThen hg2 (fun k hk => by cases hk; exact Or.inr rfl)⟩
      case measure => simp [intOf]; omega
    · subst hij
      have K := Lib.hid (run_swapRange B g N c X g1 (m - i) m i)
      have HR := Lib.hid (rot_eq g1 hi.2)
      go_wp2_with fail
      refine (K.out _ _ h1 hN (by omega) (by omega)).mono ?_
      rintro e w2 ⟨rfl, h2, hg2⟩
      go_wp2_with fail
      go_end0
      refine ⟨rfl, ?_, hg.andThen hg2 (fun k hk => by cases hk; exact Or.inr rfl)⟩
      rw [← HE.out, ← HR.out]
      exact h2
    · have hijI : (j : Int) < (i : Int) := by omega
      have hne : ¬ (i : Int) = (j : Int) := by omega
      have e2 : (i : Int) - (j : Int) = ((i - j : Nat) : Int) := by omega
      have K := Lib.hid (run_swapRange B g N c X g1 (m - i) m j)
      have HR := Lib.hid (rot_gt g1 hij hi.2 hj.1)
      go_wp2_with fail
      refine (K.out _ _ h1 hN (by omega) (by omega)).mono ?_
      rintro e w2 ⟨rfl, h2, hg2⟩
      go_wp2_with fail
      go_roundw
      case rel => exact ⟨i - j, j, _, by go_num, rfl, by omega, hj, Lib.hid (HR.out.trans HE.out), h2, hg.andThen hg2 (fun k hk => by cases hk; exact Or.inr rfl)⟩
      case measure => simp [intOf]; omega
end Go.Proofs.YtkpdoikjfibflaaGreatDoor
