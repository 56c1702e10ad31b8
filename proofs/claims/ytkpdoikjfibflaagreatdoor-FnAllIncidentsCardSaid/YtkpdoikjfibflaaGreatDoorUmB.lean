/- Words: two points that lie where two pointers lead. No condition. Walks: the manoeuvres of a track, as the program makes them. No condition. -/
import Derived.Test.YtkpdoikjfibflaaGreatDoorK
import Derived.Test.YtkpdoikjfibflaaGreatDoorUmA
import Derived.Test.YtkpdoikjfibflaaGreatDoorNrJ
import Derived.Deep.RegionHeld3
import Derived.Deep.CutBlock
namespace Go.Proofs.YtkpdoikjfibflaaGreatDoor
open Go.RowKit Go.WideShapes Go.ChangeShapes
theorem Blk.p2_0 {w : World} {b : Nat} {T : TypeId} {x y : Value} (h : Blk w b T #[x, y]) (v : Value) : Blk (w.setCell ⟨b, 0, none⟩ v) b T #[v, y] := by
  have := h.set_ 0 v
  simpa using this
theorem Blk.p2_1 {w : World} {b : Nat} {T : TypeId} {x y : Value} (h : Blk w b T #[x, y]) (v : Value) : Blk (w.setCell ⟨b, 1, none⟩ v) b T #[x, v] := by
  have := h.set_ 1 v
  simpa using this
/-- Two points lie where two pointers lead. -/
def PqAt (wo wf : World) (T : TypeId) (x0 y0 x1 y1 p q : Value) : Prop := ∃ b7 b8, p = .pointer (some ⟨b7, 0, none⟩) ∧ q = .pointer (some ⟨b8, 0, none⟩) ∧ Blk wf b7 T #[x0, y0] ∧ Blk wf b8 T #[x1, y1] ∧ Q wo wf
theorem pq_s0a {wo w6 : World} {T : TypeId} {x0 y0 x1 y1 : Value} (q : Q wo w6) : PqAt wo ((w6.alloc (.cells #[x0, y0] T)).alloc (.cells #[x1, y1] T)) T x0 y0 x1 y1 (.pointer (some ⟨w6.heap.size, 0, none⟩)) (.pointer (some ⟨w6.heap.size + 1, 0, none⟩)) :=
  ⟨_, _, rfl, rfl, (Blk.new _ _ _).alloc _, by simpa using Blk.new (w6.alloc (.cells #[x0, y0] T)) T #[x1, y1], (q.alloc _).alloc _⟩
theorem pq_s0b {wo w6 : World} {T : TypeId} {x0 y0 x1 y1 : Value} (q : Q wo w6) : PqAt wo ((w6.alloc (.cells #[x1, y1] T)).alloc (.cells #[x0, y0] T)) T x0 y0 x1 y1 (.pointer (some ⟨w6.heap.size + 1, 0, none⟩)) (.pointer (some ⟨w6.heap.size, 0, none⟩)) :=
  ⟨_, _, rfl, rfl, by simpa using Blk.new (w6.alloc (.cells #[x1, y1] T)) T #[x0, y0], (Blk.new _ _ _).alloc _, (q.alloc _).alloc _⟩
theorem pq_s1a {wo w6 : World} {T : TypeId} {x0 y0 x1 y1 u v : Value} {b : Nat} (h : Blk w6 b T #[u, v]) (q : Q wo w6) (hb : wo.heap.size ≤ b) : PqAt wo (((w6.setCell ⟨b, 0, none⟩ x0).setCell ⟨b, 1, none⟩ y0).alloc (.cells #[x1, y1] T)) T x0 y0 x1 y1 (.pointer (some ⟨b, 0, none⟩)) (.pointer (some ⟨w6.heap.size, 0, none⟩)) :=
  ⟨_, _, rfl, rfl, ((h.p2_0 x0).p2_1 y0).alloc _, by simpa [World.setCell] using Blk.new ((w6.setCell ⟨b, 0, none⟩ x0).setCell ⟨b, 1, none⟩ y0) T #[x1, y1], ((q.setCell (p := ⟨b, 0, none⟩) hb _).setCell (p := ⟨b, 1, none⟩) hb _).alloc _⟩
theorem pq_s1b {wo w6 : World} {T : TypeId} {x0 y0 x1 y1 u v : Value} {b : Nat} (h : Blk w6 b T #[u, v]) (q : Q wo w6) (hb : wo.heap.size ≤ b) : PqAt wo (((w6.setCell ⟨b, 0, none⟩ x1).setCell ⟨b, 1, none⟩ y1).alloc (.cells #[x0, y0] T)) T x0 y0 x1 y1 (.pointer (some ⟨w6.heap.size, 0, none⟩)) (.pointer (some ⟨b, 0, none⟩)) :=
  ⟨_, _, rfl, rfl, by simpa [World.setCell] using Blk.new ((w6.setCell ⟨b, 0, none⟩ x1).setCell ⟨b, 1, none⟩ y1) T #[x0, y0], ((h.p2_0 x1).p2_1 y1).alloc _, ((q.setCell (p := ⟨b, 0, none⟩) hb _).setCell (p := ⟨b, 1, none⟩) hb _).alloc _⟩
theorem pq_s2 {wo w6 : World} {T : TypeId} {x0 y0 x1 y1 u v u' v' : Value} {b b' : Nat} (h : Blk w6 b T #[u, v]) (h' : Blk w6 b' T #[u', v']) (q : Q wo w6) (hb : wo.heap.size ≤ b) (hb' : wo.heap.size ≤ b') (hne : b ≠ b') : PqAt wo ((((w6.setCell ⟨b, 0, none⟩ x0).setCell ⟨b, 1, none⟩ y0).setCell ⟨b', 0, none⟩ x1).setCell ⟨b', 1, none⟩ y1) T x0 y0 x1 y1 (.pointer (some ⟨b, 0, none⟩)) (.pointer (some ⟨b', 0, none⟩)) :=
  ⟨_, _, rfl, rfl, (((h.p2_0 x0).p2_1 y0).far (p := ⟨b', 0, none⟩) (fun e => hne e) _).far (p := ⟨b', 1, none⟩) (fun e => hne e) _, (((h'.far (p := ⟨b, 0, none⟩) (fun e => hne e.symm) _).far (p := ⟨b, 1, none⟩) (fun e => hne e.symm) _).p2_0 x1).p2_1 y1, (((q.setCell (p := ⟨b, 0, none⟩) hb _).setCell (p := ⟨b, 1, none⟩) hb _).setCell (p := ⟨b', 0, none⟩) hb' _).setCell (p := ⟨b', 1, none⟩) hb' _⟩
end Go.Proofs.YtkpdoikjfibflaaGreatDoor
namespace Go.Proofs.YtkpdoikjfibflaaGreatDoor
open Go.RowKit Go.WideShapes Go.ChangeShapes
theorem infoMan : (Tryz.prog.info? 176).map (fun i => (i.zero, i.size, i.bytes)) = some (some (.agg #[.int .i64 0, .int .i64 0]), 2, 16) := by kernel_rfl
theorem elMan : EltT 173 176 2 := EltT.mk infoMan Tryz.underlying173 (by decide) rfl (by decide)
theorem lg_bd {xs : List Int} {n k : Nat} (hT : isTrk xs n = true) (hk : k + 1 < n) : hd2 (lgX xs k) (lgY xs k) := by
  have := trk_two hT hk
  unfold hd2 lgX lgY
  omega
/-- The manoeuvre at one fix, by its parts. -/
theorem mnK_no {wx wy : Int} {xs : List Int} {k : Nat} (h : tkV wx wy (lgX xs k) (lgY xs k) = 0 ∨ tkV wx wy (lgX xs (k + 1)) (lgY xs (k + 1)) = 0 ∨ tkV wx wy (lgX xs k) (lgY xs k) = tkV wx wy (lgX xs (k + 1)) (lgY xs (k + 1))) : mnTo wx wy xs (k + 1) = mnTo wx wy xs k := by
  rw [mnTo, mnK, if_pos h, List.append_nil]
theorem mnK_yes {wx wy : Int} {xs : List Int} {k : Nat} (h : ¬ (tkV wx wy (lgX xs k) (lgY xs k) = 0 ∨ tkV wx wy (lgX xs (k + 1)) (lgY xs (k + 1)) = 0 ∨ tkV wx wy (lgX xs k) (lgY xs k) = tkV wx wy (lgX xs (k + 1)) (lgY xs (k + 1)))) :
    mnTo wx wy xs (k + 1) = mnTo wx wy xs k ++ [(k : Int) + 1, if alV wx wy (lgX xs k) (lgY xs k) + alV wx wy (lgX xs (k + 1)) (lgY xs (k + 1)) < 0 then 1 else 2] := by
  rw [mnTo, mnK, if_neg h]
  rfl
set_option maxRecDepth 100000 in
set_option maxHeartbeats 8000000 in
theorem impl_manoeuvres (wx wy : Int) (A : Option Addr) (n c : Nat) (xs : List Int) (w : World) (hw : wnd wx wy) (ha : Rd w A xs) (hn : xs.length = n * 3) (hT : isTrk xs n = true) :
    Calls Tryz.prog 152 #[.agg #[.int .i64 wx, .int .i64 wy], .agg #[.slice A n c]] w (RL w 176 2 ((mnTo wx wy xs (n - 2)).length / 2) (mnTo wx wy xs (n - 2))) := by
  have hn40 := trk_40 hT
  have hn2 : 2 ≤ n := by
    have : (decide (2 ≤ n ∧ n ≤ 40) && fixTo xs n) = true := hT
    simp at this
    omega
  obtain ⟨W, hW⟩ : ∃ W, W = (w.alloc (.cells #[.int .i64 wx, .int .i64 wy] 25)).alloc (.cells #[.slice A n c] 37) := ⟨_, rfl⟩
  have B1 : Blk W w.heap.size 25 #[.int .i64 wx, .int .i64 wy] := by rw [hW]; exact (Blk.new _ _ _).alloc _
  have B2 : Blk W (w.heap.size + 1) 37 #[.slice A n c] := by rw [hW]; exact (by simpa using Blk.new (w.alloc (.cells #[.int .i64 wx, .int .i64 wy] 25)) 37 #[.slice A n c])
  have Q0 : Q w W := by rw [hW]; exact ((Q.refl w).alloc _).alloc _
  have zW : W.heap.size = w.heap.size + 2 := by rw [hW]; simp
  have HW := Lib.hid hW
  have HT := Lib.hid hT
  have HN := Lib.hid hn
  have c2 := B2.cell
  clear hT hn
  rw [hW] at c2
  clear hW
  go_enter Tryz.func152, Tryz.ntmps152
  go_wp2_with fail
  rw [← HW.out]
  go_loopw [5, 6] (fun v i wr => ∃ k : Nat, k + 2 ≤ n ∧ i = .int .i64 ((k : Int) + 1) ∧ OwnL wr W.heap.size 176 2 v (mnTo wx wy xs k) ∧ Q W wr) (fun _ i _ => n - (intOf i).toNat)
  case atStart => exact ⟨0, by omega, rfl, (by have h := OwnL.new W 176 2 (Nat.le_refl W.heap.size); rw [zW] at h ⊢; exact h), by (repeat (first | assumption | exact Q.refl _ | refine Q.alloc ?_ _ | refine Q.drewN ?_ _ | refine Q.drew ?_))⟩
  case round =>
    clear c2
    obtain ⟨k, hk, rfl, ⟨A1, m, d1, rfl, hown⟩, hq⟩ := hrel
    obtain ⟨wo, rfl⟩ : ∃ wo, wo = wr := ⟨_, rfl⟩
    have hqw : Q w wo := Q0.trans hq
    have C1 := B1.q hq
    have C2 := B2.q hq
    have c1 := C1.cell
    have c2 := C2.cell
    have m1 := C1.lt
    have m2 := C2.lt
    have hk40 : (k : Int) ≤ 40 := by omega
    by_cases hlt : k + 2 < n
    · have hlen : m ≤ k := by obtain ⟨m2, h1, h2, _⟩ := mnTo_facts wx wy xs k; have := hown.len; omega
      have hltI : (k : Int) + 1 < (n : Int) - 1 := by omega
      have hltJ : (k : Int) + 1 + 1 < (n : Int) := by omega
      have hk0 : (0 : Int) ≤ (k : Int) := by omega
      have hws : IntKind.i64.wrap (k : Int) = (k : Int) := by rw [IntKind.wrap_i64]; omega
      have hh1 := lg_bd HT.out (show k + 1 < n by omega)
      have hh2 := lg_bd HT.out (show k + 1 + 1 < n by omega)
      have kw1 := fun (wv : World) (h : Rd wv A xs) => (show Calls Tryz.prog 103 #[.agg #[.slice A n c], .int .i64 (k : Int)] wv fun e w' => e = .returned (.agg #[.int .i64 (lgX xs k), .int .i64 (lgY xs k)]) ∧ Q wv w' from impl_wayOf A n c xs k wv h HN.out HT.out (by omega))
      have kw2 := fun (wv : World) (h : Rd wv A xs) => (show Calls Tryz.prog 103 #[.agg #[.slice A n c], .int .i64 ((k : Int) + 1)] wv fun e w' => e = .returned (.agg #[.int .i64 (lgX xs (k + 1)), .int .i64 (lgY xs (k + 1))]) ∧ Q wv w' from impl_wayOf A n c xs (k + 1) wv h HN.out HT.out (by omega))
      have KW1 := Lib.hid kw1
      have KW2 := Lib.hid kw2
      have HNO := Lib.hid (@mnK_no wx wy xs k)
      have HYES := Lib.hid (@mnK_yes wx wy xs k)
      have t1 := tkV_any wx wy (lgX xs k) (lgY xs k)
      have t2 := tkV_any wx wy (lgX xs (k + 1)) (lgY xs (k + 1))
      have e1 := @tkV_ne wx wy (lgX xs k) (lgY xs k)
      have e2 := @tkV_ne wx wy (lgX xs (k + 1)) (lgY xs (k + 1))
      have KT1 := Lib.hid (fun wv => impl_tackOf wx wy (lgX xs k) (lgY xs k) wv hw hh1)
      have KT2 := Lib.hid (fun wv => impl_tackOf wx wy (lgX xs (k + 1)) (lgY xs (k + 1)) wv hw hh2)
      have al1 := fun h => al_bd (wx := wx) (wy := wy) (x := lgX xs k) (y := lgY xs k) hw ⟨hh1, h⟩
      have al2 := fun h => al_bd (wx := wx) (wy := wy) (x := lgX xs (k + 1)) (y := lgY xs (k + 1)) hw ⟨hh2, h⟩
      have AB1 := Lib.hid (fun h => alV_bd (wx := wx) (wy := wy) (x := lgX xs k) (y := lgY xs k) hw ⟨hh1, h⟩)
      have AB2 := Lib.hid (fun h => alV_bd (wx := wx) (wy := wy) (x := lgX xs (k + 1)) (y := lgY xs (k + 1)) hw ⟨hh2, h⟩)
      have KS1 := Lib.hid (fun wv => impl_scalar wx wy (lgX xs k) (lgY xs k) wv hw hh1)
      have KS2 := Lib.hid (fun wv => impl_scalar wx wy (lgX xs (k + 1)) (lgY xs (k + 1)) wv hw hh2)
      have KL1 := Lib.hid (fun wv h => impl_lengthOf (lgX xs k) (lgY xs k) wv ⟨hh1, h⟩)
      have KL2 := Lib.hid (fun wv h => impl_lengthOf (lgX xs (k + 1)) (lgY xs (k + 1)) wv ⟨hh2, h⟩)
      have KF1 := Lib.hid (fun wv h => (show Calls Tryz.prog 54 #[.int .i64 (lgX xs k * wx + lgY xs k * wy), .int .i64 (rt (lgX xs k * lgX xs k + lgY xs k * lgY xs k))] wv fun e w' => e = .returned (.int .i64 (alV wx wy (lgX xs k) (lgY xs k))) ∧ wv = w' from impl_floorDiv _ _ wv (by have := (al1 h).2; omega) (by have := (al1 h).1; omega) (by have := (al1 h).2; omega)))
      have KF2 := Lib.hid (fun wv h => (show Calls Tryz.prog 54 #[.int .i64 (lgX xs (k + 1) * wx + lgY xs (k + 1) * wy), .int .i64 (rt (lgX xs (k + 1) * lgX xs (k + 1) + lgY xs (k + 1) * lgY xs (k + 1)))] wv fun e w' => e = .returned (.int .i64 (alV wx wy (lgX xs (k + 1)) (lgY xs (k + 1)))) ∧ wv = w' from impl_floorDiv _ _ wv (by have := (al2 h).2; omega) (by have := (al2 h).1; omega) (by have := (al2 h).2; omega)))
      clear al1 al2
      clear kw1 kw2 hh1 hh2
      generalize tkV wx wy (lgX xs k) (lgY xs k) = x at *
      generalize tkV wx wy (lgX xs (k + 1)) (lgY xs (k + 1)) = y at *
      generalize alV wx wy (lgX xs k) (lgY xs k) = a1 at *
      generalize alV wx wy (lgX xs (k + 1)) (lgY xs (k + 1)) = a2 at *
      generalize rt (lgX xs k * lgX xs k + lgY xs k * lgY xs k) = r1 at *
      generalize rt (lgX xs (k + 1) * lgX xs (k + 1) + lgY xs (k + 1) * lgY xs (k + 1)) = r2 at *
      generalize lgX xs k * wx + lgY xs k * wy = p1 at *
      generalize lgX xs (k + 1) * wx + lgY xs (k + 1) * wy = p2 at *
      generalize lgX xs k = X1 at *
      generalize lgY xs k = Y1 at *
      generalize lgX xs (k + 1) = X2 at *
      generalize lgY xs (k + 1) = Y2 at *
      have hR := ha.q hqw
      go_wp2_with fail
      go_cut [7, 8] from 21 to 64 (fun p q wc => PqAt wo wc 78 (.int .i64 X1) (.int .i64 Y1) (.int .i64 X2) (.int .i64 Y2) p q)
      case first =>
        have hS : ∀ w', Q wo w' → (Q wo w' ∧ w'.cell? ⟨w.heap.size + 1, 0, none⟩ = some (.slice A n c)) := fun w' q => ⟨q, (C2.q q).cell 0⟩
        go_region_held3 (fun w' => Q wo w' ∧ w'.cell? ⟨w.heap.size + 1, 0, none⟩ = some (.slice A n c)) (first | exact hS _ (by (repeat (first | with_reducible assumption | with_reducible exact Q.refl _ | with_reducible refine Q.alloc ?_ _ | with_reducible refine Q.drewN ?_ _ | with_reducible refine Q.drew ?_ | with_reducible refine Q.setCell ?_ (by first | with_reducible exact Nat.le_refl _ | (simp only; omega) | (simp; done) | (simp; omega)) _))) | (go_split_ands; exact hS _ (by (repeat (first | with_reducible assumption | with_reducible exact Q.refl _ | with_reducible refine Q.alloc ?_ _ | with_reducible refine Q.drewN ?_ _ | with_reducible refine Q.drew ?_ | with_reducible refine Q.setCell ?_ (by first | with_reducible exact Nat.le_refl _ | (simp only; omega) | (simp; done) | (simp; omega)) _))))) (first | (have q50 := q5; go_at_call 103; refine (KW2.out _ (hR.q (by (repeat (first | with_reducible assumption | with_reducible exact Q.refl _ | with_reducible refine Q.alloc ?_ _ | with_reducible refine Q.drewN ?_ _ | with_reducible refine Q.drew ?_ | with_reducible refine Q.setCell ?_ (by first | with_reducible exact Nat.le_refl _ | (simp only; omega) | (simp; done) | (simp; omega)) _))))).mono ?_; rintro e w6 ⟨rfl, q6⟩; have QR : Q wo w6 := Q.trans (by (repeat (first | with_reducible assumption | with_reducible exact Q.refl _ | with_reducible refine Q.alloc ?_ _ | with_reducible refine Q.drewN ?_ _ | with_reducible refine Q.drew ?_ | with_reducible refine Q.setCell ?_ (by first | with_reducible exact Nat.le_refl _ | (simp only; omega) | (simp; done) | (simp; omega)) _))) q6; have zr := QR.size; (first | (have Z1 := V1.q q6; have Z1c := Z1.cell; have Z1f := Z1.frozen; have Z1l := Z1.lt) | (have Z1 := (V1.alloc _).q q6; have Z1c := Z1.cell; have Z1f := Z1.frozen; have Z1l := Z1.lt) | (have Z1 := ((V1.alloc _).alloc _).q q6; have Z1c := Z1.cell; have Z1f := Z1.frozen; have Z1l := Z1.lt) | skip); (first | (have Z2 := V2.q q6; have Z2c := Z2.cell; have Z2f := Z2.frozen; have Z2l := Z2.lt) | (have Z2 := (V2.alloc _).q q6; have Z2c := Z2.cell; have Z2f := Z2.frozen; have Z2l := Z2.lt) | (have Z2 := ((V2.alloc _).alloc _).q q6; have Z2c := Z2.cell; have Z2f := Z2.frozen; have Z2l := Z2.lt) | skip); (first | (have Z3 := (q6).boxB2; have Z40 := (q6).boxB; have Z3c := Z3.cell; have Z3f := Z3.frozen; have Z3l := Z3.lt; simp only [World.size_alloc] at Z40; have Z4 := Z40; have Z4c := Z4.cell; have Z4f := Z4.frozen; have Z4l := Z4.lt) | (have Z3 := (q6).boxB; have Z3c := Z3.cell; have Z3f := Z3.frozen; have Z3l := Z3.lt) | (have Z3 := (Q.trans ((Q.refl _).drew) q6).boxB2; have Z40 := (Q.trans ((Q.refl _).drew) q6).boxB; have Z3c := Z3.cell; have Z3f := Z3.frozen; have Z3l := Z3.lt; simp only [World.size_alloc] at Z40; have Z4 := Z40; have Z4c := Z4.cell; have Z4f := Z4.frozen; have Z4l := Z4.lt) | (have Z3 := (Q.trans ((Q.refl _).drew) q6).boxB; have Z3c := Z3.cell; have Z3f := Z3.frozen; have Z3l := Z3.lt) | skip)) | (go_at_call 103; refine (KW1.out _ (hR.q (by (repeat (first | with_reducible assumption | with_reducible exact Q.refl _ | with_reducible refine Q.alloc ?_ _ | with_reducible refine Q.drewN ?_ _ | with_reducible refine Q.drew ?_ | with_reducible refine Q.setCell ?_ (by first | with_reducible exact Nat.le_refl _ | (simp only; omega) | (simp; done) | (simp; omega)) _))))).mono ?_; rintro e w5 ⟨rfl, q5⟩; have QR : Q wo w5 := Q.trans (by (repeat (first | with_reducible assumption | with_reducible exact Q.refl _ | with_reducible refine Q.alloc ?_ _ | with_reducible refine Q.drewN ?_ _ | with_reducible refine Q.drew ?_ | with_reducible refine Q.setCell ?_ (by first | with_reducible exact Nat.le_refl _ | (simp only; omega) | (simp; done) | (simp; omega)) _))) q5; have zr := QR.size; (first | (have V1 := (q5).boxB2; have V20 := (q5).boxB; have V1c := V1.cell; have V1f := V1.frozen; have V1l := V1.lt; simp only [World.size_alloc] at V20; have V2 := V20; have V2c := V2.cell; have V2f := V2.frozen; have V2l := V2.lt) | (have V1 := (q5).boxB; have V1c := V1.cell; have V1f := V1.frozen; have V1l := V1.lt) | (have V1 := (Q.trans ((Q.refl _).drew) q5).boxB2; have V20 := (Q.trans ((Q.refl _).drew) q5).boxB; have V1c := V1.cell; have V1f := V1.frozen; have V1l := V1.lt; simp only [World.size_alloc] at V20; have V2 := V20; have V2c := V2.cell; have V2f := V2.frozen; have V2l := V2.lt) | (have V1 := (Q.trans ((Q.refl _).drew) q5).boxB; have V1c := V1.cell; have V1f := V1.frozen; have V1l := V1.lt) | skip)))
        all_goals (go_wp2_with fail; go_meet)
        all_goals clear hS
        all_goals first | with_reducible exact pq_s0a QR | with_reducible exact pq_s0b QR | with_reducible exact pq_s1a Z3 QR (by omega) | with_reducible exact pq_s1b Z3 QR (by omega) | with_reducible exact pq_s1a Z1 QR (by omega) | with_reducible exact pq_s1b Z1 QR (by omega) | with_reducible exact pq_s2 Z3 Z4 QR (by omega) (by omega) (by omega) | with_reducible exact pq_s2 Z4 Z3 QR (by omega) (by omega) (by omega) | with_reducible exact pq_s2 Z1 Z3 QR (by omega) (by omega) (by omega) | with_reducible exact pq_s2 Z3 Z1 QR (by omega) (by omega) (by omega) | with_reducible exact pq_s2 Z1 Z2 QR (by omega) (by omega) (by omega) | with_reducible exact pq_s2 Z2 Z1 QR (by omega) (by omega) (by omega)
      case rest =>
        obtain ⟨b7, b8, rfl, rfl, B7, B8, QC⟩ := hcut
        clear c1 c2 KW1 KW2
        have C1c := C1.q QC
        have C2c := C2.q QC
        have L1 := later_cells C1c.cell C1c.lt
        have L7 := later_cells B7.cell B7.lt
        have L8 := later_cells B8.cell B8.lt
        go_wp2_with fail
        refine wp_region_later_lit (by kernel_rfl) (by kernel_rfl) ?_
        repeat (any_goals (first | go_big_quiet_step ((go_at_call 76; first | with_reducible exact later_call (KT1.out _) | with_reducible exact later_call (KT2.out _))) | quiet_step ((go_at_call 76; first | with_reducible exact later_call (KT1.out _) | with_reducible exact later_call (KT2.out _))) | (refine wpQuiet_step (fun K hK => ?_); go_simp; split <;> (refine hK _ ?_; clear hK K))))
        all_goals (refine wpQuiet_nil ?_; rintro _ ⟨⟨w2, q2⟩, rfl⟩; try dsimp only)
        clear L1 L7 L8
        have Q2 := hq.trans (QC.trans q2)
        by_cases hz : x = 0 ∨ y = 0 ∨ x = y
        · have HE := Lib.hid (HNO.out hz)
          clear e1 e2
          have hz' := hz
          rcases hz' with hx | hy | hxy
          · subst hx
            go_wp2_with fail
            go_roundw
            case rel => exact ⟨k + 1, by omega, by go_num, by rw [HE.out]; exact ⟨_, _, _, rfl, (hown.q QC).q q2⟩, Q2⟩
            case measure => simp [intOf]; omega
          · subst hy
            rcases t1 with hx | hx | hx
            all_goals subst hx
            · go_wp2_with fail
              go_roundw
              case rel => exact ⟨k + 1, by omega, by go_num, by rw [HE.out]; exact ⟨_, _, _, rfl, (hown.q QC).q q2⟩, Q2⟩
              case measure => simp [intOf]; omega
            · go_wp2_with fail
              go_roundw
              case rel => exact ⟨k + 1, by omega, by go_num, by rw [HE.out]; exact ⟨_, _, _, rfl, (hown.q QC).q q2⟩, Q2⟩
              case measure => simp [intOf]; omega
            · go_wp2_with fail
              go_roundw
              case rel => exact ⟨k + 1, by omega, by go_num, by rw [HE.out]; exact ⟨_, _, _, rfl, (hown.q QC).q q2⟩, Q2⟩
              case measure => simp [intOf]; omega
          · subst hxy
            rcases t1 with hx | hx | hx
            all_goals subst hx
            · go_wp2_with fail
              go_roundw
              case rel => exact ⟨k + 1, by omega, by go_num, by rw [HE.out]; exact ⟨_, _, _, rfl, (hown.q QC).q q2⟩, Q2⟩
              case measure => simp [intOf]; omega
            · go_wp2_with fail
              go_roundw
              case rel => exact ⟨k + 1, by omega, by go_num, by rw [HE.out]; exact ⟨_, _, _, rfl, (hown.q QC).q q2⟩, Q2⟩
              case measure => simp [intOf]; omega
            · go_wp2_with fail
              go_roundw
              case rel => exact ⟨k + 1, by omega, by go_num, by rw [HE.out]; exact ⟨_, _, _, rfl, (hown.q QC).q q2⟩, Q2⟩
              case measure => simp [intOf]; omega
        · have HE := Lib.hid (HYES.out hz)
          have hx : x ≠ 0 := fun h => hz (.inl h)
          have hy : y ≠ 0 := fun h => hz (.inr (.inl h))
          have hxy : x ≠ y := fun h => hz (.inr (.inr h))
          have ab1 := AB1.out (e1 hx)
          have ab2 := AB2.out (e2 hy)
          have hxb : (x == 0) = false := by simpa using hx
          have hyb : (y == 0) = false := by simpa using hy
          have hxyb : (x == y) = false := by simpa using hxy
          clear hz
          have C1d := C1c.q q2
          have B7d := B7.q q2
          have B8d := B8.q q2
          have L1 := later_cells C1d.cell C1d.lt
          have L7 := later_cells B7d.cell B7d.lt
          have L8 := later_cells B8d.cell B8d.lt
          go_wp2_with fail
          refine wp_region_later_lit (by kernel_rfl) (by kernel_rfl) ?_
          repeat (any_goals (first | go_big_quiet_step ((first | (go_at_call 113; first | with_reducible exact later_call (KS1.out _) | with_reducible exact later_call (KS2.out _)) | (go_at_call 106; first | with_reducible exact later_call (KL1.out _ (e1 hx)) | with_reducible exact later_call (KL2.out _ (e2 hy))) | (go_at_call 54; first | with_reducible exact later_same (KF1.out _ (e1 hx)) | with_reducible exact later_same (KF2.out _ (e2 hy))))) | quiet_step ((first | (go_at_call 113; first | with_reducible exact later_call (KS1.out _) | with_reducible exact later_call (KS2.out _)) | (go_at_call 106; first | with_reducible exact later_call (KL1.out _ (e1 hx)) | with_reducible exact later_call (KL2.out _ (e2 hy))) | (go_at_call 54; first | with_reducible exact later_same (KF1.out _ (e1 hx)) | with_reducible exact later_same (KF2.out _ (e2 hy))))) | (refine wpQuiet_step (fun K hK => ?_); go_simp; split <;> (refine hK _ ?_; clear hK K))))
          all_goals (refine wpQuiet_nil ?_; rintro _ ⟨⟨w3, q3⟩, rfl⟩; try dsimp only)
          clear L1 L7 L8
          have Q3 := Q2.trans q3
          have o3 := ((hown.q QC).q q2).q q3
          by_cases hs : a1 + a2 < 0
          · rw [if_pos hs] at HE
            go_wp2_with (at_builtin; refine appK elMan rfl _ _ rfl [(k : Int) + 1, 1] rfl o3 rfl (by simp) rfl _ _ rfl (by omega) Q3.size ?_; intro A' c' w' hown' hg' hgr')
            go_roundw
            case rel => exact ⟨k + 1, by omega, by go_num, by rw [HE.out]; exact ⟨_, _, _, rfl, hown'⟩, Q3.mark o3 (Nat.le_refl _) hg'⟩
            case measure => simp [intOf]; omega
          · rw [if_neg hs] at HE
            go_wp2_with (at_builtin; refine appK elMan rfl _ _ rfl [(k : Int) + 1, 2] rfl o3 rfl (by simp) rfl _ _ rfl (by omega) Q3.size ?_; intro A' c' w' hown' hg' hgr')
            go_roundw
            case rel => exact ⟨k + 1, by omega, by go_num, by rw [HE.out]; exact ⟨_, _, _, rfl, hown'⟩, Q3.mark o3 (Nat.le_refl _) hg'⟩
            case measure => simp [intOf]; omega
    · obtain rfl : n = k + 2 := by omega
      have hltI : ¬ (k : Int) + 1 < ((k + 2 : Nat) : Int) - 1 := by omega
      have hltJ : ¬ (k : Int) + 1 + 1 < ((k + 2 : Nat) : Int) := by omega
      go_wp2_with fail
      go_ret
      obtain ⟨m2, h1, h2, _⟩ := mnTo_facts wx wy xs k
      refine RL.mk' (hown.mono Q0.size) hqw ?_ (by decide)
      show (mnTo wx wy xs k).length = (mnTo wx wy xs k).length / 2 * 2
      rw [h2]
      omega
end Go.Proofs.YtkpdoikjfibflaaGreatDoor
