/- Walks: the manoeuvres of a track, as the reference makes them. No condition. -/
import Derived.Test.YtkpdoikjfibflaaGreatDoorUmB
namespace Go.Proofs.YtkpdoikjfibflaaGreatDoor
open Go.RowKit Go.WideShapes Go.ChangeShapes
set_option maxRecDepth 100000 in
set_option maxHeartbeats 8000000 in
theorem spec_manoeuvres (wx wy : Int) (A : Option Addr) (n c : Nat) (xs : List Int) (w : World) (hw : wnd wx wy) (ha : Rd w A xs) (hn : xs.length = n * 3) (hT : isTrk xs n = true) :
    Calls Tryz.prog 157 #[.agg #[.int .i64 wx, .int .i64 wy], .agg #[.slice A n c]] w (RL w 176 2 ((mnTo wx wy xs (n - 2)).length / 2) (mnTo wx wy xs (n - 2))) := by
  have hn40 := trk_40 hT
  have hn2 : 2 ≤ n := by
    have : (decide (2 ≤ n ∧ n ≤ 40) && fixTo xs n) = true := hT
    simp at this
    omega
  obtain ⟨W, hW⟩ : ∃ W, W = (w.alloc (.cells #[.int .i64 wx, .int .i64 wy] 25)).alloc (.cells #[.slice A n c] 37) := ⟨_, rfl⟩
  have B1 : Blk W w.heap.size 25 #[.int .i64 wx, .int .i64 wy] := by rw [hW]; exact (Blk.new _ _ _).alloc _
  have B2 : Blk W (w.heap.size + 1) 37 #[.slice A n c] := by rw [hW]; exact (by simpa using Blk.new (w.alloc (.cells #[.int .i64 wx, .int .i64 wy] 25)) 37 #[.slice A n c])
  have Q0 : Q w W := by rw [hW]; exact ((Q.refl w).alloc _).alloc _
  have zW : W.heap.size = w.heap.size + 2 := by rw [hW]; simp
  have HW := Lib.hid hW
  have HT := Lib.hid hT
  have HN := Lib.hid hn
  have c2 := B2.cell
  clear hT hn
  rw [hW] at c2
  clear hW
  go_enter Tryz.func157, Tryz.ntmps157
  go_wp2_with fail
  rw [← HW.out]
  go_loopw [5, 6] (fun v i wr => ∃ k : Nat, k + 2 ≤ n ∧ i = .int .i64 ((k : Int) + 1) ∧ OwnL wr W.heap.size 176 2 v (mnTo wx wy xs k) ∧ Q W wr) (fun _ i _ => n - (intOf i).toNat)
  case atStart => exact ⟨0, by omega, rfl, (by have h := OwnL.new W 176 2 (Nat.le_refl W.heap.size); rw [zW] at h ⊢; exact h), by (repeat (first | assumption | exact Q.refl _ | refine Q.alloc ?_ _ | refine Q.drewN ?_ _ | refine Q.drew ?_))⟩
  case round =>
    clear c2
    obtain ⟨k, hk, rfl, ⟨A1, m, d1, rfl, hown⟩, hq⟩ := hrel
    obtain ⟨wo, rfl⟩ : ∃ wo, wo = wr := ⟨_, rfl⟩
    have hqw : Q w wo := Q0.trans hq
    have C1 := B1.q hq
    have C2 := B2.q hq
    have c1 := C1.cell
    have c2 := C2.cell
    have m1 := C1.lt
    have m2 := C2.lt
    have hk40 : (k : Int) ≤ 40 := by omega
    by_cases hlt : k + 2 < n
    · have hlen : m ≤ k := by obtain ⟨m2, h1, h2, _⟩ := mnTo_facts wx wy xs k; have := hown.len; omega
      have hltI : (k : Int) + 1 < (n : Int) - 1 := by omega
      have hltJ : (k : Int) + 1 + 1 < (n : Int) := by omega
      have hk0 : (0 : Int) ≤ (k : Int) := by omega
      have hws : IntKind.i64.wrap (k : Int) = (k : Int) := by rw [IntKind.wrap_i64]; omega
      have hh1 := lg_bd HT.out (show k + 1 < n by omega)
      have hh2 := lg_bd HT.out (show k + 1 + 1 < n by omega)
      have kw1 := fun (wv : World) (h : Rd wv A xs) => (show Calls Tryz.prog 116 #[.agg #[.slice A n c], .int .i64 (k : Int)] wv fun e w' => e = .returned (.agg #[.int .i64 (lgX xs k), .int .i64 (lgY xs k)]) ∧ Q wv w' from spec_l03Heading A n c xs k wv h HN.out HT.out (by omega))
      have kw2 := fun (wv : World) (h : Rd wv A xs) => (show Calls Tryz.prog 116 #[.agg #[.slice A n c], .int .i64 ((k : Int) + 1)] wv fun e w' => e = .returned (.agg #[.int .i64 (lgX xs (k + 1)), .int .i64 (lgY xs (k + 1))]) ∧ Q wv w' from spec_l03Heading A n c xs (k + 1) wv h HN.out HT.out (by omega))
      have KW1 := Lib.hid kw1
      have KW2 := Lib.hid kw2
      have HNO := Lib.hid (@mnK_no wx wy xs k)
      have HYES := Lib.hid (@mnK_yes wx wy xs k)
      have t1 := tkV_any wx wy (lgX xs k) (lgY xs k)
      have t2 := tkV_any wx wy (lgX xs (k + 1)) (lgY xs (k + 1))
      have e1 := @tkV_ne wx wy (lgX xs k) (lgY xs k)
      have e2 := @tkV_ne wx wy (lgX xs (k + 1)) (lgY xs (k + 1))
      have KT1 := Lib.hid (fun wv => spec_l08Tack wx wy (lgX xs k) (lgY xs k) wv hw hh1)
      have KT2 := Lib.hid (fun wv => spec_l08Tack wx wy (lgX xs (k + 1)) (lgY xs (k + 1)) wv hw hh2)
      have AB1 := Lib.hid (fun h => alV_bd (wx := wx) (wy := wy) (x := lgX xs k) (y := lgY xs k) hw ⟨hh1, h⟩)
      have AB2 := Lib.hid (fun h => alV_bd (wx := wx) (wy := wy) (x := lgX xs (k + 1)) (y := lgY xs (k + 1)) hw ⟨hh2, h⟩)
      have KA1 := Lib.hid (fun wv h => spec_l08Along wx wy (lgX xs k) (lgY xs k) wv hw ⟨hh1, h⟩)
      have KA2 := Lib.hid (fun wv h => spec_l08Along wx wy (lgX xs (k + 1)) (lgY xs (k + 1)) wv hw ⟨hh2, h⟩)
      clear kw1 kw2 hh1 hh2
      generalize tkV wx wy (lgX xs k) (lgY xs k) = x at *
      generalize tkV wx wy (lgX xs (k + 1)) (lgY xs (k + 1)) = y at *
      generalize alV wx wy (lgX xs k) (lgY xs k) = a1 at *
      generalize alV wx wy (lgX xs (k + 1)) (lgY xs (k + 1)) = a2 at *
      generalize lgX xs k = X1 at *
      generalize lgY xs k = Y1 at *
      generalize lgX xs (k + 1) = X2 at *
      generalize lgY xs (k + 1) = Y2 at *
      have hR := ha.q hqw
      go_wp2_with fail
      go_cut [7, 8] from 19 to 47 (fun p q wc => PqAt wo wc 78 (.int .i64 X1) (.int .i64 Y1) (.int .i64 X2) (.int .i64 Y2) p q)
      case first =>
        have hS : ∀ w', Q wo w' → (Q wo w' ∧ w'.cell? ⟨w.heap.size + 1, 0, none⟩ = some (.slice A n c)) := fun w' q => ⟨q, (C2.q q).cell 0⟩
        go_region_held3 (fun w' => Q wo w' ∧ w'.cell? ⟨w.heap.size + 1, 0, none⟩ = some (.slice A n c)) (first | exact hS _ (by (repeat (first | with_reducible assumption | with_reducible exact Q.refl _ | with_reducible refine Q.alloc ?_ _ | with_reducible refine Q.drewN ?_ _ | with_reducible refine Q.drew ?_ | with_reducible refine Q.setCell ?_ (by first | with_reducible exact Nat.le_refl _ | (simp only; omega) | (simp; done) | (simp; omega)) _))) | (go_split_ands; exact hS _ (by (repeat (first | with_reducible assumption | with_reducible exact Q.refl _ | with_reducible refine Q.alloc ?_ _ | with_reducible refine Q.drewN ?_ _ | with_reducible refine Q.drew ?_ | with_reducible refine Q.setCell ?_ (by first | with_reducible exact Nat.le_refl _ | (simp only; omega) | (simp; done) | (simp; omega)) _))))) (first | (have q50 := q5; go_at_call 116; refine (KW2.out _ (hR.q (by (repeat (first | with_reducible assumption | with_reducible exact Q.refl _ | with_reducible refine Q.alloc ?_ _ | with_reducible refine Q.drewN ?_ _ | with_reducible refine Q.drew ?_ | with_reducible refine Q.setCell ?_ (by first | with_reducible exact Nat.le_refl _ | (simp only; omega) | (simp; done) | (simp; omega)) _))))).mono ?_; rintro e w6 ⟨rfl, q6⟩; have QR : Q wo w6 := Q.trans (by (repeat (first | with_reducible assumption | with_reducible exact Q.refl _ | with_reducible refine Q.alloc ?_ _ | with_reducible refine Q.drewN ?_ _ | with_reducible refine Q.drew ?_ | with_reducible refine Q.setCell ?_ (by first | with_reducible exact Nat.le_refl _ | (simp only; omega) | (simp; done) | (simp; omega)) _))) q6; have zr := QR.size; (first | (have Z1 := V1.q q6; have Z1c := Z1.cell; have Z1f := Z1.frozen; have Z1l := Z1.lt) | (have Z1 := (V1.alloc _).q q6; have Z1c := Z1.cell; have Z1f := Z1.frozen; have Z1l := Z1.lt) | (have Z1 := ((V1.alloc _).alloc _).q q6; have Z1c := Z1.cell; have Z1f := Z1.frozen; have Z1l := Z1.lt) | skip); (first | (have Z2 := V2.q q6; have Z2c := Z2.cell; have Z2f := Z2.frozen; have Z2l := Z2.lt) | (have Z2 := (V2.alloc _).q q6; have Z2c := Z2.cell; have Z2f := Z2.frozen; have Z2l := Z2.lt) | (have Z2 := ((V2.alloc _).alloc _).q q6; have Z2c := Z2.cell; have Z2f := Z2.frozen; have Z2l := Z2.lt) | skip); (first | (have Z3 := (q6).boxB2; have Z40 := (q6).boxB; have Z3c := Z3.cell; have Z3f := Z3.frozen; have Z3l := Z3.lt; simp only [World.size_alloc] at Z40; have Z4 := Z40; have Z4c := Z4.cell; have Z4f := Z4.frozen; have Z4l := Z4.lt) | (have Z3 := (q6).boxB; have Z3c := Z3.cell; have Z3f := Z3.frozen; have Z3l := Z3.lt) | (have Z3 := (Q.trans ((Q.refl _).drew) q6).boxB2; have Z40 := (Q.trans ((Q.refl _).drew) q6).boxB; have Z3c := Z3.cell; have Z3f := Z3.frozen; have Z3l := Z3.lt; simp only [World.size_alloc] at Z40; have Z4 := Z40; have Z4c := Z4.cell; have Z4f := Z4.frozen; have Z4l := Z4.lt) | (have Z3 := (Q.trans ((Q.refl _).drew) q6).boxB; have Z3c := Z3.cell; have Z3f := Z3.frozen; have Z3l := Z3.lt) | skip)) | (go_at_call 116; refine (KW1.out _ (hR.q (by (repeat (first | with_reducible assumption | with_reducible exact Q.refl _ | with_reducible refine Q.alloc ?_ _ | with_reducible refine Q.drewN ?_ _ | with_reducible refine Q.drew ?_ | with_reducible refine Q.setCell ?_ (by first | with_reducible exact Nat.le_refl _ | (simp only; omega) | (simp; done) | (simp; omega)) _))))).mono ?_; rintro e w5 ⟨rfl, q5⟩; have QR : Q wo w5 := Q.trans (by (repeat (first | with_reducible assumption | with_reducible exact Q.refl _ | with_reducible refine Q.alloc ?_ _ | with_reducible refine Q.drewN ?_ _ | with_reducible refine Q.drew ?_ | with_reducible refine Q.setCell ?_ (by first | with_reducible exact Nat.le_refl _ | (simp only; omega) | (simp; done) | (simp; omega)) _))) q5; have zr := QR.size; (first | (have V1 := (q5).boxB2; have V20 := (q5).boxB; have V1c := V1.cell; have V1f := V1.frozen; have V1l := V1.lt; simp only [World.size_alloc] at V20; have V2 := V20; have V2c := V2.cell; have V2f := V2.frozen; have V2l := V2.lt) | (have V1 := (q5).boxB; have V1c := V1.cell; have V1f := V1.frozen; have V1l := V1.lt) | (have V1 := (Q.trans ((Q.refl _).drew) q5).boxB2; have V20 := (Q.trans ((Q.refl _).drew) q5).boxB; have V1c := V1.cell; have V1f := V1.frozen; have V1l := V1.lt; simp only [World.size_alloc] at V20; have V2 := V20; have V2c := V2.cell; have V2f := V2.frozen; have V2l := V2.lt) | (have V1 := (Q.trans ((Q.refl _).drew) q5).boxB; have V1c := V1.cell; have V1f := V1.frozen; have V1l := V1.lt) | skip)))
        all_goals (go_wp2_with fail; go_meet)
        all_goals clear hS
        all_goals first | with_reducible exact pq_s0a QR | with_reducible exact pq_s0b QR | with_reducible exact pq_s1a Z3 QR (by omega) | with_reducible exact pq_s1b Z3 QR (by omega) | with_reducible exact pq_s1a Z1 QR (by omega) | with_reducible exact pq_s1b Z1 QR (by omega) | with_reducible exact pq_s2 Z3 Z4 QR (by omega) (by omega) (by omega) | with_reducible exact pq_s2 Z4 Z3 QR (by omega) (by omega) (by omega) | with_reducible exact pq_s2 Z1 Z3 QR (by omega) (by omega) (by omega) | with_reducible exact pq_s2 Z3 Z1 QR (by omega) (by omega) (by omega) | with_reducible exact pq_s2 Z1 Z2 QR (by omega) (by omega) (by omega) | with_reducible exact pq_s2 Z2 Z1 QR (by omega) (by omega) (by omega)
      case rest =>
        obtain ⟨b7, b8, rfl, rfl, B7, B8, QC⟩ := hcut
        clear c1 c2 KW1 KW2
        have C1c := C1.q QC
        have C2c := C2.q QC
        have L1 := later_cells C1c.cell C1c.lt
        have L7 := later_cells B7.cell B7.lt
        have L8 := later_cells B8.cell B8.lt
        have hpb : 0 ≤ x * y ∧ x * y ≤ 4 := by rcases t1 with h | h | h <;> rcases t2 with h' | h' | h' <;> subst h <;> subst h' <;> decide
        by_cases hz : x = 0 ∨ y = 0 ∨ x = y
        · have HE := Lib.hid (HNO.out hz)
          have hne : ¬ x * y = 2 := by rcases t1 with h | h | h <;> rcases t2 with h' | h' | h' <;> subst h <;> subst h' <;> first | decide | (exact absurd hz (by decide))
          clear e1 e2 hz t1 t2 HNO HYES
          go_wp2_with fail
          refine wp_region_later_lit (by kernel_rfl) (by kernel_rfl) ?_
          repeat (any_goals (first | go_big_quiet_step ((go_at_call 89; first | with_reducible exact later_call (KT1.out _) | with_reducible exact later_call (KT2.out _))) | quiet_step ((go_at_call 89; first | with_reducible exact later_call (KT1.out _) | with_reducible exact later_call (KT2.out _))) | (refine wpQuiet_step (fun K hK => ?_); go_simp; split <;> (refine hK _ ?_; clear hK K))))
          all_goals (refine wpQuiet_nil ?_; rintro _ ⟨⟨w2, q2⟩, rfl⟩; try dsimp only)
          clear L1 L7 L8
          have Q2 := hq.trans (QC.trans q2)
          go_wp2_with fail
          go_roundw
          case rel => exact ⟨k + 1, by omega, by go_num, by rw [HE.out]; exact ⟨_, _, _, rfl, (hown.q QC).q q2⟩, Q2⟩
          case measure => simp [intOf]; omega
        · have HE := Lib.hid (HYES.out hz)
          have hxy2 : x * y = 2 := by rcases t1 with h | h | h <;> rcases t2 with h' | h' | h' <;> subst h <;> subst h' <;> first | rfl | (exact absurd (by decide) hz)
          have hx : x ≠ 0 := fun h => hz (.inl h)
          have hy : y ≠ 0 := fun h => hz (.inr (.inl h))
          have f1 := e1 hx
          have f2 := e2 hy
          have ab1 := AB1.out f1
          have ab2 := AB2.out f2
          clear hz t1 t2 HNO HYES e1 e2 hx hy hpb
          go_wp2_with fail
          refine wp_region_later_lit (by kernel_rfl) (by kernel_rfl) ?_
          repeat (any_goals (first | go_big_quiet_step ((go_at_call 89; first | with_reducible exact later_call (KT1.out _) | with_reducible exact later_call (KT2.out _))) | quiet_step ((go_at_call 89; first | with_reducible exact later_call (KT1.out _) | with_reducible exact later_call (KT2.out _))) | (refine wpQuiet_step (fun K hK => ?_); go_simp; split <;> (refine hK _ ?_; clear hK K))))
          all_goals (refine wpQuiet_nil ?_; rintro _ ⟨⟨w2, q2⟩, rfl⟩; try dsimp only)
          clear L1 L7 L8
          have Q2 := hq.trans (QC.trans q2)
          have C1d := C1c.q q2
          have B7d := B7.q q2
          have B8d := B8.q q2
          have L1 := later_cells C1d.cell C1d.lt
          have L7 := later_cells B7d.cell B7d.lt
          have L8 := later_cells B8d.cell B8d.lt
          go_wp2_with fail
          refine wp_region_later_lit (by kernel_rfl) (by kernel_rfl) ?_
          repeat (any_goals (first | go_big_quiet_step ((go_at_call 166; first | with_reducible exact later_call (KA1.out _ f1) | with_reducible exact later_call (KA2.out _ f2))) | quiet_step ((go_at_call 166; first | with_reducible exact later_call (KA1.out _ f1) | with_reducible exact later_call (KA2.out _ f2))) | (refine wpQuiet_step (fun K hK => ?_); go_simp; split <;> (refine hK _ ?_; clear hK K))))
          all_goals (refine wpQuiet_nil ?_; rintro _ ⟨⟨w3, q3⟩, rfl⟩; try dsimp only)
          clear L1 L7 L8
          have Q3 := Q2.trans q3
          have o3 := ((hown.q QC).q q2).q q3
          by_cases hs : a1 + a2 < 0
          · rw [if_pos hs] at HE
            go_wp2_with (at_builtin; refine appK elMan rfl _ _ rfl [(k : Int) + 1, 1] rfl o3 rfl (by simp) rfl _ _ rfl (by omega) Q3.size ?_; intro A' c' w' hown' hg' hgr')
            go_roundw
            case rel => exact ⟨k + 1, by omega, by go_num, by rw [HE.out]; exact ⟨_, _, _, rfl, hown'⟩, Q3.mark o3 (Nat.le_refl _) hg'⟩
            case measure => simp [intOf]; omega
          · rw [if_neg hs] at HE
            go_wp2_with (at_builtin; refine appK elMan rfl _ _ rfl [(k : Int) + 1, 2] rfl o3 rfl (by simp) rfl _ _ rfl (by omega) Q3.size ?_; intro A' c' w' hown' hg' hgr')
            go_roundw
            case rel => exact ⟨k + 1, by omega, by go_num, by rw [HE.out]; exact ⟨_, _, _, rfl, hown'⟩, Q3.mark o3 (Nat.le_refl _) hg'⟩
            case measure => simp [intOf]; omega
    · obtain rfl : n = k + 2 := by omega
      have hltI : ¬ (k : Int) + 1 < ((k + 2 : Nat) : Int) - 1 := by omega
      have hltJ : ¬ (k : Int) + 1 + 1 < ((k + 2 : Nat) : Int) := by omega
      go_wp2_with fail
      go_ret
      obtain ⟨m2, h1, h2, _⟩ := mnTo_facts wx wy xs k
      refine RL.mk' (hown.mono Q0.size) hqw ?_ (by decide)
      show (mnTo wx wy xs k).length = (mnTo wx wy xs k).length / 2 * 2
      rw [h2]
      omega
end Go.Proofs.YtkpdoikjfibflaaGreatDoor
