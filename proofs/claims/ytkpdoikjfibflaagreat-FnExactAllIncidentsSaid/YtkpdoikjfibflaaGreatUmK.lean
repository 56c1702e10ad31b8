/- Walks: the incidents of two tracks at check times, as the reference makes them. No condition. -/
import Derived.Test.YtkpdoikjfibflaaGreatUmJ
namespace Go.Proofs.YtkpdoikjfibflaaGreat
open Go.RowKit Go.WideShapes Go.ChangeShapes
set_option maxRecDepth 100000 in
set_option maxHeartbeats 8000000 in
theorem spec_incidents (wx wy a b d s : Int) (AT : Option Addr) (N cT : Nat) (L : List Int) (A1 : Option Addr) (n c1 : Nat) (xs : List Int) (A2 : Option Addr) (m c2 : Nat) (ys : List Int) (f g : Int) (w : World) (hw : wnd wx wy) (hwn : wnB wx wy = true) (hx : isWat a b d s = true) (hL : Rd w AT L) (hN : L.length = N) (hN2 : N ≤ 401) (ha : Rd w A1 xs) (hn : xs.length = n * 3) (h1 : isTrk xs n = true) (hb : Rd w A2 ys) (hm : ys.length = m * 3) (h2 : isTrk ys m = true) :
    Calls Tryz.prog 32 #[.agg #[.int .i64 wx, .int .i64 wy], .agg #[.int .i64 a, .int .i64 b, .int .i64 d, .int .i64 s], .agg #[.slice A1 n c1], .agg #[.slice A2 m c2], .int .i64 f, .int .i64 g, .slice AT N cT] w (RL w 55 5 ((inL wx wy a b d xs n ys m f g L).length / 5) (inL wx wy a b d xs n ys m f g L)) := by
  obtain ⟨hw1, hw2, hw3, hw4⟩ := isWat_all hx
  have KN := Lib.hid (fun t (wv : World) (h : Rd wv A1 xs) (h' : Rd wv A2 ys) => spec_near a b d s A1 n c1 xs A2 m c2 ys t wv h hn h1 h' hm h2 hx)
  have KR := Lib.hid (fun t (wv : World) (h : Rd wv A1 xs) (h' : Rd wv A2 ys) (hp : naR a d xs n ys m t = true) => spec_RuleAt1 wx wy A1 n c1 xs A2 m c2 ys t a b wv hw hwn h hn h1 h' hm h2 (naR_hd hp).1 (naR_hd hp).2 hw1 hw2)
  have HK := Lib.hid (fun t => ruT_keeper wx wy a b xs n ys m t)
  have hle := fun k => icTo_len (p := naR a d xs n ys m) (L := L) (ev := evT wx wy a b xs n ys m f g) (fun t => evR_len (ruT wx wy a b xs n ys m t) t f g) k
  have HEV := Lib.hid (show ∀ t, evT wx wy a b xs n ys m f g t = evR ((ruT wx wy a b xs n ys m t).1, (ruT wx wy a b xs n ys m t).2) t f g from fun _ => rfl)
  unfold inL
  rw [hN]
  have HN := Lib.hid hN
  have HLE := Lib.hid hle
  clear hw hwn hx hn h1 hm h2 hw1 hw2 hw3 hw4 hN hle
  obtain ⟨rF, hrF⟩ : ∃ rF, rF = ruT wx wy a b xs n ys m := ⟨_, rfl⟩
  rw [← hrF] at HK HEV KR
  clear hrF
  generalize naR a d xs n ys m = p at *
  generalize evT wx wy a b xs n ys m f g = ev at *
  obtain ⟨W, hW⟩ : ∃ W, W = (((w.alloc (.cells #[.int .i64 wx, .int .i64 wy] 33)).alloc (.cells #[.int .i64 a, .int .i64 b, .int .i64 d, .int .i64 s] 35)).alloc (.cells #[.slice A1 n c1] 39)).alloc (.cells #[.slice A2 m c2] 39) := ⟨_, rfl⟩
  obtain ⟨B0, B1, B2, B3⟩ := bxI w wx wy a b d s A1 n c1 A2 m c2
  rw [← hW] at B0 B1 B2 B3
  have Q0 : Q w W := by rw [hW]; exact ((((Q.refl w).alloc _).alloc _).alloc _).alloc _
  have zW : W.heap.size = w.heap.size + 1 + 1 + 1 + 1 := by rw [hW]; simp
  have HW := Lib.hid hW
  clear hW
  go_enter Tryz.func32, Tryz.ntmps32
  go_wp2_with fail
  rw [← HW.out]
  go_loopw [15, 16, 17] (fun v bf i wr => ∃ k : Nat, k ≤ N ∧ i = .int .i64 k ∧ bf = .bool (beB p L k) ∧ OwnL wr W.heap.size 55 5 v (icTo p ev L k) ∧ Q W wr) (fun _ _ i _ => N - (intOf i).toNat)
  case atStart => exact ⟨0, by omega, rfl, rfl, (by have h := OwnL.new W 55 5 (Nat.le_refl W.heap.size); rw [zW] at h ⊢; exact h), by (repeat (first | assumption | exact Q.refl _ | refine Q.alloc ?_ _ | refine Q.drewN ?_ _ | refine Q.drew ?_))⟩
  case round =>
    obtain ⟨k, hk, rfl, rfl, ⟨A5, k5, c5, rfl, hown⟩, hq⟩ := hrel
    obtain ⟨wo, rfl⟩ : ∃ wo, wo = wr := ⟨_, rfl⟩
    have hqw : Q w wo := Q0.trans hq
    have hlen : k5 ≤ k := by obtain ⟨c, h1, h2⟩ := HLE.out k; have := hown.len; omega
    by_cases hlt : k < N
    · obtain ⟨bl, ol, rfl, g0⟩ := (hL.q hqw).at1 HN.out hlt
      have hltI : (k : Int) < (N : Int) := by omega
      have b0 := B0.q hq
      have b1 := B1.q hq
      have b2 := B2.q hq
      have b3 := B3.q hq
      have hI := Lib.hid (beB_succ p L k)
      have hE := Lib.hid (show icTo p ev L (k + 1) = icTo p ev L k ++ icK p ev L k from rfl)
      have HNO := Lib.hid (@icK_no p ev L k)
      have HBE := Lib.hid (@icK_be p ev L k)
      have HYE := Lib.hid (@icK_yes p ev L k)
      obtain ⟨T, hT⟩ : ∃ T, T = el L k := ⟨_, rfl⟩
      rw [← hT] at g0 hI HNO HYE
      have hk1 := KR.out T
      have kk := HK.out T
      have hev := HEV.out T
      clear hT
      have k1 := fun wv h h' => KN.out T wv h h'
      generalize ev T = E at *
      generalize (rF T).1 = R1 at *
      generalize (rF T).2 = R2 at *
      generalize icK p ev L k = IK at *
      have HA := ha.q hqw
      have HB := hb.q hqw
      generalize hpT : p T = P at *
      generalize beB p L k = be at *
      have d0 := later_cells b0.cell b0.lt
      have d1 := later_cells b1.cell b1.lt
      have d2 := later_cells b2.cell b2.lt
      have d3 := later_cells b3.cell b3.lt
      have d4 := later_cell g0
      have kn := fun (u : Later wo) => k1 u.val (HA.q u.q) (HB.q u.q)
      clear k1
      cases P with
      | false =>
        have KT := Lib.hid kn
        clear kn
        go_wp2_with fail
        refine wp_region_later_lit (by kernel_rfl) (by kernel_rfl) ?_
        repeat (any_goals (first | go_big_quiet_step ((go_at_call 57; with_reducible exact later_call (KT.out _))) | quiet_step ((go_at_call 57; with_reducible exact later_call (KT.out _))) | (refine wpQuiet_step (fun K hK => ?_); go_simp; split <;> (refine hK _ ?_; clear hK K))))
        refine wpQuiet_nil ?_
        rintro w1 ⟨⟨w1x, q1⟩, hwx⟩
        obtain rfl : w1 = w1x := hwx
        clear d0 d1 d2 d3 d4
        replace b0 := b0.q q1
        replace b1 := b1.q q1
        replace b2 := b2.q q1
        replace b3 := b3.q q1
        replace HA := HA.q q1
        replace HB := HB.q q1
        replace g0 := q1.cell g0
        go_wp2_with fail
        go_roundw
        case rel => exact ⟨k + 1, by omega, by go_num, by rw [hI.out], by rw [hE.out, HNO.out (by trivial), List.append_nil]; exact ⟨_, _, _, rfl, hown.q q1⟩, hq.trans q1⟩
        case measure => simp [intOf]; omega
      | true =>
        cases be with
        | true =>
          have KT := Lib.hid kn
          clear kn
          go_wp2_with fail
          refine wp_region_later_lit (by kernel_rfl) (by kernel_rfl) ?_
          repeat (any_goals (first | go_big_quiet_step ((go_at_call 57; with_reducible exact later_call (KT.out _))) | quiet_step ((go_at_call 57; with_reducible exact later_call (KT.out _))) | (refine wpQuiet_step (fun K hK => ?_); go_simp; split <;> (refine hK _ ?_; clear hK K))))
          refine wpQuiet_nil ?_
          rintro w1 ⟨⟨w1x, q1⟩, hwx⟩
          obtain rfl : w1 = w1x := hwx
          clear d0 d1 d2 d3 d4
          replace b0 := b0.q q1
          replace b1 := b1.q q1
          replace b2 := b2.q q1
          replace b3 := b3.q q1
          replace HA := HA.q q1
          replace HB := HB.q q1
          replace g0 := q1.cell g0
          go_wp2_with fail
          go_roundw
          case rel => exact ⟨k + 1, by omega, by go_num, by rw [hI.out], by rw [hE.out, HBE.out (by trivial), List.append_nil]; exact ⟨_, _, _, rfl, hown.q q1⟩, hq.trans q1⟩
          case measure => simp [intOf]; omega
        | false =>
          have KT := Lib.hid kn
          clear kn
          go_wp2_with fail
          refine wp_region_later_lit (by kernel_rfl) (by kernel_rfl) ?_
          repeat (any_goals (first | go_big_quiet_step ((go_at_call 57; with_reducible exact later_call (KT.out _))) | quiet_step ((go_at_call 57; with_reducible exact later_call (KT.out _))) | (refine wpQuiet_step (fun K hK => ?_); go_simp; split <;> (refine hK _ ?_; clear hK K))))
          refine wpQuiet_nil ?_
          rintro w1 ⟨⟨w1x, q1⟩, hwx⟩
          obtain rfl : w1 = w1x := hwx
          clear d0 d1 d2 d3 d4
          replace b0 := b0.q q1
          replace b1 := b1.q q1
          replace b2 := b2.q q1
          replace b3 := b3.q q1
          replace HA := HA.q q1
          replace HB := HB.q q1
          replace g0 := q1.cell g0
          have KR1 := Lib.hid (fun wv h h' => hk1 wv h h' (by trivial))
          have QE : Q w1 (w1.alloc (.cells #[.int .i64 T, .int .i64 f, .int .i64 g, .int .i64 (-1), .int .i64 5] 55)) := (Q.refl w1).alloc _
          have hge : wo.heap.size ≤ w1.heap.size := q1.size
          have lg := World.block_lt_of_cell? w1 _ g0
          go_upto_region 9 with (fail)
          replace b0 := b0.q QE
          replace b1 := b1.q QE
          replace b2 := b2.q QE
          replace b3 := b3.q QE
          replace HA := HA.q QE
          replace HB := HB.q QE
          replace g0 := QE.cell g0
          have BE := Blk.new w1 55 #[.int .i64 T, .int .i64 f, .int .i64 g, .int .i64 (-1), .int .i64 5]
          have Q1 : Q wo _ := q1.trans QE
          have z1 : w1.heap.size + 1 = (w1.alloc (.cells #[.int .i64 T, .int .i64 f, .int .i64 g, .int .i64 (-1), .int .i64 5] 55)).heap.size := by simp
          generalize hwb : w1.alloc (.cells #[.int .i64 T, .int .i64 f, .int .i64 g, .int .i64 (-1), .int .i64 5] 55) = wb at *
          clear hwb QE q1
          go_cut [20, 21] from 50 to 87 (fun pv cv wc => ∃ b7, pv = .pointer (some ⟨b7, 0, none⟩) ∧ cv = .int .i64 0 ∧ wb.heap.size ≤ b7 ∧ Blk wc b7 91 #[.int .i64 R1, .int .i64 R2] ∧ Blk wc w1.heap.size 55 #[.int .i64 T, .int .i64 f, .int .i64 g, .int .i64 (-1), .int .i64 5] ∧ Q wb wc)
          case first =>
            have hS : ∀ w', Q wb w' → (Q wb w' ∧ w'.cell? ⟨w.heap.size, 0, none⟩ = some (.int .i64 wx) ∧ w'.cell? ⟨w.heap.size, 1, none⟩ = some (.int .i64 wy) ∧ w'.cell? ⟨w.heap.size + 1, 0, none⟩ = some (.int .i64 a) ∧ w'.cell? ⟨w.heap.size + 1, 1, none⟩ = some (.int .i64 b) ∧ w'.cell? ⟨w.heap.size + 1 + 1, 0, none⟩ = some (.slice A1 n c1) ∧ w'.cell? ⟨w.heap.size + 1 + 1 + 1, 0, none⟩ = some (.slice A2 m c2) ∧ w'.cell? ⟨bl, ol + k, none⟩ = some (.int .i64 T)) := fun w' q => ⟨q, (b0.q q).cell 0, (b0.q q).cell 1, (b1.q q).cell 0, (b1.q q).cell 1, (b2.q q).cell 0, (b3.q q).cell 0, q.cell g0⟩
            go_region_held3 (fun w' => Q wb w' ∧ w'.cell? ⟨w.heap.size, 0, none⟩ = some (.int .i64 wx) ∧ w'.cell? ⟨w.heap.size, 1, none⟩ = some (.int .i64 wy) ∧ w'.cell? ⟨w.heap.size + 1, 0, none⟩ = some (.int .i64 a) ∧ w'.cell? ⟨w.heap.size + 1, 1, none⟩ = some (.int .i64 b) ∧ w'.cell? ⟨w.heap.size + 1 + 1, 0, none⟩ = some (.slice A1 n c1) ∧ w'.cell? ⟨w.heap.size + 1 + 1 + 1, 0, none⟩ = some (.slice A2 m c2) ∧ w'.cell? ⟨bl, ol + k, none⟩ = some (.int .i64 T)) (first | exact hS _ (by (repeat (first | with_reducible assumption | with_reducible exact Q.refl _ | with_reducible refine Q.alloc ?_ _ | with_reducible refine Q.drewN ?_ _ | with_reducible refine Q.drew ?_ | with_reducible refine Q.setCell ?_ (by first | with_reducible exact Nat.le_refl _ | (simp only; omega) | (simp; done) | (simp; omega)) _))) | (go_split_ands; exact hS _ (by (repeat (first | with_reducible assumption | with_reducible exact Q.refl _ | with_reducible refine Q.alloc ?_ _ | with_reducible refine Q.drewN ?_ _ | with_reducible refine Q.drew ?_ | with_reducible refine Q.setCell ?_ (by first | with_reducible exact Nat.le_refl _ | (simp only; omega) | (simp; done) | (simp; omega)) _))))) (first | (go_at_call 58; refine (KR1.out _ (HA.q (by (repeat (first | with_reducible assumption | with_reducible exact Q.refl _ | with_reducible refine Q.alloc ?_ _ | with_reducible refine Q.drewN ?_ _ | with_reducible refine Q.drew ?_ | with_reducible refine Q.setCell ?_ (by first | with_reducible exact Nat.le_refl _ | (simp only; omega) | (simp; done) | (simp; omega)) _)))) (HB.q (by (repeat (first | with_reducible assumption | with_reducible exact Q.refl _ | with_reducible refine Q.alloc ?_ _ | with_reducible refine Q.drewN ?_ _ | with_reducible refine Q.drew ?_ | with_reducible refine Q.setCell ?_ (by first | with_reducible exact Nat.le_refl _ | (simp only; omega) | (simp; done) | (simp; omega)) _))))).mono ?_; rintro e w5 ⟨rfl, q5⟩; have QR : Q wb w5 := Q.trans (by (repeat (first | with_reducible assumption | with_reducible exact Q.refl _ | with_reducible refine Q.alloc ?_ _ | with_reducible refine Q.drewN ?_ _ | with_reducible refine Q.drew ?_ | with_reducible refine Q.setCell ?_ (by first | with_reducible exact Nat.le_refl _ | (simp only; omega) | (simp; done) | (simp; omega)) _))) q5; have zr := QR.size; (first | (have Y1 := (q5).boxB2; have Y20 := (q5).boxB; have Y1c := Y1.cell; have Y1f := Y1.frozen; have Y1l := Y1.lt; simp only [World.size_alloc] at Y20; have Y2 := Y20; have Y2c := Y2.cell; have Y2f := Y2.frozen; have Y2l := Y2.lt) | (have Y1 := (q5).boxB; have Y1c := Y1.cell; have Y1f := Y1.frozen; have Y1l := Y1.lt) | (have Y1 := (Q.trans ((Q.refl _).drew) q5).boxB2; have Y20 := (Q.trans ((Q.refl _).drew) q5).boxB; have Y1c := Y1.cell; have Y1f := Y1.frozen; have Y1l := Y1.lt; simp only [World.size_alloc] at Y20; have Y2 := Y20; have Y2c := Y2.cell; have Y2f := Y2.frozen; have Y2l := Y2.lt) | (have Y1 := (Q.trans ((Q.refl _).drew) q5).boxB; have Y1c := Y1.cell; have Y1f := Y1.frozen; have Y1l := Y1.lt) | skip)))
            all_goals (go_wp2_with fail; go_meet)
            all_goals clear hS
            all_goals first | with_reducible exact ⟨_, rfl, rfl, zr, Blk.new _ _ _, (BE.q QR).alloc _, QR.alloc _⟩ | with_reducible exact ⟨_, rfl, rfl, by omega, (Y1.p2_0 (.int .i64 R1)).p2_1 (.int .i64 R2), ((BE.q QR).far (p := ⟨_, 0, none⟩) (by simp only; omega) _).far (p := ⟨_, 1, none⟩) (by simp only; omega) _, (QR.setCell (by simp only; omega) _).setCell (by simp only; omega) _⟩
          case rest =>
            obtain ⟨b7, rfl, rfl, hb7, BR, BE, QC⟩ := hcut
            have Q2 : Q wo wc := Q1.trans QC
            clear g0 lg HA HB KR1
            have hne : b7 ≠ w1.heap.size := by omega
            have cR := BR.cell
            have lR := BR.lt
            have cE := BE.cell
            have fE := BE.frozen
            have lE := BE.lt
            rcases kk with hk0 | hk1' | hk2
            · have HEE := Lib.hid (show E = [T, f, g, -1, 5] by rw [hev, evR_0 hk0])
              subst hk0
              have o5 := hown.q Q2
              go_wp2_with (at_builtin; refine appK elInc rfl _ _ rfl [T, f, g, -1, 5] rfl o5 rfl (by simp) rfl _ _ rfl (by omega) (Q.size (hq.trans Q2)) ?_; intro A' c' w' hown' hg' hgr')
              go_roundw
              case rel => exact ⟨k + 1, by omega, by go_num, by rw [hI.out], by rw [hE.out, HYE.out (by trivial) (by trivial), HEE.out]; exact ⟨_, _, _, rfl, hown'⟩, (hq.trans Q2).mark o5 (Nat.le_refl _) hg'⟩
              case measure => simp [intOf]; omega
            · have HEE := Lib.hid (show E = [T, f, g, f, R2] by rw [hev, evR_1 hk1'])
              subst hk1'
              have E1 : Blk (wc.setCell ⟨w1.heap.size, 3, none⟩ (.int .i64 f)) w1.heap.size 55 #[.int .i64 T, .int .i64 f, .int .i64 g, .int .i64 f, .int .i64 5] := by simpa using BE.set_ 3 (.int .i64 f)
              have QS1 : Q wo (wc.setCell ⟨w1.heap.size, 3, none⟩ (.int .i64 f)) := Q2.setCell (p := ⟨w1.heap.size, 3, none⟩) hge _
              have R1x := BR.far (p := ⟨w1.heap.size, 3, none⟩) hne (.int .i64 f)
              have d1 := E1.cell
              have e1 := E1.frozen
              have m1 := E1.lt
              have dd1 := (E1.alloc (.cells #[.int .i64 f, .int .i64 g] 2)).cell
              have r1 := R1x.cell
              have rl1 := R1x.lt
              have E2 : Blk ((wc.setCell ⟨w1.heap.size, 3, none⟩ (.int .i64 f)).setCell ⟨w1.heap.size, 4, none⟩ (.int .i64 R2)) w1.heap.size 55 #[.int .i64 T, .int .i64 f, .int .i64 g, .int .i64 f, .int .i64 R2] := by simpa using E1.set_ 4 (.int .i64 R2)
              have QS2 : Q wo ((wc.setCell ⟨w1.heap.size, 3, none⟩ (.int .i64 f)).setCell ⟨w1.heap.size, 4, none⟩ (.int .i64 R2)) := QS1.setCell (p := ⟨w1.heap.size, 4, none⟩) hge _
              have R2x := R1x.far (p := ⟨w1.heap.size, 4, none⟩) hne (.int .i64 R2)
              have d2 := E2.cell
              have e2 := E2.frozen
              have m2 := E2.lt
              have dd2 := (E2.alloc (.cells #[.int .i64 f, .int .i64 g] 2)).cell
              have r2 := R2x.cell
              have rl2 := R2x.lt
              have Q5 := QS2.alloc (.cells #[.int .i64 f, .int .i64 g] 2)
              have o5 := hown.q Q5
              go_wp2_with (at_builtin; refine appK elInc rfl _ _ rfl [T, f, g, f, R2] rfl o5 rfl (by simp) rfl _ _ rfl (by omega) (Q.size (hq.trans Q5)) ?_; intro A' c' w' hown' hg' hgr')
              go_roundw
              case rel => exact ⟨k + 1, by omega, by go_num, by rw [hI.out], by rw [hE.out, HYE.out (by trivial) (by trivial), HEE.out]; exact ⟨_, _, _, rfl, hown'⟩, (hq.trans Q5).mark o5 (Nat.le_refl _) hg'⟩
              case measure => simp [intOf]; omega
            · have HEE := Lib.hid (show E = [T, f, g, g, R2] by rw [hev, evR_2 hk2])
              subst hk2
              have E1 : Blk (wc.setCell ⟨w1.heap.size, 3, none⟩ (.int .i64 g)) w1.heap.size 55 #[.int .i64 T, .int .i64 f, .int .i64 g, .int .i64 g, .int .i64 5] := by simpa using BE.set_ 3 (.int .i64 g)
              have QS1 : Q wo (wc.setCell ⟨w1.heap.size, 3, none⟩ (.int .i64 g)) := Q2.setCell (p := ⟨w1.heap.size, 3, none⟩) hge _
              have R1x := BR.far (p := ⟨w1.heap.size, 3, none⟩) hne (.int .i64 g)
              have d1 := E1.cell
              have e1 := E1.frozen
              have m1 := E1.lt
              have dd1 := (E1.alloc (.cells #[.int .i64 f, .int .i64 g] 2)).cell
              have r1 := R1x.cell
              have rl1 := R1x.lt
              have E2 : Blk ((wc.setCell ⟨w1.heap.size, 3, none⟩ (.int .i64 g)).setCell ⟨w1.heap.size, 4, none⟩ (.int .i64 R2)) w1.heap.size 55 #[.int .i64 T, .int .i64 f, .int .i64 g, .int .i64 g, .int .i64 R2] := by simpa using E1.set_ 4 (.int .i64 R2)
              have QS2 : Q wo ((wc.setCell ⟨w1.heap.size, 3, none⟩ (.int .i64 g)).setCell ⟨w1.heap.size, 4, none⟩ (.int .i64 R2)) := QS1.setCell (p := ⟨w1.heap.size, 4, none⟩) hge _
              have R2x := R1x.far (p := ⟨w1.heap.size, 4, none⟩) hne (.int .i64 R2)
              have d2 := E2.cell
              have e2 := E2.frozen
              have m2 := E2.lt
              have dd2 := (E2.alloc (.cells #[.int .i64 f, .int .i64 g] 2)).cell
              have r2 := R2x.cell
              have rl2 := R2x.lt
              have Q5 := QS2.alloc (.cells #[.int .i64 f, .int .i64 g] 2)
              have o5 := hown.q Q5
              go_wp2_with (at_builtin; refine appK elInc rfl _ _ rfl [T, f, g, g, R2] rfl o5 rfl (by simp) rfl _ _ rfl (by omega) (Q.size (hq.trans Q5)) ?_; intro A' c' w' hown' hg' hgr')
              go_roundw
              case rel => exact ⟨k + 1, by omega, by go_num, by rw [hI.out], by rw [hE.out, HYE.out (by trivial) (by trivial), HEE.out]; exact ⟨_, _, _, rfl, hown'⟩, (hq.trans Q5).mark o5 (Nat.le_refl _) hg'⟩
              case measure => simp [intOf]; omega
    · obtain rfl : k = N := by omega
      go_wp2_with fail
      go_ret
      obtain ⟨c, h1, h2⟩ := HLE.out k
      refine RL.mk' (hown.mono Q0.size) hqw ?_ (by decide)
      rw [h2]
      omega
end Go.Proofs.YtkpdoikjfibflaaGreat
