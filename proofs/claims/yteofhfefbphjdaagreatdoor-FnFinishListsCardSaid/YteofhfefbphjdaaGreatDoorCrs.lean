/- Walks: the list of the crossings of a line by a track, as the program makes it. -/
import Derived.Test.YteofhfefbphjdaaGreatDoorLegs
namespace Go.Proofs.YteofhfefbphjdaaGreatDoor
open Go.RowKit Go.WideShapes Go.ChangeShapes
/-- A list of crossings (five numbers each) of the call's own. -/
def RC (w : World) (xs : List Int) (e : Ending) (w' : World) : Prop := ∃ A m c, e = .returned (.slice A m c) ∧ Own w' w.heap.size 79 5 (.slice A m c) m xs ∧ Q w w'
theorem num_place {a b c d : Int} {xs : List Int} {k : Nat} (hl : lnB a b c d = true) (hp : ptB (el xs (k * 3 + 1)) (el xs (k * 3 + 2)) = true) (hq : ptB (el xs ((k + 1) * 3 + 1)) (el xs ((k + 1) * 3 + 2)) = true) (hw : wyK a b c d xs k ≠ 0) :
    0 < dK a b c d xs k ∧ nK a b c d xs k ≤ dK a b c d xs k ∧ dK a b c d xs k ≤ 16000000000000 ∧ lnB (el xs (k * 3 + 1)) (el xs (k * 3 + 2)) (el xs ((k + 1) * 3 + 1)) (el xs ((k + 1) * 3 + 2)) = true := by
  have hx := wayV_xs hw
  obtain ⟨h1, h2⟩ := lnB_pts hl
  exact ⟨(plD_pos hx).1, (plD_pos hx).2, plD_le (crossV_bd h1 h2 (pt_of hp)) (crossV_bd h1 h2 (pt_of hq)), lnB_mk hp hq (Xs_ne hx)⟩
set_option maxHeartbeats 8000000 in
theorem impl_crossingsOf (A : Option Addr) (n cc : Nat) (xs : List Int) (a b c d : Int) (w : World) (ha : Rd w A xs) (hn : xs.length = n * 3) (hT : isTrk xs n = true) (hl : lnB a b c d = true) :
    Calls Tryz.prog 97 #[.agg #[.slice A n cc], .agg #[.int .i64 a, .int .i64 b, .int .i64 c, .int .i64 d]] w (RC w (crL a b c d xs (n - 1))) := by
  have hn24 : 2 ≤ n ∧ n ≤ 40 := by unfold isTrk at hT; rw [Bool.and_eq_true, decide_eq_true_eq] at hT; exact hT.1
  obtain ⟨hn2, hn40⟩ := hn24
  have HT := Lib.hid hT
  have HL := Lib.hid hl
  have HN := Lib.hid hn
  obtain ⟨W, hW⟩ : ∃ W, W = (w.alloc (.cells #[.slice A n cc] 43)).alloc (.cells #[.int .i64 a, .int .i64 b, .int .i64 c, .int .i64 d] 27) := ⟨_, rfl⟩
  have B1 : Blk W w.heap.size 43 #[.slice A n cc] := by rw [hW]; exact (Blk.new _ _ _).alloc _
  have B2 : Blk W (w.heap.size + 1) 27 #[.int .i64 a, .int .i64 b, .int .i64 c, .int .i64 d] := by rw [hW]; exact (by simpa using Blk.new (w.alloc (.cells #[.slice A n cc] 43)) 27 #[.int .i64 a, .int .i64 b, .int .i64 c, .int .i64 d])
  have Q0 : Q w W := by rw [hW]; exact ((Q.refl w).alloc _).alloc _
  have zW : W.heap.size = w.heap.size + 2 := by rw [hW]; simp
  have HW := Lib.hid hW
  have c1 := B1.cell
  clear hT hl hn
  rw [hW] at c1
  clear hW
  go_enter Tryz.func97, Tryz.ntmps97
  go_wp2_with fail
  rw [← HW.out]
  go_loopw [5, 19] (fun v i wr => ∃ k : Nat, k + 1 ≤ n ∧ i = .int .i64 k ∧ OwnL wr W.heap.size 79 5 v (crL a b c d xs k) ∧ Q W wr) (fun _ i _ => n - (intOf i).toNat)
  case atStart => exact ⟨0, by omega, rfl, (by have h := OwnL.new W 79 5 (Nat.le_refl W.heap.size); rw [zW] at h ⊢; exact h), by (repeat (first | assumption | exact Q.refl _ | refine Q.alloc ?_ _ | refine Q.drewN ?_ _ | refine Q.drew ?_))⟩
  case round =>
    clear c1
    obtain ⟨k, hk, rfl, ⟨A1, m, d1, rfl, hown⟩, hq⟩ := hrel
    have hqw : Q w wr := Q0.trans hq
    have C1 := B1.q hq
    have C2 := B2.q hq
    have c1 := C1.cell
    have c2 := C2.cell
    by_cases hlt : k + 1 < n
    · obtain ⟨_, ⟨ht0, ht1, ht2⟩, hpp, hpq⟩ := trk_facts HT.out hlt
      have hlen : m ≤ k := by obtain ⟨m2, h1, h2⟩ := crL_len a b c d xs k; have := hown.len; omega
      have hltI : (k : Int) < (n : Int) - 1 := by omega
      have K1 := Lib.hid (fun wv (h : Rd wv A xs) => impl_legSegment A n cc xs k wv h HN.out hlt hn40)
      have K2 := Lib.hid (fun wv => (show Calls Tryz.prog 113 #[.agg #[.int .i64 a, .int .i64 b, .int .i64 c, .int .i64 d], .agg #[.int .i64 (el xs (k * 3 + 1)), .int .i64 (el xs (k * 3 + 2))], .agg #[.int .i64 (el xs ((k + 1) * 3 + 1)), .int .i64 (el xs ((k + 1) * 3 + 2))]] wv fun r w' => r = .returned (.int .i64 (wyK a b c d xs k)) ∧ Q wv w' from impl_wayAcross _ _ _ _ _ _ _ _ wv (lnB_pts HL.out).1 (lnB_pts HL.out).2 (pt_of hpp) (pt_of hpq)))
      by_cases hw0 : wyK a b c d xs k = 0
      · have HC := Lib.hid (crL_no hw0)
        rw [hw0] at K2
        clear hw0
        go_wp2_with fail
        refine (K1.out _ (ha.q hqw)).mono ?_
        rintro e w2 ⟨rfl, q2⟩
        have D2 := (C2.q q2).alloc (.cells #[.int .i64 (el xs (k * 3 + 1)), .int .i64 (el xs (k * 3 + 2)), .int .i64 (el xs ((k + 1) * 3 + 1)), .int .i64 (el xs ((k + 1) * 3 + 2))] 118)
        have e2 := D2.cell
        have e3 := (C2.q q2).cell
        have e4 := (C2.q q2).lt
        go_wp2_with fail
        refine (K2.out _).mono ?_
        rintro e w3 ⟨rfl, q3⟩
        have Q3 : Q wr w3 := q2.trans (Q.trans (by (repeat (first | assumption | exact Q.refl _ | refine Q.alloc ?_ _ | refine Q.drewN ?_ _ | refine Q.drew ?_))) q3)
        go_wp2_with fail
        go_roundw
        case rel => exact ⟨k + 1, by omega, by go_num, by rw [HC.out]; exact ⟨_, _, _, rfl, hown.q Q3⟩, hq.trans Q3⟩
        case measure => simp [intOf]; omega
      · have hwb : (wyK a b c d xs k == 0) = false := by simpa using hw0
        have HC := Lib.hid (crL_yes hw0)
        obtain ⟨hD0, hND, hD, hseg⟩ := num_place HL.out hpp hpq hw0
        have K3 := Lib.hid (fun wv => (show Calls Tryz.prog 114 #[.agg #[.int .i64 (el xs (k * 3 + 1)), .int .i64 (el xs (k * 3 + 2)), .int .i64 (el xs ((k + 1) * 3 + 1)), .int .i64 (el xs ((k + 1) * 3 + 2))], .agg #[.int .i64 a, .int .i64 b, .int .i64 c, .int .i64 d]] wv fun r w' => r = .returned (.tuple #[.agg #[.int .i64 ((nK a b c d xs k : Nat) : Int), .int .i64 ((dK a b c d xs k : Nat) : Int)], .int .i64 0]) ∧ Q wv w' from impl_Place _ _ _ _ _ _ _ _ wv HL.out hseg (wayV_xs hw0)))
        have hw1 := wayV_or a b c d (el xs (k * 3 + 1)) (el xs (k * 3 + 2)) (el xs ((k + 1) * 3 + 1)) (el xs ((k + 1) * 3 + 2))
        have edt : el xs ((k + 1) * 3) - el xs (k * 3) = ((dtK xs k : Nat) : Int) := by unfold dtK; omega
        have hdt : dtK xs k ≤ 1000000000 := by omega
        have hqb : dtK xs k * nK a b c d xs k / dK a b c d xs k ≤ 1000000000 := by
          refine Nat.le_trans (Nat.div_le_div_right (Nat.mul_le_mul_left _ hND)) ?_
          rw [Nat.mul_div_cancel _ hD0]
          exact hdt
        have K4 := Lib.hid (fun wv => impl_mulDiv (dtK xs k) (nK a b c d xs k) (dK a b c d xs k) (by omega) (by omega) hD0 (by omega) (by
          have h1 : dtK xs k * nK a b c d xs k ≤ 1000000000 * dK a b c d xs k := Nat.mul_le_mul hdt hND
          omega) wv)
        have HE : Hid (crK a b c d xs k = [tmK a b c d xs k, (k : Int), wyK a b c d xs k, ((nK a b c d xs k : Nat) : Int), ((dK a b c d xs k : Nat) : Int)] ∧ tmK a b c d xs k = el xs (k * 3) + ((dtK xs k * nK a b c d xs k / dK a b c d xs k : Nat) : Int) + if 0 < dtK xs k * nK a b c d xs k % dK a b c d xs k then 1 else 0) := Lib.hid ⟨rfl, rfl⟩
        generalize wyK a b c d xs k = wy at *
        generalize tmK a b c d xs k = T at *
        generalize crK a b c d xs k = E at *
        generalize nK a b c d xs k = N at *
        generalize dK a b c d xs k = D at *
        generalize dtK xs k = dt at *
        generalize dt * N / D = qo at *
        generalize dt * N % D = rm at *
        clear hw0 hND hD hseg hdt hpp hpq
        have hkn : k < n := by omega
        go_wp2_with fail
        refine (K1.out _ (ha.q hqw)).mono ?_
        rintro e w2 ⟨rfl, q2⟩
        obtain ⟨S, hS⟩ : ∃ S, S = (Obj.cells #[.int .i64 (el xs (k * 3 + 1)), .int .i64 (el xs (k * 3 + 2)), .int .i64 (el xs ((k + 1) * 3 + 1)), .int .i64 (el xs ((k + 1) * 3 + 2))] 118) := ⟨_, rfl⟩
        have D2 := (C2.q q2).alloc S
        have BS := Blk.new w2 118 #[.int .i64 (el xs (k * 3 + 1)), .int .i64 (el xs (k * 3 + 2)), .int .i64 (el xs ((k + 1) * 3 + 1)), .int .i64 (el xs ((k + 1) * 3 + 2))]
        rw [hS] at D2
        have e2 := D2.cell
        have e3 := (C2.q q2).cell
        have e4 := (C2.q q2).lt
        have Q2 : Q wr (w2.alloc S) := q2.alloc _
        rw [hS] at Q2
        clear hS
        go_wp2_with fail
        refine (K2.out _).mono ?_
        rintro e w3 ⟨rfl, q3⟩
        have Q3 := Q2.trans q3
        have b3 := (BS.q q3).cell
        have d3 := (D2.q q3).cell
        clear e2 e3 e4
        go_wp2_with fail
        refine (K3.out _).mono ?_
        rintro e w4 ⟨rfl, q4⟩
        have Q4 : Q wr (w4.alloc (.cells #[.int .i64 (N : Nat), .int .i64 (D : Nat)] 77)) := (Q3.trans q4).alloc _
        have BP := Blk.new w4 77 #[.int .i64 (N : Nat), .int .i64 (D : Nat)]
        have T4 := (C1.q Q4)
        have b5 := BP.cell
        have t5 := T4.cell
        have hR5 := (ha.q hqw).q Q4
        obtain ⟨bl, o, hAe, g0, g1, g2⟩ := hR5.at3 HN.out hkn
        obtain ⟨bl2, o2, hAe2, p0, p1, p2⟩ := hR5.at3 HN.out hlt
        subst hAe
        cases hAe2
        clear b3 d3
        have hkI : (k : Int) < (n : Int) := by omega
        have hkI2 : (k : Int) + 1 < (n : Int) := by omega
        have l0 := later_cell p0
        have l1 := later_cells t5 T4.lt
        have l2 := later_cells b5 BP.lt
        go_wp2_with fail
        refine wp_region_later_lit (by kernel_rfl) (by kernel_rfl) ?_
        repeat (any_goals (first | go_big_quiet_step ((go_at_call 115; exact later_call (K4.out _))) | quiet_step ((go_at_call 115; exact later_call (K4.out _))) | (refine wpQuiet_step (fun K hK => ?_); go_simp; split <;> (refine hK _ ?_; clear hK K))))
        all_goals (refine wpQuiet_nil ?_; rintro _ ⟨⟨w6, q6⟩, rfl⟩; try dsimp only)
        have Q6 := Q4.trans q6
        have b6 := (BP.q q6).cell
        have own6 := hown.q Q6
        clear l0 l1 l2 t5 b5 g0 g1 g2 p0 p1 p2
        by_cases hrm : 0 < rm
        · have HT2 := Lib.hid (show E = [el xs (k * 3) + ((qo : Int) + 1), (k : Int), wy, (N : Int), (D : Int)] by rw [HE.out.1, HE.out.2, if_pos hrm, Int.add_assoc])
          have hrd : decide (0 < rm) = true := decide_eq_true hrm
          clear HE
          go_wp2_with (at_builtin; refine appK elCross rfl _ _ rfl [el xs (k * 3) + ((qo : Int) + 1), (k : Int), wy, (N : Int), (D : Int)] rfl own6 rfl (by simp) rfl _ _ rfl (by omega) (hq.trans Q6).size ?_; intro A' c' w' hown' hg' hgr')
          go_roundw
          case rel => exact ⟨k + 1, by omega, by go_num, by rw [HC.out, HT2.out]; exact ⟨_, _, _, rfl, hown'⟩, (hq.trans Q6).mark own6 (Nat.le_refl _) hg'⟩
          case measure => simp [intOf]; omega
        · have HT2 := Lib.hid (show E = [el xs (k * 3) + (qo : Int), (k : Int), wy, (N : Int), (D : Int)] by rw [HE.out.1, HE.out.2, if_neg hrm, Int.add_zero])
          have hrd : decide (0 < rm) = false := decide_eq_false hrm
          clear HE
          go_wp2_with (at_builtin; refine appK elCross rfl _ _ rfl [el xs (k * 3) + (qo : Int), (k : Int), wy, (N : Int), (D : Int)] rfl own6 rfl (by simp) rfl _ _ rfl (by omega) (hq.trans Q6).size ?_; intro A' c' w' hown' hg' hgr')
          go_roundw
          case rel => exact ⟨k + 1, by omega, by go_num, by rw [HC.out, HT2.out]; exact ⟨_, _, _, rfl, hown'⟩, (hq.trans Q6).mark own6 (Nat.le_refl _) hg'⟩
          case measure => simp [intOf]; omega
    · obtain rfl : n = k + 1 := by omega
      have hltI : ¬ (k : Int) < ((k + 1 : Nat) : Int) - 1 := by omega
      go_wp2_with fail
      go_ret
      exact ⟨_, _, _, rfl, hown.mono Q0.size, hqw⟩
end Go.Proofs.YteofhfefbphjdaaGreatDoor
