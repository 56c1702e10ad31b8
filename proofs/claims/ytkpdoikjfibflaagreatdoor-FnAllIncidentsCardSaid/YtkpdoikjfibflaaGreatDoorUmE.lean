/- Walks: turning boats, as the program and the reference tell them. No condition. Walks: boats at a time, as the program and the reference tell them, where their hulls are known. No condition. -/
import Derived.Test.YtkpdoikjfibflaaGreatDoorUmC
import Derived.Test.YtkpdoikjfibflaaGreatDoorNrL
namespace Go.Proofs.YtkpdoikjfibflaaGreatDoor
open Go.RowKit Go.WideShapes Go.ChangeShapes
theorem bxWT (w : World) (wx wy : Int) (A : Option Addr) (n c : Nat) : Blk ((w.alloc (.cells #[.int .i64 wx, .int .i64 wy] 25)).alloc (.cells #[.slice A n c] 37)) w.heap.size 25 #[.int .i64 wx, .int .i64 wy] ∧
    Blk ((w.alloc (.cells #[.int .i64 wx, .int .i64 wy] 25)).alloc (.cells #[.slice A n c] 37)) (w.heap.size + 1) 37 #[.slice A n c] :=
  ⟨(Blk.new _ _ _).alloc _, by simpa using Blk.new (w.alloc (.cells #[.int .i64 wx, .int .i64 wy] 25)) 37 #[.slice A n c]⟩
theorem inR_iff {x a b : Int} : inR x a b = true ↔ (a ≤ x ∧ x ≤ b) := by unfold inR; simp
theorem inR_abs (d sp : Int) : inR d (-sp) sp = decide ((d.natAbs : Int) ≤ sp) := by
  cases h : inR d (-sp) sp
  · have h2 : ¬ (-sp ≤ d ∧ d ≤ sp) := fun e => by rw [inR_iff.2 e] at h; cases h
    exact (decide_eq_false (by omega)).symm
  · have h2 := inR_iff.1 h
    exact (decide_eq_true (by omega)).symm
theorem last_bd {xs : List Int} {n : Nat} {t : Int} (hT : isTrk xs n = true) (hl : lastsB xs n t = true) : 0 ≤ t ∧ t ≤ 1000000000 := by
  have h2 : 2 ≤ n := by
    have : (decide (2 ≤ n ∧ n ≤ 40) && fixTo xs n) = true := hT
    simp at this
    omega
  have h1 := inR_iff.1 (show inR t (el xs 0) (el xs ((n - 1) * 3)) = true from hl)
  have a := (trk_at hT (show 0 < n by omega)).1
  have b := (trk_at hT (show n - 1 < n by omega)).1
  rw [Nat.zero_mul] at a
  omega
set_option maxRecDepth 100000 in
set_option maxHeartbeats 2000000 in
theorem impl_turning (wx wy : Int) (A : Option Addr) (n c : Nat) (xs : List Int) (t sp : Int) (w : World) (hw : wnd wx wy) (ha : Rd w A xs) (hn : xs.length = n * 3) (hT : isTrk xs n = true) (ht : 0 ≤ t ∧ t ≤ 1000000000) (hs : 0 ≤ sp ∧ sp ≤ 60000) :
    Calls Tryz.prog 111 #[.agg #[.int .i64 wx, .int .i64 wy], .agg #[.slice A n c], .int .i64 t, .int .i64 sp] w fun e w' => e = .returned (.bool (tuB wx wy xs n t sp)) ∧ Q w w' := by
  obtain ⟨N0, hN0, hL, hfix⟩ := mnTo_facts wx wy xs (n - 2)
  have hn40 := trk_40 hT
  have hn2 : 2 ≤ n := by
    have : (decide (2 ≤ n ∧ n ≤ 40) && fixTo xs n) = true := hT
    simp at this
    omega
  have K1 := Lib.hid (fun wv (h : Rd wv A xs) => impl_manoeuvres wx wy A n c xs wv hw h hn hT)
  have HT := Lib.hid hT
  have HN := Lib.hid hn
  unfold tuB
  generalize mnTo wx wy xs (n - 2) = L at *
  obtain ⟨N, hN⟩ : ∃ N, N = L.length / 2 := ⟨_, rfl⟩
  rw [← hN] at K1 ⊢
  have hNN : N = N0 := by omega
  subst hNN
  have HL := Lib.hid hL
  have HF := Lib.hid hfix
  obtain ⟨B1, B2⟩ := bxWT w wx wy A n c
  have Q0 : Q w ((w.alloc (.cells #[.int .i64 wx, .int .i64 wy] 25)).alloc (.cells #[.slice A n c] 37)) := by (repeat (first | assumption | exact Q.refl _ | refine Q.alloc ?_ _ | refine Q.drewN ?_ _ | refine Q.drew ?_))
  clear hw hT hn hL hfix hN
  go_enter Tryz.func111, Tryz.ntmps111
  go_wp2_with fail
  refine (K1.out _ (ha.q Q0)).mono ?_
  rintro e1 w1 ⟨A2, d2, rfl, ho, q1⟩
  replace Q0 := Q0.trans q1
  replace B1 := B1.q q1
  replace B2 := B2.q q1
  have hr := ho.rd
  have hR := ha.q Q0
  clear q1 ho K1
  go_wp2_with fail
  go_loopw [15] (fun i wr => ∃ k : Nat, k ≤ N ∧ i = .int .i64 k ∧ Hid (tuTo xs L t sp k = false) ∧ Q w1 wr) (fun i _ => N - (intOf i).toNat)
  case atStart => exact ⟨0, by omega, rfl, Lib.hid rfl, by (repeat (first | assumption | exact Q.refl _ | refine Q.alloc ?_ _ | refine Q.drewN ?_ _ | refine Q.drew ?_))⟩
  case round =>
    obtain ⟨k, hk, rfl, HK, hq⟩ := hrel
    have b2 := B2.q hq
    have c2 := b2.cell
    have l2 := b2.lt
    by_cases hlt : k < N
    · have hltI : (k : Int) < (N : Int) := by omega
      obtain ⟨qf, hqf, hq1, hq2⟩ := HF.out k hlt
      have hqI : (qf : Int) < (n : Int) := by omega
      obtain ⟨b3, o3, rfl, g0, g1⟩ := (hr.q hq).at2 HL.out hlt
      obtain ⟨b4, o4, rfl, j0, j1, j2⟩ := (hR.q hq).at3 HN.out (show qf < n by omega)
      have lb4 := World.block_lt_of_cell? wr _ j0
      have hbd := (trk_at HT.out (show qf < n by omega)).1
      rw [hqf] at g0
      have HY := Lib.hid (tuTo_yes (xs := xs) (L := L) (t := t) (sp := sp) (j := k) hlt)
      have HS : Hid (tuTo xs L t sp (k + 1) = (tuTo xs L t sp k || inR (el xs (qf * 3) - t) (-sp) sp)) := Lib.hid (by rw [tuTo, hqf]; rfl)
      rw [hqf] at HY
      simp only [Int.toNat_natCast] at HY
      have k2 := fun wv => impl_inR (el xs (qf * 3) - t) (-sp) sp wv
      clear hqf HF
      generalize el xs (qf * 3) = T at *
      generalize el xs (qf * 3 + 1) = T1 at *
      generalize el xs (qf * 3 + 2) = T2 at *
      generalize el L (k * 2 + 1) = kind at *
      generalize inR (T - t) (-sp) sp = R at *
      have K2 := Lib.hid k2
      clear k2
      go_wp2_with fail
      refine (K2.out _).mono ?_
      rintro e2 w2 ⟨rfl, rfl⟩
      cases R
      · go_wp2_with fail
        go_roundw
        case rel => exact ⟨k + 1, by omega, by go_num, Lib.hid (by rw [HS.out, HK.out]; rfl), hq.trans (by (repeat (first | assumption | exact Q.refl _ | refine Q.alloc ?_ _ | refine Q.drewN ?_ _ | refine Q.drew ?_)))⟩
        case measure => simp [intOf]; omega
      · go_wp2_with fail
        go_ret
        exact ⟨ret_bool (HY.out (by trivial)).symm, Q0.trans (hq.trans (by (repeat (first | assumption | exact Q.refl _ | refine Q.alloc ?_ _ | refine Q.drewN ?_ _ | refine Q.drew ?_))))⟩
    · obtain rfl : k = N := by omega
      go_wp2_with fail
      go_ret
      exact ⟨ret_bool HK.out.symm, Q0.trans hq⟩
set_option maxRecDepth 100000 in
set_option maxHeartbeats 2000000 in
theorem spec_turning (wx wy : Int) (A : Option Addr) (n c : Nat) (xs : List Int) (t sp : Int) (w : World) (hw : wnd wx wy) (ha : Rd w A xs) (hn : xs.length = n * 3) (hT : isTrk xs n = true) (ht : 0 ≤ t ∧ t ≤ 1000000000) (_hs : 0 ≤ sp ∧ sp ≤ 60000) :
    Calls Tryz.prog 131 #[.agg #[.int .i64 wx, .int .i64 wy], .agg #[.slice A n c], .int .i64 t, .int .i64 sp] w fun e w' => e = .returned (.bool (tuB wx wy xs n t sp)) ∧ Q w w' := by
  obtain ⟨N0, hN0, hL, hfix⟩ := mnTo_facts wx wy xs (n - 2)
  have hn40 := trk_40 hT
  have hn2 : 2 ≤ n := by
    have : (decide (2 ≤ n ∧ n ≤ 40) && fixTo xs n) = true := hT
    simp at this
    omega
  have K1 := Lib.hid (fun wv (h : Rd wv A xs) => spec_manoeuvres wx wy A n c xs wv hw h hn hT)
  have HT := Lib.hid hT
  have HN := Lib.hid hn
  unfold tuB
  generalize mnTo wx wy xs (n - 2) = L at *
  obtain ⟨N, hN⟩ : ∃ N, N = L.length / 2 := ⟨_, rfl⟩
  rw [← hN] at K1 ⊢
  have hNN : N = N0 := by omega
  subst hNN
  have HL := Lib.hid hL
  have HF := Lib.hid hfix
  obtain ⟨B1, B2⟩ := bxWT w wx wy A n c
  have Q0 : Q w ((w.alloc (.cells #[.int .i64 wx, .int .i64 wy] 25)).alloc (.cells #[.slice A n c] 37)) := by (repeat (first | assumption | exact Q.refl _ | refine Q.alloc ?_ _ | refine Q.drewN ?_ _ | refine Q.drew ?_))
  clear hw hT hn hL hfix hN
  go_enter Tryz.func131, Tryz.ntmps131
  go_wp2_with fail
  refine (K1.out _ (ha.q Q0)).mono ?_
  rintro e1 w1 ⟨A2, d2, rfl, ho, q1⟩
  replace Q0 := Q0.trans q1
  replace B1 := B1.q q1
  replace B2 := B2.q q1
  have hr := ho.rd
  have hR := ha.q Q0
  clear q1 ho K1
  go_wp2_with fail
  go_loopw [10] (fun i wr => ∃ k : Nat, k ≤ N ∧ i = .int .i64 k ∧ Hid (tuTo xs L t sp k = false) ∧ Q w1 wr) (fun i _ => N - (intOf i).toNat)
  case atStart => exact ⟨0, by omega, rfl, Lib.hid rfl, by (repeat (first | assumption | exact Q.refl _ | refine Q.alloc ?_ _ | refine Q.drewN ?_ _ | refine Q.drew ?_))⟩
  case round =>
    obtain ⟨k, hk, rfl, HK, hq⟩ := hrel
    have b2 := B2.q hq
    have c2 := b2.cell
    have l2 := b2.lt
    by_cases hlt : k < N
    · have hltI : (k : Int) < (N : Int) := by omega
      obtain ⟨qf, hqf, hq1, hq2⟩ := HF.out k hlt
      have hqI : (qf : Int) < (n : Int) := by omega
      obtain ⟨b3, o3, rfl, g0, g1⟩ := (hr.q hq).at2 HL.out hlt
      obtain ⟨b4, o4, rfl, j0, j1, j2⟩ := (hR.q hq).at3 HN.out (show qf < n by omega)
      have lb4 := World.block_lt_of_cell? wr _ j0
      have hbd := (trk_at HT.out (show qf < n by omega)).1
      rw [hqf] at g0
      have HY := Lib.hid (tuTo_yes (xs := xs) (L := L) (t := t) (sp := sp) (j := k) hlt)
      have HS : Hid (tuTo xs L t sp (k + 1) = (tuTo xs L t sp k || inR (el xs (qf * 3) - t) (-sp) sp)) := Lib.hid (by rw [tuTo, hqf]; rfl)
      rw [hqf] at HY
      simp only [Int.toNat_natCast] at HY
      rw [inR_abs] at HS HY
      have k2 := fun wv => spec_AbsI (el xs (qf * 3) - t) (by omega) wv
      clear hqf HF
      have d2 := later_cells c2 l2
      have d3 := later_cell g0
      have d4 := later_cell j0
      generalize el xs (qf * 3) = T at *
      generalize el xs (qf * 3 + 1) = T1 at *
      generalize el xs (qf * 3 + 2) = T2 at *
      generalize el L (k * 2 + 1) = kind at *
      generalize ((T - t).natAbs : Int) = R at *
      have K2 := Lib.hid k2
      clear k2
      by_cases hRs : R ≤ sp
      · rw [decide_eq_true hRs] at HS HY
        go_wp2_with fail
        refine wp_region_later_lit (by kernel_rfl) (by kernel_rfl) ?_
        repeat (any_goals (first | go_big_quiet_step ((go_at_call 127; with_reducible exact later_same (K2.out _))) | quiet_step ((go_at_call 127; with_reducible exact later_same (K2.out _))) | (refine wpQuiet_step (fun K hK => ?_); go_simp; split <;> (refine hK _ ?_; clear hK K))))
        all_goals (refine wpQuiet_nil ?_; rintro _ ⟨⟨w2, q2⟩, rfl⟩; try dsimp only)
        clear d2 d3 d4
        go_wp2_with fail
        go_ret
        exact ⟨ret_bool (HY.out (by trivial)).symm, Q0.trans (hq.trans q2)⟩
      · rw [decide_eq_false hRs] at HS HY
        go_wp2_with fail
        refine wp_region_later_lit (by kernel_rfl) (by kernel_rfl) ?_
        repeat (any_goals (first | go_big_quiet_step ((go_at_call 127; with_reducible exact later_same (K2.out _))) | quiet_step ((go_at_call 127; with_reducible exact later_same (K2.out _))) | (refine wpQuiet_step (fun K hK => ?_); go_simp; split <;> (refine hK _ ?_; clear hK K))))
        all_goals (refine wpQuiet_nil ?_; rintro _ ⟨⟨w2, q2⟩, rfl⟩; try dsimp only)
        clear d2 d3 d4
        go_wp2_with fail
        go_roundw
        case rel => exact ⟨k + 1, by omega, by go_num, Lib.hid (by rw [HS.out, HK.out]; rfl), hq.trans q2⟩
        case measure => simp [intOf]; omega
    · obtain rfl : k = N := by omega
      go_wp2_with fail
      go_ret
      exact ⟨ret_bool HK.out.symm, Q0.trans hq⟩
theorem impl_TurningAt1 (wx wy : Int) (A : Option Addr) (n c : Nat) (xs : List Int) (t sp : Int) (w : World) (hw : wnd wx wy) (ha : Rd w A xs) (hn : xs.length = n * 3) (hT : isTrk xs n = true) (hwn : wnB wx wy = true) (hl : lastsB xs n t = true) (hs : 0 ≤ sp ∧ sp ≤ 60000) :
    Calls Tryz.prog 75 #[.agg #[.int .i64 wx, .int .i64 wy], .agg #[.slice A n c], .int .i64 t, .int .i64 sp] w fun e w' => e = .returned (.tuple #[.bool (tuB wx wy xs n t sp), .int .i64 0]) ∧ Q w w' := by
  have hn40 := trk_40 hT
  have ht : 0 ≤ t ∧ t ≤ 1000000000 := last_bd hT hl
  have k1 := fun wv => impl_IsWind wx wy wv
  rw [hwn] at k1
  have k2 := fun wv (h : Rd wv A xs) => impl_IsTrack A n c xs wv h hn (by omega)
  rw [hT] at k2
  have k3 := fun wv (h : Rd wv A xs) => impl_lasts A n c xs t wv h hn hT
  rw [hl] at k3
  have k4 := fun wv => impl_inR sp 0 60000 wv
  rw [inR_yes hs] at k4
  have K5 := Lib.hid (fun wv (h : Rd wv A xs) => impl_turning wx wy A n c xs t sp wv hw h hn hT ht hs)
  have K1 := Lib.hid k1
  have K2 := Lib.hid k2
  have K3 := Lib.hid k3
  have K4 := Lib.hid k4
  generalize tuB wx wy xs n t sp = R at *
  obtain ⟨B1, B2⟩ := bxWT w wx wy A n c
  have Q0 : Q w ((w.alloc (.cells #[.int .i64 wx, .int .i64 wy] 25)).alloc (.cells #[.slice A n c] 37)) := by (repeat (first | assumption | exact Q.refl _ | refine Q.alloc ?_ _ | refine Q.drewN ?_ _ | refine Q.drew ?_))
  clear k1 k2 k3 k4 hw hT hn hl hs ht hwn
  go_enter Tryz.func75, Tryz.ntmps75
  go_wp2_with fail
  refine (K1.out _).mono ?_
  rintro e1 w1 ⟨rfl, q1⟩
  replace Q0 := Q0.trans q1
  replace B1 := B1.q q1
  replace B2 := B2.q q1
  have c2 := B2.cell
  have l2 := B2.lt
  go_wp2_with fail
  refine (K2.out _ (ha.q Q0)).mono ?_
  rintro e2 w2 ⟨rfl, q2⟩
  replace Q0 := Q0.trans q2
  replace B1 := B1.q q2
  replace B2 := B2.q q2
  clear c2 l2
  have c2 := B2.cell
  have l2 := B2.lt
  go_wp2_with fail
  refine (K3.out _ (ha.q Q0)).mono ?_
  rintro e3 w3 ⟨rfl, q3⟩
  replace Q0 := Q0.trans q3
  replace B1 := B1.q q3
  replace B2 := B2.q q3
  clear c2 l2
  have c1 := B1.cell
  have c2 := B2.cell
  have l1 := B1.lt
  have l2 := B2.lt
  go_wp2_with fail
  refine (K4.out _).mono ?_
  rintro e4 w4 ⟨rfl, rfl⟩
  go_wp2_with fail
  refine (K5.out _ (ha.q Q0)).mono ?_
  rintro e5 w5 ⟨rfl, q5⟩
  go_wp2_with fail
  go_ret2
  exact ⟨rfl, Q0.trans q5⟩
theorem spec_TurningAt1 (wx wy : Int) (A : Option Addr) (n c : Nat) (xs : List Int) (t sp : Int) (w : World) (hw : wnd wx wy) (ha : Rd w A xs) (hn : xs.length = n * 3) (hT : isTrk xs n = true) (hwn : wnB wx wy = true) (hl : lastsB xs n t = true) (hs : 0 ≤ sp ∧ sp ≤ 60000) :
    Calls Tryz.prog 87 #[.agg #[.int .i64 wx, .int .i64 wy], .agg #[.slice A n c], .int .i64 t, .int .i64 sp] w fun e w' => e = .returned (.tuple #[.bool (tuB wx wy xs n t sp), .int .i64 0]) ∧ Q w w' := by
  have hn40 := trk_40 hT
  have ht : 0 ≤ t ∧ t ≤ 1000000000 := last_bd hT hl
  have k1 := fun wv => spec_IsWind wx wy wv
  rw [hwn] at k1
  have k2 := fun wv (h : Rd wv A xs) => spec_IsTrack A n c xs wv h hn (by omega)
  rw [hT] at k2
  have k3 := fun wv (h : Rd wv A xs) => spec_l03Lasts A n c xs t wv h hn hT
  rw [hl] at k3
  have k4 := fun wv => spec_inR sp 0 60000 wv
  rw [inR_yes hs] at k4
  have K5 := Lib.hid (fun wv (h : Rd wv A xs) => spec_turning wx wy A n c xs t sp wv hw h hn hT ht hs)
  have K1 := Lib.hid k1
  have K2 := Lib.hid k2
  have K3 := Lib.hid k3
  have K4 := Lib.hid k4
  generalize tuB wx wy xs n t sp = R at *
  obtain ⟨B1, B2⟩ := bxWT w wx wy A n c
  have Q0 : Q w ((w.alloc (.cells #[.int .i64 wx, .int .i64 wy] 25)).alloc (.cells #[.slice A n c] 37)) := by (repeat (first | assumption | exact Q.refl _ | refine Q.alloc ?_ _ | refine Q.drewN ?_ _ | refine Q.drew ?_))
  clear k1 k2 k3 k4 hw hT hn hl hs ht hwn
  go_enter Tryz.func87, Tryz.ntmps87
  go_wp2_with fail
  refine (K1.out _).mono ?_
  rintro e1 w1 ⟨rfl, q1⟩
  replace Q0 := Q0.trans q1
  replace B1 := B1.q q1
  replace B2 := B2.q q1
  have c2 := B2.cell
  have l2 := B2.lt
  go_wp2_with fail
  refine (K2.out _ (ha.q Q0)).mono ?_
  rintro e2 w2 ⟨rfl, q2⟩
  replace Q0 := Q0.trans q2
  replace B1 := B1.q q2
  replace B2 := B2.q q2
  clear c2 l2
  have c2 := B2.cell
  have l2 := B2.lt
  go_wp2_with fail
  refine (K3.out _ (ha.q Q0)).mono ?_
  rintro e3 w3 ⟨rfl, q3⟩
  replace Q0 := Q0.trans q3
  replace B1 := B1.q q3
  replace B2 := B2.q q3
  clear c2 l2
  have c1 := B1.cell
  have c2 := B2.cell
  have l1 := B1.lt
  have l2 := B2.lt
  go_wp2_with fail
  refine (K4.out _).mono ?_
  rintro e4 w4 ⟨rfl, rfl⟩
  go_wp2_with fail
  refine (K5.out _ (ha.q Q0)).mono ?_
  rintro e5 w5 ⟨rfl, q5⟩
  go_wp2_with fail
  go_ret2
  exact ⟨rfl, Q0.trans q5⟩
end Go.Proofs.YtkpdoikjfibflaaGreatDoor
namespace Go.Proofs.YtkpdoikjfibflaaGreatDoor
open Go.RowKit Go.WideShapes Go.ChangeShapes
set_option maxHeartbeats 1000000 in
theorem impl_BoatAt1 (wx wy : Int) (A : Option Addr) (n c : Nat) (xs : List Int) (t l sp : Int) (w : World) (hw : wnd wx wy) (ha : Rd w A xs) (hn : xs.length = n * 3) (hT : isTrk xs n = true) (hwn : wnB wx wy = true) (h0 : hdC xs n t = 0) (hl : 1 ≤ l ∧ l ≤ 1000) (hs : 0 ≤ sp ∧ sp ≤ 60000) :
    Calls Tryz.prog 57 #[.agg #[.int .i64 wx, .int .i64 wy], .agg #[.slice A n c], .int .i64 t, .int .i64 l, .int .i64 sp] w fun e w' => e = .returned (.tuple #[.agg #[.int .i64 (atX xs n t), .int .i64 (atY xs n t), .int .i64 (hdX xs n t), .int .i64 (hdY xs n t), .int .i64 l, .bool (tuB wx wy xs n t sp)], .int .i64 0]) ∧ Q w w' := by
  have hla := hdC_last hT h0
  have K1 := Lib.hid (fun wv (h : Rd wv A xs) => impl_TurningAt1 wx wy A n c xs t sp wv hw h hn hT hwn hla hs)
  have k2 := fun wv (h : Rd wv A xs) => impl_HullAt A n c xs t l wv h hn hT hl
  rw [hulV_0 h0, h0] at k2
  have K2 := Lib.hid k2
  clear k2 h0 hla hwn hw hn hT hs hl
  generalize tuB wx wy xs n t sp = R at *
  generalize atX xs n t = p1 at *
  generalize atY xs n t = p2 at *
  generalize hdX xs n t = p3 at *
  generalize hdY xs n t = p4 at *
  obtain ⟨W0, hW0⟩ : ∃ W0, W0 = (w.alloc (.cells #[.int .i64 wx, .int .i64 wy] 25)).alloc (.cells #[.slice A n c] 37) := ⟨_, rfl⟩
  obtain ⟨b1, b2⟩ := bxWT w wx wy A n c
  rw [← hW0] at b1 b2
  have z0 : W0.heap.size = w.heap.size + 1 + 1 := by rw [hW0]; simp
  have B1 := b1.alloc (.cells #[.int .i64 0, .int .i64 0, .int .i64 0, .int .i64 0, .int .i64 0, .bool false] 92)
  have B2 := b2.alloc (.cells #[.int .i64 0, .int .i64 0, .int .i64 0, .int .i64 0, .int .i64 0, .bool false] 92)
  have B3 := Blk.new W0 92 #[.int .i64 0, .int .i64 0, .int .i64 0, .int .i64 0, .int .i64 0, .bool false]
  rw [z0] at B3
  have Q0 : Q w (W0.alloc (.cells #[.int .i64 0, .int .i64 0, .int .i64 0, .int .i64 0, .int .i64 0, .bool false] 92)) := by rw [hW0]; exact (((Q.refl w).alloc _).alloc _).alloc _
  rw [hW0] at B1 B2 B3 Q0
  clear b1 b2 z0 hW0
  go_enter Tryz.func57, Tryz.ntmps57
  go_wp2_with fail
  refine (K1.out _ (ha.q Q0)).mono ?_
  rintro e1 w1 ⟨rfl, q1⟩
  replace Q0 := Q0.trans q1
  replace B2 := B2.q q1
  replace B3 := B3.q q1
  have c2 := B2.cell
  have l2 := B2.lt
  go_wp2_with fail
  refine (K2.out _ (ha.q Q0)).mono ?_
  rintro e2 w2 ⟨rfl, q2⟩
  replace Q0 := Q0.trans q2
  replace B3 := B3.q q2
  have c3 := B3.cell
  have f3 := B3.frozen
  have l3 := B3.lt
  clear c2 l2
  go_wp2_with fail
  have F := (((((((B3.set_ 0 (.int .i64 p1)).set_ 1 (.int .i64 p2)).set_ 2 (.int .i64 p3)).set_ 3 (.int .i64 p4)).set_ 4 (.int .i64 l)).set_ 5 (.bool R)).alloc (.cells #[.int .i64 p1, .int .i64 p2, .int .i64 p3, .int .i64 p4, .int .i64 l] 86)).cell
  exact bodyPost_ret (v := .tuple #[.agg #[.int .i64 p1, .int .i64 p2, .int .i64 p3, .int .i64 p4, .int .i64 l, .bool R], .int .i64 0]) (by simp [results, Tryz.results57, go_sem, F]) rfl ⟨rfl, ((((((Q0.setCell (by simp; omega) _).setCell (by simp; omega) _).setCell (by simp; omega) _).setCell (by simp; omega) _).setCell (by simp; omega) _).setCell (by simp; omega) _).alloc _⟩
set_option maxHeartbeats 1000000 in
theorem spec_BoatAt1 (wx wy : Int) (A : Option Addr) (n c : Nat) (xs : List Int) (t l sp : Int) (w : World) (hw : wnd wx wy) (ha : Rd w A xs) (hn : xs.length = n * 3) (hT : isTrk xs n = true) (hwn : wnB wx wy = true) (h0 : hdC xs n t = 0) (hl : 1 ≤ l ∧ l ≤ 1000) (hs : 0 ≤ sp ∧ sp ≤ 60000) :
    Calls Tryz.prog 63 #[.agg #[.int .i64 wx, .int .i64 wy], .agg #[.slice A n c], .int .i64 t, .int .i64 l, .int .i64 sp] w fun e w' => e = .returned (.tuple #[.agg #[.int .i64 (atX xs n t), .int .i64 (atY xs n t), .int .i64 (hdX xs n t), .int .i64 (hdY xs n t), .int .i64 l, .bool (tuB wx wy xs n t sp)], .int .i64 0]) ∧ Q w w' := by
  have hla := hdC_last hT h0
  have K1 := Lib.hid (fun wv (h : Rd wv A xs) => spec_TurningAt1 wx wy A n c xs t sp wv hw h hn hT hwn hla hs)
  have k2 := fun wv (h : Rd wv A xs) => spec_HullAt A n c xs t l wv h hn hT hl
  rw [hulV_0 h0, h0] at k2
  have K2 := Lib.hid k2
  clear k2 h0 hla hwn hw hn hT hs hl
  generalize tuB wx wy xs n t sp = R at *
  generalize atX xs n t = p1 at *
  generalize atY xs n t = p2 at *
  generalize hdX xs n t = p3 at *
  generalize hdY xs n t = p4 at *
  obtain ⟨W0, hW0⟩ : ∃ W0, W0 = (w.alloc (.cells #[.int .i64 wx, .int .i64 wy] 25)).alloc (.cells #[.slice A n c] 37) := ⟨_, rfl⟩
  obtain ⟨b1, b2⟩ := bxWT w wx wy A n c
  rw [← hW0] at b1 b2
  have z0 : W0.heap.size = w.heap.size + 1 + 1 := by rw [hW0]; simp
  have B1 := b1.alloc (.cells #[.int .i64 0, .int .i64 0, .int .i64 0, .int .i64 0, .int .i64 0, .bool false] 92)
  have B2 := b2.alloc (.cells #[.int .i64 0, .int .i64 0, .int .i64 0, .int .i64 0, .int .i64 0, .bool false] 92)
  have B3 := Blk.new W0 92 #[.int .i64 0, .int .i64 0, .int .i64 0, .int .i64 0, .int .i64 0, .bool false]
  rw [z0] at B3
  have Q0 : Q w (W0.alloc (.cells #[.int .i64 0, .int .i64 0, .int .i64 0, .int .i64 0, .int .i64 0, .bool false] 92)) := by rw [hW0]; exact (((Q.refl w).alloc _).alloc _).alloc _
  rw [hW0] at B1 B2 B3 Q0
  clear b1 b2 z0 hW0
  go_enter Tryz.func63, Tryz.ntmps63
  go_wp2_with fail
  refine (K1.out _ (ha.q Q0)).mono ?_
  rintro e1 w1 ⟨rfl, q1⟩
  replace Q0 := Q0.trans q1
  replace B2 := B2.q q1
  replace B3 := B3.q q1
  have c2 := B2.cell
  have l2 := B2.lt
  go_wp2_with fail
  refine (K2.out _ (ha.q Q0)).mono ?_
  rintro e2 w2 ⟨rfl, q2⟩
  replace Q0 := Q0.trans q2
  replace B3 := B3.q q2
  have c3 := B3.cell
  have f3 := B3.frozen
  have l3 := B3.lt
  clear c2 l2
  go_wp2_with fail
  have F := (((((((B3.set_ 0 (.int .i64 p1)).set_ 1 (.int .i64 p2)).set_ 2 (.int .i64 p3)).set_ 3 (.int .i64 p4)).set_ 4 (.int .i64 l)).set_ 5 (.bool R)).alloc (.cells #[.int .i64 p1, .int .i64 p2, .int .i64 p3, .int .i64 p4, .int .i64 l] 86)).cell
  exact bodyPost_ret (v := .tuple #[.agg #[.int .i64 p1, .int .i64 p2, .int .i64 p3, .int .i64 p4, .int .i64 l, .bool R], .int .i64 0]) (by simp [results, Tryz.results63, go_sem, F]) rfl ⟨rfl, ((((((Q0.setCell (by simp; omega) _).setCell (by simp; omega) _).setCell (by simp; omega) _).setCell (by simp; omega) _).setCell (by simp; omega) _).setCell (by simp; omega) _).alloc _⟩
end Go.Proofs.YtkpdoikjfibflaaGreatDoor
