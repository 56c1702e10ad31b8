/- Walks: headings of tracks, as the program and the reference tell them. No condition. Walks: codes of times, and valid headings and hulls, as the program and the reference tell them. No condition. Walks: the heading of a track at a time, as the reference tells it. No condition. -/
import Derived.Test.YtkpdoikjfibflaaGreatDoorNrG
import Derived.Test.YtkpdoikjfibflaaGreatDoorEarly
namespace Go.Proofs.YtkpdoikjfibflaaGreatDoor
open Go.RowKit Go.WideShapes Go.ChangeShapes
set_option maxHeartbeats 2000000 in
theorem impl_wayOf (A : Option Addr) (n c : Nat) (xs : List Int) (k : Nat) (w : World) (ha : Rd w A xs) (hn : xs.length = n * 3) (hT : isTrk xs n = true) (hk : k + 1 < n) :
    Calls Tryz.prog 103 #[.agg #[.slice A n c], .int .i64 k] w fun e w' => e = .returned (.agg #[.int .i64 (el xs ((k + 1) * 3 + 1) - el xs (k * 3 + 1)), .int .i64 (el xs ((k + 1) * 3 + 2) - el xs (k * 3 + 2))]) ∧ Q w w' := by
  obtain ⟨⟨f1, f2, f3⟩, f4, f5, f6, f7⟩ := trk_two hT hk
  have hn40 := trk_40 hT
  have hk40 : (k : Int) ≤ 40 := by omega
  have hkI : (k : Int) < (n : Int) := by omega
  have hkJ : (k : Int) + 1 < (n : Int) := by omega
  obtain ⟨DX, hDX⟩ : ∃ q, q = el xs ((k + 1) * 3 + 1) - el xs (k * 3 + 1) := ⟨_, rfl⟩
  obtain ⟨DY, hDY⟩ : ∃ q, q = el xs ((k + 1) * 3 + 2) - el xs (k * 3 + 2) := ⟨_, rfl⟩
  rw [← hDX, ← hDY]
  have HDX := Lib.hid hDX
  have HDY := Lib.hid hDY
  clear hDX hDY
  have B1 : Blk ((w.alloc (.cells #[.slice A n c] 37)).alloc (.cells #[.int .i64 0, .int .i64 0] 78)) w.heap.size 37 #[.slice A n c] := (Blk.new _ _ _).alloc _
  have B2 : Blk ((w.alloc (.cells #[.slice A n c] 37)).alloc (.cells #[.int .i64 0, .int .i64 0] 78)) (w.heap.size + 1) 78 #[.int .i64 0, .int .i64 0] := by simpa using Blk.new (w.alloc (.cells #[.slice A n c] 37)) 78 #[.int .i64 0, .int .i64 0]
  have Q0 : Q w ((w.alloc (.cells #[.slice A n c] 37)).alloc (.cells #[.int .i64 0, .int .i64 0] 78)) := by (repeat (first | assumption | exact Q.refl _ | refine Q.alloc ?_ _ | refine Q.drewN ?_ _ | refine Q.drew ?_))
  go_enter Tryz.func103, Tryz.ntmps103
  go_upto_region 1 with (fail)
  generalize hwb : (w.alloc (.cells #[.slice A n c] 37)).alloc (.cells #[.int .i64 0, .int .i64 0] 78) = wb at *
  clear hwb
  have hR := ha.q Q0
  obtain ⟨b, o, rfl, g0, g1, g2⟩ := hR.at3 hn (show k < n by omega)
  obtain ⟨_, _, hA, j0, j1, j2⟩ := hR.at3 hn hk
  cases hA
  have bx := B1.cell
  have lx := B1.lt
  have lb := World.block_lt_of_cell? wb _ j2
  clear hn hT hn40 ha hR
  generalize el xs (k * 3) = t0 at *
  generalize el xs (k * 3 + 1) = x0 at *
  generalize el xs (k * 3 + 2) = y0 at *
  generalize el xs ((k + 1) * 3) = t1 at *
  generalize el xs ((k + 1) * 3 + 1) = x1 at *
  generalize el xs ((k + 1) * 3 + 2) = y1 at *
  go_cut [5, 6] from 5 (fun p q wc => ∃ b6 b7, p = .pointer (some ⟨b6, 0, none⟩) ∧ q = .pointer (some ⟨b7, 0, none⟩) ∧ Blk wc b6 69 #[.int .i64 t0, .int .i64 x0, .int .i64 y0] ∧ Blk wc b7 69 #[.int .i64 t1, .int .i64 x1, .int .i64 y1] ∧ Blk wc (w.heap.size + 1) 78 #[.int .i64 0, .int .i64 0] ∧ Q w wc)
  case first =>
    go_region
    all_goals (go_wp2_with fail; go_meet)
    · refine ⟨_, _, rfl, rfl, ?_, ?_, ?_, Q0.trans (by (repeat (first | assumption | exact Q.refl _ | refine Q.alloc ?_ _ | refine Q.drewN ?_ _ | refine Q.drew ?_)))⟩
      · exact ((Blk.new wb _ _).alloc _).drew
      · exact Blk.drew (by simpa using Blk.new (wb.alloc _) 69 #[.int .i64 t1, .int .i64 x1, .int .i64 y1])
      · exact Blk.drew ((B2.alloc _).alloc _)
    · refine ⟨_, _, rfl, rfl, ?_, ?_, ?_, Q0.trans (by (repeat (first | assumption | exact Q.refl _ | refine Q.alloc ?_ _ | refine Q.drewN ?_ _ | refine Q.drew ?_)))⟩
      · exact Blk.drew (by simpa using Blk.new (wb.alloc _) 69 #[.int .i64 t0, .int .i64 x0, .int .i64 y0])
      · exact ((Blk.new wb _ _).alloc _).drew
      · exact Blk.drew ((B2.alloc _).alloc _)
  case rest =>
    clear g0 g1 g2 j0 j1 j2 bx lx lb B1 B2 Q0
    obtain ⟨b6, b7, rfl, rfl, B6, B7, BR, QC⟩ := hcut
    have d6 := B6.cell
    have d7 := B7.cell
    have l6 := B6.lt
    have l7 := B7.lt
    have e4 := BR.cell
    have z4 := BR.frozen
    go_wp2_with fail
    all_goals try (refine wp_region_later_lit (by kernel_rfl) (by kernel_rfl) ?_; (repeat (any_goals (first | go_big_quiet_step (fail) | quiet_step (fail) | (refine wpQuiet_step (fun K hK => ?_); go_simp; split <;> (refine hK _ ?_; clear hK K))))); all_goals (refine wpQuiet_nil ?_; rintro _ ⟨⟨w3, q3⟩, rfl⟩; try dsimp only); all_goals go_wp2_with fail)
    have bf := ((BR.set_ 0 (.int .i64 (x1 - x0))).set_ 1 (.int .i64 (y1 - y0))).cell
    exact bodyPost_ret (v := .agg #[.int .i64 DX, .int .i64 DY]) (by rw [HDX.out, HDY.out]; simp [results, Tryz.results103, go_sem, bf]) rfl ⟨rfl, (QC.setCell (by simp) _).setCell (by simp) _⟩
set_option maxHeartbeats 1000000 in
theorem spec_l03Heading (A : Option Addr) (n c : Nat) (xs : List Int) (k : Nat) (w : World) (ha : Rd w A xs) (hn : xs.length = n * 3) (hT : isTrk xs n = true) (hk : k + 1 < n) :
    Calls Tryz.prog 116 #[.agg #[.slice A n c], .int .i64 k] w fun e w' => e = .returned (.agg #[.int .i64 (el xs ((k + 1) * 3 + 1) - el xs (k * 3 + 1)), .int .i64 (el xs ((k + 1) * 3 + 2) - el xs (k * 3 + 2))]) ∧ Q w w' := by
  have hp0 := pt_of (trk_at hT (show k < n by omega)).2.1
  have hp1 := pt_of (trk_at hT hk).2.1
  have hn40 := trk_40 hT
  have hk40 : (k : Int) ≤ 40 := by omega
  have hkI : (k : Int) < (n : Int) := by omega
  have hkJ : (k : Int) + 1 < (n : Int) := by omega
  obtain ⟨W, hW⟩ : ∃ W, W = (w.alloc (.cells #[.slice A n c] 37)).alloc (.cells #[.int .i64 0, .int .i64 0] 78) := ⟨_, rfl⟩
  have B1 : Blk W w.heap.size 37 #[.slice A n c] := by rw [hW]; exact (Blk.new _ _ _).alloc _
  have B2 : Blk W (w.heap.size + 1) 78 #[.int .i64 0, .int .i64 0] := by rw [hW]; exact (by simpa using Blk.new (w.alloc (.cells #[.slice A n c] 37)) 78 #[.int .i64 0, .int .i64 0])
  have Q0 : Q w W := by rw [hW]; exact ((Q.refl w).alloc _).alloc _
  have hR := ha.q Q0
  obtain ⟨bl, o, rfl, g0, g1, g2⟩ := hR.at3 hn (show k < n by omega)
  obtain ⟨_, _, hA, p0, p1, p2⟩ := hR.at3 hn hk
  cases hA
  have l0 := later_cell g0
  have l1 := later_cell g1
  have l2 := later_cell g2
  have m0 := later_cell p0
  have m1 := later_cell p1
  have m2 := later_cell p2
  have lb := later_cells B1.cell B1.lt
  generalize el xs (k * 3) = t0 at *
  generalize el xs (k * 3 + 1) = x0 at *
  generalize el xs (k * 3 + 2) = y0 at *
  generalize el xs ((k + 1) * 3) = t1 at *
  generalize el xs ((k + 1) * 3 + 1) = x1 at *
  generalize el xs ((k + 1) * 3 + 2) = y1 at *
  clear g0 g1 g2 p0 p1 p2 hR ha hn hT hn40
  subst hW
  go_enter Tryz.func116, Tryz.ntmps116
  go_wp2_with fail
  refine wp_region_later_tail 14 (by kernel_rfl) (by kernel_rfl) ?_
  simp only [List.take_succ_cons, List.take_zero, List.drop_succ_cons, List.drop_zero]
  repeat (any_goals (first | go_big_quiet_step (first | (go_at_call 44; exact later_call (spec_l03Point _ _ _ _)) | (go_at_call 125; exact later_call (spec_Minus _ _ _ _ _ hp1 hp0))) | quiet_step (first | (go_at_call 44; exact later_call (spec_l03Point _ _ _ _)) | (go_at_call 125; exact later_call (spec_Minus _ _ _ _ _ hp1 hp0)))))
  refine wpQuiet_nil ?_
  rintro w3 ⟨⟨w4, q4⟩, hw⟩
  obtain rfl : w3 = w4 := hw
  clear l0 l1 l2 m0 m1 m2 lb
  have e4 := (B2.q q4).cell
  have z4 := (B2.q q4).frozen
  have Q4 : Q w w3 := Q0.trans q4
  go_wp2_with fail
  have bf := (((B2.q q4).set_ 0 (.int .i64 (x1 - x0))).set_ 1 (.int .i64 (y1 - y0))).cell
  exact bodyPost_ret (v := .agg #[.int .i64 (x1 - x0), .int .i64 (y1 - y0)]) (by simp [results, Tryz.results116, go_sem, bf]) rfl ⟨rfl, (Q4.setCell (by simp) _).setCell (by simp) _⟩
end Go.Proofs.YtkpdoikjfibflaaGreatDoor
namespace Go.Proofs.YtkpdoikjfibflaaGreatDoor
open Go.RowKit Go.WideShapes Go.ChangeShapes
/-- The code of a time at a valid track. -/
def tmC (xs : List Int) (n : Nat) (t : Int) : Int := if lastsB xs n t = true then 0 else 2
theorem impl_trackCode (A : Option Addr) (n c : Nat) (xs : List Int) (t : Int) (w : World) (ha : Rd w A xs) (hn : xs.length = n * 3) (hT : isTrk xs n = true) :
    Calls Tryz.prog 102 #[.agg #[.slice A n c], .int .i64 t] w fun e w' => e = .returned (.int .i64 (tmC xs n t)) ∧ Q w w' := by
  have hn40 := trk_40 hT
  have k1 := fun wv (h : Rd wv A xs) => impl_IsTrack A n c xs wv h hn (by omega)
  rw [hT] at k1
  have k2 := fun wv (h : Rd wv A xs) => impl_lasts A n c xs t wv h hn hT
  have HO := Lib.hid (show tmC xs n t = if lastsB xs n t = true then 0 else 2 from rfl)
  generalize tmC xs n t = O at *
  generalize lastsB xs n t = L at *
  have K1 := Lib.hid k1
  have K2 := Lib.hid k2
  have B1 := Blk.new w 37 #[.slice A n c]
  have Q0 : Q w (w.alloc (.cells #[.slice A n c] 37)) := by (repeat (first | assumption | exact Q.refl _ | refine Q.alloc ?_ _ | refine Q.drewN ?_ _ | refine Q.drew ?_))
  clear k1 k2 hT hn
  go_enter Tryz.func102, Tryz.ntmps102
  go_wp2_with fail
  refine (K1.out _ (ha.q Q0)).mono ?_
  rintro e1 w1 ⟨rfl, q1⟩
  have c1 := (B1.q q1).cell
  go_wp2_with fail
  refine (K2.out _ (ha.q (Q0.trans q1))).mono ?_
  rintro e2 w2 ⟨rfl, q2⟩
  cases L
  · go_wp2_with fail
    go_ret
    exact ⟨by rw [HO.out]; rfl, (Q0.trans q1).trans q2⟩
  · go_wp2_with fail
    go_ret
    exact ⟨by rw [HO.out]; rfl, (Q0.trans q1).trans q2⟩
/-- The reference's leg at a time, of a valid track that lasts then. -/
theorem spec_LegAt (A : Option Addr) (n c : Nat) (xs : List Int) (t : Int) (w : World) (ha : Rd w A xs) (hn : xs.length = n * 3) (hT : isTrk xs n = true) :
    Calls Tryz.prog 115 #[.agg #[.slice A n c], .int .i64 t] w fun e w' => e = .returned (.tuple #[.int .i64 (if lastsB xs n t = true then ((legS xs t (n - 1) : Nat) : Int) else 0), .int .i64 (tmC xs n t)]) ∧ Q w w' := by
  have hn40 := trk_40 hT
  have k1 := fun wv (h : Rd wv A xs) => spec_IsTrack A n c xs wv h hn (by omega)
  rw [hT] at k1
  have k2 := fun wv (h : Rd wv A xs) => spec_l03Lasts A n c xs t wv h hn hT
  have k3 := fun wv (h : Rd wv A xs) => spec_l03Leg A n c xs t wv h hn hT
  have HO := Lib.hid (show tmC xs n t = if lastsB xs n t = true then 0 else 2 from rfl)
  generalize tmC xs n t = O at *
  generalize lastsB xs n t = L at *
  generalize legS xs t (n - 1) = k at *
  have K1 := Lib.hid k1
  have K2 := Lib.hid k2
  have K3 := Lib.hid k3
  have B1 := Blk.new w 37 #[.slice A n c]
  have Q0 : Q w (w.alloc (.cells #[.slice A n c] 37)) := by (repeat (first | assumption | exact Q.refl _ | refine Q.alloc ?_ _ | refine Q.drewN ?_ _ | refine Q.drew ?_))
  clear k1 k2 k3 hT hn
  go_enter Tryz.func115, Tryz.ntmps115
  go_wp2_with fail
  refine (K1.out _ (ha.q Q0)).mono ?_
  rintro e1 w1 ⟨rfl, q1⟩
  have c1 := (B1.q q1).cell
  go_wp2_with fail
  refine (K2.out _ (ha.q (Q0.trans q1))).mono ?_
  rintro e2 w2 ⟨rfl, q2⟩
  cases L
  · go_wp2_with fail
    go_ret2
    exact ⟨by rw [HO.out]; rfl, (Q0.trans q1).trans q2⟩
  · have c2 := ((B1.q q1).q q2).cell
    go_wp2_with fail
    refine (K3.out _ (ha.q ((Q0.trans q1).trans q2))).mono ?_
    rintro e3 w3 ⟨rfl, q3⟩
    go_wp2_with fail
    go_ret2
    exact ⟨by rw [HO.out]; rfl, ((Q0.trans q1).trans q2).trans q3⟩
theorem impl_isHeading1 (x y : Int) (w : World) (h : hdOk x y) : Calls Tryz.prog 145 #[.agg #[.int .i64 x, .int .i64 y]] w fun e w' => e = .returned (.bool true) ∧ Q w w' := by
  obtain ⟨⟨h1, h2⟩, h3⟩ := h
  have k1 := fun wv => impl_inR x (-2000000) 2000000 wv
  have k2 := fun wv => impl_inR y (-2000000) 2000000 wv
  rw [inR_yes h1] at k1
  rw [inR_yes h2] at k2
  have K1 := Lib.hid k1
  have K2 := Lib.hid k2
  clear k1 k2
  go_enter Tryz.func145, Tryz.ntmps145
  go_wp2_with fail
  refine (K1.out _).mono ?_
  rintro e1 w1 ⟨rfl, rfl⟩
  go_wp2_with fail
  refine (K2.out _).mono ?_
  rintro e2 w2 ⟨rfl, rfl⟩
  by_cases hx : x = 0
  · subst hx
    have hy : (y == 0) = false := by simp; omega
    go_wp2_with fail
    go_ret
    exact ⟨rfl, by (repeat (first | assumption | exact Q.refl _ | refine Q.alloc ?_ _ | refine Q.drewN ?_ _ | refine Q.drew ?_))⟩
  · have hxb : (x == 0) = false := by simpa using hx
    go_wp2_with fail
    go_ret
    exact ⟨rfl, by (repeat (first | assumption | exact Q.refl _ | refine Q.alloc ?_ _ | refine Q.drewN ?_ _ | refine Q.drew ?_))⟩
theorem spec_l08Heading1 (x y : Int) (w : World) (h : hdOk x y) : Calls Tryz.prog 119 #[.agg #[.int .i64 x, .int .i64 y]] w fun e w' => e = .returned (.bool true) ∧ Q w w' := by
  obtain ⟨⟨h1, h2⟩, h3⟩ := h
  have k1 := fun wv => spec_inR x (-2000000) 2000000 wv
  have k2 := fun wv => spec_inR y (-2000000) 2000000 wv
  rw [inR_yes h1] at k1
  rw [inR_yes h2] at k2
  have K1 := Lib.hid k1
  have K2 := Lib.hid k2
  clear k1 k2
  go_enter Tryz.func119, Tryz.ntmps119
  go_wp2_with fail
  refine (K1.out _).mono ?_
  rintro e1 w1 ⟨rfl, rfl⟩
  go_wp2_with fail
  refine (K2.out _).mono ?_
  rintro e2 w2 ⟨rfl, rfl⟩
  by_cases hx : x = 0
  · subst hx
    have hy : (y == 0) = false := by simp; omega
    go_wp2_with fail
    go_ret
    exact ⟨rfl, by (repeat (first | assumption | exact Q.refl _ | refine Q.alloc ?_ _ | refine Q.drewN ?_ _ | refine Q.drew ?_))⟩
  · have hxb : (x == 0) = false := by simpa using hx
    go_wp2_with fail
    go_ret
    exact ⟨rfl, by (repeat (first | assumption | exact Q.refl _ | refine Q.alloc ?_ _ | refine Q.drewN ?_ _ | refine Q.drew ?_))⟩
/-- A valid hull. -/
theorem impl_IsHull1 (a b x y l : Int) (w : World) (hp : pt a b) (h : hdOk x y) (hl : 1 ≤ l ∧ l ≤ 1000) : Calls Tryz.prog 105 #[.agg #[.int .i64 a, .int .i64 b, .int .i64 x, .int .i64 y, .int .i64 l]] w fun e w' => e = .returned (.bool true) ∧ Q w w' := by
  have k1 := fun wv => impl_IsPoint a b wv
  rw [pt_B hp] at k1
  have K1 := Lib.hid k1
  have K2 := Lib.hid (fun wv => impl_isHeading1 x y wv h)
  have k3 := fun wv => impl_inR l 1 1000 wv
  rw [inR_yes hl] at k3
  have K3 := Lib.hid k3
  have B1 := bx5 w a b x y l
  have Q0 : Q w (w.alloc (.cells #[.int .i64 a, .int .i64 b, .int .i64 x, .int .i64 y, .int .i64 l] 86)) := by (repeat (first | assumption | exact Q.refl _ | refine Q.alloc ?_ _ | refine Q.drewN ?_ _ | refine Q.drew ?_))
  clear k1 k3 h hp hl
  go_enter Tryz.func105, Tryz.ntmps105
  go_wp2_with fail
  refine (K1.out _).mono ?_
  rintro e1 w1 ⟨rfl, q1⟩
  have c1 := (B1.q q1).cell
  go_wp2_with fail
  refine (K2.out _).mono ?_
  rintro e2 w2 ⟨rfl, q2⟩
  have c2 := ((B1.q q1).q q2).cell
  go_wp2_with fail
  refine (K3.out _).mono ?_
  rintro e3 w3 ⟨rfl, rfl⟩
  go_wp2_with fail
  go_ret
  exact ⟨rfl, (Q0.trans q1).trans q2⟩
/-- A valid hull. -/
theorem spec_IsHull1 (a b x y l : Int) (w : World) (hp : pt a b) (h : hdOk x y) (hl : 1 ≤ l ∧ l ≤ 1000) : Calls Tryz.prog 82 #[.agg #[.int .i64 a, .int .i64 b, .int .i64 x, .int .i64 y, .int .i64 l]] w fun e w' => e = .returned (.bool true) ∧ Q w w' := by
  have k1 := fun wv => spec_IsPoint a b wv
  rw [pt_B hp] at k1
  have K1 := Lib.hid k1
  have K2 := Lib.hid (fun wv => spec_l08Heading1 x y wv h)
  have k3 := fun wv => spec_inR l 1 1000 wv
  rw [inR_yes hl] at k3
  have K3 := Lib.hid k3
  have B1 := bx5 w a b x y l
  have Q0 : Q w (w.alloc (.cells #[.int .i64 a, .int .i64 b, .int .i64 x, .int .i64 y, .int .i64 l] 86)) := by (repeat (first | assumption | exact Q.refl _ | refine Q.alloc ?_ _ | refine Q.drewN ?_ _ | refine Q.drew ?_))
  clear k1 k3 h hp hl
  go_enter Tryz.func82, Tryz.ntmps82
  go_wp2_with fail
  refine (K1.out _).mono ?_
  rintro e1 w1 ⟨rfl, q1⟩
  have c1 := (B1.q q1).cell
  go_wp2_with fail
  refine (K2.out _).mono ?_
  rintro e2 w2 ⟨rfl, q2⟩
  have c2 := ((B1.q q1).q q2).cell
  go_wp2_with fail
  refine (K3.out _).mono ?_
  rintro e3 w3 ⟨rfl, rfl⟩
  go_wp2_with fail
  go_ret
  exact ⟨rfl, (Q0.trans q1).trans q2⟩
end Go.Proofs.YtkpdoikjfibflaaGreatDoor
namespace Go.Proofs.YtkpdoikjfibflaaGreatDoor
open Go.RowKit Go.WideShapes Go.ChangeShapes
theorem hdC_2 {xs : List Int} {n : Nat} {t : Int} (hT : isTrk xs n = true) (hl : lastsB xs n t = false) : hdC xs n t = 2 := by unfold hdC; rw [if_pos hT, hl, if_neg (by decide)]
theorem hdC_5 {xs : List Int} {n : Nat} {t : Int} (hT : isTrk xs n = true) (hl : lastsB xs n t = true) (h : hdX xs n t = 0 ∧ hdY xs n t = 0) : hdC xs n t = 5 := by unfold hdC; rw [if_pos hT, if_pos hl, if_pos h]
theorem hdC_0 {xs : List Int} {n : Nat} {t : Int} (hT : isTrk xs n = true) (hl : lastsB xs n t = true) (h : ¬ (hdX xs n t = 0 ∧ hdY xs n t = 0)) : hdC xs n t = 0 := by unfold hdC; rw [if_pos hT, if_pos hl, if_neg h]
set_option maxRecDepth 100000 in
set_option maxHeartbeats 2000000 in
theorem spec_HeadingAt (A : Option Addr) (n c : Nat) (xs : List Int) (t : Int) (w : World) (ha : Rd w A xs) (hn : xs.length = n * 3) (hT : isTrk xs n = true) :
    Calls Tryz.prog 80 #[.agg #[.slice A n c], .int .i64 t] w fun e w' => e = .returned (.tuple #[.agg #[.int .i64 (if hdC xs n t = 0 then hdX xs n t else 0), .int .i64 (if hdC xs n t = 0 then hdY xs n t else 0)], .int .i64 (hdC xs n t)]) ∧ Q w w' := by
  have B1 : Blk ((w.alloc (.cells #[.slice A n c] 37)).alloc (.cells #[.int .i64 0, .int .i64 0] 78)) w.heap.size 37 #[.slice A n c] := (Blk.new _ _ _).alloc _
  have B2 : Blk ((w.alloc (.cells #[.slice A n c] 37)).alloc (.cells #[.int .i64 0, .int .i64 0] 78)) (w.heap.size + 1) 78 #[.int .i64 0, .int .i64 0] := by simpa using Blk.new (w.alloc (.cells #[.slice A n c] 37)) 78 #[.int .i64 0, .int .i64 0]
  have Q0 : Q w ((w.alloc (.cells #[.slice A n c] 37)).alloc (.cells #[.int .i64 0, .int .i64 0] 78)) := by (repeat (first | assumption | exact Q.refl _ | refine Q.alloc ?_ _ | refine Q.drewN ?_ _ | refine Q.drew ?_))
  have k1 := fun wv (h : Rd wv A xs) => spec_LegAt A n c xs t wv h hn hT
  unfold tmC at k1
  cases hl : lastsB xs n t with
  | false =>
    rw [hl] at k1
    have K1 := Lib.hid k1
    rw [hdC_2 hT hl, if_neg (by decide), if_neg (by decide)]
    clear k1 hl hT hn
    go_enter Tryz.func80, Tryz.ntmps80
    go_wp2_with fail
    refine (K1.out _ (ha.q Q0)).mono ?_
    rintro e1 w1 ⟨rfl, q1⟩
    have c2 := (B2.q q1).cell
    have f2 := (B2.q q1).frozen
    have l2 := (B2.q q1).lt
    go_wp2_with fail
    have F := (((B2.q q1).set_ 0 (.int .i64 0)).set_ 1 (.int .i64 0)).cell
    exact bodyPost_ret (v := .tuple #[.agg #[.int .i64 0, .int .i64 0], .int .i64 2]) (by simp [results, Tryz.results80, go_sem, F]) rfl ⟨rfl, (((Q0.trans q1).setCell (by simp) _).setCell (by simp) _)⟩
  | true =>
    rw [hl] at k1
    have hk := (leg_facts hT hl).1
    have k2 := fun wv (h : Rd wv A xs) => spec_l03Heading A n c xs (legS xs t (n - 1)) wv h hn hT hk
    have eX : el xs ((legS xs t (n - 1) + 1) * 3 + 1) - el xs (legS xs t (n - 1) * 3 + 1) = hdX xs n t := rfl
    have eY : el xs ((legS xs t (n - 1) + 1) * 3 + 2) - el xs (legS xs t (n - 1) * 3 + 2) = hdY xs n t := rfl
    rw [eX, eY] at k2
    have h5 := @hdC_5 xs n t hT hl
    have h0 := @hdC_0 xs n t hT hl
    generalize hdX xs n t = X at *
    generalize hdY xs n t = Y at *
    generalize hdC xs n t = C at *
    generalize legS xs t (n - 1) = k at *
    have K1 := Lib.hid k1
    have K2 := Lib.hid k2
    clear k1 k2 hl hT hn hk eX eY
    have HC : Hid ((X = 0 ∧ Y = 0 ∧ C = 5) ∨ (¬ (X = 0 ∧ Y = 0) ∧ C = 0)) := Lib.hid (by
      by_cases h : X = 0 ∧ Y = 0
      · exact .inl ⟨h.1, h.2, h5 h⟩
      · exact .inr ⟨h, h0 h⟩)
    clear h5 h0
    rcases HC.out with ⟨rfl, rfl, rfl⟩ | ⟨hne, rfl⟩
    · rw [if_neg (by decide)]
      go_enter Tryz.func80, Tryz.ntmps80
      go_wp2_with fail
      refine (K1.out _ (ha.q Q0)).mono ?_
      rintro e1 w1 ⟨rfl, q1⟩
      have c1 := (B1.q q1).cell
      have l1 := (B1.q q1).lt
      go_wp2_with fail
      refine (K2.out _ (ha.q (Q0.trans q1))).mono ?_
      rintro e2 w2 ⟨rfl, q2⟩
      have c2 := ((B2.q q1).q q2).cell
      have f2 := ((B2.q q1).q q2).frozen
      have l2 := ((B2.q q1).q q2).lt
      go_wp2_with fail
      have F := (((((B2.q q1).q q2).set_ 0 (.int .i64 0)).set_ 1 (.int .i64 0)).alloc (.cells #[.int .i64 0, .int .i64 0] 78)).cell
      exact bodyPost_ret (v := .tuple #[.agg #[.int .i64 0, .int .i64 0], .int .i64 5]) (by simp [results, Tryz.results80, go_sem, F]) rfl ⟨rfl, ((((Q0.trans q1).trans q2).setCell (by simp) _).setCell (by simp) _).alloc _⟩
    · rw [if_pos rfl, if_pos rfl]
      by_cases hx : X = 0
      · have hy : (Y == 0) = false := by simpa using fun e => hne ⟨hx, e⟩
        subst hx
        go_enter Tryz.func80, Tryz.ntmps80
        go_wp2_with fail
        refine (K1.out _ (ha.q Q0)).mono ?_
        rintro e1 w1 ⟨rfl, q1⟩
        have c1 := (B1.q q1).cell
        have l1 := (B1.q q1).lt
        go_wp2_with fail
        refine (K2.out _ (ha.q (Q0.trans q1))).mono ?_
        rintro e2 w2 ⟨rfl, q2⟩
        have c2 := ((B2.q q1).q q2).cell
        have f2 := ((B2.q q1).q q2).frozen
        have l2 := ((B2.q q1).q q2).lt
        go_wp2_with fail
        have F := (((((B2.q q1).q q2).set_ 0 (.int .i64 0)).set_ 1 (.int .i64 Y)).alloc (.cells #[.int .i64 0, .int .i64 Y] 78)).cell
        exact bodyPost_ret (v := .tuple #[.agg #[.int .i64 0, .int .i64 Y], .int .i64 0]) (by simp [results, Tryz.results80, go_sem, F]) rfl ⟨rfl, ((((Q0.trans q1).trans q2).setCell (by simp) _).setCell (by simp) _).alloc _⟩
      · have hxb : (X == 0) = false := by simpa using hx
        go_enter Tryz.func80, Tryz.ntmps80
        go_wp2_with fail
        refine (K1.out _ (ha.q Q0)).mono ?_
        rintro e1 w1 ⟨rfl, q1⟩
        have c1 := (B1.q q1).cell
        have l1 := (B1.q q1).lt
        go_wp2_with fail
        refine (K2.out _ (ha.q (Q0.trans q1))).mono ?_
        rintro e2 w2 ⟨rfl, q2⟩
        have c2 := ((B2.q q1).q q2).cell
        have f2 := ((B2.q q1).q q2).frozen
        have l2 := ((B2.q q1).q q2).lt
        go_wp2_with fail
        have F := (((((B2.q q1).q q2).set_ 0 (.int .i64 X)).set_ 1 (.int .i64 Y)).alloc (.cells #[.int .i64 X, .int .i64 Y] 78)).cell
        exact bodyPost_ret (v := .tuple #[.agg #[.int .i64 X, .int .i64 Y], .int .i64 0]) (by simp [results, Tryz.results80, go_sem, F]) rfl ⟨rfl, ((((Q0.trans q1).trans q2).setCell (by simp) _).setCell (by simp) _).alloc _⟩
end Go.Proofs.YtkpdoikjfibflaaGreatDoor
