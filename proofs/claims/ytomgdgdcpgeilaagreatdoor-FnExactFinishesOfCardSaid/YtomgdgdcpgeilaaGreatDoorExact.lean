/- Walks: the exact time of a crossing, as the reference finds it. -/
import Derived.Test.YtomgdgdcpgeilaaGreatDoorCrs
import Derived.Deep.RegionWith
namespace Go.Proofs.YtomgdgdcpgeilaaGreatDoor
open Go.RowKit Go.WideShapes Go.ChangeShapes
set_option maxHeartbeats 4000000 in
theorem spec_Exact (A : Option Addr) (n cc : Nat) (xs : List Int) (k dt N D : Nat) (z wy : Int) (w : World) (ha : Rd w A xs) (hn : xs.length = n * 3) (hk : k + 1 < n) (hn40 : n ≤ 40) (ht : (0 ≤ el xs (k * 3) ∧ el xs (k * 3) < el xs ((k + 1) * 3) ∧ el xs ((k + 1) * 3) ≤ 1000000000))
    (hdt : el xs ((k + 1) * 3) - el xs (k * 3) = (dt : Int)) (hND : N ≤ D) (hD0 : 0 < D) (hD : D ≤ 16000000000000) :
    Calls Tryz.prog 114 #[.agg #[.slice A n cc], .agg #[.int .i64 z, .int .i64 k, .int .i64 wy, .int .i64 N, .int .i64 D]] w fun e w' => e = .returned (.tuple #[.int .i64 (el xs (k * 3) + ((dt * N / D : Nat) : Int)), .agg #[.int .i64 ((dt * N % D : Nat) : Int), .int .i64 D]]) ∧ Q w w' := by
  obtain ⟨ht0, ht1, ht2⟩ := ht
  have k1 := fun wv => spec_Divide dt N D (by omega) hND hD0 (by omega) wv
  have hqb : dt * N / D ≤ 1000000000 := by
    refine Nat.le_trans (Nat.div_le_div_right (Nat.mul_le_mul_left _ hND)) ?_
    rw [Nat.mul_div_cancel _ hD0]
    omega
  obtain ⟨bl, o, rfl, g0, g1, g2⟩ := ha.at3 hn (show k < n by omega)
  obtain ⟨_, _, hA, j0, j1, j2⟩ := ha.at3 hn hk
  cases hA
  have hkI : (k : Int) < (n : Int) := by omega
  have hkJ : (k : Int) + 1 < (n : Int) := by omega
  generalize dt * N / D = qo at *
  generalize dt * N % D = rm at *
  generalize el xs (k * 3) = t0 at *
  generalize el xs (k * 3 + 1) = x0 at *
  generalize el xs (k * 3 + 2) = y0 at *
  generalize el xs ((k + 1) * 3) = t1 at *
  generalize el xs ((k + 1) * 3 + 1) = x1 at *
  generalize el xs ((k + 1) * 3 + 2) = y1 at *
  have K1 := Lib.hid k1
  clear k1 hn ha hND hD0
  have hkb : (k : Int) ≤ 40 := by omega
  obtain ⟨W, hW⟩ : ∃ W, W = ((w.alloc (.cells #[.slice (some ⟨bl, o, none⟩) n cc] 47)).alloc (.cells #[.int .i64 z, .int .i64 k, .int .i64 wy, .int .i64 N, .int .i64 D] 135)).alloc (.cells #[.int .i64 0, .int .i64 0] 133) := ⟨_, rfl⟩
  have B1 : Blk W w.heap.size 47 #[.slice (some ⟨bl, o, none⟩) n cc] := by rw [hW]; exact ((Blk.new _ _ _).alloc _).alloc _
  have B2 : Blk W (w.heap.size + 1) 135 #[.int .i64 z, .int .i64 k, .int .i64 wy, .int .i64 N, .int .i64 D] := by rw [hW]; exact Blk.alloc (by simpa using Blk.new (w.alloc (.cells #[.slice (some ⟨bl, o, none⟩) n cc] 47)) 135 #[.int .i64 z, .int .i64 k, .int .i64 wy, .int .i64 N, .int .i64 D]) _
  have B3 : Blk W (w.heap.size + 2) 133 #[.int .i64 0, .int .i64 0] := by rw [hW]; exact (by simpa using Blk.new ((w.alloc (.cells #[.slice (some ⟨bl, o, none⟩) n cc] 47)).alloc (.cells #[.int .i64 z, .int .i64 k, .int .i64 wy, .int .i64 N, .int .i64 D] 135)) 133 #[.int .i64 0, .int .i64 0])
  have Q0 : Q w W := by rw [hW]; exact (((Q.refl w).alloc _).alloc _).alloc _
  have HW := Lib.hid hW
  go_enter Tryz.func114, Tryz.ntmps114
  go_wp2_with fail
  rw [← HW.out]
  clear hW HW
  replace g0 := Q0.cell g0
  replace g1 := Q0.cell g1
  replace g2 := Q0.cell g2
  replace j0 := Q0.cell j0
  replace j1 := Q0.cell j1
  replace j2 := Q0.cell j2
  have lb := World.block_lt_of_cell? W _ j2
  have c1 := B1.cell
  have c2 := B2.cell
  have m1 := B1.lt
  have m2 := B2.lt
  go_cut [6, 7] from 6 (fun p q wc => ∃ b6 b7, p = .pointer (some ⟨b6, 0, none⟩) ∧ q = .pointer (some ⟨b7, 0, none⟩) ∧ Blk wc b6 114 #[.int .i64 t0, .int .i64 x0, .int .i64 y0] ∧ Blk wc b7 114 #[.int .i64 t1, .int .i64 x1, .int .i64 y1] ∧ Q W wc)
  case first =>
    go_region
    all_goals (go_wp2_with fail; go_meet)
    · refine ⟨_, _, rfl, rfl, ?_, ?_, by (repeat (first | assumption | exact Q.refl _ | refine Q.alloc ?_ _ | refine Q.drewN ?_ _ | refine Q.drew ?_))⟩
      · exact ((Blk.new W _ _).alloc _).drew
      · exact Blk.drew (by simpa using Blk.new (W.alloc _) 114 #[.int .i64 t1, .int .i64 x1, .int .i64 y1])
    · refine ⟨_, _, rfl, rfl, ?_, ?_, by (repeat (first | assumption | exact Q.refl _ | refine Q.alloc ?_ _ | refine Q.drewN ?_ _ | refine Q.drew ?_))⟩
      · exact Blk.drew (by simpa using Blk.new (W.alloc _) 114 #[.int .i64 t0, .int .i64 x0, .int .i64 y0])
      · exact ((Blk.new W _ _).alloc _).drew
  case rest =>
    clear c1 c2 m1 m2 g0 g1 g2 j0 j1 j2 lb
    obtain ⟨b6, b7, rfl, rfl, B6, B7, QC⟩ := hcut
    have d6 := B6.cell
    have d7 := B7.cell
    have d2 := (B2.q QC).cell
    go_wp2_with fail
    refine (K1.out _).mono ?_
    rintro e w2 ⟨rfl, q2⟩
    have e6 := (B6.q q2).cell
    have e2 := ((B2.q QC).q q2).cell
    have BR := (B3.q QC).q q2
    have e3 := BR.cell
    have f3 := BR.frozen
    have QR := (Q0.trans QC).trans q2
    clear d6 d7 d2
    go_wp2_with fail
    go_region
    all_goals go_wp2_with fail
    have F := (((BR.set_ 0 (.int .i64 rm)).set_ 1 (.int .i64 D)).drew).cell
    exact bodyPost_ret (v := .tuple #[.int .i64 (t0 + (qo : Int)), .agg #[.int .i64 rm, .int .i64 D]]) (by simp [results, Tryz.results114, go_sem, F]) rfl ⟨rfl, ((QR.setCell (by simp <;> omega) _).setCell (by simp <;> omega) _).drew⟩
end Go.Proofs.YtomgdgdcpgeilaaGreatDoor
