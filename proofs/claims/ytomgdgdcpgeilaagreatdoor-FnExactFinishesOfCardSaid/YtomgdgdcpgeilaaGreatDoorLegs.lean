/- Walks: the crossings of a line by a track, leg by leg, as the program lists them. -/
import Derived.Test.YtomgdgdcpgeilaaGreatDoorWay
import Derived.RegionTactic
import Derived.Deep.Cut
import Derived.Test.YtomgdgdcpgeilaaGreatDoorK
namespace Go.Proofs.YtomgdgdcpgeilaaGreatDoor
open Go.RowKit Go.WideShapes Go.ChangeShapes
set_option maxHeartbeats 2000000 in
theorem impl_legSegment (A : Option Addr) (n c : Nat) (xs : List Int) (k : Nat) (w : World) (ha : Rd w A xs) (hn : xs.length = n * 3) (hk : k + 1 < n) (hn2 : n ≤ 40) :
    Calls Tryz.prog 144 #[.agg #[.slice A n c], .int .i64 k] w fun e w' => e = .returned (.agg #[.int .i64 (el xs (k * 3 + 1)), .int .i64 (el xs (k * 3 + 2)), .int .i64 (el xs ((k + 1) * 3 + 1)), .int .i64 (el xs ((k + 1) * 3 + 2))]) ∧ Q w w' := by
  obtain ⟨W, hW⟩ : ∃ W, W = (w.alloc (.cells #[.slice A n c] 47)).alloc (.cells #[.int .i64 0, .int .i64 0, .int .i64 0, .int .i64 0] 172) := ⟨_, rfl⟩
  have B1 : Blk W w.heap.size 47 #[.slice A n c] := by rw [hW]; exact (Blk.new _ _ _).alloc _
  have B2 : Blk W (w.heap.size + 1) 172 #[.int .i64 0, .int .i64 0, .int .i64 0, .int .i64 0] := by rw [hW]; exact (by simpa using Blk.new (w.alloc (.cells #[.slice A n c] 47)) 172 #[.int .i64 0, .int .i64 0, .int .i64 0, .int .i64 0])
  have Q0 : Q w W := by rw [hW]; exact ((Q.refl w).alloc _).alloc _
  have hR := ha.q Q0
  obtain ⟨bl, o, rfl, g0, g1, g2⟩ := hR.at3 hn (show k < n by omega)
  obtain ⟨_, _, hA, p0, p1, p2⟩ := hR.at3 hn hk
  cases hA
  have hkI : (k : Int) < (n : Int) := by omega
  have hkI2 : (k : Int) + 1 < (n : Int) := by omega
  have l0 := later_cell g0
  have l1 := later_cell g1
  have l2 := later_cell g2
  have m0 := later_cell p0
  have m1 := later_cell p1
  have m2 := later_cell p2
  have lb := later_cells B1.cell B1.lt
  generalize el xs (k * 3) = t0 at *
  generalize el xs (k * 3 + 1) = x0 at *
  generalize el xs (k * 3 + 2) = y0 at *
  generalize el xs ((k + 1) * 3) = t1 at *
  generalize el xs ((k + 1) * 3 + 1) = x1 at *
  generalize el xs ((k + 1) * 3 + 2) = y1 at *
  clear g0 g1 g2 p0 p1 p2 hR ha hn
  subst hW
  go_enter Tryz.func144, Tryz.ntmps144
  go_wp2_with fail
  refine wp_region_later_tail 14 (by kernel_rfl) (by kernel_rfl) ?_
  simp only [List.take_succ_cons, List.take_zero, List.drop_succ_cons, List.drop_zero]
  repeat (any_goals (first | go_big_quiet_step ((go_at_call 119; exact later_call (impl_pointOf _ _ _ _))) | quiet_step ((go_at_call 119; exact later_call (impl_pointOf _ _ _ _)))))
  refine wpQuiet_nil ?_
  rintro w3 ⟨⟨w4, q4⟩, hw⟩
  obtain rfl : w3 = w4 := hw
  clear l0 l1 l2 m0 m1 m2 lb
  have e4 := (B2.q q4).cell
  have z4 := (B2.q q4).frozen
  have Q4 : Q w w3 := Q0.trans q4
  go_wp2_with fail
  have bf := (((((B2.q q4).set_ 0 (.int .i64 x0)).set_ 1 (.int .i64 y0)).set_ 2 (.int .i64 x1)).set_ 3 (.int .i64 y1)).cell
  exact bodyPost_ret (v := .agg #[.int .i64 x0, .int .i64 y0, .int .i64 x1, .int .i64 y1]) (by simp [results, Tryz.results144, go_sem, bf]) rfl ⟨rfl, (((Q4.setCell (by simp) _).setCell (by simp) _).setCell (by simp) _).setCell (by simp) _⟩
def wyK (a b c d : Int) (xs : List Int) (k : Nat) : Int := wayV a b c d (el xs (k * 3 + 1)) (el xs (k * 3 + 2)) (el xs ((k + 1) * 3 + 1)) (el xs ((k + 1) * 3 + 2))
def nK (a b c d : Int) (xs : List Int) (k : Nat) : Nat := plN (crossV a b c d (el xs (k * 3 + 1)) (el xs (k * 3 + 2))) (crossV a b c d (el xs ((k + 1) * 3 + 1)) (el xs ((k + 1) * 3 + 2)))
def dK (a b c d : Int) (xs : List Int) (k : Nat) : Nat := plD (crossV a b c d (el xs (k * 3 + 1)) (el xs (k * 3 + 2))) (crossV a b c d (el xs ((k + 1) * 3 + 1)) (el xs ((k + 1) * 3 + 2)))
def dtK (xs : List Int) (k : Nat) : Nat := (el xs ((k + 1) * 3) - el xs (k * 3)).toNat
/-- The time of a crossing: begun milliseconds count whole. -/
def tmK (a b c d : Int) (xs : List Int) (k : Nat) : Int := el xs (k * 3) + ((dtK xs k * nK a b c d xs k / dK a b c d xs k : Nat) : Int) + if 0 < dtK xs k * nK a b c d xs k % dK a b c d xs k then 1 else 0
def crK (a b c d : Int) (xs : List Int) (k : Nat) : List Int := [tmK a b c d xs k, (k : Int), wyK a b c d xs k, ((nK a b c d xs k : Nat) : Int), ((dK a b c d xs k : Nat) : Int)]
def crL (a b c d : Int) (xs : List Int) : Nat → List Int
  | 0 => []
  | k + 1 => if wyK a b c d xs k = 0 then crL a b c d xs k else crL a b c d xs k ++ crK a b c d xs k
theorem crL_no {a b c d : Int} {xs : List Int} {k : Nat} (h : wyK a b c d xs k = 0) : crL a b c d xs (k + 1) = crL a b c d xs k := by rw [crL, if_pos h]
theorem crL_yes {a b c d : Int} {xs : List Int} {k : Nat} (h : wyK a b c d xs k ≠ 0) : crL a b c d xs (k + 1) = crL a b c d xs k ++ crK a b c d xs k := by rw [crL, if_neg h]
theorem crL_len (a b c d : Int) (xs : List Int) : ∀ k, ∃ m, (crL a b c d xs k).length = m * 5 ∧ m ≤ k
  | 0 => ⟨0, rfl, Nat.le_refl _⟩
  | k + 1 => by
    obtain ⟨m, h1, h2⟩ := crL_len a b c d xs k
    rw [crL]
    split
    · exact ⟨m, h1, by omega⟩
    · exact ⟨m + 1, by rw [List.length_append, h1]; simp [crK]; omega, by omega⟩
theorem trk_facts {xs : List Int} {n k : Nat} (hT : isTrk xs n = true) (hk : k + 1 < n) : n ≤ 40 ∧ (0 ≤ el xs (k * 3) ∧ el xs (k * 3) < el xs ((k + 1) * 3) ∧ el xs ((k + 1) * 3) ≤ 1000000000) ∧ ptB (el xs (k * 3 + 1)) (el xs (k * 3 + 2)) = true ∧ ptB (el xs ((k + 1) * 3 + 1)) (el xs ((k + 1) * 3 + 2)) = true := by
  unfold isTrk at hT
  rw [Bool.and_eq_true, decide_eq_true_eq] at hT
  have h1 := fixAt_yes (fixTo_at hT.2 (show k < n by omega))
  have h2 := fixAt_yes (fixTo_at hT.2 hk)
  refine ⟨hT.1.2, ⟨h1.1.1, ?_, h2.1.2⟩, h1.2.1, h2.2.1⟩
  rcases h2.2.2 with h | h
  · omega
  · simpa using h
theorem lnB_mk {e f g h : Int} (h1 : ptB e f = true) (h2 : ptB g h = true) (h3 : ¬ (e = g ∧ f = h)) : lnB e f g h = true := by
  unfold lnB
  rw [h1, h2]
  simp
  omega
theorem plD_pos {P R : Int} (hx : Xs P R) : 0 < plD P R ∧ plN P R ≤ plD P R := by
  unfold plD plN
  have hY : 0 < plY P R := by unfold plY; rcases hx with hx | hx <;> omega
  have hg : 0 < Nat.gcd (plX P) (plY P R) := Nat.gcd_pos_of_pos_right _ hY
  refine ⟨Nat.div_pos (Nat.le_of_dvd hY (Nat.gcd_dvd_right _ _)) hg, Nat.div_le_div_right ?_⟩
  unfold plX plY
  omega
theorem plD_le {P R : Int} (hP : -8000000000000 ≤ P ∧ P ≤ 8000000000000) (hR : -8000000000000 ≤ R ∧ R ≤ 8000000000000) : plD P R ≤ 16000000000000 := by
  unfold plD
  refine Nat.le_trans (Nat.div_le_self _ _) ?_
  unfold plY
  omega
theorem elCross : EltT 130 135 5 := EltT.mk (by_ := 40) (z := .agg #[.int .i64 0, .int .i64 0, .int .i64 0, .int .i64 0, .int .i64 0]) (by kernel_rfl) Tryz.underlying130 (by decide) rfl (by decide)
end Go.Proofs.YtomgdgdcpgeilaaGreatDoor
