/- Walks: the check times of two tracks, as the program and the reference list them, for all valid arguments. -/
import Derived.Test.YtkpdoikjfibflaaGreatDoorTrk
import Derived.Test.YtkpdoikjfibflaaGreatDoorK
import Derived.Test.YtkpdoikjfibflaaGreatDoorTc
import Derived.Deep.Cut
namespace Go.Proofs.YtkpdoikjfibflaaGreatDoor
open Go.RowKit Go.WideShapes Go.ChangeShapes
theorem trk_n {xs : List Int} {n : Nat} (h : isTrk xs n = true) : 2 ≤ n ∧ n ≤ 40 := by
  unfold isTrk at h
  rw [Bool.and_eq_true] at h
  exact of_decide_eq_true h.1
theorem trk_at {xs : List Int} {n k : Nat} (h : isTrk xs n = true) (hk : k < n) : (0 ≤ el xs (k * 3) ∧ el xs (k * 3) ≤ 1000000000) ∧ ptB (el xs (k * 3 + 1)) (el xs (k * 3 + 2)) = true ∧ (k = 0 ∨ el xs ((k - 1) * 3) < el xs (k * 3)) := by
  unfold isTrk at h
  rw [Bool.and_eq_true] at h
  exact fixAt_yes (fixTo_at h.2 hk)
theorem trk_time {xs : List Int} {n k : Nat} (h : isTrk xs n = true) (hk : k < n) : 0 ≤ el xs (k * 3) ∧ el xs (k * 3) ≤ 1000000000 := (trk_at h hk).1
/-- The times from t on, in steps of s, up to u; none if there are more than the fuel lets. -/
def ckGo (s u : Int) : Nat → Int → Option (List Int)
  | 0, _ => none
  | f + 1, t => if t ≤ u then (ckGo s u f (t + s)).map (t :: ·) else some []
def ckFrom (s : Int) (xs ys : List Int) : Int := -((-(max (el xs 0) (el ys 0))) / s) * s
def ckTo (xs : List Int) (n : Nat) (ys : List Int) (m : Nat) : Int := min (el xs ((n - 1) * 3)) (el ys ((m - 1) * 3))
theorem ck_floor {s f : Int} (hs : 1 ≤ s) (hf : 0 ≤ f) : -f ≤ (-f) / s ∧ (-f) / s ≤ 0 ∧ -((-f) / s) = (f + s - 1) / s ∧ f ≤ -((-f) / s) * s ∧ -((-f) / s) * s < f + s := by
  have h1 := Int.emod_nonneg (-f) (show s ≠ 0 by omega)
  have h2 := Int.emod_lt_of_pos (-f) (show 0 < s by omega)
  have h3 := Int.mul_ediv_add_emod (-f) s
  generalize hq : (-f) / s = q at *
  generalize (-f) % s = r at *
  have h4 : q ≤ 0 := by
    rcases Int.lt_or_le 0 q with h | h
    · have : s * 1 ≤ s * q := Int.mul_le_mul_of_nonneg_left (by omega) (by omega)
      omega
    · exact h
  have h5 : -q * s = f + r := by rw [Int.neg_mul, Int.mul_comm]; omega
  refine ⟨?_, h4, ?_, by omega, by omega⟩
  · rcases Int.lt_or_le q (-f) with h | h
    · have e1 : s * q ≤ s * (-f - 1) := Int.mul_le_mul_of_nonneg_left (by omega) (by omega)
      have e2 : 1 * f ≤ s * f := Int.mul_le_mul_of_nonneg_right (by omega) hf
      rw [Int.mul_sub, Int.mul_neg] at e1
      omega
    · exact h
  · rw [show f + s - 1 = (s - 1 - r) + s * (-q) by rw [Int.mul_neg]; omega, Int.add_mul_ediv_left _ _ (by omega), Int.ediv_eq_zero_of_lt (by omega) (by omega)]
    omega
theorem ckGo_end {s u t : Int} {f : Nat} (h : ¬ t ≤ u) : ckGo s u (f + 1) t = some [] := by rw [ckGo, if_neg h]
theorem ckGo_more {s u t : Int} {f : Nat} (h : t ≤ u) : ckGo s u (f + 1) t = (ckGo s u f (t + s)).map (t :: ·) := by rw [ckGo, if_pos h]
theorem ck_step {s u T t : Int} {k : Nat} {L : List Int} (hk : k < 400) (h : t ≤ u) (hC : ckGo s u 401 T = (ckGo s u (401 - k) t).map (L ++ ·)) : ckGo s u 401 T = (ckGo s u (401 - (k + 1)) (t + s)).map ((L ++ [t]) ++ ·) := by
  rw [hC, show 401 - k = (401 - (k + 1)) + 1 by omega, ckGo_more h, Option.map_map]
  congr 1
  funext x
  simp
theorem ck_none {s u T t : Int} {L : List Int} (h : t ≤ u) (hC : ckGo s u 401 T = (ckGo s u (401 - 400) t).map (L ++ ·)) : ckGo s u 401 T = none := by
  rw [hC, show 401 - 400 = 0 + 1 from rfl, ckGo_more h]
  rfl
theorem ck_some {s u T t : Int} {k : Nat} {L : List Int} (hk : k ≤ 400) (h : ¬ t ≤ u) (hC : ckGo s u 401 T = (ckGo s u (401 - k) t).map (L ++ ·)) : ckGo s u 401 T = some L := by
  rw [hC, show 401 - k = (400 - k) + 1 by omega, ckGo_end h]
  simp
def CkPost (s u t : Int) (w : World) (e : Ending) (w' : World) : Prop :=
  match ckGo s u 401 t with
  | none => e = .returned (.tuple #[.slice none 0 0, .bool false]) ∧ Q w w'
  | some L => ∃ A c, e = .returned (.tuple #[.slice A L.length c, .bool true]) ∧ Own w' w.heap.size 2 1 (.slice A L.length c) L.length L ∧ Q w w'
theorem CkPost.none_ {s u t : Int} {w w' : World} (h : ckGo s u 401 t = none) (hq : Q w w') : CkPost s u t w (.returned (.tuple #[.slice none 0 0, .bool false])) w' := by
  unfold CkPost
  rw [h]
  exact ⟨rfl, hq⟩
theorem CkPost.some_ {s u t : Int} {w w' : World} {L : List Int} {A : Option Addr} {n c : Nat} (h : ckGo s u 401 t = some L) (ho : Own w' w.heap.size 2 1 (.slice A n c) n L) (hq : Q w w') : CkPost s u t w (.returned (.tuple #[.slice A n c, .bool true])) w' := by
  unfold CkPost
  rw [h]
  have hn : n = L.length := by have := ho.len; omega
  subst hn
  exact ⟨A, c, rfl, ho, hq⟩
set_option maxHeartbeats 4000000 in
theorem impl_times (a b d s : Int) (A1 : Option Addr) (n c1 : Nat) (xs : List Int) (A2 : Option Addr) (m c2 : Nat) (ys : List Int) (w : World) (ha : Rd w A1 xs) (hb : Rd w A2 ys) (hn : xs.length = n * 3) (hm : ys.length = m * 3) (ht : isTrk xs n = true) (hu : isTrk ys m = true) (hs : 1 ≤ s ∧ s ≤ 60000) :
    Calls Tryz.prog 19 #[.agg #[.int .i64 a, .int .i64 b, .int .i64 d, .int .i64 s], .agg #[.slice A1 n c1], .agg #[.slice A2 m c2]] w (CkPost s (ckTo xs n ys m) (ckFrom s xs ys) w) := by
  have hx0 := trk_time ht (show 0 < n by have := trk_n ht; omega)
  have hy0 := trk_time hu (show 0 < m by have := trk_n hu; omega)
  have hxn := trk_time ht (show n - 1 < n by have := trk_n ht; omega)
  have hyn := trk_time hu (show m - 1 < m by have := trk_n hu; omega)
  have hn1 := trk_n ht
  have hm1 := trk_n hu
  simp only [Nat.zero_mul] at hx0 hy0
  have hfl := ck_floor (s := s) (f := max (el xs 0) (el ys 0)) hs.1 (by omega)
  have hB := fun w1 (q : Q (((w.alloc (.cells #[.int .i64 a, .int .i64 b, .int .i64 d, .int .i64 s] 27)).alloc (.cells #[.slice A1 n c1] 37)).alloc (.cells #[.slice A2 m c2] 37)) w1) => (show Blk w1 w.heap.size 27 #[.int .i64 a, .int .i64 b, .int .i64 d, .int .i64 s] ∧ Blk w1 (w.heap.size + 1) 37 #[.slice A1 n c1] ∧ Blk w1 (w.heap.size + 1 + 1) 37 #[.slice A2 m c2] from ⟨q.boxB3, by simpa using q.boxB2, by simpa using q.boxB⟩)
  have hQb : Q w (((w.alloc (.cells #[.int .i64 a, .int .i64 b, .int .i64 d, .int .i64 s] 27)).alloc (.cells #[.slice A1 n c1] 37)).alloc (.cells #[.slice A2 m c2] 37)) := by (repeat (first | assumption | exact Q.refl _ | refine Q.alloc ?_ _ | refine Q.drewN ?_ _ | refine Q.drew ?_))
  have hzb : (((w.alloc (.cells #[.int .i64 a, .int .i64 b, .int .i64 d, .int .i64 s] 27)).alloc (.cells #[.slice A1 n c1] 37)).alloc (.cells #[.slice A2 m c2] 37)).heap.size = w.heap.size + 3 := by simp
  have HZ := Lib.hid hzb
  clear hzb ht hu
  obtain ⟨n', rfl⟩ : ∃ n', n = n' + 1 := ⟨n - 1, by omega⟩
  obtain ⟨m', rfl⟩ : ∃ m', m = m' + 1 := ⟨m - 1, by omega⟩
  simp only [Nat.add_sub_cancel] at hxn hyn
  unfold ckTo ckFrom
  simp only [Nat.add_sub_cancel]
  go_enter Tryz.func19, Tryz.ntmps19
  go_upto_region 1 with (fail)
  generalize (((w.alloc (.cells #[.int .i64 a, .int .i64 b, .int .i64 d, .int .i64 s] 27)).alloc (.cells #[.slice A1 (n' + 1) c1] 37)).alloc (.cells #[.slice A2 (m' + 1) c2] 37)) = wb at *
  obtain ⟨bl1, o1, rfl, g1, _, _⟩ := (ha.q hQb).at3 (k := 0) hn (by omega)
  obtain ⟨bl2, o2, rfl, g2, _, _⟩ := (hb.q hQb).at3 (k := 0) hm (by omega)
  simp only [Nat.zero_mul, Nat.add_zero] at g1 g2
  obtain ⟨_, _, hA, j1, _, _⟩ := (ha.q hQb).at3 (k := n') hn (by omega)
  cases hA
  obtain ⟨_, _, hA, j2, _, _⟩ := (hb.q hQb).at3 (k := m') hm (by omega)
  cases hA
  go_cut [8] from 12 (fun v wc => v = .int .i64 (max (el xs 0) (el ys 0)) ∧ Q wb wc)
  case first =>
    obtain ⟨h1, h2, h3⟩ := hB _ (Q.refl _)
    have l1 := later_cells h1.cell h1.lt
    have l2 := later_cells h2.cell h2.lt
    have l3 := later_cells h3.cell h3.lt
    have lg1 := later_cell g1
    have lg2 := later_cell g2
    refine wp_region_later_lit (by kernel_rfl) (by kernel_rfl) ?_
    repeat (any_goals (first | go_big_quiet_step (fail) | quiet_step (fail) | (refine wpQuiet_step (fun K hK => ?_); go_simp; split <;> (refine hK _ ?_; clear hK K))))
    all_goals (refine wpQuiet_nil ?_; rintro _ ⟨⟨w2, q2⟩, rfl⟩; try dsimp only)
    all_goals go_wp2_with fail
    all_goals go_meet
    all_goals exact ⟨by go_num, q2⟩
  case rest =>
    obtain ⟨rfl, hq1⟩ := hcut
    go_upto_region 2 with (fail)
    go_cut [9] from 12 (fun v wc => v = .int .i64 (min (el xs (n' * 3)) (el ys (m' * 3))) ∧ Q wb wc)
    case first =>
      obtain ⟨h1, h2, h3⟩ := hB _ hq1
      have l1 := later_cells h1.cell h1.lt
      have l2 := later_cells h2.cell h2.lt
      have l3 := later_cells h3.cell h3.lt
      have lg1 := later_cell (hq1.cell j1)
      have lg2 := later_cell (hq1.cell j2)
      refine wp_region_later_lit (by kernel_rfl) (by kernel_rfl) ?_
      repeat (any_goals (first | go_big_quiet_step (fail) | quiet_step (fail) | (refine wpQuiet_step (fun K hK => ?_); go_simp; split <;> (refine hK _ ?_; clear hK K))))
      all_goals (refine wpQuiet_nil ?_; rintro _ ⟨⟨w2, q2⟩, rfl⟩; try dsimp only)
      all_goals go_wp2_with fail
      all_goals go_meet
      all_goals exact ⟨by go_num, hq1.trans q2⟩
    case rest =>
      clear hq1
      obtain ⟨rfl, hq1⟩ := hcut
      have hQ1 : Q w wc := hQb.trans hq1
      have hF1 : 0 ≤ max (el xs 0) (el ys 0) ∧ max (el xs 0) (el ys 0) ≤ 1000000000 := by omega
      have hU1 : 0 ≤ min (el xs (n' * 3)) (el ys (m' * 3)) ∧ min (el xs (n' * 3)) (el ys (m' * 3)) ≤ 1000000000 := by omega
      generalize max (el xs 0) (el ys 0) = F at *
      generalize min (el xs (n' * 3)) (el ys (m' * 3)) = U at *
      clear hx0 hy0 hxn hyn g1 g2 j1 j2
      obtain ⟨h1, h2, h3⟩ := hB _ hq1
      have h1' := h1.alloc (.cells #[] 2)
      have lb := later_cells h1'.cell h1'.lt
      obtain ⟨hf1, hf2, hf3, hf4, hf5⟩ := hfl
      clear hf3
      go_wp2_with fail
      refine wp_region_later_lit (by kernel_rfl) (by kernel_rfl) ?_
      repeat (any_goals (first | go_big_quiet_step ((go_at_call 38; exact later_same (impl_ceilDiv _ _ _ (by omega) (by omega) (by omega) (by omega)))) | quiet_step ((go_at_call 38; exact later_same (impl_ceilDiv _ _ _ (by omega) (by omega) (by omega) (by omega)))) | (refine wpQuiet_step (fun K hK => ?_); go_simp; split <;> (refine hK _ ?_; clear hK K))))
      all_goals (refine wpQuiet_nil ?_; rintro _ ⟨⟨w3, q3⟩, rfl⟩; try dsimp only)
      go_wp2_with fail
      have hT0 : 0 ≤ -(-F / s) * s ∧ -(-F / s) * s ≤ 1000060000 := by omega
      have o3 := (OwnL.new (B := wc.heap.size) wc 2 1 (Nat.le_refl _)).q q3
      have hq3 := (show Q wc (wc.alloc (.cells #[] 2)) by (repeat (first | assumption | exact Q.refl _ | refine Q.alloc ?_ _ | refine Q.drewN ?_ _ | refine Q.drew ?_))).trans q3
      clear hf1 hf2 hf4 hf5 lb h1' h1 h2 h3
      generalize -(-F / s) * s = T at *
      go_loopw [10, 11] (fun v t wr => ∃ (k : Nat) (tt : Int) (L : List Int), k ≤ 400 ∧ t = .int .i64 tt ∧ L.length = k ∧ OwnL wr wc.heap.size 2 1 v L ∧ Q wc wr ∧ Hid (ckGo s U 401 T = (ckGo s U (401 - k) tt).map (L ++ ·)) ∧ 0 ≤ tt ∧ tt ≤ 1000060000) (fun _ t _ => (2000000000 - intOf t).toNat)
      case atStart => exact ⟨0, T, [], by omega, rfl, rfl, o3, hq3, Lib.hid (by simp), hT0.1, hT0.2⟩
      case round =>
        clear o3 hq3 hT0
        obtain ⟨k, t, L, hk, rfl, hL, ⟨A3, p, d3, rfl, hown⟩, hq, HC, ht0, ht1⟩ := hrel
        have hp : p = k := by have := hown.len; omega
        subst hp
        have HL := Lib.hid hL
        clear hL
        have hbx := (hB _ (hq1.trans hq)).1
        have cb := hbx.cell
        have zb := hbx.lt
        by_cases htu : t ≤ U
        · by_cases h400 : p = 400
          · subst h400
            have HX := Lib.hid (ck_none htu HC.out)
            go_wp2_with fail
            go_ret2
            exact CkPost.none_ HX.out (hQ1.trans hq)
          · have HX := Lib.hid (ck_step (show p < 400 by omega) htu HC.out)
            have hb4 : ((p : Int) == 400) = false := by simp; omega
            go_upto_region 6 with (at_builtin; refine appK elInt64 rfl _ _ rfl [t] rfl hown rfl (by simp) rfl _ _ rfl (by omega) hq.size ?_; intro A' c' w' hown' hg' hgr')
            have hq' : Q wc w' := hq.mark hown (Nat.le_refl _) hg'
            have hbx' := (hB _ (hq1.trans hq')).1
            have cb' := hbx'.cell
            go_wp2_with fail
            go_roundw
            case rel => exact ⟨p + 1, t + s, L ++ [t], by omega, rfl, by rw [List.length_append, HL.out]; rfl, ⟨_, _, _, rfl, hown'⟩, hq', HX, by omega, by omega⟩
            case measure => simp [intOf]; omega
        · have HX := Lib.hid (ck_some hk htu HC.out)
          go_wp2_with fail
          go_ret2
          exact CkPost.some_ HX.out (hown.mono hQ1.size) (hQ1.trans hq)
set_option maxHeartbeats 4000000 in
theorem spec_times (a b d s : Int) (A1 : Option Addr) (n c1 : Nat) (xs : List Int) (A2 : Option Addr) (m c2 : Nat) (ys : List Int) (w : World) (ha : Rd w A1 xs) (hb : Rd w A2 ys) (hn : xs.length = n * 3) (hm : ys.length = m * 3) (ht : isTrk xs n = true) (hu : isTrk ys m = true) (hs : 1 ≤ s ∧ s ≤ 60000) :
    Calls Tryz.prog 26 #[.agg #[.int .i64 a, .int .i64 b, .int .i64 d, .int .i64 s], .agg #[.slice A1 n c1], .agg #[.slice A2 m c2]] w (CkPost s (ckTo xs n ys m) (ckFrom s xs ys) w) := by
  have hx0 := trk_time ht (show 0 < n by have := trk_n ht; omega)
  have hy0 := trk_time hu (show 0 < m by have := trk_n hu; omega)
  have hxn := trk_time ht (show n - 1 < n by have := trk_n ht; omega)
  have hyn := trk_time hu (show m - 1 < m by have := trk_n hu; omega)
  have hn1 := trk_n ht
  have hm1 := trk_n hu
  simp only [Nat.zero_mul] at hx0 hy0
  have hfl := ck_floor (s := s) (f := max (el xs 0) (el ys 0)) hs.1 (by omega)
  have hB := fun w1 (q : Q (((w.alloc (.cells #[.int .i64 a, .int .i64 b, .int .i64 d, .int .i64 s] 27)).alloc (.cells #[.slice A1 n c1] 37)).alloc (.cells #[.slice A2 m c2] 37)) w1) => (show Blk w1 w.heap.size 27 #[.int .i64 a, .int .i64 b, .int .i64 d, .int .i64 s] ∧ Blk w1 (w.heap.size + 1) 37 #[.slice A1 n c1] ∧ Blk w1 (w.heap.size + 1 + 1) 37 #[.slice A2 m c2] from ⟨q.boxB3, by simpa using q.boxB2, by simpa using q.boxB⟩)
  have hQb : Q w (((w.alloc (.cells #[.int .i64 a, .int .i64 b, .int .i64 d, .int .i64 s] 27)).alloc (.cells #[.slice A1 n c1] 37)).alloc (.cells #[.slice A2 m c2] 37)) := by (repeat (first | assumption | exact Q.refl _ | refine Q.alloc ?_ _ | refine Q.drewN ?_ _ | refine Q.drew ?_))
  have hzb : (((w.alloc (.cells #[.int .i64 a, .int .i64 b, .int .i64 d, .int .i64 s] 27)).alloc (.cells #[.slice A1 n c1] 37)).alloc (.cells #[.slice A2 m c2] 37)).heap.size = w.heap.size + 3 := by simp
  have HZ := Lib.hid hzb
  clear hzb ht hu
  obtain ⟨n', rfl⟩ : ∃ n', n = n' + 1 := ⟨n - 1, by omega⟩
  obtain ⟨m', rfl⟩ : ∃ m', m = m' + 1 := ⟨m - 1, by omega⟩
  simp only [Nat.add_sub_cancel] at hxn hyn
  unfold ckTo ckFrom
  simp only [Nat.add_sub_cancel]
  rw [hfl.2.2.1]
  go_enter Tryz.func26, Tryz.ntmps26
  go_upto_region 1 with (fail)
  generalize (((w.alloc (.cells #[.int .i64 a, .int .i64 b, .int .i64 d, .int .i64 s] 27)).alloc (.cells #[.slice A1 (n' + 1) c1] 37)).alloc (.cells #[.slice A2 (m' + 1) c2] 37)) = wb at *
  obtain ⟨bl1, o1, rfl, g1, _, _⟩ := (ha.q hQb).at3 (k := 0) hn (by omega)
  obtain ⟨bl2, o2, rfl, g2, _, _⟩ := (hb.q hQb).at3 (k := 0) hm (by omega)
  simp only [Nat.zero_mul, Nat.add_zero] at g1 g2
  obtain ⟨_, _, hA, j1, _, _⟩ := (ha.q hQb).at3 (k := n') hn (by omega)
  cases hA
  obtain ⟨_, _, hA, j2, _, _⟩ := (hb.q hQb).at3 (k := m') hm (by omega)
  cases hA
  go_cut [8] from 12 (fun v wc => v = .int .i64 (max (el xs 0) (el ys 0)) ∧ Q wb wc)
  case first =>
    obtain ⟨h1, h2, h3⟩ := hB _ (Q.refl _)
    have l1 := later_cells h1.cell h1.lt
    have l2 := later_cells h2.cell h2.lt
    have l3 := later_cells h3.cell h3.lt
    have lg1 := later_cell g1
    have lg2 := later_cell g2
    refine wp_region_later_lit (by kernel_rfl) (by kernel_rfl) ?_
    repeat (any_goals (first | go_big_quiet_step (fail) | quiet_step (fail) | (refine wpQuiet_step (fun K hK => ?_); go_simp; split <;> (refine hK _ ?_; clear hK K))))
    all_goals (refine wpQuiet_nil ?_; rintro _ ⟨⟨w2, q2⟩, rfl⟩; try dsimp only)
    all_goals go_wp2_with fail
    all_goals go_meet
    all_goals exact ⟨by go_num, q2⟩
  case rest =>
    obtain ⟨rfl, hq1⟩ := hcut
    go_upto_region 2 with (fail)
    go_cut [9] from 12 (fun v wc => v = .int .i64 (min (el xs (n' * 3)) (el ys (m' * 3))) ∧ Q wb wc)
    case first =>
      obtain ⟨h1, h2, h3⟩ := hB _ hq1
      have l1 := later_cells h1.cell h1.lt
      have l2 := later_cells h2.cell h2.lt
      have l3 := later_cells h3.cell h3.lt
      have lg1 := later_cell (hq1.cell j1)
      have lg2 := later_cell (hq1.cell j2)
      refine wp_region_later_lit (by kernel_rfl) (by kernel_rfl) ?_
      repeat (any_goals (first | go_big_quiet_step (fail) | quiet_step (fail) | (refine wpQuiet_step (fun K hK => ?_); go_simp; split <;> (refine hK _ ?_; clear hK K))))
      all_goals (refine wpQuiet_nil ?_; rintro _ ⟨⟨w2, q2⟩, rfl⟩; try dsimp only)
      all_goals go_wp2_with fail
      all_goals go_meet
      all_goals exact ⟨by go_num, hq1.trans q2⟩
    case rest =>
      clear hq1
      obtain ⟨rfl, hq1⟩ := hcut
      have hQ1 : Q w wc := hQb.trans hq1
      have hF1 : 0 ≤ max (el xs 0) (el ys 0) ∧ max (el xs 0) (el ys 0) ≤ 1000000000 := by omega
      have hU1 : 0 ≤ min (el xs (n' * 3)) (el ys (m' * 3)) ∧ min (el xs (n' * 3)) (el ys (m' * 3)) ≤ 1000000000 := by omega
      generalize max (el xs 0) (el ys 0) = F at *
      generalize min (el xs (n' * 3)) (el ys (m' * 3)) = U at *
      clear hx0 hy0 hxn hyn g1 g2 j1 j2
      obtain ⟨h1, h2, h3⟩ := hB _ hq1
      have h1' := h1.alloc (.cells #[] 2)
      have lb := later_cells h1'.cell h1'.lt
      obtain ⟨hf1, hf2, hf3, hf4, hf5⟩ := hfl
      rw [hf3] at hf4 hf5
      have hm1' : (1 : Int) ≤ s := hs.1
      have hp0 : 0 ≤ (F + s - 1) / s := Int.ediv_nonneg (by omega) (by omega)
      go_wp2_with fail
      refine wp_region_later_lit (by kernel_rfl) (by kernel_rfl) ?_
      repeat (any_goals (first | go_big_quiet_step (fail) | quiet_step (fail) | (refine wpQuiet_step (fun K hK => ?_); go_simp; split <;> (refine hK _ ?_; clear hK K))))
      all_goals (refine wpQuiet_nil ?_; rintro _ ⟨⟨w3, q3⟩, rfl⟩; try dsimp only)
      go_wp2_with fail
      have hT0 : 0 ≤ (F + s - 1) / s * s ∧ (F + s - 1) / s * s ≤ 1000060000 := by omega
      have o3 := (OwnL.new (B := wc.heap.size) wc 2 1 (Nat.le_refl _)).q q3
      have hq3 := (show Q wc (wc.alloc (.cells #[] 2)) by (repeat (first | assumption | exact Q.refl _ | refine Q.alloc ?_ _ | refine Q.drewN ?_ _ | refine Q.drew ?_))).trans q3
      clear hf1 hf2 hf3 hf4 hf5 lb h1' h1 h2 h3
      generalize (F + s - 1) / s * s = T at *
      go_loopw [10, 11] (fun v t wr => ∃ (k : Nat) (tt : Int) (L : List Int), k ≤ 400 ∧ t = .int .i64 tt ∧ L.length = k ∧ OwnL wr wc.heap.size 2 1 v L ∧ Q wc wr ∧ Hid (ckGo s U 401 T = (ckGo s U (401 - k) tt).map (L ++ ·)) ∧ 0 ≤ tt ∧ tt ≤ 1000060000) (fun _ t _ => (2000000000 - intOf t).toNat)
      case atStart => exact ⟨0, T, [], by omega, rfl, rfl, o3, hq3, Lib.hid (by simp), hT0.1, hT0.2⟩
      case round =>
        clear o3 hq3 hT0
        obtain ⟨k, t, L, hk, rfl, hL, ⟨A3, p, d3, rfl, hown⟩, hq, HC, ht0, ht1⟩ := hrel
        have hp : p = k := by have := hown.len; omega
        subst hp
        have HL := Lib.hid hL
        clear hL
        have hbx := (hB _ (hq1.trans hq)).1
        have cb := hbx.cell
        have zb := hbx.lt
        by_cases htu : t ≤ U
        · by_cases h400 : p = 400
          · subst h400
            have HX := Lib.hid (ck_none htu HC.out)
            go_wp2_with fail
            go_ret2
            exact CkPost.none_ HX.out (hQ1.trans hq)
          · have HX := Lib.hid (ck_step (show p < 400 by omega) htu HC.out)
            have hb4 : ((p : Int) == 400) = false := by simp; omega
            go_upto_region 6 with (at_builtin; refine appK elInt64 rfl _ _ rfl [t] rfl hown rfl (by simp) rfl _ _ rfl (by omega) hq.size ?_; intro A' c' w' hown' hg' hgr')
            have hq' : Q wc w' := hq.mark hown (Nat.le_refl _) hg'
            have hbx' := (hB _ (hq1.trans hq')).1
            have cb' := hbx'.cell
            go_wp2_with fail
            go_roundw
            case rel => exact ⟨p + 1, t + s, L ++ [t], by omega, rfl, by rw [List.length_append, HL.out]; rfl, ⟨_, _, _, rfl, hown'⟩, hq', HX, by omega, by omega⟩
            case measure => simp [intOf]; omega
        · have HX := Lib.hid (ck_some hk htu HC.out)
          go_wp2_with fail
          go_ret2
          exact CkPost.some_ HX.out (hown.mono hQ1.size) (hQ1.trans hq)
def ctimC (a b d s : Int) (xs : List Int) (n : Nat) (ys : List Int) (m : Nat) : Int := if (isWat a b d s && isTrk xs n && isTrk ys m) = false then 1 else match ckGo s (ckTo xs n ys m) 401 (ckFrom s xs ys) with
  | none => 3
  | some _ => 0
def ctimL (a b d s : Int) (xs : List Int) (n : Nat) (ys : List Int) (m : Nat) : List Int := if (isWat a b d s && isTrk xs n && isTrk ys m) = false then [] else (ckGo s (ckTo xs n ys m) 401 (ckFrom s xs ys)).getD []
theorem ctim_bad {a b d s : Int} {xs ys : List Int} {n m : Nat} (h : (isWat a b d s && isTrk xs n && isTrk ys m) = false) : ctimC a b d s xs n ys m = 1 ∧ ctimL a b d s xs n ys m = [] := by simp only [ctimC, ctimL, if_pos h]; exact ⟨trivial, trivial⟩
theorem ctim_ok {a b d s : Int} {xs ys : List Int} {n m : Nat} (h : isWat a b d s = true) (h1 : isTrk xs n = true) (h2 : isTrk ys m = true) :
    ctimC a b d s xs n ys m = (match ckGo s (ckTo xs n ys m) 401 (ckFrom s xs ys) with | none => 3 | some _ => 0) ∧ ctimL a b d s xs n ys m = (ckGo s (ckTo xs n ys m) 401 (ckFrom s xs ys)).getD [] := by
  have : (isWat a b d s && isTrk xs n && isTrk ys m) = true := by rw [h, h1, h2]; rfl
  simp only [ctimC, ctimL, this]
  exact ⟨rfl, rfl⟩
theorem isWat_step {a b d s : Int} (h : isWat a b d s = true) : 1 ≤ s ∧ s ≤ 60000 := by
  have := of_decide_eq_true h
  omega
theorem ckGo_len {s u : Int} : ∀ (f : Nat) (t : Int) (L : List Int), ckGo s u f t = some L → L.length ≤ f
  | 0, _, _, h => by cases h
  | f + 1, t, L, h => by
    unfold ckGo at h
    split at h
    · cases hg : ckGo s u f (t + s) with
      | none => rw [hg] at h; cases h
      | some M =>
        rw [hg] at h
        injection h with h
        subst h
        have := ckGo_len f _ M hg
        simp only [List.length_cons]
        omega
    · injection h with h
      subst h
      simp
theorem ctimL_len (a b d s : Int) (xs : List Int) (n : Nat) (ys : List Int) (m : Nat) : (ctimL a b d s xs n ys m).length ≤ 401 := by
  unfold ctimL
  split
  · simp
  · cases hg : ckGo s (ckTo xs n ys m) 401 (ckFrom s xs ys) with
    | none => simp
    | some M => exact ckGo_len 401 _ M hg
end Go.Proofs.YtkpdoikjfibflaaGreatDoor
