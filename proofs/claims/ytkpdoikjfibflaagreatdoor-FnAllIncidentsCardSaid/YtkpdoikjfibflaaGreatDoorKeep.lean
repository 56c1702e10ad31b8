/- Walks: how often each boat has to keep clear, as the program and the reference count it, for every list of incidents. No condition. -/
import Derived.Test.YtkpdoikjfibflaaGreatDoorEqIncident
import Derived.Test.YtkpdoikjfibflaaGreatDoorK
import Derived.Outline
namespace Go.Proofs.YtkpdoikjfibflaaGreatDoor
open Go.RowKit Go.WideShapes Go.ChangeShapes
def keepOf (xs : List Int) (i : Nat) : Int := el xs (i * 5 + 3)
def keepIn (b : Nat) (x : Int) : Bool := decide (-1 ≤ x ∧ x ≤ (b : Int) - 1)
/-- The counts of the first k incidents. -/
def cntTo (b : Nat) (xs : List Int) : Nat → List Int
  | 0 => List.replicate b 0
  | k + 1 => if 0 ≤ keepOf xs k then (cntTo b xs k).set (keepOf xs k).toNat (el (cntTo b xs k) (keepOf xs k).toNat + 1) else cntTo b xs k
theorem cntTo_len (b : Nat) (xs : List Int) (k : Nat) : (cntTo b xs k).length = b := by
  induction k with
  | zero => simp [cntTo]
  | succ k ih =>
    unfold cntTo
    split
    · simp [ih]
    · exact ih
theorem cntTo_bd (b : Nat) (xs : List Int) (k : Nat) : ∀ j, 0 ≤ el (cntTo b xs k) j ∧ el (cntTo b xs k) j ≤ k := by
  induction k with
  | zero =>
    intro j
    simp only [cntTo, el, List.getD_eq_getElem?_getD, List.getElem?_replicate]
    split <;> simp
  | succ k ih =>
    intro j
    unfold cntTo
    split
    · have h1 := ih j
      have h2 := ih (keepOf xs k).toNat
      unfold el at h1 h2 ⊢
      rw [List.getD_eq_getElem?_getD] at h1 ⊢
      rw [List.getElem?_set]
      split
      · split
        · simp only [Option.getD_some]; omega
        · simp only [Option.getD_none]; omega
      · omega
    · have h1 := ih j
      omega
theorem cntTo_yes {b : Nat} {xs : List Int} {k m : Nat} (h : keepOf xs k = m) : cntTo b xs (k + 1) = (cntTo b xs k).set m (el (cntTo b xs k) m + 1) := by
  rw [cntTo, if_pos (by omega), h]
  rfl
theorem cntTo_no {b : Nat} {xs : List Int} {k : Nat} (h : ¬ 0 ≤ keepOf xs k) : cntTo b xs (k + 1) = cntTo b xs k := by rw [cntTo, if_neg h]
def keepAll (b : Nat) (xs : List Int) (k : Nat) : Bool := (List.range k).all fun i => keepIn b (keepOf xs i)
theorem keepAll_succ (b : Nat) (xs : List Int) (k : Nat) : keepAll b xs (k + 1) = (keepAll b xs k && keepIn b (keepOf xs k)) := by simp [keepAll, List.range_succ]
theorem keepAll_no {b : Nat} {xs : List Int} {k n : Nat} (hk : k < n) (h : keepIn b (keepOf xs k) = false) : keepAll b xs n = false := by
  unfold keepAll
  rw [List.all_eq_false]
  exact ⟨k, by simpa using hk, by simp [h]⟩
def kcOk (b : Int) (xs : List Int) (n : Nat) : Bool := decide (1 ≤ b ∧ b ≤ 16) && keepAll b.toNat xs n
def kcL (b : Int) (xs : List Int) (n : Nat) : List Int := if kcOk b xs n then cntTo b.toNat xs n else []
def kcN (b : Int) (xs : List Int) (n : Nat) : Nat := if kcOk b xs n then b.toNat else 0
def kcC (b : Int) (xs : List Int) (n : Nat) : Int := if kcOk b xs n then 0 else 2
theorem kc_no {b : Int} {xs : List Int} {n : Nat} (h : kcOk b xs n = false) : kcL b xs n = [] ∧ kcN b xs n = 0 ∧ kcC b xs n = 2 := by simp [kcL, kcN, kcC, h]
theorem kc_yes {b : Nat} {xs : List Int} {n : Nat} (hb : 1 ≤ b ∧ b ≤ 16) (h : keepAll b xs n = true) : kcL b xs n = cntTo b xs n ∧ kcN b xs n = b ∧ kcC b xs n = 0 := by
  have : kcOk b xs n = true := by unfold kcOk; simp [h]; omega
  simp [kcL, kcN, kcC, this]
theorem kc_bad {b : Nat} {xs : List Int} {k n : Nat} (hk : k < n) (h : keepIn b (keepOf xs k) = false) : kcL b xs n = [] ∧ kcN b xs n = 0 ∧ kcC b xs n = 2 := by
  apply kc_no
  unfold kcOk
  rw [show (b : Int).toNat = b by omega, keepAll_no hk h, Bool.and_false]
set_option maxHeartbeats 1000000 in
theorem impl_KeeperCounts (bi : Int) (A : Option Addr) (n c : Nat) (xs : List Int) (w : World) (ha : Rd w A xs) (hn : xs.length = n * 5) (hn2 : n ≤ 1048576) :
    Calls Tryz.prog 9 #[.int .i64 bi, .slice A n c] w (RS w 2 1 (kcN bi xs n) (kcL bi xs n) (kcC bi xs n)) := by
  by_cases hb : 1 ≤ bi ∧ bi ≤ 16
  · obtain ⟨b, rfl⟩ := Int.eq_ofNat_of_zero_le (show 0 ≤ bi by omega)
    obtain ⟨i0, hi, hz0, hz1, hz2⟩ := info_parts infoInt64
    have HI := Lib.hid (And.intro hi (And.intro hz0 (And.intro hz1 hz2)))
    clear hi hz0 hz1 hz2
    go_enter Tryz.func9, Tryz.ntmps9
    go_wp2_with (first | (go_at_call 29; refine (impl_in _ _ _ _).mono ?_; rintro e w' ⟨rfl, rfl⟩) | (at_make; refine wpList_make_full _ rfl _ _ 38 rfl w.heap.size 2 i0 (.int .i64 0) 1 Tryz.underlying38 HI.out.1 HI.out.2.1 HI.out.2.2.1 .i64 .i64 b b b rfl rfl rfl rfl (by rw [HI.out.2.2.2]; omega) (by unfold maxLen; omega) (Nat.le_refl _) ?_; intro w1 hown hgrow))
    rw [show (madeCells (Value.int .i64 0).cells (b * 1)).toList = _ from made_ints (k := 1) rfl (by decide) _, Nat.mul_one] at hown
    have hown : Own w1 w.heap.size 2 1 (.slice (some ⟨w.heap.size, 0, none⟩) b b) b (cntTo b xs 0) := hown
    have hq0 : Q w w1 := (Q.refl w).grown hgrow (by simp)
    clear hgrow
    go_loopw [16] (fun i wr => ∃ k : Nat, k ≤ n ∧ i = .int .i64 k ∧ Hid (keepAll b xs k = true) ∧ Own wr w.heap.size 2 1 (.slice (some ⟨w.heap.size, 0, none⟩) b b) b (cntTo b xs k) ∧ Q w wr) (fun i _ => n - (intOf i).toNat)
    case atStart => exact ⟨0, by omega, rfl, Lib.hid rfl, hown, hq0⟩
    case round =>
      clear hown hq0
      obtain ⟨k, hk, rfl, HT, hown, hq⟩ := hrel
      by_cases hlt : k < n
      · obtain ⟨bl, o, rfl, g0, g1, g2, g3, g4⟩ := (ha.q hq).at5 hn hlt
        by_cases hin : -1 ≤ el xs (k * 5 + 3) ∧ el xs (k * 5 + 3) ≤ (b : Int) - 1
        · have HS := Lib.hid (show keepAll b xs (k + 1) = true by rw [keepAll_succ, HT.out, Bool.true_and]; exact decide_eq_true hin)
          by_cases hpos : 0 ≤ el xs (k * 5 + 3)
          · obtain ⟨m, hm⟩ := Int.eq_ofNat_of_zero_le hpos
            have HC := Lib.hid (cntTo_yes (b := b) (xs := xs) (k := k) (m := m) hm)
            rw [hm] at g3 hin
            clear hpos hm
            have hcell := hown.cell (j := m) (by omega)
            rw [el_eq] at hcell
            have hfz := hown.frozen m
            have hz := (hown.from _ rfl).2
            simp only at hz
            have hbd := cntTo_bd b xs k m
            go_wp2_with (go_at_call 29; refine (impl_in _ _ _ _).mono ?_; rintro e w' ⟨rfl, rfl⟩)
            go_roundw
            case rel => exact ⟨k + 1, by omega, by go_num, HS, by rw [HC.out]; exact (hown.stored m _).q (by (repeat (first | assumption | exact Q.refl _ | refine Q.alloc ?_ _ | refine Q.drewN ?_ _ | refine Q.drew ?_))), (hq.own_set hown (Nat.le_refl _) _ _).alloc _⟩
            case measure => simp [intOf]; omega
          · have HC := Lib.hid (cntTo_no (b := b) (xs := xs) (k := k) hpos)
            go_wp2_with (go_at_call 29; refine (impl_in _ _ _ _).mono ?_; rintro e w' ⟨rfl, rfl⟩)
            go_roundw
            case rel => exact ⟨k + 1, by omega, by go_num, HS, by rw [HC.out]; exact hown.q (by (repeat (first | assumption | exact Q.refl _ | refine Q.alloc ?_ _ | refine Q.drewN ?_ _ | refine Q.drew ?_))), hq.trans (by (repeat (first | assumption | exact Q.refl _ | refine Q.alloc ?_ _ | refine Q.drewN ?_ _ | refine Q.drew ?_)))⟩
            case measure => simp [intOf]; omega
        · have HB := Lib.hid (kc_bad (b := b) (xs := xs) hlt (show keepIn b (keepOf xs k) = false from decide_eq_false hin))
          go_wp2_with (go_at_call 29; refine (impl_in _ _ _ _).mono ?_; rintro e w' ⟨rfl, rfl⟩)
          go_ret2
          rw [HB.out.1, HB.out.2.1, HB.out.2.2]
          exact RS.nil _ _ _ _ _ (hq.trans (by (repeat (first | assumption | exact Q.refl _ | refine Q.alloc ?_ _ | refine Q.drewN ?_ _ | refine Q.drew ?_))))
      · obtain rfl : k = n := by omega
        have HB := Lib.hid (kc_yes (n := k) (by omega) HT.out)
        go_wp2_with fail
        go_ret2
        rw [HB.out.1, HB.out.2.1, HB.out.2.2]
        exact RS.mk' hown hq (by rw [cntTo_len]; omega) (by decide)
  · rw [(kc_no (by unfold kcOk; simp; omega)).1, (kc_no (by unfold kcOk; simp; omega)).2.1, (kc_no (by unfold kcOk; simp; omega)).2.2]
    go_enter Tryz.func9, Tryz.ntmps9
    go_wp2_with (go_at_call 29; refine (impl_in _ _ _ _).mono ?_; rintro e w' ⟨rfl, rfl⟩)
    go_ret2
    exact RS.nil _ _ _ _ _ (Q.refl _)
theorem kcN_le (b : Int) (xs : List Int) (n : Nat) : kcN b xs n ≤ 16 := by
  unfold kcN
  split
  · rename_i h
    simp [kcOk] at h
    omega
  · omega

end Go.Proofs.YtkpdoikjfibflaaGreatDoor
