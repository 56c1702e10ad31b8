/- Walks: finishes under limits, as the program and the reference apply them, for all arguments. No condition. -/
import Derived.Test.YthlfadkpeogajaaLate
import Derived.Outline
namespace Go.Proofs.Ythlfadkpeogajaa
open Go.RowKit Go.WideShapes Go.ChangeShapes
theorem elFinish : EltT 57 65 3 := EltT.mk infoFinish Try.underlying57 (by decide) rfl (by decide)
theorem clone_Finish (A : Option Addr) (n c : Nat) (xs : List Int) (w : World) (ha : Rd w A xs) (hn : xs.length = n * 3) (h0 : 0 < n) (hn2 : n ≤ 1048576) : Calls Try.prog 76 #[.slice A n c] w (RL w 65 3 n xs) := by
  obtain ⟨b, o, hA, hc⟩ := ha
  obtain rfl := hA (by omega)
  have hown := Own.lit (B := w.heap.size) w 65 3 0 [] rfl (Nat.le_refl _) (by simp) (by decide)
  have hr : ∀ j, j < xs.length → (w.alloc (.cells (([] : List Int).map (Value.int .i64)).toArray 65)).cell? ⟨b, o + j, none⟩ = some (.int .i64 (xs.getD j 0)) := fun j hj => ((Q.refl w).alloc _).cell (hc j hj)
  have heq := fun W => Lib.run_eql_slice_nil (P := Try.prog) W 57 65 (some ⟨b, o, none⟩) n c 0 0 Try.underlying57
  go_enter Try.func76, Try.ntmps76
  go_wp2_with (at_builtin; refine appKs elFinish rfl _ _ rfl rfl hown rfl hr hn (by omega) (by simp) ?_; intro A' c' w' hown' hg' hgr')
  go_ret
  rw [Nat.zero_add, List.nil_append] at hown'
  exact RL.mk' hown' (Q.mark (by (repeat (first | assumption | exact Q.refl _ | refine Q.alloc ?_ _ | refine Q.drewN ?_ _ | refine Q.drew ?_))) hown (Nat.le_refl _) hg') hn (by decide)
def setRow (xs : List Int) (i : Nat) : List Int := (xs.set (i * 3 + 1) 4).set (i * 3 + 2) 0
def apF (L xs : List Int) (j : Nat) : List Int := (L.take j).foldl (fun ys i => setRow ys i.toNat) xs
theorem apF_succ {L xs : List Int} {j : Nat} (hj : j < L.length) : apF L xs (j + 1) = setRow (apF L xs j) (el L j).toNat := by
  unfold apF
  rw [List.take_succ_eq_append_getElem hj, List.foldl_append]
  simp [el, List.getD_eq_getElem?_getD, List.getElem?_eq_getElem hj]
theorem setRow_len (xs : List Int) (i : Nat) : (setRow xs i).length = xs.length := by simp [setRow]
def spTo (t : Int) (xs : List Int) : Nat → List Int
  | 0 => []
  | k + 1 => spTo t xs k ++ (if lateB t xs k then [el xs (k * 3), 4, 0] else [el xs (k * 3), el xs (k * 3 + 1), el xs (k * 3 + 2)])
theorem spTo_yes {t : Int} {xs : List Int} {k : Nat} (h : lateB t xs k = true) : spTo t xs (k + 1) = spTo t xs k ++ [el xs (k * 3), 4, 0] := by rw [spTo, if_pos h]
theorem spTo_no {t : Int} {xs : List Int} {k : Nat} (h : lateB t xs k = false) : spTo t xs (k + 1) = spTo t xs k ++ [el xs (k * 3), el xs (k * 3 + 1), el xs (k * 3 + 2)] := by rw [spTo, if_neg (by simp [h])]
theorem spTo_len (t : Int) (xs : List Int) (k : Nat) : (spTo t xs k).length = k * 3 := by
  induction k with
  | zero => rfl
  | succ k ih =>
    rw [spTo, List.length_append, ih]
    split <;> simp <;> omega
theorem drop3 {xs : List Int} {k n : Nat} (hn : xs.length = n * 3) (hk : k < n) : xs.drop (k * 3) = el xs (k * 3) :: el xs (k * 3 + 1) :: el xs (k * 3 + 2) :: xs.drop ((k + 1) * 3) := by
  have h : ∀ j, j < xs.length → xs.drop j = el xs j :: xs.drop (j + 1) := fun j hj => by
    rw [List.drop_eq_getElem_cons hj]
    simp [el, List.getD_eq_getElem?_getD, List.getElem?_eq_getElem hj]
  rw [h _ (by omega), h _ (by omega), h _ (by omega), show k * 3 + 1 + 1 + 1 = (k + 1) * 3 by omega]
theorem ap_sp {t : Int} {xs : List Int} {n k : Nat} (hn : xs.length = n * 3) (hk : k ≤ n) : (lateTo t xs k).foldl (fun ys i => setRow ys i.toNat) xs = spTo t xs k ++ xs.drop (k * 3) := by
  induction k with
  | zero => simp [lateTo, spTo]
  | succ k ih =>
    have hl := spTo_len t xs k
    cases hb : lateB t xs k
    · rw [lateTo_no hb, spTo_no hb, ih (by omega), drop3 hn (by omega)]
      simp
    · rw [lateTo_yes hb, spTo_yes hb, List.foldl_append, ih (by omega), drop3 hn (by omega)]
      simp only [List.foldl_cons, List.foldl_nil, Int.toNat_natCast, setRow]
      rw [List.set_append_right (h := by omega), List.set_append_right (h := by omega), hl]
      simp [show k * 3 + 1 - k * 3 = 1 by omega, show k * 3 + 2 - k * 3 = 2 by omega]
theorem ap_all {t : Int} {xs : List Int} {n : Nat} (hn : xs.length = n * 3) : apF (lateTo t xs n) xs (lateTo t xs n).length = spTo t xs n := by
  unfold apF
  rw [List.take_of_length_le (Nat.le_refl _), ap_sp hn (Nat.le_refl _), List.drop_of_length_le (by omega), List.append_nil]
def alC (a b c : Int) (xs : List Int) (n : Nat) : Int := if lmC a b c xs n ≠ 0 then lmC a b c xs n else if ftm xs n < 0 ∨ b < ftm xs n then 5 else 0
def alN (a b c : Int) (xs : List Int) (n : Nat) : Nat := if alC a b c xs n = 0 then n else 0
def alL (a b c : Int) (xs : List Int) (n : Nat) : List Int := if alC a b c xs n = 0 then spTo (ftm xs n + c) xs n else []
theorem al_1 {a b c : Int} {xs : List Int} {n : Nat} (h : lmC a b c xs n ≠ 0) : alC a b c xs n = lmC a b c xs n ∧ alN a b c xs n = 0 ∧ alL a b c xs n = [] := by
  have : alC a b c xs n = lmC a b c xs n := by simp [alC, h]
  exact ⟨this, by simp [alN, this, h], by simp [alL, this, h]⟩
theorem al_5 {a b c : Int} {xs : List Int} {n : Nat} (h : lmC a b c xs n = 0) (h2 : ftm xs n < 0 ∨ b < ftm xs n) : alC a b c xs n = 5 ∧ alN a b c xs n = 0 ∧ alL a b c xs n = [] := by
  have : alC a b c xs n = 5 := by simp only [alC, h]; rw [if_neg (by simp), if_pos h2]
  exact ⟨this, by simp [alN, this], by simp [alL, this]⟩
theorem al_0 {a b c : Int} {xs : List Int} {n : Nat} (h : lmC a b c xs n = 0) (h2 : ¬ (ftm xs n < 0 ∨ b < ftm xs n)) : alC a b c xs n = 0 ∧ alN a b c xs n = n ∧ alL a b c xs n = spTo (ftm xs n + c) xs n := by
  have : alC a b c xs n = 0 := by simp only [alC, h]; rw [if_neg (by simp), if_neg h2]
  exact ⟨this, by simp [alN, this], by simp [alL, this]⟩
theorem alN_le (a b c : Int) (xs : List Int) (n : Nat) : alN a b c xs n ≤ 16 := by
  unfold alN
  split
  · rename_i h
    by_cases h1 : lmC a b c xs n = 0
    · exact (finC_zero (lmC_zero h1).2).1
    · exact absurd ((al_1 h1).1.symm.trans h) h1
  · omega
theorem Own.set3 {w : World} {B : Nat} {e : TypeId} {n c g : Nat} {xs : List Int} (h : Own w B e 3 (.slice (some ⟨g, 0, none⟩) n c) n xs) {i : Nat} (hi : i < n) :
    Own (((w.setCell ⟨g, i * 3, none⟩ (.int .i64 (el xs (i * 3)))).setCell ⟨g, i * 3 + 1, none⟩ (.int .i64 4)).setCell ⟨g, i * 3 + 2, none⟩ (.int .i64 0)) B e 3 (.slice (some ⟨g, 0, none⟩) n c) n (setRow xs i) := by
  have hl := h.len
  have h1 := ((h.stored (i * 3) (el xs (i * 3))).stored (i * 3 + 1) 4).stored (i * 3 + 2) 0
  have e0 : xs.set (i * 3) (el xs (i * 3)) = xs := by
    unfold el
    rw [List.getD_eq_getElem?_getD, List.getElem?_eq_getElem (by omega), Option.getD_some, List.set_getElem_self]
  rw [e0] at h1
  exact h1
set_option maxHeartbeats 1000000 in
theorem impl_ApplyLimits (a b c : Int) (A : Option Addr) (n d : Nat) (xs : List Int) (w : World) (ha : Rd w A xs) (hn : xs.length = n * 3) (hn2 : n ≤ 9223372036854775807) :
    Calls Try.prog 41 #[.agg #[.int .i64 a, .int .i64 b, .int .i64 c], .slice A n d] w (RS w 65 3 (alN a b c xs n) (alL a b c xs n) (alC a b c xs n)) := by
  have k0 := impl_LateBoats a b c A n d xs
  have kT := impl_firstTime A n d xs
  by_cases hC : lmC a b c xs n = 0
  · obtain ⟨hl, hf⟩ := lmC_zero hC
    have h16 := (finC_zero hf).1
    have hT := ftm_bd hf
    rw [hC, lbL_yes hC] at k0
    by_cases h5 : ftm xs n < 0 ∨ b < ftm xs n
    · obtain ⟨e1, e2, e3⟩ := al_5 (c := c) hC h5
      rw [e1, e2, e3]
      obtain ⟨f, hft⟩ : ∃ f, f = ftm xs n := ⟨_, rfl⟩
      rw [← hft] at kT h5
      have K0 := Lib.hid k0
      have KT := Lib.hid kT
      clear k0 kT hC hl hf hft hT e1 e2 e3
      by_cases h5a : f < 0
      · clear h5
        go_enter Try.func41, Try.ntmps41
        go_wp2_with (first | (go_at_call 43; refine (K0.out _ (ha.q (by (repeat (first | assumption | exact Q.refl _ | refine Q.alloc ?_ _ | refine Q.drewN ?_ _ | refine Q.drew ?_)))) hn hn2).mono ?_; rintro e w1 ⟨A1, c1, rfl, o1, q1⟩; have Q1 : Q w w1 := Q.trans (by (repeat (first | assumption | exact Q.refl _ | refine Q.alloc ?_ _ | refine Q.drewN ?_ _ | refine Q.drew ?_))) q1; have b1 := q1.box) | (go_at_call 75; refine (KT.out _ (ha.q Q1) hn hn2).mono ?_; rintro e w2 ⟨rfl, q2⟩))
        go_ret2
        exact RS.nil _ _ _ _ _ (Q1.trans q2)
      · have h5b : b < f := by omega
        clear h5
        go_enter Try.func41, Try.ntmps41
        go_wp2_with (first | (go_at_call 43; refine (K0.out _ (ha.q (by (repeat (first | assumption | exact Q.refl _ | refine Q.alloc ?_ _ | refine Q.drewN ?_ _ | refine Q.drew ?_)))) hn hn2).mono ?_; rintro e w1 ⟨A1, c1, rfl, o1, q1⟩; have Q1 : Q w w1 := Q.trans (by (repeat (first | assumption | exact Q.refl _ | refine Q.alloc ?_ _ | refine Q.drewN ?_ _ | refine Q.drew ?_))) q1) | (go_at_call 75; refine (KT.out _ (ha.q Q1) hn hn2).mono ?_; rintro e w2 ⟨rfl, q2⟩; have b2 := (q1.trans q2).box))
        go_ret2
        exact RS.nil _ _ _ _ _ (Q1.trans q2)
    · obtain ⟨e1, e2, e3⟩ := al_0 (c := c) hC h5
      rw [e1, e2, e3]
      have hpos : 0 < n := by
        rcases Nat.eq_zero_or_pos n with h | h
        · subst h; exact absurd (Or.inl (by simp [ftm, bestF])) h5
        · exact h
      have HA := Lib.hid (ap_all (t := ftm xs n + c) hn)
      have hlen := lateTo_len (ftm xs n + c) xs n
      have hmem : ∀ i ∈ lateTo (ftm xs n + c) xs n, 0 ≤ i ∧ i < n := by
        intro i hi
        obtain ⟨j, hj, rfl⟩ := List.mem_map.1 hi
        have := List.mem_range.1 (List.mem_filter.1 hj).1
        exact ⟨Int.natCast_nonneg _, Int.ofNat_lt.2 this⟩
      obtain ⟨L, hL⟩ : ∃ L, L = lateTo (ftm xs n + c) xs n := ⟨_, rfl⟩
      rw [← hL] at k0 hmem HA hlen
      obtain ⟨f, hft⟩ : ∃ f, f = ftm xs n := ⟨_, rfl⟩
      rw [← hft] at kT h5 HA ⊢
      obtain ⟨N, hN⟩ : ∃ N, N = L.length := ⟨_, rfl⟩
      rw [← hN] at k0 HA hlen
      have HM := Lib.hid hmem
      have HN := Lib.hid hN
      have K0 := Lib.hid k0
      have KT := Lib.hid kT
      have h5a : ¬ f < 0 := by omega
      have h5b : ¬ b < f := by omega
      clear k0 kT hC hl hf hft hT e1 e2 e3 hL hmem h5 hN
      go_enter Try.func41, Try.ntmps41
      go_wp2_with (first | (go_at_call 43; refine (K0.out _ (ha.q (by (repeat (first | assumption | exact Q.refl _ | refine Q.alloc ?_ _ | refine Q.drewN ?_ _ | refine Q.drew ?_)))) hn hn2).mono ?_; rintro e w1 ⟨A1, c1, rfl, o1, q1⟩; have Q1 : Q w w1 := Q.trans (by (repeat (first | assumption | exact Q.refl _ | refine Q.alloc ?_ _ | refine Q.drewN ?_ _ | refine Q.drew ?_))) q1) | (go_at_call 75; refine (KT.out _ (ha.q Q1) hn hn2).mono ?_; rintro e w2 ⟨rfl, q2⟩; have b2 := (q1.trans q2).box) | (go_at_call 76; refine (clone_Finish A n d xs _ ((ha.q Q1).q q2) hn hpos (by omega)).mono ?_; rintro e w3 ⟨A3, c3, rfl, o3, q3⟩))
      obtain ⟨g, rfl, hg⟩ := o3.split (by omega)
      have o1' := (o1.q q2).q q3
      have f1 := o1.from
      have f3 := o3.from
      have z2 := q2.size
      have o3' : Own w3 w2.heap.size 65 3 (.slice (some ⟨g, 0, none⟩) n c3) n (apF L xs 0) := o3
      clear b2
      go_loopw [35] (fun i wr => ∃ k : Nat, k ≤ N ∧ i = .int .i64 k ∧ Own wr w2.heap.size 65 3 (.slice (some ⟨g, 0, none⟩) n c3) n (apF L xs k) ∧ Q w2 wr) (fun i _ => N - (intOf i).toNat)
      case atStart => exact ⟨0, by omega, rfl, o3', q3⟩
      case round =>
        obtain ⟨k, hk, rfl, hown, hq⟩ := hrel
        by_cases hlt : k < N
        · obtain ⟨bl, o, hA1, g0⟩ := ((o1.rd.q q2).q hq).at1 HN.out.symm hlt
          subst hA1
          have hm := HM.out (el L k) (by unfold el; rw [List.getD_eq_getElem?_getD, List.getElem?_eq_getElem (by rw [← HN.out]; exact hlt)]; exact List.getElem_mem _)
          have hap := apF_succ (L := L) (xs := xs) (j := k) (by rw [← HN.out]; exact hlt)
          obtain ⟨m, hm'⟩ := Int.eq_ofNat_of_zero_le hm.1
          rw [hm'] at g0 hm
          rw [hm'] at hap
          have hmn : m < n := by omega
          have HP := Lib.hid hap
          clear hap hm'
          have l0 := hown.cell (j := m * 3) (by omega)
          rw [el_eq] at l0
          have l1 := hown.cell (j := m * 3 + 1) (by omega)
          have l2 := hown.cell (j := m * 3 + 2) (by omega)
          have z0 := hown.frozen (m * 3)
          have z1 := hown.frozen (m * 3 + 1)
          have z2 := hown.frozen (m * 3 + 2)
          go_wp2_with fail
          go_roundw
          case rel => exact ⟨k + 1, by omega, by go_num, by rw [HP.out]; exact hown.set3 hmn, (((hq.own_set hown (Nat.le_refl _) _ _).own_set (hown.stored _ _) (Nat.le_refl _) _ _).own_set ((hown.stored _ _).stored _ _) (Nat.le_refl _) _ _)⟩
          case measure => simp [intOf]; omega
        · obtain rfl : k = N := by omega
          go_wp2_with fail
          go_ret2
          rw [HA.out] at hown
          exact RS.mk' (hown.mono (by have := Q1.size; omega)) ((Q1.trans q2).trans hq) (spTo_len _ _ _) (by decide)
  · obtain ⟨e1, e2, e3⟩ := al_1 hC
    rw [e1, e2, e3]
    have K0 := Lib.hid k0
    have hb : (lmC a b c xs n != 0) = true := by simpa using hC
    clear k0 kT hC e1 e2 e3
    go_enter Try.func41, Try.ntmps41
    go_wp2_with (go_at_call 43; refine (K0.out _ (ha.q (by (repeat (first | assumption | exact Q.refl _ | refine Q.alloc ?_ _ | refine Q.drewN ?_ _ | refine Q.drew ?_)))) hn hn2).mono ?_; rintro e w1 ⟨A1, c1, rfl, o1, q1⟩; have Q1 : Q w w1 := Q.trans (by (repeat (first | assumption | exact Q.refl _ | refine Q.alloc ?_ _ | refine Q.drewN ?_ _ | refine Q.drew ?_))) q1)
    go_ret2
    exact RS.nil _ _ _ _ _ Q1
set_option maxHeartbeats 1000000 in
theorem spec_ApplyLimits (a b c : Int) (A : Option Addr) (n d : Nat) (xs : List Int) (w : World) (ha : Rd w A xs) (hn : xs.length = n * 3) (hn2 : n ≤ 9223372036854775807) :
    Calls Try.prog 42 #[.agg #[.int .i64 a, .int .i64 b, .int .i64 c], .slice A n d] w (RS w 65 3 (alN a b c xs n) (alL a b c xs n) (alC a b c xs n)) := by
  have k0 := spec_l15Code a b c A n d xs
  have kT := spec_l16First A n d xs
  have hbd := bestF_bd xs n
  by_cases hC : lmC a b c xs n = 0
  · obtain ⟨hl, hf⟩ := lmC_zero hC
    have h16 := (finC_zero hf).1
    have hT := ftm_bd hf
    rw [hC] at k0
    by_cases hneg : bestF xs n < 0
    · obtain ⟨e1, e2, e3⟩ := al_5 (b := b) (c := c) hC (.inl (by rw [ftm_neg hneg]; decide))
      rw [e1, e2, e3]
      rw [show bestF xs n = -1 by omega] at kT
      have K0 := Lib.hid k0
      have KT := Lib.hid kT
      clear k0 kT hC hl hf hT e1 e2 e3 hneg hbd
      go_enter Try.func42, Try.ntmps42
      go_wp2_with (first | (go_at_call 77; refine (K0.out _ (ha.q (by (repeat (first | assumption | exact Q.refl _ | refine Q.alloc ?_ _ | refine Q.drewN ?_ _ | refine Q.drew ?_)))) hn hn2).mono ?_; rintro e w1 ⟨rfl, q1⟩; have Q1 : Q w w1 := Q.trans (by (repeat (first | assumption | exact Q.refl _ | refine Q.alloc ?_ _ | refine Q.drewN ?_ _ | refine Q.drew ?_))) q1) | (go_at_call 78; refine (KT.out _ (ha.q Q1) hn hn2).mono ?_; rintro e w2 ⟨rfl, q2⟩))
      all_goals (try (refine wp_region_quiet_lit (by kernel_rfl) (by kernel_rfl) ?_; (repeat (any_goals (first | go_big_quiet_step (fail) | quiet_step (fail) | (refine wpQuiet_step (fun K hK => ?_); go_simp; split <;> (refine hK _ ?_; clear hK K))))); all_goals (refine wpQuiet_nil ?_; intro _ hw'; obtain ⟨nq, hw''⟩ := hw'; subst hw'')))
      all_goals go_wp2_with fail
      go_ret2
      exact RS.nil _ _ _ _ _ (Q1.trans (q2.trans (by (repeat (first | assumption | exact Q.refl _ | refine Q.alloc ?_ _ | refine Q.drewN ?_ _ | refine Q.drew ?_)))))
    · obtain ⟨m, hm⟩ := Int.eq_ofNat_of_zero_le (show 0 ≤ bestF xs n by omega)
      have hmn : m < n := by omega
      have hmI : (m : Int) < (n : Int) := by omega
      have e0 := ftm_pos hm
      rw [hm] at kT
      have hge := hT.2.2.2 (by omega)
      by_cases h5 : b < el xs (m * 3 + 2)
      · obtain ⟨e1, e2, e3⟩ := al_5 (b := b) (c := c) hC (.inr (by rw [e0]; exact h5))
        rw [e1, e2, e3]
        have K0 := Lib.hid k0
        have KT := Lib.hid kT
        clear k0 kT hC hl hf hT e1 e2 e3 hneg hbd e0 hm hge
        go_enter Try.func42, Try.ntmps42
        go_wp2_with (first | (go_at_call 77; refine (K0.out _ (ha.q (by (repeat (first | assumption | exact Q.refl _ | refine Q.alloc ?_ _ | refine Q.drewN ?_ _ | refine Q.drew ?_)))) hn hn2).mono ?_; rintro e w1 ⟨rfl, q1⟩; have Q1 : Q w w1 := Q.trans (by (repeat (first | assumption | exact Q.refl _ | refine Q.alloc ?_ _ | refine Q.drewN ?_ _ | refine Q.drew ?_))) q1) | (go_at_call 78; refine (KT.out _ (ha.q Q1) hn hn2).mono ?_; rintro e w2 ⟨rfl, q2⟩; have b2 := (q1.trans q2).box; obtain ⟨bl, o, hA1, g0, g1, g2⟩ := ((ha.q Q1).q q2).at3 hn hmn; subst hA1))
        all_goals (try (refine wp_region_quiet_lit (by kernel_rfl) (by kernel_rfl) ?_; (repeat (any_goals (first | go_big_quiet_step (fail) | quiet_step (fail) | (refine wpQuiet_step (fun K hK => ?_); go_simp; split <;> (refine hK _ ?_; clear hK K))))); all_goals (refine wpQuiet_nil ?_; intro _ hw'; obtain ⟨nq, hw''⟩ := hw'; subst hw'')))
        all_goals go_wp2_with fail
        go_ret2
        exact RS.nil _ _ _ _ _ (Q1.trans (q2.trans (by (repeat (first | assumption | exact Q.refl _ | refine Q.alloc ?_ _ | refine Q.drewN ?_ _ | refine Q.drew ?_)))))
      · obtain ⟨e1, e2, e3⟩ := al_0 (b := b) (c := c) hC (by rw [e0]; rw [e0] at hge; omega)
        rw [e1, e2, e3]
        obtain ⟨t, ht⟩ : ∃ t, t = ftm xs n + c := ⟨_, rfl⟩
        have kL := fun A d k w (h : Rd w A xs) hk => spec_l15Late a b c A n d xs k w h hn hn2 hk hl hf
        rw [← ht] at kL ⊢
        have KL := Lib.hid kL
        have K0 := Lib.hid k0
        have KT := Lib.hid kT
        clear k0 kT hC hl hf hT e1 e2 e3 hneg hbd e0 hm hge kL ht
        go_enter Try.func42, Try.ntmps42
        go_wp2_with (first | (go_at_call 77; refine (K0.out _ (ha.q (by (repeat (first | assumption | exact Q.refl _ | refine Q.alloc ?_ _ | refine Q.drewN ?_ _ | refine Q.drew ?_)))) hn hn2).mono ?_; rintro e w1 ⟨rfl, q1⟩; have Q1 : Q w w1 := Q.trans (by (repeat (first | assumption | exact Q.refl _ | refine Q.alloc ?_ _ | refine Q.drewN ?_ _ | refine Q.drew ?_))) q1) | (go_at_call 78; refine (KT.out _ (ha.q Q1) hn hn2).mono ?_; rintro e w2 ⟨rfl, q2⟩; have B2 := (Blk.new _ _ _).q (q1.trans q2); have b2 := (q1.trans q2).box; obtain ⟨bl, o, hA1, g0, g1, g2⟩ := ((ha.q Q1).q q2).at3 hn hmn; subst hA1))
        all_goals (try (refine wp_region_quiet_lit (by kernel_rfl) (by kernel_rfl) ?_; (repeat (any_goals (first | go_big_quiet_step (fail) | quiet_step (fail) | (refine wpQuiet_step (fun K hK => ?_); go_simp; split <;> (refine hK _ ?_; clear hK K))))); all_goals (refine wpQuiet_nil ?_; intro _ hw'; obtain ⟨nq, hw''⟩ := hw'; subst hw'')))
        obtain ⟨w3, hw3⟩ : ∃ w3, w3 = w2.drewN nq := ⟨_, rfl⟩
        rw [← hw3]
        have q3 : Q w2 w3 := by rw [hw3]; (repeat (first | assumption | exact Q.refl _ | refine Q.alloc ?_ _ | refine Q.drewN ?_ _ | refine Q.drew ?_))
        have B3 := B2.q q3
        have Q3 : Q w w3 := (Q1.trans q2).trans q3
        have b3 := B3.cell
        clear hw3 b2 g0 g1 g2
        go_wp2_with fail
        go_loopw [8, 9] (fun v i wr => ∃ k : Nat, k ≤ n ∧ i = .int .i64 k ∧ OwnL wr w3.heap.size 65 3 v (spTo t xs k) ∧ Q w3 wr) (fun _ i _ => n - (intOf i).toNat)
        case atStart => exact ⟨0, by omega, rfl, OwnL.new w3 _ _ (Nat.le_refl _), by (repeat (first | assumption | exact Q.refl _ | refine Q.alloc ?_ _ | refine Q.drewN ?_ _ | refine Q.drew ?_))⟩
        case round =>
          obtain ⟨k, hk, rfl, ⟨A1, m1, d1, rfl, hown⟩, hq⟩ := hrel
          have hlen : m1 = k := by have := hown.len; have := spTo_len t xs k; omega
          subst hlen
          by_cases hlt : m1 < n
          · have hR := ha.q (Q3.trans hq)
            obtain ⟨_, _, hA1, g0, g1, g2⟩ := hR.at3 hn hlt
            cases hA1
            have hne : ∀ a, A1 = some a → a.block ≠ wr.heap.size := fun a h => Nat.ne_of_lt (hown.from a h).2
            have Bx := B3.q hq
            have c3 := Bx.cell
            have hz := Bx.lt
            cases hlate : lateB t xs m1
            · go_wp2_with (first | (go_at_call 79; refine (KL.out _ _ m1 _ (hR.q (by (repeat (first | assumption | exact Q.refl _ | refine Q.alloc ?_ _ | refine Q.drewN ?_ _ | refine Q.drew ?_)))) hlt).mono ?_; rintro e w4 ⟨rfl, q4⟩; have bx := q4.box) | (at_builtin; refine appK elFinish rfl _ _ rfl [el xs (m1 * 3), el xs (m1 * 3 + 1), el xs (m1 * 3 + 2)] rfl (hown.q (Q.trans (by (repeat (first | assumption | exact Q.refl _ | refine Q.alloc ?_ _ | refine Q.drewN ?_ _ | refine Q.drew ?_))) q4)) rfl (by simp) rfl _ _ rfl (by omega) (Q.size (hq.trans (Q.trans (by (repeat (first | assumption | exact Q.refl _ | refine Q.alloc ?_ _ | refine Q.drewN ?_ _ | refine Q.drew ?_))) q4))) ?_; intro A' c' w' hown' hg' hgr'))
              go_roundw
              case rel => exact ⟨m1 + 1, by omega, by go_num, by rw [spTo_no hlate]; exact ⟨_, _, _, rfl, hown'⟩, Q.mark (hq.trans (Q.trans (by (repeat (first | assumption | exact Q.refl _ | refine Q.alloc ?_ _ | refine Q.drewN ?_ _ | refine Q.drew ?_))) q4)) (hown.q (Q.trans (by (repeat (first | assumption | exact Q.refl _ | refine Q.alloc ?_ _ | refine Q.drewN ?_ _ | refine Q.drew ?_))) q4)) (Nat.le_refl _) hg'⟩
              case measure => simp [intOf]; omega
            · go_wp2_with (first | (go_at_call 79; refine (KL.out _ _ m1 _ (hR.q (by (repeat (first | assumption | exact Q.refl _ | refine Q.alloc ?_ _ | refine Q.drewN ?_ _ | refine Q.drew ?_)))) hlt).mono ?_; rintro e w4 ⟨rfl, q4⟩; have by4 := (Blk.new _ _ _).q q4; have bx := q4.box; have z0 := by4.frozen 0; have z1 := by4.frozen 1; have z2 := by4.frozen 2; have q04 : Q wr w4 := Q.trans (by (repeat (first | assumption | exact Q.refl _ | refine Q.alloc ?_ _ | refine Q.drewN ?_ _ | refine Q.drew ?_))) q4; have s04 := (hq.trans q04).size) | (at_builtin; refine appK elFinish rfl _ _ rfl [el xs (m1 * 3), 4, 0] rfl ((((hown.q q04).setFar hne 0 _).setFar hne 1 _).setFar hne 2 _) rfl (by simp [World.setCell]) rfl _ _ rfl (by omega) (by simpa [World.setCell] using s04) ?_; intro A' c' w' hown' hg' hgr'))
              go_roundw
              case rel => exact ⟨m1 + 1, by omega, by go_num, by rw [spTo_yes hlate]; exact ⟨_, _, _, rfl, hown'⟩, Q.mark ((((hq.trans q04).setCell (p := ⟨wr.heap.size, 0, none⟩) hq.size _).setCell (p := ⟨wr.heap.size, 1, none⟩) hq.size _).setCell (p := ⟨wr.heap.size, 2, none⟩) hq.size _) ((((hown.q q04).setFar hne 0 _).setFar hne 1 _).setFar hne 2 _) (Nat.le_refl _) hg'⟩
              case measure => simp [intOf]; omega
          · obtain rfl : m1 = n := by omega
            go_wp2_with fail
            go_ret2
            exact RS.mk' (hown.mono Q3.size) (Q3.trans hq) (spTo_len _ _ _) (by decide)
  · obtain ⟨e1, e2, e3⟩ := al_1 hC
    rw [e1, e2, e3]
    have K0 := Lib.hid k0
    have hb : (lmC a b c xs n != 0) = true := by simpa using hC
    clear k0 kT hC e1 e2 e3 hbd
    go_enter Try.func42, Try.ntmps42
    go_wp2_with (go_at_call 77; refine (K0.out _ (ha.q (by (repeat (first | assumption | exact Q.refl _ | refine Q.alloc ?_ _ | refine Q.drewN ?_ _ | refine Q.drew ?_)))) hn hn2).mono ?_; rintro e w1 ⟨rfl, q1⟩; have Q1 : Q w w1 := Q.trans (by (repeat (first | assumption | exact Q.refl _ | refine Q.alloc ?_ _ | refine Q.drewN ?_ _ | refine Q.drew ?_))) q1)
    go_ret2
    exact RS.nil _ _ _ _ _ Q1

end Go.Proofs.Ythlfadkpeogajaa
