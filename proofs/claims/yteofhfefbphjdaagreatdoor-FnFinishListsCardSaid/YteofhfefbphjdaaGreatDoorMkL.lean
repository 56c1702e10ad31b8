/- Walks: the lines of a course, as the program and the reference make them. No condition. -/
import Derived.Test.YteofhfefbphjdaaGreatDoorMkI
namespace Go.Proofs.YteofhfefbphjdaaGreatDoor
open Go.RowKit Go.WideShapes Go.ChangeShapes
theorem elLine : EltT 61 27 4 := EltT.mk (by_ := 32) (z := .agg #[.int .i64 0, .int .i64 0, .int .i64 0, .int .i64 0]) (by kernel_rfl) Tryz.underlying61 (by decide) rfl (by decide)
/-- The rounding line of mark k, as a row. -/
def clV (a b c d : Int) (ms : List Mk) (k : Nat) : List Int := [(rlL a b c d ms k).1, (rlL a b c d ms k).2.1, (rlL a b c d ms k).2.2.1, (rlL a b c d ms k).2.2.2]
def clOk (a b c d : Int) (ms : List Mk) (k : Nat) : Bool := lnB (rlL a b c d ms k).1 (rlL a b c d ms k).2.1 (rlL a b c d ms k).2.2.1 (rlL a b c d ms k).2.2.2
def clTo (a b c d : Int) (ms : List Mk) : Nat → List Int
  | 0 => [a, b, c, d]
  | k + 1 => clTo a b c d ms k ++ clV a b c d ms k
def clAll (a b c d : Int) (ms : List Mk) (n : Nat) : Bool := (List.range n).all (clOk a b c d ms)
/-- The lines of a course. -/
def clL (a b c d p q r s : Int) (ms : List Mk) : List Int := clTo a b c d ms ms.length ++ [p, q, r, s]
theorem clTo_len (a b c d : Int) (ms : List Mk) : ∀ k, (clTo a b c d ms k).length = (k + 1) * 4
  | 0 => rfl
  | k + 1 => by rw [clTo, List.length_append, clTo_len a b c d ms k]; simp [clV]; omega
theorem clL_len (a b c d p q r s : Int) (ms : List Mk) : (clL a b c d p q r s ms).length = (ms.length + 2) * 4 := by
  unfold clL
  rw [List.length_append, clTo_len]
  simp
  omega
theorem clAll_no {a b c d : Int} {ms : List Mk} {n k : Nat} (hk : k < n) (h : clOk a b c d ms k = false) : clAll a b c d ms n = false := by
  cases hh : clAll a b c d ms n
  · rfl
  · have := List.all_eq_true.1 hh k (List.mem_range.2 hk)
    rw [h] at this
    cases this
theorem clAll_yes {a b c d : Int} {ms : List Mk} {n : Nat} (h : ∀ k, k < n → clOk a b c d ms k = true) : clAll a b c d ms n = true := List.all_eq_true.2 fun k hk => h k (List.mem_range.1 hk)
theorem clAll_at {a b c d : Int} {ms : List Mk} {n k : Nat} (h : clAll a b c d ms n = true) (hk : k < n) : clOk a b c d ms k = true := List.all_eq_true.1 h k (List.mem_range.2 hk)
theorem okS {P : Nat → Bool} {k : Nat} (h : ∀ j, j < k → P j = true) (hk : P k = true) : ∀ j, j < k + 1 → P j = true := fun j hj => by
  rcases Nat.lt_or_ge j k with hjk | hjk
  · exact h j hjk
  · obtain rfl : j = k := by omega
    exact hk
/-- A row of lines and a code. -/
def RSB (w : World) (T : TypeId) (k n : Nat) (xs : List Int) (code : Bool) (e : Ending) (w' : World) : Prop :=
  ∃ A c, e = .returned (.tuple #[.slice A n c, .bool code]) ∧ Own w' w.heap.size T k (.slice A n c) n xs ∧ Q w w'
def CLi (a b c d p q r s : Int) (ms : List Mk) (n : Nat) (w : World) (e : Ending) (w' : World) : Prop := RS w 27 4 (if clAll a b c d ms n then n + 2 else 0) (if clAll a b c d ms n then clL a b c d p q r s ms else []) (if clAll a b c d ms n then 0 else 2) e w'
def CLs (a b c d p q r s : Int) (ms : List Mk) (n : Nat) (w : World) (e : Ending) (w' : World) : Prop := RSB w 27 4 (if clAll a b c d ms n then n + 2 else 0) (if clAll a b c d ms n then clL a b c d p q r s ms else []) (clAll a b c d ms n) e w'
theorem RSB.nil (w w' : World) (T : TypeId) (k : Nat) (code : Bool) (hq : Q w w') : RSB w T k 0 [] code (.returned (.tuple #[.slice none 0 0, .bool code])) w' := ⟨none, 0, rfl, ⟨by simp, .inl ⟨rfl, rfl⟩⟩, hq⟩
set_option maxRecDepth 100000 in
set_option maxHeartbeats 4000000 in
theorem impl_courseLines (a b c d p q r s : Int) (A : Option Addr) (n cc : Nat) (ms : List Mk) (w : World) (ha : RdM w A ms) (hn : ms.length = n) (hc : crsB a b c d p q r s ms = true) (hcap : n ≤ cc) :
    Calls Tryz.prog 22 #[.agg #[.int .i64 a, .int .i64 b, .int .i64 c, .int .i64 d, .int .i64 p, .int .i64 q, .int .i64 r, .int .i64 s, .slice A n cc]] w (CLi a b c d p q r s ms n w) := by
  obtain ⟨_, _, hlen, _, _⟩ := crs_yes hc
  rw [hn] at hlen
  obtain ⟨hn1, hn8⟩ := hlen
  have hnI : (n : Int) ≤ 8 := by omega
  have kc := fun wv (h : RdM wv A ms) => impl_IsCourse a b c d p q r s A n cc ms wv h hn (by omega) hcap
  rw [hc] at kc
  have KC := Lib.hid kc
  have KR := Lib.hid (fun wv k hk (h : RdM wv A ms) => impl_roundingLine a b c d p q r s A n cc ms wv h hn hc k hk)
  have B0 := Blk.new w 30 #[.int .i64 a, .int .i64 b, .int .i64 c, .int .i64 d, .int .i64 p, .int .i64 q, .int .i64 r, .int .i64 s, .slice A n cc]
  have Q0 : Q w (w.alloc (.cells #[.int .i64 a, .int .i64 b, .int .i64 c, .int .i64 d, .int .i64 p, .int .i64 q, .int .i64 r, .int .i64 s, .slice A n cc] 30)) := by (repeat (first | assumption | exact Q.refl _ | refine Q.alloc ?_ _ | refine Q.drewN ?_ _ | refine Q.drew ?_))
  have HS0 := Lib.hid (show clTo a b c d ms 0 = [a, b, c, d] from rfl)
  have HSS := Lib.hid (fun k => (show clTo a b c d ms (k + 1) = clTo a b c d ms k ++ clV a b c d ms k from rfl))
  have HSL := Lib.hid (show clL a b c d p q r s ms = clTo a b c d ms n ++ [p, q, r, s] by unfold clL; rw [hn])
  have HL2 := Lib.hid (show (clL a b c d p q r s ms).length = (n + 2) * 4 by rw [clL_len, hn])
  have HLL := Lib.hid (fun k => clTo_len a b c d ms k)
  have HA0 := Lib.hid (fun k (hk : k < n) (h : clOk a b c d ms k = false) => clAll_no hk h)
  have HA1 := Lib.hid (fun (h : ∀ k, k < n → clOk a b c d ms k = true) => clAll_yes h)
  clear hc hn kc hcap
  go_enter Tryz.func22, Tryz.ntmps22
  go_wp2_with fail
  refine (KC.out _ (ha.q Q0)).mono ?_
  rintro e w1 ⟨rfl, q1⟩
  replace B0 := B0.q q1
  replace Q0 := Q0.trans q1
  have c0 := B0.cell
  have l0 := B0.lt
  have QL : Q w1 (w1.alloc (.cells #[.int .i64 a, .int .i64 b, .int .i64 c, .int .i64 d] 27)) := by (repeat (first | assumption | exact Q.refl _ | refine Q.alloc ?_ _ | refine Q.drewN ?_ _ | refine Q.drew ?_))
  have OL : Own (w1.alloc (.cells #[.int .i64 a, .int .i64 b, .int .i64 c, .int .i64 d] 27)) w1.heap.size 27 4 (.slice (some ⟨w1.heap.size, 0, none⟩) 1 1) 1 (clTo a b c d ms 0) := by
    rw [HS0.out]
    exact Own.lit w1 27 4 1 [a, b, c, d] rfl (Nat.le_refl _) rfl (by decide)
  go_wp2_with fail
  clear c0 l0
  go_loopw [4, 16] (fun v i wr => ∃ (k : Nat) (A1 : Option Addr) (c1 : Nat), k ≤ n ∧ i = .int .i64 k ∧ v = .slice A1 (k + 1) c1 ∧ (∀ j, j < k → clOk a b c d ms j = true) ∧ Own wr w1.heap.size 27 4 (.slice A1 (k + 1) c1) (k + 1) (clTo a b c d ms k) ∧ Q w1 wr) (fun _ i _ => n - (intOf i).toNat)
  case atStart => exact ⟨0, _, _, Nat.zero_le _, rfl, rfl, fun j hj => absurd hj (Nat.not_lt_zero _), OL, QL⟩
  case round =>
    clear OL QL
    obtain ⟨k, A1, c1, hk, rfl, rfl, hok, hown, hq⟩ := hrel
    have b0 := (B0.q hq).cell
    have l0 := (B0.q hq).lt
    have hsz := hq.size
    by_cases hlt : k < n
    · have hltI : (k : Int) < (n : Int) := by omega
      have HSk := Lib.hid (HSS.out k)
      have HAk := Lib.hid (HA0.out k hlt)
      have HOk := Lib.hid (show clOk a b c d ms k = lnB (rlL a b c d ms k).1 (rlL a b c d ms k).2.1 (rlL a b c d ms k).2.2.1 (rlL a b c d ms k).2.2.2 from rfl)
      have HVk := Lib.hid (show clV a b c d ms k = [(rlL a b c d ms k).1, (rlL a b c d ms k).2.1, (rlL a b c d ms k).2.2.1, (rlL a b c d ms k).2.2.2] from rfl)
      have KRk := Lib.hid (fun wv (h : RdM wv A ms) => KR.out wv k hlt h)
      generalize rlL a b c d ms k = R4 at *
      obtain ⟨e, f, g, h⟩ := R4
      simp only at KRk HOk HVk
      go_wp2_with fail
      refine (KRk.out _ (ha.q (Q0.trans hq))).mono ?_
      rintro e2 w2 ⟨rfl, q2⟩
      have hq2 := hq.trans q2
      have b2 := (B0.q hq2).cell
      have l2 := (B0.q hq2).lt
      have hs2 := hq2.size
      cases hl : lnB e f g h
      · have HF := Lib.hid (HAk.out (HOk.out.trans hl))
        have kl := fun wv => impl_IsLine e f g h wv
        rw [hl] at kl
        have KL := Lib.hid kl
        clear kl hl hok
        go_wp2_with fail
        refine (KL.out _).mono ?_
        rintro e3 w3 ⟨rfl, q3⟩
        go_wp2_with fail
        go_ret2
        unfold CLi
        rw [HF.out]
        exact RS.nil _ _ _ _ _ ((Q0.trans (hq2.trans (by (repeat (first | assumption | exact Q.refl _ | refine Q.alloc ?_ _ | refine Q.drewN ?_ _ | refine Q.drew ?_))))).trans q3)
      · have HT := Lib.hid (HOk.out.trans hl)
        have kl := fun wv => impl_IsLine e f g h wv
        rw [hl] at kl
        have KL := Lib.hid kl
        clear kl hl
        go_wp2_with fail
        refine (KL.out _).mono ?_
        rintro e3 w3 ⟨rfl, q3⟩
        have q23 : Q w2 w3 := Q.trans (by (repeat (first | assumption | exact Q.refl _ | refine Q.alloc ?_ _ | refine Q.drewN ?_ _ | refine Q.drew ?_))) q3
        have x3 := q3.box
        have hq3 := hq2.trans q23
        have hs3 := hq3.size
        have hlt2 := q3.size
        simp only [World.size_alloc] at hlt2
        go_wp2_with (at_builtin; refine appK elLine rfl _ _ rfl [e, f, g, h] rfl (hown.q (by first | exact q2.trans q23 | (repeat (first | assumption | exact Q.refl _ | refine Q.alloc ?_ _ | refine Q.drewN ?_ _ | refine Q.drew ?_)))) rfl (by simp) rfl _ _ rfl (by omega) (by first | omega | (simp; omega)) ?_; intro A' c' w' hown' hg' hgr')
        go_roundw
        case rel => exact ⟨k + 1, A', c', by omega, by go_num, rfl, okS hok HT.out, by rw [HSk.out, HVk.out]; exact hown', Q.mark (hq3.trans (by (repeat (first | assumption | exact Q.refl _ | refine Q.alloc ?_ _ | refine Q.drewN ?_ _ | refine Q.drew ?_)))) (hown.q (q2.trans q23)) (Nat.le_refl _) hg'⟩
        case measure => simp [intOf]; omega
    · obtain rfl : k = n := by omega
      have HT := Lib.hid (HA1.out hok)
      go_wp2_with (at_builtin; refine appK elLine rfl _ _ rfl [p, q, r, s] rfl (hown.q (by (repeat (first | assumption | exact Q.refl _ | refine Q.alloc ?_ _ | refine Q.drewN ?_ _ | refine Q.drew ?_)))) rfl (by simp) rfl _ _ rfl (by omega) (by omega) ?_; intro A' c' w' hown' hg' hgr')
      go_ret2
      rw [← HSL.out] at hown'
      unfold CLi
      rw [HT.out]
      exact ⟨_, _, rfl, hown'.mono Q0.size, Q0.trans (Q.mark hq hown (Nat.le_refl _) hg')⟩
set_option maxRecDepth 100000 in
set_option maxHeartbeats 4000000 in
theorem spec_l06Lines (a b c d p q r s : Int) (A : Option Addr) (n cc : Nat) (ms : List Mk) (w : World) (ha : RdM w A ms) (hn : ms.length = n) (hc : crsB a b c d p q r s ms = true) :
    Calls Tryz.prog 39 #[.agg #[.int .i64 a, .int .i64 b, .int .i64 c, .int .i64 d, .int .i64 p, .int .i64 q, .int .i64 r, .int .i64 s, .slice A n cc]] w (CLs a b c d p q r s ms n w) := by
  obtain ⟨_, _, hlen, _, _⟩ := crs_yes hc
  rw [hn] at hlen
  obtain ⟨hn1, hn8⟩ := hlen
  have hnI : (n : Int) ≤ 8 := by omega
  have KR := Lib.hid (fun wv k hk (h : RdM wv A ms) => spec_l06Line a b c d p q r s A n cc ms wv h hn hc k hk)
  have B0 := Blk.new w 30 #[.int .i64 a, .int .i64 b, .int .i64 c, .int .i64 d, .int .i64 p, .int .i64 q, .int .i64 r, .int .i64 s, .slice A n cc]
  have Q0 : Q w (w.alloc (.cells #[.int .i64 a, .int .i64 b, .int .i64 c, .int .i64 d, .int .i64 p, .int .i64 q, .int .i64 r, .int .i64 s, .slice A n cc] 30)) := by (repeat (first | assumption | exact Q.refl _ | refine Q.alloc ?_ _ | refine Q.drewN ?_ _ | refine Q.drew ?_))
  have HS0 := Lib.hid (show clTo a b c d ms 0 = [a, b, c, d] from rfl)
  have HSS := Lib.hid (fun k => (show clTo a b c d ms (k + 1) = clTo a b c d ms k ++ clV a b c d ms k from rfl))
  have HSL := Lib.hid (show clL a b c d p q r s ms = clTo a b c d ms n ++ [p, q, r, s] by unfold clL; rw [hn])
  have HL2 := Lib.hid (show (clL a b c d p q r s ms).length = (n + 2) * 4 by rw [clL_len, hn])
  have HLL := Lib.hid (fun k => clTo_len a b c d ms k)
  have HA0 := Lib.hid (fun k (hk : k < n) (h : clOk a b c d ms k = false) => clAll_no hk h)
  have HA1 := Lib.hid (fun (h : ∀ k, k < n → clOk a b c d ms k = true) => clAll_yes h)
  clear hc hn
  obtain ⟨w1, hw1⟩ : ∃ w1, w1 = w.alloc (.cells #[.int .i64 a, .int .i64 b, .int .i64 c, .int .i64 d, .int .i64 p, .int .i64 q, .int .i64 r, .int .i64 s, .slice A n cc] 30) := ⟨_, rfl⟩
  rw [← hw1] at B0 Q0
  have HW := Lib.hid hw1
  have QL : Q w1 (w1.alloc (.cells #[.int .i64 a, .int .i64 b, .int .i64 c, .int .i64 d] 27)) := by (repeat (first | assumption | exact Q.refl _ | refine Q.alloc ?_ _ | refine Q.drewN ?_ _ | refine Q.drew ?_))
  have OL : Own (w1.alloc (.cells #[.int .i64 a, .int .i64 b, .int .i64 c, .int .i64 d] 27)) w1.heap.size 27 4 (.slice (some ⟨w1.heap.size, 0, none⟩) 1 1) 1 (clTo a b c d ms 0) := by
    rw [HS0.out]
    exact Own.lit w1 27 4 1 [a, b, c, d] rfl (Nat.le_refl _) rfl (by decide)
  have zw : w1.heap.size = w.heap.size + 1 := by rw [hw1]; simp
  clear hw1
  go_enter Tryz.func39, Tryz.ntmps39
  go_wp2_with fail
  rw [← HW.out]
  rw [← zw]
  clear zw
  go_loopw [4, 5] (fun v i wr => ∃ (k : Nat) (A1 : Option Addr) (c1 : Nat), k ≤ n ∧ i = .int .i64 k ∧ v = .slice A1 (k + 1) c1 ∧ (∀ j, j < k → clOk a b c d ms j = true) ∧ Own wr w1.heap.size 27 4 (.slice A1 (k + 1) c1) (k + 1) (clTo a b c d ms k) ∧ Q w1 wr) (fun _ i _ => n - (intOf i).toNat)
  case atStart => exact ⟨0, _, _, Nat.zero_le _, rfl, rfl, fun j hj => absurd hj (Nat.not_lt_zero _), OL, QL⟩
  case round =>
    clear OL QL
    obtain ⟨k, A1, c1, hk, rfl, rfl, hok, hown, hq⟩ := hrel
    have b0 := (B0.q hq).cell
    have l0 := (B0.q hq).lt
    have hsz := hq.size
    by_cases hlt : k < n
    · have hltI : (k : Int) < (n : Int) := by omega
      have HSk := Lib.hid (HSS.out k)
      have HAk := Lib.hid (HA0.out k hlt)
      have HOk := Lib.hid (show clOk a b c d ms k = lnB (rlL a b c d ms k).1 (rlL a b c d ms k).2.1 (rlL a b c d ms k).2.2.1 (rlL a b c d ms k).2.2.2 from rfl)
      have HVk := Lib.hid (show clV a b c d ms k = [(rlL a b c d ms k).1, (rlL a b c d ms k).2.1, (rlL a b c d ms k).2.2.1, (rlL a b c d ms k).2.2.2] from rfl)
      have KRk := Lib.hid (fun wv (h : RdM wv A ms) => KR.out wv k hlt h)
      generalize rlL a b c d ms k = R4 at *
      obtain ⟨e, f, g, h⟩ := R4
      simp only at KRk HOk HVk
      go_wp2_with fail
      refine (KRk.out _ (ha.q (Q0.trans hq))).mono ?_
      rintro e2 w2 ⟨rfl, q2⟩
      have hq2 := hq.trans q2
      have hs2 := hq2.size
      rw [← HOk.out]
      cases hl : clOk a b c d ms k
      · have HF := Lib.hid (HAk.out hl)
        clear hl hok
        go_wp2_with fail
        go_ret2
        unfold CLs
        rw [HF.out]
        exact RSB.nil _ _ _ _ _ (Q0.trans (hq2.trans (by (repeat (first | assumption | exact Q.refl _ | refine Q.alloc ?_ _ | refine Q.drewN ?_ _ | refine Q.drew ?_)))))
      · have HT := Lib.hid hl
        clear hl
        go_wp2_with (at_builtin; refine appK elLine rfl _ _ rfl [e, f, g, h] rfl ((hown.q q2).q (by (repeat (first | assumption | exact Q.refl _ | refine Q.alloc ?_ _ | refine Q.drewN ?_ _ | refine Q.drew ?_)))) rfl (by simp) rfl _ _ rfl (by omega) (by first | omega | (simp; omega)) ?_; intro A' c' w' hown' hg' hgr')
        go_roundw
        case rel => exact ⟨k + 1, A', c', by omega, by go_num, rfl, okS hok HT.out, by rw [HSk.out, HVk.out]; exact hown', Q.mark (hq2.trans (by (repeat (first | assumption | exact Q.refl _ | refine Q.alloc ?_ _ | refine Q.drewN ?_ _ | refine Q.drew ?_)))) ((hown.q q2).q (by (repeat (first | assumption | exact Q.refl _ | refine Q.alloc ?_ _ | refine Q.drewN ?_ _ | refine Q.drew ?_)))) (Nat.le_refl _) hg'⟩
        case measure => simp [intOf]; omega
    · obtain rfl : k = n := by omega
      have HT := Lib.hid (HA1.out hok)
      go_wp2_with (at_builtin; refine appK elLine rfl _ _ rfl [p, q, r, s] rfl (hown.q (by (repeat (first | assumption | exact Q.refl _ | refine Q.alloc ?_ _ | refine Q.drewN ?_ _ | refine Q.drew ?_)))) rfl (by simp) rfl _ _ rfl (by omega) (by omega) ?_; intro A' c' w' hown' hg' hgr')
      go_ret2
      rw [← HSL.out] at hown'
      unfold CLs
      rw [HT.out]
      exact ⟨_, _, rfl, hown'.mono Q0.size, Q0.trans (Q.mark hq hown (Nat.le_refl _) hg')⟩
end Go.Proofs.YteofhfefbphjdaaGreatDoor
