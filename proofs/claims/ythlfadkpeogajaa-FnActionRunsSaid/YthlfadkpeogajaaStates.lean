/- Walks: the reference's draw for NextState, and the law on states. No condition. -/
import Derived.Test.YthlfadkpeogajaaDraw
import Derived.Test.YthlfadkpeogajaaLk
import Derived.Test.YthlfadkpeogajaaStepsS
import Derived.RegionTactic
import Derived.Deep.CutBlock
import Derived.Deep.RegionWith
namespace Go.Proofs.Ythlfadkpeogajaa
open Go.RowKit Go.WideShapes Go.ChangeShapes
theorem Own.keepG {w w' : World} {B g k n c : Nat} {e : TypeId} {A : Option Addr} {xs : List Int} (h : Own w B e k (.slice A n c) n xs) (hg : w.grownBy w' (some g)) (hB : g < B) : Own w' B e k (.slice A n c) n xs := by
  refine World.ownsRow.kept h hg ?_
  rcases hA : A with _ | a
  · exact .inl rfl
  · refine .inr ?_
    have := (h.from a hA).1
    simp only [Value.ownBlock]
    intro e
    injection e with e
    omega
theorem pickN {m N : Nat} (h : 0 ≤ (m : Int) ∧ ((m : Int) < (N : Int) ∨ (m : Int) = 0)) (hp : 0 < N) : m < N ∧ (m : Int) < (N : Int) ∧ m < N * 1 := by omega
def DrawNS (wz : World) (e : Ending) (w' : World) : Prop := ∃ s a : Int, e = .returned (.tuple #[.int .i64 s, .int .i64 a]) ∧ Q wz w'
set_option maxHeartbeats 4000000 in
theorem spec_DrawNextState (A : Option Addr) (n c : Nat) (w0 : World) (ha : Rd8 w0 A n) (hn : n ≤ 140737488355327) : Calls Try.prog 23 #[.slice A n c] w0 (DrawNS w0) := by
  go_enter Try.func23, Try.ntmps23
  go_wp2_with (go_at_call 57; refine (spec_From A n c _ (ha.q (by (repeat (first | assumption | exact Q.refl _ | refine Q.alloc ?_ _ | refine Q.drewN ?_ _ | refine Q.drew ?_)))) hn).mono ?_; rintro e w ⟨rfl, D0⟩)
  obtain ⟨g, hg⟩ : ∃ g, g = w0.heap.size := ⟨_, rfl⟩
  rw [← hg] at D0 ⊢
  clear hg
  have HD := DrT.start D0
  have hlt := HD.glt
  clear D0
  refine (spec_Next (w0 := w0) (A := A) (n := n) (c := c) _ (DrT.dr (ws := w) (by ((repeat (first | exact HD | refine DrT.alloc ?_ _ | refine DrT.drewN ?_ _ | refine DrT.drew ?_ | refine DrT.set ?_ (by first | omega | (simp; omega)) _))))) hn).mono ?_
  rintro e1 w1 ⟨r1, rfl, hr1, D1, G1⟩
  have HD := DrT.step (ws := w) (by ((repeat (first | exact HD | refine DrT.alloc ?_ _ | refine DrT.drewN ?_ _ | refine DrT.drew ?_ | refine DrT.set ?_ (by first | omega | (simp; omega)) _)))) D1 G1
  have z1 := HD.size
  go_wp2_with fail
  refine (spec_Next (w0 := w0) (A := A) (n := n) (c := c) _ (DrT.dr (ws := w) (by ((repeat (first | exact HD | refine DrT.alloc ?_ _ | refine DrT.drewN ?_ _ | refine DrT.drew ?_ | refine DrT.set ?_ (by first | omega | (simp; omega)) _))))) hn).mono ?_
  rintro e2 w2 ⟨r2, rfl, hr2, D2, G2⟩
  have HD := DrT.step (ws := w) (by ((repeat (first | exact HD | refine DrT.alloc ?_ _ | refine DrT.drewN ?_ _ | refine DrT.drew ?_ | refine DrT.set ?_ (by first | omega | (simp; omega)) _)))) D2 G2
  have z2 := HD.size
  obtain ⟨S, hS⟩ : ∃ S, 1 + r1 + r2 / 23 = S := ⟨_, rfl⟩
  have k1 := fun wv => spec_ActionsOf S wv
  unfold RA at k1
  generalize actL S = L at k1
  obtain ⟨N, hN⟩ : ∃ N, N = L.length := ⟨_, rfl⟩
  rw [← hN] at k1
  have K1 := Lib.hid k1
  have HN := Lib.hid hN.symm
  clear k1 hN D1 G1 D2 G2
  rcases Nat.eq_zero_or_pos N with h0 | hp
  · subst h0
    go_wp2_with (go_at_call 29; refine (K1.out _).mono ?_; rintro e w3 ⟨A1, c1, rfl, o1, q3⟩)
    replace HD := HD.q q3
    refine (spec_Next (w0 := w0) (A := A) (n := n) (c := c) _ (DrT.dr (ws := w) (by ((repeat (first | exact HD | refine DrT.alloc ?_ _ | refine DrT.drewN ?_ _ | refine DrT.drew ?_ | refine DrT.set ?_ (by first | omega | (simp; omega)) _))))) hn).mono ?_
    rintro e4 w4 ⟨r4, rfl, hr4, D4, G4⟩
    have HD := DrT.step (ws := w) (by ((repeat (first | exact HD | refine DrT.alloc ?_ _ | refine DrT.drewN ?_ _ | refine DrT.drew ?_ | refine DrT.set ?_ (by first | omega | (simp; omega)) _)))) D4 G4
    have z4 := HD.size
    go_wp2_with fail
    go_ret2
    exact ⟨S, r4, rfl, HD.dr.q⟩
  · have hpI : (0 : Int) < (N : Int) := by omega
    go_wp2_with (go_at_call 29; refine (K1.out _).mono ?_; rintro e w3 ⟨A1, c1, rfl, o1, q3⟩)
    replace HD := HD.q q3
    have hgw2 : g < w2.heap.size := by omega
    refine (spec_Next (w0 := w0) (A := A) (n := n) (c := c) _ (DrT.dr (ws := w) (by ((repeat (first | exact HD | refine DrT.alloc ?_ _ | refine DrT.drewN ?_ _ | refine DrT.drew ?_ | refine DrT.set ?_ (by first | omega | (simp; omega)) _))))) hn).mono ?_
    rintro e4 w4 ⟨r4, rfl, hr4, D4, G4⟩
    have HD := DrT.step (ws := w) (by ((repeat (first | exact HD | refine DrT.alloc ?_ _ | refine DrT.drewN ?_ _ | refine DrT.drew ?_ | refine DrT.set ?_ (by first | omega | (simp; omega)) _)))) D4 G4
    have z4 := HD.size
    have o4 := o1.keepG G4 hgw2
    by_cases h4 : 0 < r4
    · go_wp2_with fail
      obtain ⟨gl, rfl, hgl⟩ := o4.split hp
      go_region_with ((go_at_call 59; refine (spec_Next (w0 := w0) (A := A) (n := n) (c := c) _ (DrT.dr (ws := w) (by ((repeat (first | exact HD | refine DrT.alloc ?_ _ | refine DrT.drewN ?_ _ | refine DrT.drew ?_ | refine DrT.set ?_ (by first | omega | (simp; omega)) _))))) hn).mono ?_; rintro e5 w5 ⟨r5, rfl, hr5, D5, G5⟩; have HD := DrT.step (ws := w) (by ((repeat (first | exact HD | refine DrT.alloc ?_ _ | refine DrT.drewN ?_ _ | refine DrT.drew ?_ | refine DrT.set ?_ (by first | omega | (simp; omega)) _)))) D5 G5; have z5 := HD.size); obtain ⟨m, rfl⟩ := Int.eq_ofNat_of_zero_le hr5.1; obtain ⟨hm, hmI, hm1⟩ := pickN hr5 hp; have o5 := (o4.q (by (repeat (first | assumption | exact Q.refl _ | refine Q.alloc ?_ _ | refine Q.drewN ?_ _ | refine Q.drew ?_)))).keepG G5 hgw2; have cl := o5.cell (j := m) hm1)
      all_goals go_wp2_with fail
      all_goals go_ret2
      all_goals exact ⟨_, _, rfl, HD.dr.q.trans (by (repeat (first | assumption | exact Q.refl _ | refine Q.alloc ?_ _ | refine Q.drewN ?_ _ | refine Q.drew ?_)))⟩
    · go_wp2_with fail
      refine (spec_Next (w0 := w0) (A := A) (n := n) (c := c) _ (DrT.dr (ws := w) (by ((repeat (first | exact HD | refine DrT.alloc ?_ _ | refine DrT.drewN ?_ _ | refine DrT.drew ?_ | refine DrT.set ?_ (by first | omega | (simp; omega)) _))))) hn).mono ?_
      rintro e5 w5 ⟨r5, rfl, hr5, D5, G5⟩
      have HD := DrT.step (ws := w) (by ((repeat (first | exact HD | refine DrT.alloc ?_ _ | refine DrT.drewN ?_ _ | refine DrT.drew ?_ | refine DrT.set ?_ (by first | omega | (simp; omega)) _)))) D5 G5
      have z5 := HD.size
      go_wp2_with fail
      go_ret2
      exact ⟨S, r5, rfl, HD.dr.q⟩
/-! ### The law -/
theorem act_small : ∀ s : Fin 8, ∀ a : Fin 9, (decide ((a.val : Int) ∈ actL (s.val : Int)) = (nextC (s.val : Int) (a.val : Int) == 0)) ∧ (nextC (s.val : Int) (a.val : Int) = 0 → stepsV (s.val : Int) - 1 ≤ stepsV (nextV (s.val : Int) (a.val : Int))) := by decide +kernel
theorem actL_mem {s a : Int} (h : a ∈ actL s) : 1 ≤ s ∧ s ≤ 7 ∧ 1 ≤ a ∧ a ≤ 8 := by
  unfold actL at h
  split at h
  · rename_i hs
    unfold actTo at h
    obtain ⟨i, hi, rfl⟩ := List.mem_map.1 h
    have := (List.mem_filter.1 hi).1
    rw [List.mem_range] at this
    omega
  · cases h
theorem nextC_in {s a : Int} (h : nextC s a = 0) : 1 ≤ s ∧ s ≤ 7 ∧ 1 ≤ a ∧ a ≤ 8 := by
  unfold nextC at h
  split at h
  · cases h
  · rename_i h1; omega
theorem act_all (s a : Int) : decide (a ∈ actL s) = (nextC s a == 0) ∧ (nextC s a = 0 → stepsV s - 1 ≤ stepsV (nextV s a)) := by
  by_cases h : 1 ≤ s ∧ s ≤ 7 ∧ 1 ≤ a ∧ a ≤ 8
  · obtain ⟨m, rfl⟩ := Int.eq_ofNat_of_zero_le (show 0 ≤ s by omega)
    obtain ⟨k, rfl⟩ := Int.eq_ofNat_of_zero_le (show 0 ≤ a by omega)
    exact act_small ⟨m, by omega⟩ ⟨k, by omega⟩
  · have h1 : nextC s a ≠ 0 := fun e => h (nextC_in e)
    refine ⟨?_, fun e => absurd e h1⟩
    rw [decide_eq_false (fun e => h (actL_mem e))]
    simpa using h1
theorem stepsV_bd (s : Int) : -1 ≤ stepsV s ∧ stepsV s ≤ 2 := by
  unfold stepsV closeN
  repeat (first | split | omega)
set_option maxRecDepth 100000 in
set_option maxHeartbeats 4000000 in
theorem law_FnStates (A : Option Addr) (n c : Nat) (hc : n ≤ c ∧ c ≤ maxLen) (w : World) (ha : Rd8 w A n) :
    Calls Try.prog 5 #[.slice A n c] w fun e w' => e = .returned (.bool true) ∧ Below w.heap.size w w' := by
  have hn : n ≤ 9223372036854775807 := by unfold maxLen at hc; omega
  clear hc
  have K0 := Lib.hid (fun wv => big_any A n c wv hn)
  by_cases h4 : 4096 < n
  · rw [decide_eq_true h4] at K0
    go_enter Try.func5, Try.ntmps5
    go_wp2_with (go_at_call 11; refine (K0.out _).mono ?_; rintro e w' ⟨rfl, rfl⟩)
    go_ret
    exact ⟨rfl, Q.refl _⟩
  · rw [decide_eq_false h4] at K0
    replace hn : n ≤ 140737488355327 := by omega
    have K1 := Lib.hid (fun wv (h : Rd8 wv A n) => spec_DrawNextState A n c wv h hn)
    clear h4
    go_enter Try.func5, Try.ntmps5
    go_wp2_with (first | (go_at_call 11; refine (K0.out _).mono ?_; rintro e w' ⟨rfl, rfl⟩) | (go_at_call 23; refine (K1.out _ ha).mono ?_; rintro e w1 ⟨s, a, rfl, q1⟩))
    clear K0 K1 ha hn
    have k2 := fun wv => impl_NextState s a wv
    have k3 := fun wv => spec_NextState s a wv
    have k4 := fun wv => impl_ActionsOf s wv
    have k5 := fun wv => spec_ActionsOf s wv
    have k6 := fun wv => impl_StateName s wv
    have k7 := fun wv => spec_StateName s wv
    have k8 := fun wv => impl_StepsToClose s wv
    have k9 := fun wv => spec_StepsToClose s wv
    have k10 := fun wv => impl_StepsToClose (nextV s a) wv
    unfold RA at k4 k5
    have hall := act_all s a
    have hb1 := stepsV_bd s
    have hb2 := stepsV_bd (nextV s a)
    have hl := actL_len s
    generalize stepsV (nextV s a) = T2 at *
    generalize stepsV s = T1 at *
    generalize actL s = L at *
    generalize nextV s a = V at *
    generalize nextC s a = C at *
    generalize stName s = SN at *
    obtain ⟨N, hN⟩ : ∃ N, N = L.length := ⟨_, rfl⟩
    rw [← hN] at k4 k5 hl
    have HN := Lib.hid hN.symm
    have K2 := Lib.hid k2
    have K3 := Lib.hid k3
    have K4 := Lib.hid k4
    have K5 := Lib.hid k5
    have K6 := Lib.hid k6
    have K7 := Lib.hid k7
    have K8 := Lib.hid k8
    have K9 := Lib.hid k9
    have K10 := Lib.hid k10
    have KH := Lib.hid (fun wv (B : Option Addr) (d : Nat) (h : Rd wv B L) => hasInt_any B N d L a wv h HN.out (by omega))
    rw [hall.1] at KH
    have HT := hall.2
    clear k2 k3 k4 k5 k6 k7 k8 k9 k10 hN hall
    by_cases hC : C = 0
    · subst hC
      have HT := HT rfl
      have ht1 : T1 - 1 ≤ T2 := HT
      clear HT
      go_wp2_with (first | (have q30 := q3; have q40 := q4; go_at_call 19; refine (likeInts_same _ _ _ _ _ L _ o4.rd o5.rd HN.out (by omega)).mono ?_; rintro e w8 ⟨rfl, q8⟩; have o8 := o4.q q8) | (have q30 := q3; go_at_call 29; refine (K5.out _).mono ?_; rintro e w7 ⟨A2, c2, rfl, o5, q7⟩; replace o4 := o4.q q7) | (go_at_call 26; refine (K4.out _).mono ?_; rintro e w4 ⟨A1, c1, rfl, o4, q4⟩) | (go_at_call 24; refine (K2.out _).mono ?_; rintro e w2 ⟨rfl, q2⟩) | (go_at_call 25; refine (K3.out _).mono ?_; rintro e w3 ⟨rfl, q3⟩) | (go_at_call 27; refine (K6.out _).mono ?_; rintro e w5 ⟨rfl, q5⟩; replace o4 := o4.q q5) | (go_at_call 28; refine (K7.out _).mono ?_; rintro e w6 ⟨rfl, q6⟩; replace o4 := o4.q q6) | (go_at_call 22; refine (KH.out _ _ _ o8.rd).mono ?_; rintro e w9 ⟨rfl, q9⟩))
      refine (K10.out _).mono ?_
      rintro e w10 ⟨rfl, q10⟩
      go_wp2_with fail
      refine (K8.out _).mono ?_
      rintro e w11 ⟨rfl, q11⟩
      go_wp2_with fail
      refine (K8.out _).mono ?_
      rintro e w13 ⟨rfl, q13⟩
      go_wp2_with fail
      refine (K9.out _).mono ?_
      rintro e w12 ⟨rfl, q12⟩
      go_wp2_with fail
      go_ret
      exact ⟨rfl, ((((((((((((q1.trans q2).trans q3).trans q4).trans q5).trans q6).trans q7).trans q8).trans q9).trans q10).trans q11).trans q13).trans q12)⟩
    · have hCb : (C != 0) = true := by simpa using hC
      have hCb2 : (C == 0) = false := by simpa using hC
      rw [hCb2] at KH
      clear HT hC hCb2
      go_wp2_with (first | (have q30 := q3; have q40 := q4; go_at_call 19; refine (likeInts_same _ _ _ _ _ L _ o4.rd o5.rd HN.out (by omega)).mono ?_; rintro e w8 ⟨rfl, q8⟩; have o8 := o4.q q8) | (have q30 := q3; go_at_call 29; refine (K5.out _).mono ?_; rintro e w7 ⟨A2, c2, rfl, o5, q7⟩; replace o4 := o4.q q7) | (go_at_call 26; refine (K4.out _).mono ?_; rintro e w4 ⟨A1, c1, rfl, o4, q4⟩) | (go_at_call 24; refine (K2.out _).mono ?_; rintro e w2 ⟨rfl, q2⟩) | (go_at_call 25; refine (K3.out _).mono ?_; rintro e w3 ⟨rfl, q3⟩) | (go_at_call 27; refine (K6.out _).mono ?_; rintro e w5 ⟨rfl, q5⟩; replace o4 := o4.q q5) | (go_at_call 28; refine (K7.out _).mono ?_; rintro e w6 ⟨rfl, q6⟩; replace o4 := o4.q q6) | (go_at_call 22; refine (KH.out _ _ _ o8.rd).mono ?_; rintro e w9 ⟨rfl, q9⟩))
      go_ret
      exact ⟨rfl, ((((((((q1.trans q2).trans q3).trans q4).trans q5).trans q6).trans q7).trans q8).trans q9)⟩
end Go.Proofs.Ythlfadkpeogajaa
