/- Walks: the check times at which two tracks are near, as the program and the reference make them. No condition. -/
import Derived.Test.YtadljkdjlpmllaaNrS
import Derived.Test.YtadljkdjlpmllaaCheck
namespace Go.Proofs.Ytadljkdjlpmllaa
open Go.RowKit Go.WideShapes Go.ChangeShapes
/-- What the function value of NearTimes reads. -/
def NC (gx g1 g2 : Nat) (a b d s : Int) (A1 : Option Addr) (n c1 : Nat) (xs : List Int) (A2 : Option Addr) (m c2 : Nat) (ys : List Int) (w : World) : Prop :=
  Blk w gx 31 #[.int .i64 a, .int .i64 b, .int .i64 d, .int .i64 s] ∧ Blk w g1 35 #[.slice A1 n c1] ∧ Blk w g2 35 #[.slice A2 m c2] ∧ Rd w A1 xs ∧ Rd w A2 ys
theorem NC.q {gx g1 g2 : Nat} {a b d s : Int} {A1 A2 : Option Addr} {n c1 m c2 : Nat} {xs ys : List Int} : ∀ w w', NC gx g1 g2 a b d s A1 n c1 xs A2 m c2 ys w → Q w w' → NC gx g1 g2 a b d s A1 n c1 xs A2 m c2 ys w' :=
  fun _ _ h q => ⟨h.1.q q, h.2.1.q q, h.2.2.1.q q, h.2.2.2.1.q q, h.2.2.2.2.q q⟩
theorem Rd.setFar {w : World} {A : Option Addr} {xs : List Int} {g : Nat} (h : Rd w A xs) (hA : ∀ a, A = some a → a.block ≠ g) (i : Nat) (u : Value) : Rd (w.setCell ⟨g, i, none⟩ u) A xs :=
  h.grown (grown_set (grown_refl w (some g)) i u) fun a ha he => by injection he with he; exact hA a ha he
theorem NC.stays {gx g1 g2 g : Nat} {a b d s : Int} {A1 A2 : Option Addr} {n c1 m c2 : Nat} {xs ys : List Int} (h0 : gx ≠ g) (h1 : g1 ≠ g) (h2 : g2 ≠ g) (hA1 : ∀ a, A1 = some a → a.block ≠ g) (hA2 : ∀ a, A2 = some a → a.block ≠ g) :
    Stays (NC gx g1 g2 a b d s A1 n c1 xs A2 m c2 ys) g where
  q := NC.q
  set := fun _ i u h => ⟨h.1.far (p := ⟨g, i, none⟩) h0 u, h.2.1.far (p := ⟨g, i, none⟩) h1 u, h.2.2.1.far (p := ⟨g, i, none⟩) h2 u, h.2.2.2.1.setFar hA1 i u, h.2.2.2.2.setFar hA2 i u⟩
theorem Rd.lt3 {w : World} {A : Option Addr} {xs : List Int} {n : Nat} (h : Rd w A xs) (hn : xs.length = n * 3) (hT : isTrk xs n = true) : ∀ a, A = some a → a.block < w.heap.size := by
  have h2 : 2 ≤ n := by
    have : (decide (2 ≤ n ∧ n ≤ 40) && fixTo xs n) = true := hT
    simp at this
    omega
  obtain ⟨b, o, rfl, g0, _, _⟩ := h.at3 hn (show 0 < n by omega)
  rintro a ha
  injection ha with ha
  subst ha
  exact World.block_lt_of_cell? w _ g0
theorem impl_clo (gx g1 g2 : Nat) (a b d s : Int) (A1 : Option Addr) (n c1 : Nat) (xs : List Int) (A2 : Option Addr) (m c2 : Nat) (ys : List Int) (hn : xs.length = n * 3) (h1 : isTrk xs n = true) (hm : ys.length = m * 3) (h2 : isTrk ys m = true) (hw : isWat a b d s = true) (w : World) (t : Int)
    (hc : NC gx g1 g2 a b d s A1 n c1 xs A2 m c2 ys w) :
    Calls Try.prog 20 (#[.int .i64 t] ++ #[.pointer (some ⟨gx, 0, none⟩), .pointer (some ⟨g1, 0, none⟩), .pointer (some ⟨g2, 0, none⟩)]) w fun e w' => e = .returned (.bool (!naR a d xs n ys m t)) ∧ Q w w' := by
  obtain ⟨B1, B2, B3, ha, hb⟩ := hc
  have K := Lib.hid (impl_near a b d s A1 n c1 xs A2 m c2 ys t w ha hn h1 hb hm h2 hw)
  generalize naR a d xs n ys m t = R at *
  have k1 := B1.cell
  have k2 := B2.cell
  have k3 := B3.cell
  have l1 := B1.lt
  have l2 := B2.lt
  have l3 := B3.lt
  clear ha hb hn hm h1 h2 hw
  go_enter Try.func20, Try.ntmps20
  go_wp2_with fail
  refine K.out.mono ?_
  rintro e w1 ⟨rfl, q1⟩
  go_wp2_with fail
  go_ret
  exact ⟨rfl, q1⟩
/-- The near times. -/
def ntL (a b d s : Int) (xs : List Int) (n : Nat) (ys : List Int) (m : Nat) : List Int := (ctimL a b d s xs n ys m).filter (naR a d xs n ys m)
theorem ntL_len (a b d s : Int) (xs : List Int) (n : Nat) (ys : List Int) (m : Nat) : (ntL a b d s xs n ys m).length ≤ 401 := Nat.le_trans (List.length_filter_le _ _) (ctimL_len a b d s xs n ys m)
theorem ctim_no {a b d s : Int} {xs ys : List Int} {n m : Nat} (h : ¬ ctimC a b d s xs n ys m = 0) : ctimL a b d s xs n ys m = [] := by
  cases hv : (isWat a b d s && isTrk xs n && isTrk ys m)
  · exact (ctim_bad hv).2
  · have hv' : (isWat a b d s = true ∧ isTrk xs n = true) ∧ isTrk ys m = true := by simpa using hv
    obtain ⟨e1, e2⟩ := ctim_ok hv'.1.1 hv'.1.2 hv'.2
    rw [e1] at h
    rw [e2]
    cases hg : ckGo s (ckTo xs n ys m) 401 (ckFrom s xs ys) with
    | none => rfl
    | some L => rw [hg] at h; exact absurd rfl h
theorem ctim_yes {a b d s : Int} {xs ys : List Int} {n m : Nat} (h : ctimC a b d s xs n ys m = 0) : isWat a b d s = true ∧ isTrk xs n = true ∧ isTrk ys m = true := by
  cases hv : (isWat a b d s && isTrk xs n && isTrk ys m)
  · rw [(ctim_bad hv).1] at h; cases h
  · have hv' : (isWat a b d s = true ∧ isTrk xs n = true) ∧ isTrk ys m = true := by simpa using hv
    exact ⟨hv'.1.1, hv'.1.2, hv'.2⟩
/-- Those of the first k that p holds. -/
def fiTo (p : Int → Bool) (L : List Int) (k : Nat) : List Int := (L.take k).filter p
theorem fiTo_no {p : Int → Bool} {L : List Int} {k : Nat} (hk : k < L.length) (h : p (el L k) = false) : fiTo p L (k + 1) = fiTo p L k := by unfold fiTo; rw [take_succ_el hk, List.filter_append]; simp [h]
theorem fiTo_yes {p : Int → Bool} {L : List Int} {k : Nat} (hk : k < L.length) (h : p (el L k) = true) : fiTo p L (k + 1) = fiTo p L k ++ [el L k] := by unfold fiTo; rw [take_succ_el hk, List.filter_append]; simp [h]
theorem fiTo_len (p : Int → Bool) (L : List Int) (k : Nat) : (fiTo p L k).length ≤ k := Nat.le_trans (List.length_filter_le _ _) (by simp; omega)
theorem fiTo_all (p : Int → Bool) (L : List Int) : fiTo p L L.length = L.filter p := by unfold fiTo; rw [List.take_length]
set_option maxHeartbeats 1000000 in
theorem impl_NearTimes (a b d s : Int) (A1 : Option Addr) (n c1 : Nat) (xs : List Int) (A2 : Option Addr) (m c2 : Nat) (ys : List Int) (w : World) (ha : Rd w A1 xs) (hn : xs.length = n * 3) (hn2 : n ≤ 9223372036854775807) (hb : Rd w A2 ys) (hm : ys.length = m * 3) (hm2 : m ≤ 9223372036854775807) :
    Calls Try.prog 8 #[.agg #[.int .i64 a, .int .i64 b, .int .i64 d, .int .i64 s], .agg #[.slice A1 n c1], .agg #[.slice A2 m c2]] w (RS w 2 1 (ntL a b d s xs n ys m).length (ntL a b d s xs n ys m) (ctimC a b d s xs n ys m)) := by
  have hB := fun w1 (q : Q (((w.alloc (.cells #[.int .i64 a, .int .i64 b, .int .i64 d, .int .i64 s] 31)).alloc (.cells #[.slice A1 n c1] 35)).alloc (.cells #[.slice A2 m c2] 35)) w1) => (show Blk w1 w.heap.size 31 #[.int .i64 a, .int .i64 b, .int .i64 d, .int .i64 s] ∧ Blk w1 (w.heap.size + 1) 35 #[.slice A1 n c1] ∧ Blk w1 (w.heap.size + 1 + 1) 35 #[.slice A2 m c2] from ⟨q.boxB3, by simpa using q.boxB2, by simpa using q.boxB⟩)
  have Q0 : Q w (((w.alloc (.cells #[.int .i64 a, .int .i64 b, .int .i64 d, .int .i64 s] 31)).alloc (.cells #[.slice A1 n c1] 35)).alloc (.cells #[.slice A2 m c2] 35)) := by (repeat (first | assumption | exact Q.refl _ | refine Q.alloc ?_ _ | refine Q.drewN ?_ _ | refine Q.drew ?_))
  have K1 := Lib.hid (fun wv (h1 : Rd wv A1 xs) (h2 : Rd wv A2 ys) => impl_CheckTimes a b d s A1 n c1 xs A2 m c2 ys wv h1 hn hn2 h2 hm hm2)
  by_cases hC : ctimC a b d s xs n ys m = 0
  · obtain ⟨hw, h1, h2⟩ := ctim_yes hC
    have lA1 := ha.lt3 hn h1
    have lA2 := hb.lt3 hm h2
    have hLn := ctimL_len a b d s xs n ys m
    rw [hC] at K1 ⊢
    have KD := Lib.hid (fun (A : Option Addr) (k c B : Nat) (wv w0 : World) ho h401 hB hq hN hst => run_DeleteFunc 20 #[.pointer (some ⟨w.heap.size, 0, none⟩), .pointer (some ⟨w.heap.size + 1, 0, none⟩), .pointer (some ⟨w.heap.size + 1 + 1, 0, none⟩)] (naR a d xs n ys m) (NC w.heap.size (w.heap.size + 1) (w.heap.size + 1 + 1) a b d s A1 n c1 xs A2 m c2 ys) A hst NC.q (enters_of Try.func20 (by kernel_rfl) rfl)
      (fun wz t hz => impl_clo _ _ _ a b d s A1 n c1 xs A2 m c2 ys hn h1 hm h2 hw wz t hz) k c B (ctimL a b d s xs n ys m) w0 wv ho h401 hB hq hN)
    have HT : Hid (ntL a b d s xs n ys m = (ctimL a b d s xs n ys m).filter (naR a d xs n ys m)) := Lib.hid rfl
    clear hn hm h1 h2 hw hC
    generalize ntL a b d s xs n ys m = N at *
    generalize ctimL a b d s xs n ys m = L at *
    go_enter Try.func8, Try.ntmps8
    go_wp2_with fail
    refine (K1.out _ (ha.q Q0) (hb.q Q0)).mono ?_
    rintro e1 w1 ⟨A, c, rfl, ho, q1⟩
    obtain ⟨b1, b2, b3⟩ := hB _ q1
    have Q1 := Q0.trans q1
    have z0 : (((w.alloc (.cells #[.int .i64 a, .int .i64 b, .int .i64 d, .int .i64 s] 31)).alloc (.cells #[.slice A1 n c1] 35)).alloc (.cells #[.slice A2 m c2] 35)).heap.size = w.heap.size + 1 + 1 + 1 := by simp
    have hgo := ho.from
    rw [z0] at ho hgo
    go_wp2_with fail
    refine (KD.out A L.length c _ w1 w ho (by omega) (by omega) Q1 ⟨b1, b2, b3, ha.q Q1, hb.q Q1⟩ (fun g hg => NC.stays (by have := hgo _ hg; simp only at this; omega) (by have := hgo _ hg; simp only at this; omega) (by have := hgo _ hg; simp only at this; omega) (fun a ha' => by have := lA1 a ha'; have := hgo _ hg; simp only at this; omega) (fun a ha' => by have := lA2 a ha'; have := hgo _ hg; simp only at this; omega))).mono ?_
    rintro e2 w2 ⟨A5, k5, c5, rfl, o5, q5⟩
    rw [← HT.out] at o5
    have hk5 : k5 = N.length := by have := o5.len; omega
    subst hk5
    go_wp2_with fail
    go_ret2
    exact ⟨A5, c5, rfl, o5.mono (by omega), q5⟩
  · have hL := ctim_no hC
    have hLL : ntL a b d s xs n ys m = [] := by unfold ntL; rw [hL]; rfl
    rw [hLL]
    rw [hL] at K1
    clear hL hLL hn hm
    generalize ctimC a b d s xs n ys m = C at *
    go_enter Try.func8, Try.ntmps8
    go_wp2_with fail
    refine (K1.out _ (ha.q Q0) (hb.q Q0)).mono ?_
    rintro e1 w1 ⟨A, c, rfl, ho, q1⟩
    go_wp2_with fail
    go_ret2
    exact RS.nil _ _ _ _ _ (Q0.trans q1)
set_option maxRecDepth 100000 in
set_option maxHeartbeats 2000000 in
theorem spec_NearTimes (a b d s : Int) (A1 : Option Addr) (n c1 : Nat) (xs : List Int) (A2 : Option Addr) (m c2 : Nat) (ys : List Int) (w : World) (ha : Rd w A1 xs) (hn : xs.length = n * 3) (hn2 : n ≤ 9223372036854775807) (hb : Rd w A2 ys) (hm : ys.length = m * 3) (hm2 : m ≤ 9223372036854775807) :
    Calls Try.prog 5 #[.agg #[.int .i64 a, .int .i64 b, .int .i64 d, .int .i64 s], .agg #[.slice A1 n c1], .agg #[.slice A2 m c2]] w (RS w 2 1 (ntL a b d s xs n ys m).length (ntL a b d s xs n ys m) (ctimC a b d s xs n ys m)) := by
  have hB := fun w1 (q : Q (((w.alloc (.cells #[.int .i64 a, .int .i64 b, .int .i64 d, .int .i64 s] 31)).alloc (.cells #[.slice A1 n c1] 35)).alloc (.cells #[.slice A2 m c2] 35)) w1) => (show Blk w1 w.heap.size 31 #[.int .i64 a, .int .i64 b, .int .i64 d, .int .i64 s] ∧ Blk w1 (w.heap.size + 1) 35 #[.slice A1 n c1] ∧ Blk w1 (w.heap.size + 1 + 1) 35 #[.slice A2 m c2] from ⟨q.boxB3, by simpa using q.boxB2, by simpa using q.boxB⟩)
  have Q0 : Q w (((w.alloc (.cells #[.int .i64 a, .int .i64 b, .int .i64 d, .int .i64 s] 31)).alloc (.cells #[.slice A1 n c1] 35)).alloc (.cells #[.slice A2 m c2] 35)) := by (repeat (first | assumption | exact Q.refl _ | refine Q.alloc ?_ _ | refine Q.drewN ?_ _ | refine Q.drew ?_))
  have K1 := Lib.hid (fun wv (h1 : Rd wv A1 xs) (h2 : Rd wv A2 ys) => spec_CheckTimes a b d s A1 n c1 xs A2 m c2 ys wv h1 hn hn2 h2 hm hm2)
  by_cases hC : ctimC a b d s xs n ys m = 0
  · obtain ⟨hw, h1, h2⟩ := ctim_yes hC
    have hLn := ctimL_len a b d s xs n ys m
    rw [hC] at K1 ⊢
    have KN := Lib.hid (fun t (wv : World) (h : Rd wv A1 xs) (h' : Rd wv A2 ys) => spec_near a b d s A1 n c1 xs A2 m c2 ys t wv h hn h1 h' hm h2 hw)
    unfold ntL
    rw [← fiTo_all]
    clear hn hm h1 h2 hw hC
    generalize naR a d xs n ys m = p at *
    generalize ctimL a b d s xs n ys m = L at *
    obtain ⟨N, hN⟩ : ∃ N, N = L.length := ⟨_, rfl⟩
    rw [← hN] at K1 hLn ⊢
    have HN := Lib.hid hN.symm
    clear hN
    go_enter Try.func5, Try.ntmps5
    go_wp2_with fail
    refine (K1.out _ (ha.q Q0) (hb.q Q0)).mono ?_
    rintro e1 w1 ⟨A, c, rfl, ho, q1⟩
    obtain ⟨b1, b2, b3⟩ := hB _ q1
    have Q1 := Q0.trans q1
    have hr := ho.rd
    clear hB ho
    go_wp2_with fail
    go_loopw [10, 11] (fun v i wr => ∃ k : Nat, k ≤ N ∧ i = .int .i64 k ∧ OwnL wr w1.heap.size 2 1 v (fiTo p L k) ∧ Q w1 wr) (fun _ i _ => N - (intOf i).toNat)
    case atStart => exact ⟨0, by omega, rfl, OwnL.new w1 _ _ (Nat.le_refl _), by (repeat (first | assumption | exact Q.refl _ | refine Q.alloc ?_ _ | refine Q.drewN ?_ _ | refine Q.drew ?_))⟩
    case round =>
      obtain ⟨k, hk, rfl, ⟨A5, k5, c5, rfl, hown⟩, hq⟩ := hrel
      have hlen : k5 ≤ k := by have := hown.len; have := fiTo_len p L k; omega
      have hqw : Q w wr := Q1.trans hq
      by_cases hlt : k < N
      · obtain ⟨bl, o, rfl, g0⟩ := (hr.q hq).at1 HN.out hlt
        have hltI : (k : Int) < (N : Int) := by omega
        have d1 := later_cells (b1.q hq).cell (b1.q hq).lt
        have d2 := later_cells (b2.q hq).cell (b2.q hq).lt
        have d3 := later_cells (b3.q hq).cell (b3.q hq).lt
        have d4 := later_cell g0
        obtain ⟨t, ht⟩ : ∃ t, t = el L k := ⟨_, rfl⟩
        rw [← ht] at d4 g0
        have HT := Lib.hid ht
        clear ht
        have hA := ha.q hqw
        have hA' := hb.q hqw
        have kn := fun (u : Later wr) => KN.out t u.val (hA.q u.q) (hA'.q u.q)
        cases hp : p t
        · rw [hp] at kn
          have KT := Lib.hid kn
          have HP := Lib.hid hp
          clear hp kn
          go_wp2_with fail
          refine wp_region_later_lit (by kernel_rfl) (by kernel_rfl) ?_
          repeat (any_goals (first | go_big_quiet_step ((go_at_call 16; exact later_call (KT.out _))) | quiet_step ((go_at_call 16; exact later_call (KT.out _))) | (refine wpQuiet_step (fun K hK => ?_); go_simp; split <;> (refine hK _ ?_; clear hK K))))
          all_goals (refine wpQuiet_nil ?_; rintro _ ⟨⟨w2, q2⟩, rfl⟩; try dsimp only)
          clear d1 d2 d3 d4
          go_wp2_with fail
          go_roundw
          case rel => exact ⟨k + 1, by omega, by go_num, by rw [fiTo_no (by rw [HN.out]; exact hlt) (by rw [← HT.out]; exact HP.out)]; exact ⟨_, _, _, rfl, hown.q q2⟩, hq.trans q2⟩
          case measure => simp [intOf]; omega
        · rw [hp] at kn
          have KT := Lib.hid kn
          have HP := Lib.hid hp
          clear hp kn
          go_wp2_with fail
          refine wp_region_later_lit (by kernel_rfl) (by kernel_rfl) ?_
          repeat (any_goals (first | go_big_quiet_step ((go_at_call 16; exact later_call (KT.out _))) | quiet_step ((go_at_call 16; exact later_call (KT.out _))) | (refine wpQuiet_step (fun K hK => ?_); go_simp; split <;> (refine hK _ ?_; clear hK K))))
          all_goals (refine wpQuiet_nil ?_; rintro _ ⟨⟨w2, q2⟩, rfl⟩; try dsimp only)
          clear d1 d2 d3 d4
          have g2 := q2.cell g0
          have hown2 := hown.q q2
          go_wp2_with (at_builtin; refine appK elInt64 rfl _ _ rfl [t] rfl hown2 rfl (by simp) rfl _ _ rfl (by omega) (hq.trans q2).size ?_; intro A' c' w' hown' hg' hgr')
          go_roundw
          case rel => exact ⟨k + 1, by omega, by go_num, by rw [fiTo_yes (by rw [HN.out]; exact hlt) (by rw [← HT.out]; exact HP.out), ← HT.out]; exact ⟨_, _, _, rfl, hown'⟩, (hq.trans q2).mark hown2 (Nat.le_refl _) hg'⟩
          case measure => simp [intOf]; omega
      · obtain rfl : k = N := by omega
        go_wp2_with fail
        go_ret2
        exact RS.mk' (hown.mono Q1.size) hqw (by simp) (by decide)
  · have hL := ctim_no hC
    have hLL : ntL a b d s xs n ys m = [] := by unfold ntL; rw [hL]; rfl
    rw [hLL]
    rw [hL] at K1
    clear hL hLL hn hm
    generalize ctimC a b d s xs n ys m = C at *
    go_enter Try.func5, Try.ntmps5
    go_wp2_with fail
    refine (K1.out _ (ha.q Q0) (hb.q Q0)).mono ?_
    rintro e1 w1 ⟨A, c, rfl, ho, q1⟩
    go_wp2_with fail
    go_ret2
    exact RS.nil _ _ _ _ _ (Q0.trans q1)
end Go.Proofs.Ytadljkdjlpmllaa
