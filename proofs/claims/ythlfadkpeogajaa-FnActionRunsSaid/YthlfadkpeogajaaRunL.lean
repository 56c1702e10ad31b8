/- Walks: the law on runs of actions. No condition. -/
import Derived.Test.YthlfadkpeogajaaRuns
import Derived.Test.YthlfadkpeogajaaDice
namespace Go.Proofs.Ythlfadkpeogajaa
open Go.RowKit Go.WideShapes Go.ChangeShapes
theorem nextV_in {s a : Int} (h : nextC s a = 0) : 1 ≤ nextV s a ∧ nextV s a ≤ 7 := by
  have h1 := nextC_in h
  obtain ⟨m, rfl⟩ := Int.eq_ofNat_of_zero_le (show 0 ≤ s by omega)
  obtain ⟨k, rfl⟩ := Int.eq_ofNat_of_zero_le (show 0 ≤ a by omega)
  have : ∀ s : Fin 8, ∀ a : Fin 9, nextC (s.val : Int) (a.val : Int) = 0 → 1 ≤ nextV (s.val : Int) (a.val : Int) ∧ nextV (s.val : Int) (a.val : Int) ≤ 7 := by decide +kernel
  exact this ⟨m, by omega⟩ ⟨k, by omega⟩ h
theorem runA_cons_yes {s i a : Int} {r : List Int} (h : nextC s a = 0) : runA s i (a :: r) = runA (nextV s a) (i + 1) r := by rw [runA, if_pos h]
theorem runA_cons_no {s i a : Int} {r : List Int} (h : nextC s a ≠ 0) : runA s i (a :: r) = (s, i, nextC s a) := by rw [runA, if_neg h]
theorem runA_bd : ∀ (xs : List Int) (s i : Int), i ≤ (runA s i xs).2.1 ∧ (runA s i xs).2.1 ≤ i + xs.length
  | [], s, i => by simp [runA]
  | a :: r, s, i => by
    by_cases h : nextC s a = 0
    · rw [runA_cons_yes h]
      have := runA_bd r (nextV s a) (i + 1)
      simp only [List.length_cons]
      omega
    · rw [runA_cons_no h]
      simp only [List.length_cons]
      omega
theorem runA_shift : ∀ (xs : List Int) (s i d : Int), runA s (i + d) xs = ((runA s i xs).1, (runA s i xs).2.1 + d, (runA s i xs).2.2)
  | [], s, i, d => by simp [runA]
  | a :: r, s, i, d => by
    by_cases h : nextC s a = 0
    · rw [runA_cons_yes h, runA_cons_yes h, show i + d + 1 = i + 1 + d by omega]
      exact runA_shift r _ _ _
    · rw [runA_cons_no h, runA_cons_no h]
theorem runA_split : ∀ (xs : List Int) (s : Int) (k : Nat), (1 ≤ s ∧ s ≤ 7) → (k : Int) ≤ (runA s 0 xs).2.1 → (runA s 0 (xs.take k)).2.2 = 0 ∧ (1 ≤ (runA s 0 (xs.take k)).1 ∧ (runA s 0 (xs.take k)).1 ≤ 7) ∧ runA (runA s 0 (xs.take k)).1 0 (xs.drop k) = ((runA s 0 xs).1, (runA s 0 xs).2.1 - k, (runA s 0 xs).2.2)
  | xs, s, 0, hs, _ => by simp [runA, hs]
  | [], s, k + 1, hs, h => by simp [runA] at h; omega
  | a :: r, s, k + 1, hs, h => by
    by_cases h0 : nextC s a = 0
    · rw [runA_cons_yes h0] at h ⊢
      have e1 := runA_shift r (nextV s a) 0 1
      rw [e1] at h ⊢
      have ih := runA_split r (nextV s a) k (nextV_in h0) (by simp only at h; omega)
      rw [List.take_succ_cons, List.drop_succ_cons, runA_cons_yes h0]
      have e2 := runA_shift (r.take k) (nextV s a) 0 1
      rw [e2]
      refine ⟨ih.1, ih.2.1, ?_⟩
      rw [ih.2.2]
      simp only [Prod.mk.injEq, true_and, and_true]
      omega
    · rw [runA_cons_no h0] at h
      simp only at h
      omega
theorem runR_split {s : Int} {xs : List Int} (h3 : (runR s xs).2.2 ≠ 3) (h0 : (runR s xs).1 ≠ 0) : 0 ≤ (runR s xs).2.1 ∧ (runR s xs).2.1 ≤ xs.length ∧ xs.length ≤ 50 ∧
    ∀ k : Nat, (k : Int) ≤ (runR s xs).2.1 → (runR s (xs.take k)).2.2 = 0 ∧ runR (runR s (xs.take k)).1 (xs.drop k) = ((runR s xs).1, (runR s xs).2.1 - k, (runR s xs).2.2) := by
  unfold runR at h3 h0 ⊢
  by_cases hs : 1 ≤ s ∧ s ≤ 7
  · by_cases h50 : 50 < xs.length
    · rw [if_neg (by omega), if_pos h50] at h0
      exact absurd rfl h0
    · rw [if_neg (by omega), if_neg h50]
      have hb := runA_bd xs s 0
      refine ⟨hb.1, by omega, by omega, fun k hk => ?_⟩
      have := runA_split xs s k hs hk
      have ht : (xs.take k).length ≤ xs.length := by rw [List.length_take]; omega
      have hd : (xs.drop k).length ≤ xs.length := by rw [List.length_drop]; omega
      rw [if_neg (by omega), if_neg (by omega), if_neg (by omega), if_neg (by omega)]
      exact ⟨this.1, this.2.2⟩
  · rw [if_pos hs] at h0
    exact absurd rfl h0
theorem Rd.take {w : World} {A : Option Addr} {xs : List Int} (h : Rd w A xs) (k : Nat) : Rd w A (xs.take k) := by
  obtain ⟨b, o, hA, hc⟩ := h
  refine ⟨b, o, fun hp => hA (by rw [List.length_take] at hp; omega), fun j hj => ?_⟩
  rw [List.length_take] at hj
  rw [hc j (by omega), List.getD_eq_getElem?_getD, List.getD_eq_getElem?_getD, List.getElem?_take, if_pos (by omega)]
theorem Rd.drop {w : World} {b o : Nat} {xs : List Int} (h : Rd w (some ⟨b, o, none⟩) xs) (k : Nat) : Rd w (some ⟨b, o + k, none⟩) (xs.drop k) := by
  obtain ⟨b', o', hA, hc⟩ := h
  by_cases hx : 0 < (xs.drop k).length
  · rw [List.length_drop] at hx
    have e := hA (by omega)
    simp only [Option.some.injEq, Addr.mk.injEq, and_true] at e
    obtain ⟨rfl, rfl⟩ := e
    refine ⟨b, o + k, fun _ => rfl, fun j hj => ?_⟩
    rw [List.length_drop] at hj
    rw [show o + k + j = o + (k + j) by omega, hc (k + j) (by omega), List.getD_eq_getElem?_getD, List.getD_eq_getElem?_getD, List.getElem?_drop]
  · have : xs.drop k = [] := List.eq_nil_of_length_eq_zero (by omega)
    rw [this]
    exact Rd.nil _ _
set_option maxRecDepth 100000 in
set_option maxHeartbeats 4000000 in
theorem law_FnActionRuns (A : Option Addr) (n c : Nat) (hc : n ≤ c ∧ c ≤ maxLen) (w : World) (ha : Rd8 w A n) :
    Calls Try.prog 6 #[.slice A n c] w fun e w' => e = .returned (.bool true) ∧ Below w.heap.size w w' := by
  have hn : n ≤ 9223372036854775807 := by unfold maxLen at hc; omega
  clear hc
  have K0 := Lib.hid (fun wv => big_any A n c wv hn)
  by_cases h4 : 4096 < n
  · rw [decide_eq_true h4] at K0
    go_enter Try.func6, Try.ntmps6
    go_wp2_with (go_at_call 11; refine (K0.out _).mono ?_; rintro e w' ⟨rfl, rfl⟩)
    go_ret
    exact ⟨rfl, Q.refl _⟩
  · rw [decide_eq_false h4] at K0
    have hn4 : n ≤ 4096 := by omega
    have K1 := Lib.hid (fun wv (h : Rd8 wv A n) => spec_DrawRunActions A n c wv h (by omega))
    clear h4
    go_enter Try.func6, Try.ntmps6
    go_wp2_with (first | (go_at_call 11; refine (K0.out _).mono ?_; rintro e w' ⟨rfl, rfl⟩) | (go_at_call 32; refine (K1.out _ ha).mono ?_; rintro e w1 ⟨s, B, m, d, xs, rfl, o1, hm, q1⟩))
    clear K0 K1
    have hx := o1.len
    rw [Nat.mul_one] at hx
    have k2 := fun wv (h : Rd wv B xs) => impl_RunActions s B m d xs wv h hx (by omega)
    have k3 := fun wv (h : Rd wv B xs) => spec_RunActions s B m d xs wv h hx (by omega)
    have HS := Lib.hid (fun h3 h0 => runR_split (s := s) (xs := xs) h3 h0)
    obtain ⟨R, hR⟩ : ∃ R, R = runR s xs := ⟨_, rfl⟩
    rw [← hR] at k2 k3 HS
    obtain ⟨E, N, C⟩ := R
    clear hR
    simp only at k2 k3 HS
    have K2 := Lib.hid k2
    have K3 := Lib.hid k3
    clear k2 k3
    go_wp2_with fail
    refine (K2.out _ o1.rd).mono ?_
    rintro e w2 ⟨rfl, q2⟩
    have o2 := o1.q q2
    go_wp2_with fail
    refine (K3.out _ o2.rd).mono ?_
    rintro e w3 ⟨rfl, q3⟩
    have o3 := o2.q q3
    have Q3 := (q1.trans q2).trans q3
    clear o1 o2 q1 q2 q3
    by_cases hC3 : C = 3
    · have hb : (C == 3) = true := by simpa using hC3
      go_wp2_with fail
      all_goals (go_ret; exact ⟨rfl, Q3⟩)
    · have hb : (C == 3) = false := by simpa using hC3
      by_cases hE0 : E = 0
      · have hb2 : (E == 0) = true := by simpa using hE0
        go_wp2_with fail
        all_goals (go_ret; exact ⟨rfl, Q3⟩)
      · have hb2 : (E == 0) = false := by simpa using hE0
        obtain ⟨hN0, hN1, h50, hsp⟩ := HS.out hC3 hE0
        obtain ⟨N, rfl⟩ := Int.eq_ofNat_of_zero_le hN0
        have HSP := Lib.hid hsp
        clear HS hsp K2 K3 hE0 hC3
        go_wp2_with fail
        refine (roll_any A n c w3 (ha.q Q3) hn4).mono ?_
        rintro e w4 ⟨h, rfl, hh, hbl, q4⟩
        have kb := below_any A n c w3.heap.size (N + 1) h w3 w4 (ha.q Q3) q4 (Nat.le_refl _) hn4 hh hbl (by omega) (by omega)
        rw [show ((N + 1 : Nat) : Int) = (N : Int) + 1 by omega] at kb
        have KB := Lib.hid kb
        clear kb hbl
        go_wp2_with fail
        refine KB.out.mono ?_
        rintro e w5 ⟨k, rfl, hk, q5⟩
        clear KB hh
        have o5 := o3.q q5
        have Q5 := Q3.trans q5
        have hcap := o5.cap
        have hkm : k ≤ m := by omega
        have hkN := hk
        have HK := Lib.hid (HSP.out k (by omega))
        clear HSP o3 Q3 q5 q4
        rcases o5.2 with ⟨h', h0⟩ | ⟨gg, cap, cur, h', _⟩
        · injection h' with h1 h2 h3
          subst h1
          subst h2
          subst h3
          obtain rfl : k = 0 := by omega
          have r1 : Rd w5 none (xs.take 0) := Rd.nil _ _
          have hxe : xs.drop 0 = [] := List.eq_nil_of_length_eq_zero (by simpa using hx)
          have k6 := impl_RunActions s none 0 0 (xs.take 0) w5 r1 (by simp) (by omega)
          have k7 := fun Mi wv => impl_RunActions Mi none 0 0 (xs.drop 0) wv (by rw [hxe]; exact Rd.nil _ _) (by rw [hxe]; rfl) (by omega)
          have hk' := HK.out
          generalize runR s (xs.take 0) = R6 at k6 hk'
          obtain ⟨Mi, n1, c1⟩ := R6
          simp only at k6 hk'
          obtain ⟨hz, h2⟩ := hk'
          subst hz
          have k7 := k7 Mi
          rw [h2] at k7
          have K6 := Lib.hid k6
          have K7 := Lib.hid k7
          clear k6 k7 h2 HK hxe
          go_wp2_with fail
          refine K6.out.mono ?_
          rintro e w6 ⟨rfl, q6⟩
          go_wp2_with fail
          refine (K7.out _).mono ?_
          rintro e w7 ⟨rfl, q7⟩
          go_wp2_with fail
          go_ret
          exact ⟨ret_bool (by simp), (Q5.trans q6).trans q7⟩
        · injection h' with h1 h2 h3
          subst h1
          subst h3
          have r1 := o5.rd.take k
          have r2 := o5.rd.drop k
          have k6 := impl_RunActions s (some ⟨gg, 0, none⟩) k d (xs.take k) w5 r1 (by rw [List.length_take]; omega) (by omega)
          rw [Nat.zero_add] at r2
          have k7 := fun Mi wv (aa cc : Nat) (h : Rd wv (some ⟨gg, aa, none⟩) (xs.drop k)) => impl_RunActions Mi (some ⟨gg, aa, none⟩) (m - k) cc (xs.drop k) wv h (by rw [List.length_drop]; omega) (by omega)
          have hk' := HK.out
          generalize runR s (xs.take k) = R6 at k6 hk'
          obtain ⟨Mi, n1, c1⟩ := R6
          simp only at k6 hk'
          obtain ⟨hz, h2⟩ := hk'
          subst hz
          have k7 := k7 Mi
          rw [h2] at k7
          have K6 := Lib.hid k6
          have K7 := Lib.hid k7
          clear k6 k7 h2 HK
          go_wp2_with fail
          refine K6.out.mono ?_
          rintro e w6 ⟨rfl, q6⟩
          by_cases hdk : k < d
          · have hdkI : (k : Int) < (d : Int) := by omega
            have hne : ¬ d - k = 0 := by omega
            go_wp2_with fail
            refine (K7.out _ _ _ (r2.q q6)).mono ?_
            rintro e w7 ⟨rfl, q7⟩
            go_wp2_with fail
            go_ret
            exact ⟨ret_bool (by simp), (Q5.trans q6).trans q7⟩
          · obtain rfl : k = d := by omega
            obtain rfl : k = m := by omega
            have r3 : ∀ wv aa, Rd wv (some ⟨gg, aa, none⟩) (xs.drop k) := by
              intro wv aa
              rw [show xs.drop k = [] from List.eq_nil_of_length_eq_zero (by rw [List.length_drop]; omega)]
              exact Rd.nil _ _
            have hne : k - k = 0 := by omega
            have k8 := K7.out
            rw [Nat.sub_self] at k8
            have K8 := Lib.hid k8
            clear k8
            go_wp2_with fail
            refine (K8.out _ _ _ (r3 _ _)).mono ?_
            rintro e w7 ⟨rfl, q7⟩
            go_wp2_with fail
            go_ret
            exact ⟨ret_bool (by simp), (Q5.trans q6).trans q7⟩
end Go.Proofs.Ythlfadkpeogajaa
