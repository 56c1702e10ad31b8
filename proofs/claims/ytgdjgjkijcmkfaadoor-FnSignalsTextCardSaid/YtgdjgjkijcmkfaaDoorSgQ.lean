/- Plain laws: what is found in the words of a list of signals. No condition. -/
import Derived.Test.YtgdjgjkijcmkfaaDoorSgR
namespace Go.Proofs.YtgdjgjkijcmkfaaDoor
open Go.Lib
/-- The first j words are those of the signals xs. -/
def SgTo (P : List ByteArray) (j : Nat) (xs : List Int) : Prop := xs.length = j * 2 ∧ ∀ i, i < j → (1 ≤ el xs (i * 2) ∧ el xs (i * 2) ≤ 8) ∧ (-9223372036854775808 ≤ el xs (i * 2 + 1) ∧ el xs (i * 2 + 1) ≤ 9223372036854775807) ∧ P[i]? = some (sgW (el xs (i * 2)) (el xs (i * 2 + 1)))
theorem SgTo.zero (P : List ByteArray) : SgTo P 0 [] := ⟨rfl, fun i h => by omega⟩
theorem el_app_l {xs ys : List Int} {i : Nat} (h : i < xs.length) : el (xs ++ ys) i = el xs i := by
  unfold el
  simp [List.getD, List.getElem?_append_left h]
theorem el_app_r {xs ys : List Int} {i : Nat} : el (xs ++ ys) (xs.length + i) = el ys i := by
  unfold el
  simp [List.getD, List.getElem?_append_right]
theorem SgTo.step {P : List ByteArray} {j : Nat} {xs : List Int} {k t : Int} (h : SgTo P j xs) (hk : 1 ≤ k ∧ k ≤ 8) (ht : -9223372036854775808 ≤ t ∧ t ≤ 9223372036854775807) (hp : P[j]? = some (sgW k t)) : SgTo P (j + 1) (xs ++ [k, t]) := by
  obtain ⟨h1, h2⟩ := h
  refine ⟨by simp [h1]; omega, fun i hi => ?_⟩
  by_cases hij : i < j
  · rw [el_app_l (by omega), el_app_l (by omega)]
    exact h2 i hij
  · have hi2 : i = j := by omega
    subst hi2
    have e0 : el (xs ++ [k, t]) (i * 2) = k := by have := el_app_r (xs := xs) (ys := [k, t]) (i := 0); rw [h1] at this; exact this
    have e1 : el (xs ++ [k, t]) (i * 2 + 1) = t := by have := el_app_r (xs := xs) (ys := [k, t]) (i := 1); rw [h1] at this; exact this
    rw [e0, e1]
    exact ⟨hk, ht, hp⟩
theorem sgL_at {xs : List Int} {n i : Nat} (hi : i < n) : (sgL xs n)[i]? = some (sg1 xs i) := by
  unfold sgL
  simp [hi]
theorem SigR.fail {s p : ByteArray} {ys : List Int} {n j : Nat} {kk : Bool} (h : SigR s ys n kk) (hs : s ≠ ⟨#[]⟩) (hp : (pcs 32 s)[j]? = some p) (hb : (∀ k t, 1 ≤ k → k ≤ 8 → 0 ≤ t → t ≤ 1000000000 → p ≠ sgW k t) ∨ 40 ≤ j) : n = 0 ∧ ys = [] ∧ kk = false := by
  rcases h with ⟨e1, e2, e3, e4⟩ | ⟨e1, e2, e3, _⟩
  · exfalso
    rw [sgT_yes e3] at e4
    have hn : 0 < n := by
      rcases Nat.eq_zero_or_pos n with h0 | h0
      · subst h0; exact absurd e4 hs
      · exact h0
    rw [e4, pcs_join_sg e3 n (Nat.le_refl _) hn] at hp
    have hj : j < n := by
      have := (List.getElem?_eq_some_iff.1 hp).1
      rw [sgL_len] at this
      exact this
    rcases hb with hb | hb
    · rw [sgL_at hj] at hp
      injection hp with hp
      obtain ⟨h1, h2, h3⟩ := sig_at e3 hj
      rw [sg1_sgW h2] at hp
      exact hb _ _ h1.1 h1.2 h2 h3 hp.symm
    · have := sig_n e3
      omega
  · exact ⟨e2, e3, e1⟩
theorem el_ext {xs ys : List Int} (hl : xs.length = ys.length) (h : ∀ i, i < xs.length → el xs i = el ys i) : xs = ys := by
  refine List.ext_getElem hl fun i h1 h2 => ?_
  have := h i h1
  unfold el at this
  simpa [List.getD, h1, h2] using this
theorem SigR.fin {s : ByteArray} {xs ys : List Int} {n N : Nat} {kk : Bool} (h : SigR s ys n kk) (hs : s ≠ ⟨#[]⟩) (hN : (pcs 32 s).length = N) (ht : SgTo (pcs 32 s) N xs) : (sigOk xs N = true ∧ kk = true ∧ ys = xs ∧ n = N) ∨ (sigOk xs N = false ∧ kk = false ∧ ys = [] ∧ n = 0) := by
  have hN0 : 0 < N := by have := pcs_pos 32 s; omega
  obtain ⟨hl, ht⟩ := ht
  rcases h with ⟨e1, e2, e3, e4⟩ | ⟨e1, e2, e3, e4⟩
  · left
    rw [sgT_yes e3] at e4
    have hn : 0 < n := by
      rcases Nat.eq_zero_or_pos n with h0 | h0
      · subst h0; exact absurd e4 hs
      · exact h0
    have hp := pcs_join_sg e3 n (Nat.le_refl _) hn
    rw [← e4] at hp
    have hnN : n = N := by rw [hp, sgL_len] at hN; exact hN
    subst hnN
    have hxy : ys = xs := by
      refine el_ext (by rw [e2, hl]) fun i hi => ?_
      have hq : i / 2 < n := by omega
      obtain ⟨a1, a2, a3⟩ := ht (i / 2) hq
      rw [hp, sgL_at hq] at a3
      injection a3 with a3
      obtain ⟨b1, b2, b3⟩ := sig_at e3 hq
      rw [sg1_sgW b2] at a3
      obtain ⟨c1, c2⟩ := sgW_inj b1 a1 (by omega) a2 a3
      rcases (show i = i / 2 * 2 ∨ i = i / 2 * 2 + 1 by omega) with hi2 | hi2
      · rw [hi2]; exact c1
      · rw [hi2]; exact c2
    subst hxy
    exact ⟨e3, e1, rfl, rfl⟩
  · right
    refine ⟨?_, e1, e3, e2⟩
    cases hok : sigOk xs N
    · rfl
    · exfalso
      refine e4 xs N hl hok ?_
      rw [sgT_yes hok, ← sg_join xs N]
      have hP : pcs 32 s = sgL xs N := by
        refine List.ext_getElem? fun i => ?_
        by_cases hi : i < N
        · rw [sgL_at hi, (ht i hi).2.2, sg1_sgW (sig_at hok hi).2.1]
        · rw [List.getElem?_eq_none (by omega), List.getElem?_eq_none (by rw [sgL_len]; omega)]
      rw [← hP]
      have := pcs_join 32 s
      rw [show (bs [32]).data.toList = [32] from bs_data _]
      exact this.symm
  
theorem SigR.nil {ys : List Int} {n : Nat} {kk : Bool} (h : SigR ⟨#[]⟩ ys n kk) : kk = true ∧ ys = [] ∧ n = 0 := by
  rcases h with ⟨e1, e2, e3, e4⟩ | ⟨_, _, _, e4⟩
  · rcases Nat.eq_zero_or_pos n with h0 | h0
    · subst h0
      exact ⟨e1, List.length_eq_zero_iff.1 (by omega), rfl⟩
    · rw [sgT_yes e3] at e4
      exact absurd e4.symm (sgP_ne e3 h0)
  · exact absurd rfl (e4 [] 0 rfl (by decide))
end Go.Proofs.YtgdjgjkijcmkfaaDoor
