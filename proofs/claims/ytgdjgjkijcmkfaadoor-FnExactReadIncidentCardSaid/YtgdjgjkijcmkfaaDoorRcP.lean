/- Plain laws: what the program finds in the words of an incident. No condition. -/
import Derived.Test.YtgdjgjkijcmkfaaDoorRnI
namespace Go.Proofs.YtgdjgjkijcmkfaaDoor
open Go.Lib
theorem nmS_inj {n m : Int} (h1 : 0 ≤ n ∧ n ≤ 1000000000) (h2 : 0 ≤ m ∧ m ≤ 1000000000) (h : nmS n = nmS m) : n = m := by
  rw [nmS_itoa h1.1, nmS_itoa h2.1] at h
  exact bsi_inj (by omega) (by omega) h
theorem incT_inj {t a b q r t' a' b' q' r' : Int} (h1 : isInc t a b q r = true) (h2 : isInc t' a' b' q' r' = true) (h : incT t a b q r = incT t' a' b' q' r') : t = t' ∧ a = a' ∧ b = b' ∧ q = q' ∧ r = r' := by
  have b1 := inc_bd h1
  have b2 := inc_bd h2
  by_cases hq : q = -1
  · have p1 := pcs_inc4 h1 hq
    rw [h] at p1
    by_cases hq' : q' = -1
    · rw [pcs_inc4 h2 hq'] at p1
      injection p1 with e1 p1
      injection p1 with e2 p1
      injection p1 with e3 p1
      injection p1 with e4 _
      exact ⟨(tmS_inj b2.1 b1.1 e1).symm, (nmS_inj (by omega) (by omega) e2).symm, (nmS_inj (by omega) (by omega) e3).symm, by omega, (rsn_inj (by omega) (by omega) e4).symm⟩
    · rw [pcs_inc5 h2 hq'] at p1
      have := congrArg List.length p1
      simp at this
  · have p1 := pcs_inc5 h1 hq
    rw [h] at p1
    by_cases hq' : q' = -1
    · rw [pcs_inc4 h2 hq'] at p1
      have := congrArg List.length p1
      simp at this
    · rw [pcs_inc5 h2 hq'] at p1
      injection p1 with e1 p1
      injection p1 with e2 p1
      injection p1 with e3 p1
      injection p1 with e4 p1
      injection p1 with e5 _
      exact ⟨(tmS_inj b2.1 b1.1 e1).symm, (nmS_inj (by omega) (by omega) e2).symm, (nmS_inj (by omega) (by omega) e3).symm, (nmS_inj (by omega) (by omega) e4).symm, (rsn_inj (by omega) (by omega) e5).symm⟩
/-- A text that is met is the one that is read. -/
theorem IncR.hit {s : ByteArray} {t a b q r t' a' b' q' r' : Int} {k : Bool} (h : IncR s t a b q r k) (h1 : isInc t' a' b' q' r' = true) (h2 : incT t' a' b' q' r' = s) : t = t' ∧ a = a' ∧ b = b' ∧ q = q' ∧ r = r' ∧ k = true := by
  rcases h with ⟨e1, e2, e3⟩ | ⟨_, _, _, _, _, _, e3⟩
  · obtain ⟨u1, u2, u3, u4, u5⟩ := incT_inj e2 h1 (by rw [h2, e3])
    exact ⟨u1, u2, u3, u4, u5, e1⟩
  · exact absurd h2.symm (e3 _ _ _ _ _ h1)
/-- The boat that has to keep clear, as the program reads it. -/
noncomputable def qI (r : List ByteArray) : Int := match r with
  | [z, _] => nvI z
  | _ => -1
theorem IncR.none {s x y z : ByteArray} {rest : List ByteArray} {t a b q r t1 : Int} {k k1 : Bool} (h : IncR s t a b q r k) (hw : pcs 32 s = x :: y :: z :: rest) (r1 : TimR x t1 k1)
    (hn : ∀ j : Int, 1 ≤ j → j ≤ 5 → ¬ (k1 = true ∧ isInc t1 (nvI y) (nvI z) (qI rest) j = true ∧ incT t1 (nvI y) (nvI z) (qI rest) j = s)) : t = 0 ∧ a = 0 ∧ b = 0 ∧ q = 0 ∧ r = 0 ∧ k = false := by
  rcases h with ⟨e1, e2, e3⟩ | ⟨e1, e2, e3, e4, e5, e6, _⟩
  · exfalso
    obtain ⟨k2, r2⟩ := nvI_spec y
    obtain ⟨k3, r3⟩ := nvI_spec z
    obtain ⟨u1, u2, u3, u4, _, _, u7⟩ := IncR.good readsI e2 e3 hw r1 r2 r3
    have hb := inc_bd e2
    have hqq : qI rest = q := by
      rcases u7 with ⟨v1, v2⟩ | ⟨v1, v2⟩
      · rw [v2, v1]; rfl
      · rw [v2]
        show nvI (nmS q) = q
        obtain ⟨k4, r4⟩ := nvI_spec (nmS q)
        exact (r4.nm readsI (by omega)).1
    refine hn r (by omega) (by omega) ⟨u4, ?_, ?_⟩
    · rw [u1, u2, u3, hqq]; exact e2
    · rw [u1, u2, u3, hqq]; exact e3.symm
  · exact ⟨e2, e3, e4, e5, e6, e1⟩
end Go.Proofs.YtgdjgjkijcmkfaaDoor
