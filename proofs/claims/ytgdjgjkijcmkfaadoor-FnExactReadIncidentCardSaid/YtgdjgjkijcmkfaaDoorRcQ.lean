/- Plain laws: what the reference finds in the words of an incident. No condition. -/
import Derived.Test.YtgdjgjkijcmkfaaDoorRcP
namespace Go.Proofs.YtgdjgjkijcmkfaaDoor
open Go.Lib
theorem IncR.bad {s : ByteArray} {t a b q r t1 v1 v2 v3 v4 : Int} {k : Bool} (h : IncR s t a b q r k) (hl : 4 ≤ (pcs 32 s).length) (hk : k = false) : incT t1 v1 v2 v3 v4 ≠ s ∧ t = 0 ∧ a = 0 ∧ b = 0 ∧ q = 0 ∧ r = 0 ∧ k = false := by
  rcases h with ⟨e1, _, _⟩ | ⟨e1, e2, e3, e4, e5, e6, e7⟩
  · rw [hk] at e1; cases e1
  · refine ⟨fun he => ?_, e2, e3, e4, e5, e6, e1⟩
    cases hi : isInc t1 v1 v2 v3 v4
    · rw [incT_no hi] at he
      rw [← he, pcs_nil] at hl
      simp at hl
    · exact e7 _ _ _ _ _ hi he.symm
theorem IncR.out4 {s x y z u : ByteArray} {t a b q r t1 v1 v2 : Int} {k k1 k2 k3 : Bool} (h : IncR s t a b q r k) (hw : pcs 32 s = [x, y, z, u]) (r1 : TimR x t1 k1) (r2 : NumR pS y v1 k2) (r3 : NumR pS z v2 k3) :
    (k1 = true ∧ k2 = true ∧ k3 = true ∧ incT t1 v1 v2 (-1) 5 = s ∧ t = t1 ∧ a = v1 ∧ b = v2 ∧ q = -1 ∧ r = 5 ∧ k = true) ∨ (incT t1 v1 v2 (-1) 5 ≠ s ∧ t = 0 ∧ a = 0 ∧ b = 0 ∧ q = 0 ∧ r = 0 ∧ k = false) := by
  cases hk : k
  · subst hk; exact Or.inr (h.bad (by rw [hw]; simp) rfl)
  · subst hk
    rcases h with ⟨_, e2, e3⟩ | ⟨e1, _⟩
    · obtain ⟨u1, u2, u3, u4, u5, u6, u7⟩ := IncR.good readsS e2 e3 hw r1 r2 r3
      have hb := inc_bd e2
      rcases u7 with ⟨hq, _⟩ | ⟨_, hr⟩
      · have hr5 : r = 5 := by omega
        subst u1 u2 u3 hq hr5
        exact Or.inl ⟨u4, u5, u6, e3.symm, rfl, rfl, rfl, rfl, rfl, rfl⟩
      · simp at hr
    · cases e1
/-- What the reference's search for the reason has found behind j words. -/
def Rsn (v : ByteArray) (j : Nat) (rv : Int) : Prop := (∃ m : Nat, m < j ∧ rv = (m : Int) + 1 ∧ rsn ((m : Int) + 1) = v) ∨ (rv = 5 ∧ ∀ m : Nat, m < j → rsn ((m : Int) + 1) ≠ v)
theorem Rsn.zero (v : ByteArray) : Rsn v 0 5 := Or.inr ⟨rfl, fun m h => by omega⟩
theorem Rsn.hit {v : ByteArray} {j : Nat} (h : rsn ((j : Int) + 1) = v) : Rsn v (j + 1) ((j : Int) + 1) := Or.inl ⟨j, by omega, rfl, h⟩
theorem Rsn.miss {v : ByteArray} {j : Nat} {rv : Int} (h0 : Rsn v j rv) (h : rsn ((j : Int) + 1) ≠ v) : Rsn v (j + 1) rv := by
  rcases h0 with ⟨m, h1, h2, h3⟩ | ⟨h1, h2⟩
  · exact Or.inl ⟨m, by omega, h2, h3⟩
  · refine Or.inr ⟨h1, fun m hm => ?_⟩
    by_cases hj : m = j
    · subst hj; exact h
    · exact h2 m (by omega)
theorem Rsn.bd {v : ByteArray} {j : Nat} {rv : Int} (h : Rsn v j rv) (hj : j ≤ 4) : 1 ≤ rv ∧ rv ≤ 5 := by
  rcases h with ⟨m, h1, h2, _⟩ | ⟨h1, _⟩ <;> omega
theorem IncR.out5 {s x y z u v : ByteArray} {t a b q r t1 v1 v2 v3 rv : Int} {k k1 k2 k3 k4 : Bool} (h : IncR s t a b q r k) (hw : pcs 32 s = [x, y, z, u, v]) (r1 : TimR x t1 k1) (r2 : NumR pS y v1 k2) (r3 : NumR pS z v2 k3) (r4 : NumR pS u v3 k4) (r5 : Rsn v 4 rv) :
    (k1 = true ∧ k2 = true ∧ k3 = true ∧ incT t1 v1 v2 v3 rv = s ∧ t = t1 ∧ a = v1 ∧ b = v2 ∧ q = v3 ∧ r = rv ∧ k = true) ∨ (incT t1 v1 v2 v3 rv ≠ s ∧ t = 0 ∧ a = 0 ∧ b = 0 ∧ q = 0 ∧ r = 0 ∧ k = false) := by
  cases hk : k
  · subst hk; exact Or.inr (h.bad (by rw [hw]; simp) rfl)
  · subst hk
    rcases h with ⟨_, e2, e3⟩ | ⟨e1, _⟩
    · obtain ⟨u1, u2, u3, u4, u5, u6, u7⟩ := IncR.good readsS e2 e3 hw r1 r2 r3
      have hb := inc_bd e2
      rcases u7 with ⟨_, hr⟩ | ⟨hq, hr⟩
      · simp at hr
      · injection hr with e4 hr
        injection hr with e5 _
        subst e4 e5
        obtain ⟨rfl, _⟩ := r4.nm readsS (by omega)
        have hrr : r = rv := by
          rcases r5 with ⟨m, h1, h2, h3⟩ | ⟨h1, h2⟩
          · rw [h2]
            exact rsn_inj (by omega) (by omega) h3.symm
          · exfalso
            have hm : r = ((r - 1).toNat : Int) + 1 := by omega
            exact h2 (r - 1).toNat (by omega) (by rw [← hm])
        subst u1 u2 u3 hrr
        exact Or.inl ⟨u4, u5, u6, e3.symm, rfl, rfl, rfl, rfl, rfl, rfl⟩
    · cases e1
end Go.Proofs.YtgdjgjkijcmkfaaDoor
