/- Plain laws: which strings are the texts of finishes and of incidents. No condition. -/
import Derived.Test.YtgdjgjkijcmkfaaDoorRdR
import Derived.Test.YtgdjgjkijcmkfaaDoorTdA
namespace Go.Proofs.YtgdjgjkijcmkfaaDoor
open Go.Lib
theorem nmS_itoa {n : Int} (h : 0 ≤ n) : nmS n = bs (itoa n) := by
  unfold nmS itoa
  rw [if_neg (by omega)]
theorem nmS_no {c : UInt8} (hc : ¬ (48 ≤ c.toNat ∧ c.toNat ≤ 57)) (n : Int) : ∃ l, nmS n = bs l ∧ c ∉ l := ⟨decDigits n.toNat, rfl, dec_no hc _⟩
theorem pI_small {n : Int} (h : 0 ≤ n ∧ n ≤ 1000000000) : pI n := by
  refine ⟨by omega, by omega, ?_⟩
  unfold itoa
  rw [if_neg (by omega), decDigits_length]
  have := nDigits_le (k := 9) (n := n.toNat) (by omega)
  omega
theorem pS_small {n : Int} (h : 0 ≤ n ∧ n ≤ 1000000000) : pS n := ⟨by omega, by omega⟩
/-- The words that both sides read: numbers of at least 0 and up to 10^9 are read as what they are. -/
structure Reads (P : Int → Prop) : Prop where
  bd : ∀ n, P n → -9223372036854775808 ≤ n ∧ n ≤ 9223372036854775807
  small : ∀ n, 0 ≤ n ∧ n ≤ 1000000000 → P n
theorem readsI : Reads pI := ⟨fun _ h => pI_bd h, fun _ h => pI_small h⟩
theorem readsS : Reads pS := ⟨fun _ h => pS_bd h, fun _ h => pS_small h⟩
theorem NumR.nm {P : Int → Prop} (hP : Reads P) {n v : Int} {k : Bool} (h : NumR P (nmS n) v k) (hn : 0 ≤ n ∧ n ≤ 1000000000) : v = n ∧ k = true := by
  rw [nmS_itoa hn.1] at h
  exact h.yes hP.bd (hP.small n hn)
theorem codeOf_name {b : Int} (h : 0 ≤ b ∧ b ≤ 9) : codeOf (codeName b) = (b, true) := by
  obtain rfl | rfl | rfl | rfl | rfl | rfl | rfl | rfl | rfl | rfl : b = 0 ∨ b = 1 ∨ b = 2 ∨ b = 3 ∨ b = 4 ∨ b = 5 ∨ b = 6 ∨ b = 7 ∨ b = 8 ∨ b = 9 := by omega
  all_goals decide +kernel
theorem codeName_form {b : Int} (h : 0 ≤ b ∧ b ≤ 9) : ∃ l, codeName b = bs l ∧ (32 : UInt8) ∉ l := by
  obtain rfl | rfl | rfl | rfl | rfl | rfl | rfl | rfl | rfl | rfl : b = 0 ∨ b = 1 ∨ b = 2 ∨ b = 3 ∨ b = 4 ∨ b = 5 ∨ b = 6 ∨ b = 7 ∨ b = 8 ∨ b = 9 := by omega
  all_goals exact ⟨_, rfl, by decide⟩
/-- s is read as the finish a, b, c, with the mark k. -/
def FinR (s : ByteArray) (a b c : Int) (k : Bool) : Prop :=
  (k = true ∧ isFin a b c = true ∧ s = finT a b c) ∨ (k = false ∧ a = 0 ∧ b = 0 ∧ c = 0 ∧ ∀ x y z, isFin x y z = true → s ≠ finT x y z)
theorem FinR.ex (s : ByteArray) : ∃ a b c k, FinR s a b c k := by
  by_cases h : ∃ a b c, isFin a b c = true ∧ s = finT a b c
  · obtain ⟨a, b, c, h1, h2⟩ := h
    exact ⟨a, b, c, true, Or.inl ⟨rfl, h1, h2⟩⟩
  · exact ⟨0, 0, 0, false, Or.inr ⟨rfl, rfl, rfl, rfl, fun x y z h1 h2 => h ⟨x, y, z, h1, h2⟩⟩⟩
theorem finT_no {a b c : Int} (h : isFin a b c = false) : finT a b c = ⟨#[]⟩ := by unfold finT; rw [if_neg (by simp [h])]
theorem pcs_fin0 {a c : Int} (h : isFin a 0 c = true) : pcs 32 (finT a 0 c) = [nmS a, codeName 0, tmS c] := by
  obtain ⟨h1, h2, h3⟩ := fin_bd h
  obtain ⟨x, e1, n1⟩ := nmS_no (c := 32) (by decide) a
  obtain ⟨y, e2, n2⟩ := codeName_form h2
  obtain ⟨z, e3, n3, _⟩ := tmS_form h3
  unfold finT
  rw [if_pos h, if_pos rfl, e1, e2, e3]
  simp only [bs_app, List.append_assoc, List.cons_append, List.nil_append]
  rw [pcs_hit _ n1, pcs_hit _ n2, pcs_out n3]
theorem fin_c {a b c : Int} (h : isFin a b c = true) (hb : b ≠ 0) : c = 0 := by
  unfold isFin at h
  have := of_decide_eq_true h
  omega
theorem pcs_fin1 {a b c : Int} (h : isFin a b c = true) (hb : b ≠ 0) : pcs 32 (finT a b c) = [nmS a, codeName b] := by
  obtain ⟨h1, h2, h3⟩ := fin_bd h
  obtain ⟨x, e1, n1⟩ := nmS_no (c := 32) (by decide) a
  obtain ⟨y, e2, n2⟩ := codeName_form h2
  unfold finT
  rw [if_pos h, if_neg hb, e1, e2]
  simp only [bs_app, List.append_assoc, List.cons_append, List.nil_append]
  rw [pcs_hit _ n1, pcs_out n2]
theorem FinR.len {s : ByteArray} {a b c : Int} {k : Bool} (h : FinR s a b c k) (hn : (pcs 32 s).length < 2 ∨ 3 < (pcs 32 s).length) : a = 0 ∧ b = 0 ∧ c = 0 ∧ k = false := by
  rcases h with ⟨_, h2, h3⟩ | ⟨h1, h2, h3, h4, _⟩
  · by_cases hb : b = 0
    · subst hb
      rw [h3, pcs_fin0 h2] at hn
      simp at hn
    · rw [h3, pcs_fin1 h2 hb] at hn
      simp at hn
  · exact ⟨h2, h3, h4, h1⟩
/-- The time of a third word, if there is one. -/
def tOf (r : List ByteArray) (t : Int) : Prop := (r = [] ∧ t = 0) ∨ ∃ z l kk, r = z :: l ∧ TimR z t kk
/-- What both sides find, of two words or more. -/
theorem FinR.out {P : Int → Prop} (hP : Reads P) {s x y : ByteArray} {r : List ByteArray} {a b c : Int} {k : Bool} (h : FinR s a b c k) (hw : pcs 32 s = x :: y :: r) {v1 v2 t : Int} {k1 k2 : Bool} (r1 : NumR P x v1 k1) (r2 : codeOf y = (v2, k2)) (r3 : tOf r t) :
    (k1 = true ∧ k2 = true ∧ isFin v1 v2 t = true ∧ finT v1 v2 t = s ∧ a = v1 ∧ b = v2 ∧ c = t ∧ k = true) ∨ (finT v1 v2 t ≠ s ∧ a = 0 ∧ b = 0 ∧ c = 0 ∧ k = false) := by
  rcases h with ⟨h1, h2, h3⟩ | ⟨h1, h2, h3, h4, h5⟩
  · left
    obtain ⟨b1, b2, b3⟩ := fin_bd h2
    by_cases hb : b = 0
    · subst hb
      rw [h3, pcs_fin0 h2] at hw
      injection hw with e1 hw
      injection hw with e2 hw
      subst e1 e2 hw
      obtain ⟨r0, _⟩ | ⟨z, l, kk, r0, r3⟩ := r3
      · simp at r0
      injection r0 with r0 _
      subst r0
      obtain ⟨rfl, rfl⟩ := r1.nm hP (by omega)
      obtain ⟨rfl, _⟩ := r3.yes b3
      rw [codeOf_name b2] at r2
      injection r2 with e3 e4
      subst e3 e4
      exact ⟨rfl, rfl, h2, h3.symm, rfl, rfl, rfl, h1⟩
    · rw [h3, pcs_fin1 h2 hb] at hw
      injection hw with e1 hw
      injection hw with e2 hw
      subst e1 e2 hw
      have r3 : t = 0 := by
        rcases r3 with ⟨_, r3⟩ | ⟨z, l, kk, r0, _⟩
        · exact r3
        · simp at r0
      obtain ⟨rfl, rfl⟩ := r1.nm hP (by omega)
      rw [codeOf_name b2] at r2
      injection r2 with e3 e4
      subst e3 e4
      have hc := fin_c h2 hb
      subst hc r3
      exact ⟨rfl, rfl, h2, h3.symm, rfl, rfl, rfl, h1⟩
  · right
    refine ⟨fun he => ?_, h2, h3, h4, h1⟩
    cases hl : isFin v1 v2 t
    · rw [finT_no hl] at he
      rw [← he, pcs_nil] at hw
      simp at hw
    · exact h5 v1 v2 t hl he.symm
theorem FinR.text (a b c : Int) : FinR (finT a b c) (if isFin a b c then a else 0) (if isFin a b c then b else 0) (if isFin a b c then c else 0) (isFin a b c) := by
  cases h : isFin a b c
  · right
    refine ⟨rfl, rfl, rfl, rfl, fun x y z h1 h2 => ?_⟩
    rw [finT_no h] at h2
    by_cases hb : y = 0
    · subst hb
      have h3 := pcs_fin0 h1
      rw [← h2, pcs_nil] at h3
      simp at h3
    · have h3 := pcs_fin1 h1 hb
      rw [← h2, pcs_nil] at h3
      simp at h3
  · exact Or.inl ⟨rfl, h, rfl⟩
/-- s is read as the incident t, a, b, q, r, with the mark k. -/
def IncR (s : ByteArray) (t a b q r : Int) (k : Bool) : Prop :=
  (k = true ∧ isInc t a b q r = true ∧ s = incT t a b q r) ∨ (k = false ∧ t = 0 ∧ a = 0 ∧ b = 0 ∧ q = 0 ∧ r = 0 ∧ ∀ t a b q r, isInc t a b q r = true → s ≠ incT t a b q r)
theorem IncR.ex (s : ByteArray) : ∃ t a b q r k, IncR s t a b q r k := by
  by_cases h : ∃ t a b q r, isInc t a b q r = true ∧ s = incT t a b q r
  · obtain ⟨t, a, b, q, r, h1, h2⟩ := h
    exact ⟨t, a, b, q, r, true, Or.inl ⟨rfl, h1, h2⟩⟩
  · exact ⟨0, 0, 0, 0, 0, false, Or.inr ⟨rfl, rfl, rfl, rfl, rfl, rfl, fun t a b q r h1 h2 => h ⟨t, a, b, q, r, h1, h2⟩⟩⟩
theorem inc_bd {t a b q r : Int} (h : isInc t a b q r = true) : (0 ≤ t ∧ t ≤ 1000000000) ∧ 0 ≤ a ∧ a < b ∧ b < 16 ∧ ((q = a ∨ q = b) ∧ 1 ≤ r ∧ r ≤ 4 ∨ q = -1 ∧ r = 5) := by
  unfold isInc at h
  have := of_decide_eq_true h
  omega
theorem incT_no {t a b q r : Int} (h : isInc t a b q r = false) : incT t a b q r = ⟨#[]⟩ := by unfold incT; rw [if_neg (by simp [h])]
theorem rsn_form (r : Int) : ∃ l, rsn r = bs l ∧ (32 : UInt8) ∉ l := by
  unfold rsn
  split
  · exact ⟨_, rfl, by decide⟩
  split
  · exact ⟨_, rfl, by decide⟩
  split
  · exact ⟨_, rfl, by decide⟩
  split
  · exact ⟨_, rfl, by decide⟩
  · exact ⟨_, rfl, by decide⟩
theorem rsn_inj {r u : Int} (h1 : 1 ≤ r ∧ r ≤ 5) (h2 : 1 ≤ u ∧ u ≤ 5) (h : rsn r = rsn u) : r = u := by
  obtain rfl | rfl | rfl | rfl | rfl : r = 1 ∨ r = 2 ∨ r = 3 ∨ r = 4 ∨ r = 5 := by omega
  all_goals
    obtain rfl | rfl | rfl | rfl | rfl : u = 1 ∨ u = 2 ∨ u = 3 ∨ u = 4 ∨ u = 5 := by omega
    all_goals first | rfl | (exfalso; revert h; decide +kernel)
theorem pcs_inc4 {t a b q r : Int} (h : isInc t a b q r = true) (hq : q = -1) : pcs 32 (incT t a b q r) = [tmS t, nmS a, nmS b, rsn r] := by
  have hb := inc_bd h
  obtain ⟨x, e1, n1, _⟩ := tmS_form hb.1
  obtain ⟨y, e2, n2⟩ := nmS_no (c := 32) (by decide) a
  obtain ⟨z, e3, n3⟩ := nmS_no (c := 32) (by decide) b
  obtain ⟨u, e4, n4⟩ := rsn_form r
  unfold incT
  rw [if_pos h, if_pos hq, e1, e2, e3, e4]
  simp only [bs_app, List.append_assoc, List.cons_append, List.nil_append]
  rw [pcs_hit _ n1, pcs_hit _ n2, pcs_hit _ n3, pcs_out n4]
theorem pcs_inc5 {t a b q r : Int} (h : isInc t a b q r = true) (hq : q ≠ -1) : pcs 32 (incT t a b q r) = [tmS t, nmS a, nmS b, nmS q, rsn r] := by
  have hb := inc_bd h
  obtain ⟨x, e1, n1, _⟩ := tmS_form hb.1
  obtain ⟨y, e2, n2⟩ := nmS_no (c := 32) (by decide) a
  obtain ⟨z, e3, n3⟩ := nmS_no (c := 32) (by decide) b
  obtain ⟨v, e5, n5⟩ := nmS_no (c := 32) (by decide) q
  obtain ⟨u, e4, n4⟩ := rsn_form r
  unfold incT
  rw [if_pos h, if_neg hq, e1, e2, e3, e4, e5]
  simp only [bs_app, List.append_assoc, List.cons_append, List.nil_append]
  rw [pcs_hit _ n1, pcs_hit _ n2, pcs_hit _ n3, pcs_hit _ n5, pcs_out n4]
theorem IncR.len {s : ByteArray} {t a b q r : Int} {k : Bool} (h : IncR s t a b q r k) (hn : (pcs 32 s).length < 4 ∨ 5 < (pcs 32 s).length) : t = 0 ∧ a = 0 ∧ b = 0 ∧ q = 0 ∧ r = 0 ∧ k = false := by
  rcases h with ⟨_, h2, h3⟩ | ⟨h1, h2, h3, h4, h5, h6, _⟩
  · by_cases hb : q = -1
    · rw [h3, pcs_inc4 h2 hb] at hn
      simp at hn
    · rw [h3, pcs_inc5 h2 hb] at hn
      simp at hn
  · exact ⟨h2, h3, h4, h5, h6, h1⟩
/-- What is found of a good text of four or five words: the reading of its words. -/
theorem IncR.good {P : Int → Prop} (hP : Reads P) {s x y z : ByteArray} {rest : List ByteArray} {t a b q r : Int} (h2 : isInc t a b q r = true) (h3 : s = incT t a b q r) (hw : pcs 32 s = x :: y :: z :: rest) {t1 v1 v2 : Int} {k1 k2 k3 : Bool} (r1 : TimR x t1 k1) (r2 : NumR P y v1 k2) (r3 : NumR P z v2 k3) :
    t1 = t ∧ v1 = a ∧ v2 = b ∧ k1 = true ∧ k2 = true ∧ k3 = true ∧ (q = -1 ∧ rest = [rsn r] ∨ q ≠ -1 ∧ rest = [nmS q, rsn r]) := by
  have hb := inc_bd h2
  by_cases hq : q = -1
  · rw [h3, pcs_inc4 h2 hq] at hw
    injection hw with e1 hw
    injection hw with e2 hw
    injection hw with e3 hw
    subst e1 e2 e3
    obtain ⟨rfl, rfl⟩ := r1.yes hb.1
    obtain ⟨rfl, rfl⟩ := r2.nm hP (by omega)
    obtain ⟨rfl, rfl⟩ := r3.nm hP (by omega)
    exact ⟨rfl, rfl, rfl, rfl, rfl, rfl, Or.inl ⟨hq, hw.symm⟩⟩
  · rw [h3, pcs_inc5 h2 hq] at hw
    injection hw with e1 hw
    injection hw with e2 hw
    injection hw with e3 hw
    subst e1 e2 e3
    obtain ⟨rfl, rfl⟩ := r1.yes hb.1
    obtain ⟨rfl, rfl⟩ := r2.nm hP (by omega)
    obtain ⟨rfl, rfl⟩ := r3.nm hP (by omega)
    exact ⟨rfl, rfl, rfl, rfl, rfl, rfl, Or.inr ⟨hq, hw.symm⟩⟩
theorem incT_ne {t a b q r : Int} (h : isInc t a b q r = true) : incT t a b q r ≠ ⟨#[]⟩ := by
  intro he
  by_cases hq : q = -1
  · have := pcs_inc4 h hq
    rw [he, pcs_nil] at this
    simp at this
  · have := pcs_inc5 h hq
    rw [he, pcs_nil] at this
    simp at this
theorem IncR.text (t a b q r : Int) : IncR (incT t a b q r) (if isInc t a b q r then t else 0) (if isInc t a b q r then a else 0) (if isInc t a b q r then b else 0) (if isInc t a b q r then q else 0) (if isInc t a b q r then r else 0) (isInc t a b q r) := by
  cases h : isInc t a b q r
  · right
    refine ⟨rfl, rfl, rfl, rfl, rfl, rfl, fun t a b q r h1 h2 => ?_⟩
    rw [incT_no h] at h2
    exact incT_ne h1 h2.symm
  · exact Or.inl ⟨rfl, h, rfl⟩
end Go.Proofs.YtgdjgjkijcmkfaaDoor
