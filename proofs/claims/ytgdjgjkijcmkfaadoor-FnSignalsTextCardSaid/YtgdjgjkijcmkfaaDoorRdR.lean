/- Plain laws: which strings are the texts of numbers, times, limits. No condition. -/
import Derived.Test.YtgdjgjkijcmkfaaDoorRdP
import Derived.Test.YtgdjgjkijcmkfaaDoorIncT
import Derived.Test.YtgdjgjkijcmkfaaDoorTxtC
namespace Go.Proofs.YtgdjgjkijcmkfaaDoor
open Go.Lib
/-- s is read as the number v, with the mark k. -/
def NumR (P : Int → Prop) (s : ByteArray) (v : Int) (k : Bool) : Prop :=
  (k = true ∧ P v ∧ s = bs (itoa v)) ∨ (k = false ∧ v = 0 ∧ ∀ n, P n → s ≠ bs (itoa n))
theorem NumR.ex (P : Int → Prop) (s : ByteArray) : ∃ v k, NumR P s v k := by
  by_cases h : ∃ n, P n ∧ s = bs (itoa n)
  · obtain ⟨n, h1, h2⟩ := h
    exact ⟨n, true, Or.inl ⟨rfl, h1, h2⟩⟩
  · exact ⟨0, false, Or.inr ⟨rfl, rfl, fun n h1 h2 => h ⟨n, h1, h2⟩⟩⟩
/-- The numbers that the program reads. -/
def pI (n : Int) : Prop := -9223372036854775808 ≤ n ∧ n ≤ 9223372036854775807 ∧ (itoa n).length ≤ 19
/-- The numbers that the reference reads. -/
def pS (n : Int) : Prop := -1000000000000000 < n ∧ n < 1000000000000000
theorem bsi_inj {n m : Int} (h0 : -9223372036854775808 ≤ n ∧ n ≤ 9223372036854775807) (h1 : -9223372036854775808 ≤ m ∧ m ≤ 9223372036854775807) (h : bs (itoa n) = bs (itoa m)) : n = m := itoa_inj h0.1 h0.2 h1.1 h1.2 (bs_inj h)
theorem pI_bd {n : Int} (h : pI n) : -9223372036854775808 ≤ n ∧ n ≤ 9223372036854775807 := ⟨h.1, h.2.1⟩
theorem pS_bd {n : Int} (h : pS n) : -9223372036854775808 ≤ n ∧ n ≤ 9223372036854775807 := by unfold pS at h; omega
theorem NumR.bd {P : Int → Prop} (hP : ∀ n, P n → -9223372036854775808 ≤ n ∧ n ≤ 9223372036854775807) {s : ByteArray} {v : Int} {k : Bool} (h : NumR P s v k) : -9223372036854775808 ≤ v ∧ v ≤ 9223372036854775807 := by
  rcases h with ⟨_, h, _⟩ | ⟨_, rfl, _⟩
  · exact hP _ h
  · omega
theorem NumR.yes {P : Int → Prop} (hP : ∀ n, P n → -9223372036854775808 ≤ n ∧ n ≤ 9223372036854775807) {v n : Int} {k : Bool} (h : NumR P (bs (itoa n)) v k) (hn : P n) : v = n ∧ k = true := by
  rcases h with ⟨h1, h2, h3⟩ | ⟨_, _, h3⟩
  · exact ⟨bsi_inj (hP _ h2) (hP _ hn) h3.symm, h1⟩
  · exact absurd rfl (h3 n hn)
theorem NumR.no {P : Int → Prop} {s : ByteArray} {v : Int} {k : Bool} (h : NumR P s v k) (hn : ∀ n, P n → s ≠ bs (itoa n)) : v = 0 ∧ k = false := by
  rcases h with ⟨_, h2, h3⟩ | ⟨h1, h2, _⟩
  · exact absurd h3 (hn _ h2)
  · exact ⟨h2, h1⟩
theorem itoa_ne (n : Int) : itoa n ≠ [] := by
  unfold itoa
  split
  · simp
  · exact dec_ne _
/-- What the program's reading of a number finds. -/
theorem num_ok {s : ByteArray} {v x : Int} {k : Bool} (h : NumR pI s v k) (hx : -9223372036854775808 ≤ x ∧ x ≤ 9223372036854775807) (hs : s.size ≤ 19) (he : bs (itoa x) = s) : v = x ∧ k = true := by
  subst he
  rw [bs_size] at hs
  exact h.yes (fun n hn => pI_bd hn) ⟨hx.1, hx.2, hs⟩
theorem num_bad {s : ByteArray} {v : Int} {k : Bool} (h : NumR pI s v k) (hb : ∀ x, -9223372036854775808 ≤ x ∧ x ≤ 9223372036854775807 → parseIntB 64 s.data.toList = .ok x → s.size ≤ 19 → bs (itoa x) ≠ s) : v = 0 ∧ k = false := by
  refine h.no fun n hn he => ?_
  subst he
  exact hb n (pI_bd hn) (by rw [bs_data]; exact parse_itoa n hn.1 hn.2.1) (by rw [bs_size]; exact hn.2.2) rfl
/-- s is read as the time t, with the mark k. -/
def TimR (s : ByteArray) (t : Int) (k : Bool) : Prop :=
  (k = true ∧ 0 ≤ t ∧ t ≤ 1000000000 ∧ s = tmS t) ∨ (k = false ∧ t = 0 ∧ ∀ u, 0 ≤ u → u ≤ 1000000000 → s ≠ tmS u)
theorem TimR.ex (s : ByteArray) : ∃ t k, TimR s t k := by
  by_cases h : ∃ t, 0 ≤ t ∧ t ≤ 1000000000 ∧ s = tmS t
  · obtain ⟨n, h1, h2⟩ := h
    exact ⟨n, true, Or.inl ⟨rfl, h1, h2⟩⟩
  · exact ⟨0, false, Or.inr ⟨rfl, rfl, fun n h1 h2 h3 => h ⟨n, h1, h2, h3⟩⟩⟩
theorem tmS_inj {t u : Int} (h1 : 0 ≤ t ∧ t ≤ 1000000000) (h2 : 0 ≤ u ∧ u ≤ 1000000000) (h : tmS t = tmS u) : t = u := by
  obtain ⟨n, rfl⟩ := Int.eq_ofNat_of_zero_le h1.1
  obtain ⟨m, rfl⟩ := Int.eq_ofNat_of_zero_le h2.1
  rw [tmS_nat (by omega), tmS_nat (by omega)] at h
  rw [tmL_inj (bs_inj h)]
theorem TimR.bd {s : ByteArray} {t : Int} {k : Bool} (h : TimR s t k) : 0 ≤ t ∧ t ≤ 1000000000 := by
  rcases h with ⟨_, h1, h2, _⟩ | ⟨_, rfl, _⟩ <;> omega
theorem TimR.yes {t u : Int} {k : Bool} (h : TimR (tmS u) t k) (hu : 0 ≤ u ∧ u ≤ 1000000000) : t = u ∧ k = true := by
  rcases h with ⟨h1, h2, h3, h4⟩ | ⟨_, _, h3⟩
  · exact ⟨tmS_inj ⟨h2, h3⟩ hu h4.symm, h1⟩
  · exact absurd rfl (h3 u hu.1 hu.2)
theorem TimR.no {s : ByteArray} {t : Int} {k : Bool} (h : TimR s t k) (hn : ∀ u, 0 ≤ u → u ≤ 1000000000 → s ≠ tmS u) : t = 0 ∧ k = false := by
  rcases h with ⟨_, h2, h3, h4⟩ | ⟨h1, h2, _⟩
  · exact absurd h4 (hn _ h2 h3)
  · exact ⟨h2, h1⟩
theorem tmL_no {c : UInt8} (hc : ¬ (48 ≤ c.toNat ∧ c.toNat ≤ 57)) (h1 : c ≠ 58) (h2 : c ≠ 46) (t : Nat) : c ∉ tmL t := by
  unfold tmL
  simp [dec_no hc, lastD_no hc, h1, h2]
theorem tmS_form {t : Int} (h : 0 ≤ t ∧ t ≤ 1000000000) : ∃ l, tmS t = bs l ∧ (32 : UInt8) ∉ l ∧ 8 ≤ l.length := by
  obtain ⟨n, rfl⟩ := Int.eq_ofNat_of_zero_le h.1
  exact ⟨tmL n, tmS_nat (by omega), tmL_no (by decide) (by decide) (by decide) n, (tmL_len (by omega)).1⟩
theorem cut_tm (n : Nat) : cut (tmL n) [58] = (decDigits (n / 60000), lastD 2 (n / 1000 % 60) ++ (46 :: lastD 3 (n % 1000)), true) := cut_hit _ (dec_no (by decide) _)
theorem rest_tm (a b : Nat) : (bs (lastD 2 a ++ (46 :: lastD 3 b))).size = 6 ∧ (bs (lastD 2 a ++ (46 :: lastD 3 b))).extract 0 2 = bs (lastD 2 a) ∧ (bs (lastD 2 a ++ (46 :: lastD 3 b))).extract 3 6 = bs (lastD 3 b) := by
  refine ⟨by rw [bs_size]; simp [lastD_len], ?_, ?_⟩
  · rw [extract_eq, bs_data]
    show bs _ = bs _
    congr 1
  · rw [extract_eq, bs_data]
    show bs _ = bs _
    congr 1
theorem cut_empty : cut [] [58] = ([], [], false) := rfl
/-- s is read as the limits a, b, c, with the mark k. -/
def LimR (s : ByteArray) (a b c : Int) (k : Bool) : Prop :=
  (k = true ∧ isLim a b c = true ∧ s = limT a b c) ∨ (k = false ∧ a = 0 ∧ b = 0 ∧ c = 0 ∧ ∀ x y z, isLim x y z = true → s ≠ limT x y z)
theorem LimR.ex (s : ByteArray) : ∃ a b c k, LimR s a b c k := by
  by_cases h : ∃ a b c, isLim a b c = true ∧ s = limT a b c
  · obtain ⟨a, b, c, h1, h2⟩ := h
    exact ⟨a, b, c, true, Or.inl ⟨rfl, h1, h2⟩⟩
  · exact ⟨0, 0, 0, false, Or.inr ⟨rfl, rfl, rfl, rfl, fun x y z h1 h2 => h ⟨x, y, z, h1, h2⟩⟩⟩
theorem limT_yes {a b c : Int} (h : isLim a b c = true) : limT a b c = tmS a ++ bs [32] ++ tmS b ++ bs [32] ++ tmS c := by unfold limT; rw [if_pos h]
theorem limT_no {a b c : Int} (h : isLim a b c = false) : limT a b c = ⟨#[]⟩ := by unfold limT; rw [if_neg (by simp [h])]
theorem pcs_lim {a b c : Int} (h : isLim a b c = true) : pcs 32 (limT a b c) = [tmS a, tmS b, tmS c] := by
  obtain ⟨h1, h2, h3⟩ := lim_bd h
  obtain ⟨x, e1, n1, _⟩ := tmS_form h1
  obtain ⟨y, e2, n2, _⟩ := tmS_form h2
  obtain ⟨z, e3, n3, _⟩ := tmS_form h3
  rw [limT_yes h, e1, e2, e3]
  simp only [bs_app, List.append_assoc, List.cons_append, List.nil_append]
  rw [pcs_hit _ n1, pcs_hit _ n2, pcs_out n3]
theorem pcs_nil (c : UInt8) : pcs c ⟨#[]⟩ = [⟨#[]⟩] := rfl
theorem LimR.len {s : ByteArray} {a b c : Int} {k : Bool} (h : LimR s a b c k) (hn : (pcs 32 s).length ≠ 3) : a = 0 ∧ b = 0 ∧ c = 0 ∧ k = false := by
  rcases h with ⟨_, h2, h3⟩ | ⟨h1, h2, h3, h4, _⟩
  · rw [h3, pcs_lim h2] at hn
    exact absurd rfl hn
  · exact ⟨h2, h3, h4, h1⟩
theorem LimR.out {s x y z : ByteArray} {a b c : Int} {k : Bool} (h : LimR s a b c k) (hw : pcs 32 s = [x, y, z]) {t1 t2 t3 : Int} {k1 k2 k3 : Bool} (r1 : TimR x t1 k1) (r2 : TimR y t2 k2) (r3 : TimR z t3 k3) :
    (k1 = true ∧ k2 = true ∧ k3 = true ∧ isLim t1 t2 t3 = true ∧ limT t1 t2 t3 = s ∧ a = t1 ∧ b = t2 ∧ c = t3 ∧ k = true) ∨ ((k1 = false ∨ k2 = false ∨ k3 = false ∨ isLim t1 t2 t3 = false ∧ limT t1 t2 t3 ≠ s) ∧ a = 0 ∧ b = 0 ∧ c = 0 ∧ k = false) := by
  rcases h with ⟨h1, h2, h3⟩ | ⟨h1, h2, h3, h4, h5⟩
  · left
    rw [h3, pcs_lim h2] at hw
    obtain ⟨b1, b2, b3⟩ := lim_bd h2
    injection hw with e1 hw
    injection hw with e2 hw
    injection hw with e3 _
    subst e1 e2 e3
    obtain ⟨rfl, rfl⟩ := r1.yes b1
    obtain ⟨rfl, rfl⟩ := r2.yes b2
    obtain ⟨rfl, rfl⟩ := r3.yes b3
    exact ⟨rfl, rfl, rfl, h2, h3.symm, rfl, rfl, rfl, h1⟩
  · right
    refine ⟨?_, h2, h3, h4, h1⟩
    rcases r1 with ⟨rfl, _, _, rfl⟩ | ⟨rfl, _, _⟩
    · rcases r2 with ⟨rfl, _, _, rfl⟩ | ⟨rfl, _, _⟩
      · rcases r3 with ⟨rfl, _, _, rfl⟩ | ⟨rfl, _, _⟩
        · cases hl : isLim t1 t2 t3
          · refine Or.inr (Or.inr (Or.inr ⟨rfl, fun he => ?_⟩))
            rw [limT_no hl] at he
            rw [← he, pcs_nil] at hw
            simp at hw
          · exact absurd (by rw [limT_yes hl, pcs_3 hw]) (h5 t1 t2 t3 hl)
        · exact Or.inr (Or.inr (Or.inl rfl))
      · exact Or.inr (Or.inl rfl)
    · exact Or.inl rfl
theorem LimR.text (a b c : Int) : LimR (limT a b c) (if isLim a b c then a else 0) (if isLim a b c then b else 0) (if isLim a b c then c else 0) (isLim a b c) := by
  cases h : isLim a b c
  · right
    refine ⟨rfl, rfl, rfl, rfl, fun x y z h1 h2 => ?_⟩
    rw [limT_no h] at h2
    have h3 := pcs_lim h1
    rw [← h2, pcs_nil] at h3
    simp at h3
  · exact Or.inl ⟨rfl, h, rfl⟩
end Go.Proofs.YtgdjgjkijcmkfaaDoor
