/- Plain laws: the sign and the digits of a numeral. No condition. -/
import Derived.Test.YtgdjgjkijcmkfaaDoorRdF
namespace Go.Proofs.YtgdjgjkijcmkfaaDoor
open Go.Lib
/-- A string begins with a minus sign. -/
def negS (s : ByteArray) : Bool := s.data.toList.head? == some 45
/-- What stands behind the sign. -/
def dS (s : ByteArray) : ByteArray := if negS s then s.extract 1 s.size else s
theorem dS_itoa (m : Int) : dS (bs (itoa m)) = bs (decDigits m.natAbs) ∧ (negS (bs (itoa m)) = true ↔ m < 0) := by
  unfold itoa
  by_cases h : m < 0
  · rw [if_pos h]
    have hn : negS (bs (45 :: decDigits m.natAbs)) = true := by unfold negS; rw [bs_data]; rfl
    refine ⟨?_, by simp [hn, h]⟩
    unfold dS
    rw [if_pos hn, extract_eq, bs_data, bs_size]
    show bs _ = bs _
    congr 1
    rw [List.drop_one, List.tail_cons]
    exact List.take_of_length_le (by simp)
  · rw [if_neg h]
    have hn : negS (bs (decDigits m.toNat)) = false := by
      unfold negS
      rw [bs_data]
      have h1 := dec_mem m.toNat m.toNat (Nat.le_refl _)
      generalize decDigits m.toNat = D at h1
      cases D with
      | nil => rfl
      | cons b l =>
        have := h1 b (by simp)
        simp only [List.head?_cons, beq_eq_false_iff_ne, ne_eq, Option.some.injEq]
        intro e
        subst e
        simp at this
    refine ⟨?_, by simp [hn, h]⟩
    unfold dS
    rw [if_neg (by simp [hn]), show m.natAbs = m.toNat by omega]
theorem dS_size (s : ByteArray) : (negS s = true → (dS s).size + 1 = s.size) ∧ (negS s = false → dS s = s) := by
  refine ⟨fun h => ?_, fun h => by unfold dS; rw [if_neg (by simp [h])]⟩
  unfold dS
  rw [if_pos h, ByteArray.size_extract]
  have : 0 < s.size := by
    unfold negS at h
    rw [size_eq]
    cases hl : s.data.toList with
    | nil => rw [hl] at h; simp at h
    | cons _ _ => simp
  omega
/-- The first i bytes are digits, of the value n. -/
def dTo (d : ByteArray) (i n : Nat) : Prop := (∀ b ∈ d.data.toList.take i, 48 ≤ b.toNat ∧ b.toNat ≤ 57) ∧ n = dval 0 (d.data.toList.take i)
theorem dTo_zero (d : ByteArray) : dTo d 0 0 := ⟨by simp, rfl⟩
theorem dTo_succ {d : ByteArray} {i n : Nat} {b : UInt8} (h : dTo d i n) (hb : d.data.toList[i]? = some b) (h1 : 48 ≤ b.toNat ∧ b.toNat ≤ 57) : dTo d (i + 1) (10 * n + (b.toNat - 48)) := by
  obtain ⟨h2, h3⟩ := h
  unfold dTo
  rw [List.take_add_one, hb]
  refine ⟨fun c hc => ?_, ?_⟩
  · simp at hc
    rcases hc with hc | rfl
    · exact h2 c hc
    · exact h1
  · rw [dval_app, ← h3]
    show _ = n * 10 + (b.toNat - 48)
    omega
theorem val_no_len {s : ByteArray} {v : Int} {k : Bool} (h : NumR pS s v k) (hl : ¬ (1 ≤ (dS s).size ∧ (dS s).size ≤ 15)) : v = 0 ∧ k = false := by
  refine h.no fun n hn he => hl ?_
  subst he
  rw [(dS_itoa n).1, bs_size, decDigits_length]
  have h1 := nDigits_pos n.natAbs
  have h2 := nDigits_le (k := 14) (n := n.natAbs) (by have := hn; unfold pS at this; omega)
  omega
theorem val_no_digit {s : ByteArray} {v : Int} {k : Bool} {i : Nat} {b : UInt8} (h : NumR pS s v k) (hb : (dS s).data.toList[i]? = some b) (h1 : ¬ (48 ≤ b.toNat ∧ b.toNat ≤ 57)) : v = 0 ∧ k = false := by
  refine h.no fun n hn he => h1 ?_
  subst he
  rw [(dS_itoa n).1, bs_data] at hb
  exact dec_mem _ _ (Nat.le_refl _) b (List.mem_of_getElem? hb)
theorem val_end {s : ByteArray} {v : Int} {k : Bool} {n : Nat} {m : Int} (h : NumR pS s v k) (hd : dTo (dS s) (dS s).size n) (hn : n < 1000000000000000) (hm : m = if negS s then -(n : Int) else n) : (bs (itoa m) = s ∧ v = m ∧ k = true) ∨ (bs (itoa m) ≠ s ∧ v = 0 ∧ k = false) := by
  have hp : pS m := by subst hm; unfold pS; split <;> omega
  by_cases he : bs (itoa m) = s
  · subst he
    exact Or.inl ⟨rfl, h.yes (fun _ h => pS_bd h) hp⟩
  · refine Or.inr ⟨he, h.no fun q hq hs => he ?_⟩
    subst hs
    obtain ⟨e1, e2⟩ := dS_itoa q
    obtain ⟨_, h3⟩ := hd
    rw [e1, bs_data, bs_size, List.take_length, dval_dec _ _ (Nat.le_refl _)] at h3
    congr 2
    subst hm
    by_cases hq0 : q < 0
    · rw [if_pos (e2.2 hq0)]; omega
    · rw [if_neg (fun h => hq0 (e2.1 h))]; omega
theorem pow15 {i : Nat} (h : i ≤ 15) {n : Nat} (hn : n < 10 ^ i) : n < 1000000000000000 := Nat.lt_of_lt_of_le hn (Nat.pow_le_pow_right (n := 10) (by omega) h)
end Go.Proofs.YtgdjgjkijcmkfaaDoor
