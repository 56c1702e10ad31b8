/- Plain laws of decimal numerals and of the texts of times. No condition. -/
import Derived.Test.YtgdjgjkijcmkfaaDoorProg
import Derived.Lib.ItoaLen
import Derived.Lib.Repeat
import Derived.Lib.Join
namespace Go.Proofs.YtgdjgjkijcmkfaaDoor
open Go.Lib
/-- The byte of a decimal digit. -/
def dgB (n : Nat) : UInt8 := UInt8.ofNat (48 + n)
/-- The last k digits of n. -/
def lastD : Nat → Nat → List UInt8
  | 0, _ => []
  | k + 1, n => lastD k (n / 10) ++ [dgB (n % 10)]
theorem lastD_len : ∀ k n, (lastD k n).length = k
  | 0, _ => rfl
  | k + 1, n => by simp [lastD, lastD_len k]
theorem lastD_cons : ∀ k n, lastD (k + 1) n = dgB (n / 10 ^ k % 10) :: lastD k n
  | 0, n => by simp [lastD]
  | k + 1, n => by
    show lastD (k + 1) (n / 10) ++ [dgB (n % 10)] = _
    rw [lastD_cons k (n / 10), List.cons_append, Nat.div_div_eq_div_mul, Nat.pow_succ, Nat.mul_comm 10]
    rfl
theorem lastD_zero : ∀ k, lastD k 0 = List.replicate k 48
  | 0 => rfl
  | k + 1 => by
    show lastD k 0 ++ [dgB 0] = _
    rw [lastD_zero k, List.replicate_succ']
    rfl
theorem dec_lt {u : Nat} (h : u < 10) : decDigits u = [dgB u] := by rw [decDigits, dif_pos h]; rfl
theorem dec_ge {u : Nat} (h : ¬ u < 10) : decDigits u = decDigits (u / 10) ++ [dgB (u % 10)] := by rw [decDigits, dif_neg h]; rfl
theorem lastD_pad : ∀ k n, nDigits n ≤ k → lastD k n = List.replicate (k - nDigits n) 48 ++ decDigits n
  | 0, n, h => by have := nDigits_pos n; omega
  | k + 1, n, h => by
    by_cases hn : n < 10
    · rw [dec_lt hn, nDigits_small hn]
      show lastD k (n / 10) ++ _ = _
      rw [Nat.div_eq_of_lt hn, lastD_zero, Nat.mod_eq_of_lt hn]
      rfl
    · rw [dec_ge hn]
      rw [nDigits_big hn] at h ⊢
      show lastD k (n / 10) ++ _ = _
      rw [lastD_pad k (n / 10) (by omega), ← List.append_assoc, Nat.add_sub_add_right]
theorem rep_zero (c : Nat) : repeatL [48] c = List.replicate c 48 := by
  have := repeatL_replicate 48 1 c
  simpa using this
theorem nDigits_le {k n : Nat} (h : n < 10 ^ (k + 1)) : nDigits n ≤ k + 1 := by
  rcases Nat.lt_or_ge (k + 1) (nDigits n) with h1 | h1
  · exfalso
    have : ∀ (m n : Nat), n < 10 ^ (m + 1) → nDigits n ≤ m + 1 := by
      intro m
      induction m with
      | zero => intro n hn; rw [nDigits_small (by simpa using hn)]; omega
      | succ m ih =>
        intro n hn
        by_cases h10 : n < 10
        · rw [nDigits_small h10]; omega
        · rw [nDigits_big h10]
          have := ih (n / 10) (by rw [Nat.pow_succ] at hn; omega)
          omega
    have := this k n h
    omega
  · exact h1
/-- The program's padding is the reference's. -/
theorem pad_eq {k n : Nat} (h : n < 10 ^ (k + 1)) : repeatL [48] (k + 1 - (decDigits n).length) ++ decDigits n = lastD (k + 1) n := by
  rw [rep_zero, decDigits_length, lastD_pad _ _ (nDigits_le h)]
theorem lastD_mod (n : Nat) : lastD 3 n = lastD 3 (n % 1000) := by
  have h1 : n % 1000 % 10 = n % 10 := by omega
  have h2 : n % 1000 / 10 % 10 = n / 10 % 10 := by omega
  have h3 : n % 1000 / 10 / 10 % 10 = n / 10 / 10 % 10 := by omega
  simp only [lastD, h1, h2, h3]
/-- The text of a time. -/
def tmL (t : Nat) : List UInt8 := decDigits (t / 60000) ++ (58 :: (lastD 2 (t / 1000 % 60) ++ (46 :: lastD 3 (t % 1000))))
/-- A list of bytes as a string of the model. -/
def bs (l : List UInt8) : ByteArray := ⟨l.toArray⟩
theorem bs_data (l : List UInt8) : (bs l).data.toList = l := by simp [bs]
theorem bs_size (l : List UInt8) : (bs l).size = l.length := by simp [bs, ByteArray.size]
theorem bs_eta (s : ByteArray) : bs s.data.toList = s := by
  obtain ⟨a⟩ := s
  simp [bs]
theorem bs_app (a b : List UInt8) : bs a ++ bs b = bs (a ++ b) := by
  have : (bs a ++ bs b).data = (bs (a ++ b)).data := by
    rw [ByteArray.data_append]
    simp [bs]
  cases h : bs a ++ bs b
  cases h2 : bs (a ++ b)
  rw [h, h2] at this
  simp only at this
  rw [this]
theorem bs_inj {a b : List UInt8} (h : bs a = bs b) : a = b := by rw [← bs_data a, h, bs_data]
end Go.Proofs.YtgdjgjkijcmkfaaDoor
