/- Plain laws: a string is split as the reference goes through it; the value of digits as the reference reads them. No condition. -/
import Derived.Test.YtgdjgjkijcmkfaaDoorRdF
namespace Go.Proofs.YtgdjgjkijcmkfaaDoor
open Go.Lib
/-- Where the reference stands in a string: at i, behind the pieces D, of which the next one begins at f. -/
def Spl (c : UInt8) (s : ByteArray) (i f : Nat) (D : List ByteArray) : Prop :=
  (i ≤ s.size ∧ f ≤ i ∧ D ++ (wsp c ((s.data.toList.drop f).take (i - f)) (s.data.toList.drop i)).map bs = pcs c s) ∨ (i = s.size + 1 ∧ f = i ∧ D = pcs c s)
theorem Spl.start (c : UInt8) (s : ByteArray) : Spl c s 0 0 [] := Or.inl ⟨Nat.zero_le _, Nat.le_refl _, rfl⟩
theorem piece_eq (s : ByteArray) (f i : Nat) : bs ((s.data.toList.drop f).take (i - f)) = s.extract f i := by
  rw [extract_eq]
  rfl
theorem Spl.last {c : UInt8} {s : ByteArray} {f : Nat} {D : List ByteArray} (h : Spl c s s.size f D) : Spl c s (s.size + 1) (s.size + 1) (D ++ [s.extract f s.size]) := by
  rcases h with ⟨_, h2, h3⟩ | ⟨h1, _⟩
  · right
    refine ⟨rfl, rfl, ?_⟩
    have hd : s.data.toList.drop s.size = [] := List.drop_eq_nil_of_le (by rw [← size_eq]; exact Nat.le_refl _)
    rw [← h3, hd]
    simp [wsp, piece_eq]
  · omega
theorem Spl.hit {c : UInt8} {s : ByteArray} {i f : Nat} {D : List ByteArray} (h : Spl c s i f D) (hi : i < s.size) (hc : s.data.toList[i]? = some c) : Spl c s (i + 1) (i + 1) (D ++ [s.extract f i]) := by
  rcases h with ⟨_, h2, h3⟩ | ⟨h1, _⟩
  · left
    refine ⟨by omega, Nat.le_refl _, ?_⟩
    have hl : i < s.data.toList.length := by rw [← size_eq]; exact hi
    rw [List.drop_eq_getElem_cons hl] at h3
    have hg : s.data.toList[i] = c := by rw [List.getElem?_eq_getElem hl] at hc; injection hc
    rw [hg, wsp, if_pos rfl] at h3
    rw [← h3, Nat.sub_self]
    simp [piece_eq]
  · omega
theorem Spl.miss {c b : UInt8} {s : ByteArray} {i f : Nat} {D : List ByteArray} (h : Spl c s i f D) (hi : i < s.size) (hc : s.data.toList[i]? = some b) (hb : b ≠ c) : Spl c s (i + 1) f D := by
  rcases h with ⟨_, h2, h3⟩ | ⟨h1, _⟩
  · left
    refine ⟨by omega, by omega, ?_⟩
    have hl : i < s.data.toList.length := by rw [← size_eq]; exact hi
    rw [List.drop_eq_getElem_cons hl] at h3
    have hg : s.data.toList[i] = b := by rw [List.getElem?_eq_getElem hl] at hc; injection hc
    rw [hg, wsp, if_neg hb] at h3
    rw [← h3]
    have e : (s.data.toList.drop f).take (i + 1 - f) = (s.data.toList.drop f).take (i - f) ++ [b] := by
      rw [show i + 1 - f = (i - f) + 1 by omega, List.take_add_one]
      congr 1
      rw [List.getElem?_drop, show f + (i - f) = i by omega, hc]
      rfl
    rw [e]
  · omega
theorem Spl.done {c : UInt8} {s : ByteArray} {f : Nat} {D : List ByteArray} (h : Spl c s (s.size + 1) f D) : D = pcs c s := by
  rcases h with ⟨h1, _⟩ | ⟨_, _, h3⟩
  · omega
  · exact h3
end Go.Proofs.YtgdjgjkijcmkfaaDoor
