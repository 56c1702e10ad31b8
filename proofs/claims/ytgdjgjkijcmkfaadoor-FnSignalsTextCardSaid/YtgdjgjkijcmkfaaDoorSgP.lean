/- Plain laws: the text of a list of signals. -/
import Derived.Test.YtgdjgjkijcmkfaaDoorFinT
import Derived.Test.YtgdjgjkijcmkfaaDoorSig
namespace Go.Proofs.YtgdjgjkijcmkfaaDoor
open Go.RowKit Go.WideShapes Go.ChangeShapes
/-- The word for a kind of signal. -/
def wordS (k : Int) : ByteArray := if k = 1 then ⟨#[119, 97, 114, 110, 105, 110, 103]⟩ else if k = 2 then ⟨#[112, 114, 101, 112]⟩ else if k = 3 then ⟨#[109, 105, 110, 117, 116, 101]⟩ else if k = 4 then ⟨#[115, 116, 97, 114, 116]⟩ else if k = 5 then ⟨#[112, 111, 115, 116, 112, 111, 110, 101]⟩ else if k = 6 then ⟨#[114, 101, 115, 117, 109, 101]⟩ else if k = 7 then ⟨#[114, 101, 99, 97, 108, 108]⟩ else ⟨#[97, 98, 97, 110, 100, 111, 110]⟩
theorem wordS_le (k : Int) : (wordS k).size ≤ 8 := by
  unfold wordS
  repeat (split; decide)
  decide
/-- The text of one signal. -/
def sg1 (xs : List Int) (j : Nat) : ByteArray := wordS (el xs (j * 2)) ++ bs [64] ++ nmS (el xs (j * 2 + 1))
/-- The text of the first signals. -/
def sgP (xs : List Int) : Nat → ByteArray
  | 0 => ⟨#[]⟩
  | 1 => sg1 xs 0
  | k + 2 => sgP xs (k + 1) ++ bs [32] ++ sg1 xs (k + 1)
def sgT (xs : List Int) (n : Nat) : ByteArray := if sigOk xs n then sgP xs n else ⟨#[]⟩
theorem sig_at {xs : List Int} {n k : Nat} (h : sigOk xs n = true) (hk : k < n) : (1 ≤ el xs (k * 2) ∧ el xs (k * 2) ≤ 8) ∧ 0 ≤ el xs (k * 2 + 1) ∧ el xs (k * 2 + 1) ≤ 1000000000 := by
  unfold sigOk at h
  rw [Bool.and_eq_true] at h
  have h2 := h.2
  unfold sigTo at h2
  rw [List.all_eq_true] at h2
  have := h2 k (by simpa using hk)
  unfold sigAt sigB at this
  rw [Bool.and_eq_true, decide_eq_true_eq, el_eq, el_eq] at this
  omega
theorem sig_n {xs : List Int} {n : Nat} (h : sigOk xs n = true) : n ≤ 40 := by
  unfold sigOk at h
  rw [Bool.and_eq_true, decide_eq_true_eq] at h
  exact h.1
theorem ba_size (a b : ByteArray) : (a ++ b).size = a.size + b.size := by
  rw [← bs_eta a, ← bs_eta b, bs_app, bs_size, bs_size, bs_size, List.length_append]
theorem sg1_le {xs : List Int} {n k : Nat} (h : sigOk xs n = true) (hk : k < n) : (sg1 xs k).size ≤ 29 := by
  have h1 := wordS_le (el xs (k * 2))
  have h2 := nmS_le (n := el xs (k * 2 + 1)) (by have := sig_at h hk; omega)
  unfold sg1
  rw [ba_size, ba_size, bs_size]
  simp only [List.length_cons, List.length_nil]
  omega
theorem sgP_le {xs : List Int} {n : Nat} (h : sigOk xs n = true) : ∀ k, k ≤ n → (sgP xs k).size ≤ 30 * k
  | 0, _ => Nat.le_refl 0
  | 1, hk => by have := sg1_le h (show 0 < n by omega); show (sg1 xs 0).size ≤ 30 * 1; omega
  | k + 2, hk => by
    have h1 := sgP_le h (k + 1) (by omega)
    have h2 := sg1_le h (show k + 1 < n by omega)
    rw [sgP, ba_size, ba_size, bs_size]
    simp only [List.length_cons, List.length_nil]
    omega
/-- The texts of the first signals, one by one. -/
def sgL (xs : List Int) (k : Nat) : List ByteArray := (List.range k).map (sg1 xs)
theorem sgL_len (xs : List Int) (k : Nat) : (sgL xs k).length = k := by simp [sgL]
theorem sgL_succ (xs : List Int) (k : Nat) : sgL xs (k + 1) = sgL xs k ++ [sg1 xs k] := by simp [sgL, List.range_succ]
theorem joinTail_snoc (sep : List UInt8) (r : List (List UInt8)) (y : List UInt8) : Lib.joinTail sep (r ++ [y]) = Lib.joinTail sep r ++ sep ++ y := by
  have := Lib.joinTail_take_succ sep (r ++ [y]) r.length y (by simp)
  rw [List.take_of_length_le (by simp), List.take_left] at this
  exact this
theorem sg_join (xs : List Int) : ∀ k, (⟨(Lib.join ((sgL xs k).map (·.data.toList)) (bs [32]).data.toList).toArray⟩ : ByteArray) = sgP xs k
  | 0 => rfl
  | 1 => by
    show bs (Lib.join ((sgL xs 1).map (·.data.toList)) (bs [32]).data.toList) = sg1 xs 0
    rw [show sgL xs 1 = [sg1 xs 0] from rfl, List.map_cons, List.map_nil, Lib.join_one, bs_eta]
  | k + 2 => by
    have ih := sg_join xs (k + 1)
    have ih : bs (Lib.join ((sgL xs (k + 1)).map (·.data.toList)) (bs [32]).data.toList) = sgP xs (k + 1) := ih
    show bs (Lib.join ((sgL xs (k + 2)).map (·.data.toList)) (bs [32]).data.toList) = _
    rw [sgP, ← ih, sgL_succ, List.map_append, List.map_cons, List.map_nil]
    obtain ⟨x, r, e⟩ : ∃ x r, (sgL xs (k + 1)).map (·.data.toList) = x :: r := by
      cases h : (sgL xs (k + 1)).map (·.data.toList) with
      | nil => have := congrArg List.length h; simp [sgL] at this
      | cons x r => exact ⟨x, r, rfl⟩
    rw [e, List.cons_append, Lib.join_cons, Lib.join_cons, joinTail_snoc]
    rw [show bs [32] = bs (bs [32]).data.toList from (bs_eta _).symm, ← bs_eta (sg1 xs (k + 1)), bs_app, bs_app, bs_data, bs_eta]
    congr 1
    simp [bs_data, List.append_assoc]
end Go.Proofs.YtgdjgjkijcmkfaaDoor
