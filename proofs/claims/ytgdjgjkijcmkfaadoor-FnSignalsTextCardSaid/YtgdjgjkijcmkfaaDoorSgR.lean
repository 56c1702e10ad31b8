/- Plain laws: which strings are the texts of lists of signals. No condition. -/
import Derived.Test.YtgdjgjkijcmkfaaDoorRdF
import Derived.Test.YtgdjgjkijcmkfaaDoorSgS
namespace Go.Proofs.YtgdjgjkijcmkfaaDoor
open Go.Lib
theorem wordS_form (k : Int) : ∃ l, wordS k = bs l ∧ (32 : UInt8) ∉ l ∧ (64 : UInt8) ∉ l := by
  unfold wordS
  repeat (split; exact ⟨_, rfl, by decide, by decide⟩)
  exact ⟨_, rfl, by decide, by decide⟩
theorem wordS_inj {r u : Int} (h1 : 1 ≤ r ∧ r ≤ 8) (h2 : 1 ≤ u ∧ u ≤ 8) (h : wordS r = wordS u) : r = u := by
  obtain rfl | rfl | rfl | rfl | rfl | rfl | rfl | rfl : r = 1 ∨ r = 2 ∨ r = 3 ∨ r = 4 ∨ r = 5 ∨ r = 6 ∨ r = 7 ∨ r = 8 := by omega
  all_goals
    obtain rfl | rfl | rfl | rfl | rfl | rfl | rfl | rfl : u = 1 ∨ u = 2 ∨ u = 3 ∨ u = 4 ∨ u = 5 ∨ u = 6 ∨ u = 7 ∨ u = 8 := by omega
    all_goals first | rfl | (exfalso; revert h; decide +kernel)
/-- The text of one signal. -/
def sgW (k t : Int) : ByteArray := wordS k ++ bs [64] ++ bs (itoa t)
theorem itoa_no (t : Int) : (64 : UInt8) ∉ itoa t ∧ (32 : UInt8) ∉ itoa t := by
  unfold itoa
  split
  · constructor
    · simp; exact dec_no (by decide) _
    · simp; exact dec_no (by decide) _
  · exact ⟨dec_no (by decide) _, dec_no (by decide) _⟩
theorem sgW_form (k t : Int) : ∃ l, sgW k t = bs l ∧ (32 : UInt8) ∉ l := by
  obtain ⟨l, e, h1, h2⟩ := wordS_form k
  have h3 := (itoa_no t).2
  refine ⟨l ++ 64 :: itoa t, ?_, ?_⟩
  · unfold sgW
    rw [e, bs_app, bs_app]
    simp
  · simp [h1, h3]
theorem sgW_cut (k t : Int) : ∃ l, wordS k = bs l ∧ cut (sgW k t).data.toList [64] = (l, itoa t, true) := by
  obtain ⟨l, e, h1, h2⟩ := wordS_form k
  refine ⟨l, e, ?_⟩
  unfold sgW
  rw [e, bs_app, bs_app, bs_data]
  have := cut_hit (c := 64) (p := l) (itoa t) h2
  simpa using this
theorem sgW_inj {k t k' t' : Int} (hk : 1 ≤ k ∧ k ≤ 8) (hk' : 1 ≤ k' ∧ k' ≤ 8) (ht : -9223372036854775808 ≤ t ∧ t ≤ 9223372036854775807) (ht' : -9223372036854775808 ≤ t' ∧ t' ≤ 9223372036854775807) (h : sgW k t = sgW k' t') : k = k' ∧ t = t' := by
  obtain ⟨l, e, c1⟩ := sgW_cut k t
  obtain ⟨l', e', c2⟩ := sgW_cut k' t'
  rw [h, c2] at c1
  injection c1 with c3 c4
  injection c4 with c4 _
  subst c3
  exact ⟨wordS_inj hk hk' (by rw [e, e']), itoa_inj ht.1 ht.2 ht'.1 ht'.2 c4.symm⟩
theorem sg1_sgW {xs : List Int} {j : Nat} (h : 0 ≤ el xs (j * 2 + 1)) : sg1 xs j = sgW (el xs (j * 2)) (el xs (j * 2 + 1)) := by
  unfold sg1 sgW
  rw [nmS_itoa h]
/-- The pieces of a join of pieces without the byte. -/
theorem pcs_join_sg {xs : List Int} {n : Nat} (h : sigOk xs n = true) : ∀ k, k ≤ n → 0 < k → pcs 32 (sgP xs k) = sgL xs k := by
  have key : ∀ (L : List (List UInt8)) (x : List UInt8), (32 : UInt8) ∉ x → (∀ y ∈ L, (32 : UInt8) ∉ y) → pcs 32 (bs (x ++ joinTail [32] L)) = bs x :: L.map bs := by
    intro L
    induction L with
    | nil => intro x hx _; simpa [joinTail] using pcs_out hx
    | cons y L ih =>
      intro x hx hL
      have e : x ++ joinTail [32] (y :: L) = x ++ 32 :: (y ++ joinTail [32] L) := by simp [joinTail]
      rw [e, pcs_hit _ hx, ih y (hL y (by simp)) (fun z hz => hL z (by simp [hz]))]
      rfl
  intro k hk hk0
  have hj := sg_join xs k
  have hall : ∀ u ∈ sgL xs k, ∃ l, u = bs l ∧ (32 : UInt8) ∉ l := by
    intro u hu
    unfold sgL at hu
    rw [List.mem_map] at hu
    obtain ⟨j, hj, rfl⟩ := hu
    have hjk : j < n := by have := List.mem_range.1 hj; omega
    rw [sg1_sgW (sig_at h hjk).2.1]
    exact sgW_form _ _
  have hl := sgL_len xs k
  generalize sgL xs k = L at *
  cases L with
  | nil => simp at hl; omega
  | cons u L =>
    obtain ⟨x, rfl, hx⟩ := hall u (by simp)
    have hj' : bs (join ((bs x :: L).map (·.data.toList)) (bs [32]).data.toList) = sgP xs k := hj
    rw [← hj', List.map_cons, bs_data, bs_data, join_cons, key _ x hx (by
      intro y hy
      rw [List.mem_map] at hy
      obtain ⟨v, hv, rfl⟩ := hy
      obtain ⟨l, rfl, h2⟩ := hall v (by simp [hv])
      rw [bs_data]
      exact h2)]
    rw [List.map_map]
    have : (bs ∘ fun x : ByteArray => x.data.toList) = id := by funext x; exact bs_eta x
    rw [this, List.map_id]
/-- s is read as the n signals xs, with the mark k. -/
def SigR (s : ByteArray) (xs : List Int) (n : Nat) (k : Bool) : Prop :=
  (k = true ∧ xs.length = n * 2 ∧ sigOk xs n = true ∧ s = sgT xs n) ∨ (k = false ∧ n = 0 ∧ xs = [] ∧ ∀ ys m, ys.length = m * 2 → sigOk ys m = true → s ≠ sgT ys m)
theorem SigR.ex (s : ByteArray) : ∃ xs n k, SigR s xs n k := by
  by_cases h : ∃ xs n, xs.length = n * 2 ∧ sigOk xs n = true ∧ s = sgT xs n
  · obtain ⟨xs, n, h1, h2, h3⟩ := h
    exact ⟨xs, n, true, Or.inl ⟨rfl, h1, h2, h3⟩⟩
  · exact ⟨[], 0, false, Or.inr ⟨rfl, rfl, rfl, fun ys m h1 h2 h3 => h ⟨ys, m, h1, h2, h3⟩⟩⟩
theorem sgT_yes {xs : List Int} {n : Nat} (h : sigOk xs n = true) : sgT xs n = sgP xs n := by unfold sgT; rw [if_pos h]
theorem sgT_no {xs : List Int} {n : Nat} (h : sigOk xs n = false) : sgT xs n = ⟨#[]⟩ := by unfold sgT; rw [if_neg (by simp [h])]
theorem sgP_ne {xs : List Int} {n : Nat} (h : sigOk xs n = true) (hn : 0 < n) : sgP xs n ≠ ⟨#[]⟩ := by
  intro he
  have h1 := pcs_join_sg h n (Nat.le_refl _) hn
  rw [he, pcs_nil] at h1
  have h2 := sgL_len xs n
  rw [← h1] at h2
  have hn1 : n = 1 := by simpa using h2.symm
  subst hn1
  have h3 : sg1 xs 0 = ⟨#[]⟩ := he
  have h4 := congrArg ByteArray.size h3
  unfold sg1 at h4
  rw [ba_size, ba_size, bs_size] at h4
  have h0 : (⟨#[]⟩ : ByteArray).size = 0 := rfl
  simp at h4
  omega
end Go.Proofs.YtgdjgjkijcmkfaaDoor
