/- Plain laws: what the reference finds in the words of a list of signals. No condition. -/
import Derived.Test.YtgdjgjkijcmkfaaDoorSgI
import Derived.Test.YtgdjgjkijcmkfaaDoorSRL
namespace Go.Proofs.YtgdjgjkijcmkfaaDoor
open Go.RowKit Go.WideShapes Go.ChangeShapes Go.Deep
theorem part2_of (k t : Int) : pcs 64 (sgW k t) = [wordS k, bs (Lib.itoa t)] := by
  obtain ⟨l, e, h1, h2⟩ := wordS_form k
  unfold sgW
  rw [e, bs_app, bs_app]
  simp only [List.append_assoc, List.cons_append, List.nil_append]
  rw [pcs_hit _ h2, pcs_out (itoa_no t).1]
theorem part2_eq {p a b : ByteArray} (h : pcs 64 p = [a, b]) : p = a ++ bs [64] ++ b := by
  have := pcs_join 64 p
  rw [h] at this
  rw [← this]
  simp only [List.map_cons, List.map_nil, Lib.join, List.intercalate, List.intersperse, List.flatten]
  rw [← bs_eta a, ← bs_eta b]
  simp only [bs_app, bs_data]
  simp
theorem part2_len {p : ByteArray} (h : (pcs 64 p).length ≠ 2) : ∀ k t, 1 ≤ k → k ≤ 8 → 0 ≤ t → t ≤ 1000000000 → p ≠ sgW k t := by
  intro k t _ _ _ _ he
  subst he
  rw [part2_of] at h
  exact h rfl
theorem part2_num {p a b : ByteArray} {v : Int} (h : pcs 64 p = [a, b]) (hv : NumR pS b v false) : ∀ k t, 1 ≤ k → k ≤ 8 → 0 ≤ t → t ≤ 1000000000 → p ≠ sgW k t := by
  intro k t _ _ h3 h4 he
  subst he
  rw [part2_of] at h
  injection h with _ h
  injection h with h _
  subst h
  have := (hv.yes (fun _ h => pS_bd h) (pS_small ⟨h3, h4⟩)).2
  cases this
theorem part2_word {p a b : ByteArray} (h : pcs 64 p = [a, b]) (hw : ∀ k : Int, 1 ≤ k → k ≤ 8 → wordS k ≠ a) : ∀ k t, 1 ≤ k → k ≤ 8 → 0 ≤ t → t ≤ 1000000000 → p ≠ sgW k t := by
  intro k t h1 h2 _ _ he
  subst he
  rw [part2_of] at h
  injection h with h _
  exact hw k h1 h2 h
theorem part2_ok {p a b : ByteArray} {k v : Int} (h : pcs 64 p = [a, b]) (hv : NumR pS b v true) (hw : wordS k = a) : p = sgW k v := by
  rcases hv with ⟨_, _, h3⟩ | ⟨h1, _⟩
  · rw [part2_eq h, h3, ← hw]
    rfl
  · cases h1
theorem SigR.last {s : ByteArray} {xs ys : List Int} {n m N : Nat} {kk : Bool} (h : SigR s ys n kk) (hs : s ≠ ⟨#[]⟩) (hN : (pcs 32 s).length = N) (hl : xs.length = m * 2) (hx : (m = N ∧ SgTo (pcs 32 s) N xs) ∨ kk = false) : (sgT xs m = s ∧ kk = true ∧ ys = xs ∧ n = m) ∨ (sgT xs m ≠ s ∧ kk = false ∧ ys = [] ∧ n = 0) := by
  rcases hx with ⟨rfl, ht⟩ | hk
  · rcases h.fin hs hN ht with ⟨h1, h2, h3, h4⟩ | ⟨h1, h2, h3, h4⟩
    · left
      subst h2 h3 h4
      rcases h with ⟨_, _, _, e4⟩ | ⟨e1, _⟩
      · exact ⟨e4.symm, rfl, rfl, rfl⟩
      · cases e1
    · right
      refine ⟨fun he => ?_, h2, h3, h4⟩
      rw [sgT_no h1] at he
      exact hs he.symm
  · right
    rcases h with ⟨e1, _⟩ | ⟨e1, e2, e3, e4⟩
    · rw [hk] at e1; cases e1
    · refine ⟨fun he => ?_, e1, e3, e2⟩
      cases hok : sigOk xs m
      · rw [sgT_no hok] at he
        exact hs he.symm
      · exact e4 xs m hl hok he.symm
/-- The pieces of a string, as the reference parts them: in a block of their own. -/
theorem split_own (c : UInt8) (s : ByteArray) (hs : s.size ≤ 1048576) (P : List ByteArray) (hP : pcs c s = P) (x : Int) (hx : x = (c.toNat : Int)) (w : World) :
    Calls Tryd.prog 69 #[.string s, .int .u8 x] w fun e w' => ∃ g d, e = .returned (.slice (some ⟨g, 0, none⟩) P.length d) ∧ (∀ j u, P[j]? = some u → w'.cell? ⟨g, j, none⟩ = some (.string u)) ∧ P.length ≤ d ∧ w.heap.size ≤ g ∧ g < w'.heap.size ∧ Q w w' := by
  subst hx
  have h := spec_Split c s hs w
  rw [hP] at h
  refine h.mono ?_
  rintro e w' ⟨A, d, rfl, o, q⟩
  have hp := pcs_pos c s
  rw [hP] at hp
  obtain ⟨g, rfl, hg⟩ := o.split hp
  exact ⟨g, d, rfl, fun j x hx => o.cell rfl hx, o.cap, hg, (o.from _ rfl).2, q⟩
/-- What the reference's search for a kind has found below kd. -/
def KdR (a : ByteArray) (v : Int) (m : Nat) (xs : List Int) (kd : Nat) (m' : Nat) (xs' : List Int) : Prop :=
  (m' = m ∧ xs' = xs ∧ ∀ k : Int, 1 ≤ k → k < kd → wordS k ≠ a) ∨ ∃ k0 : Int, 1 ≤ k0 ∧ k0 < kd ∧ k0 ≤ 8 ∧ wordS k0 = a ∧ m' = m + 1 ∧ xs' = xs ++ [k0, v]
theorem KdR.hit {a : ByteArray} {v : Int} {m : Nat} {xs : List Int} {kd m' : Nat} {xs' : List Int} (h : KdR a v m xs kd m' xs') (h1 : 1 ≤ kd ∧ kd ≤ 8) (hw : wordS kd = a) : m' = m ∧ KdR a v m xs (kd + 1) (m' + 1) (xs' ++ [(kd : Int), v]) := by
  rcases h with ⟨e1, e2, e3⟩ | ⟨k0, e1, e2, e3, e4, _⟩
  · subst e1 e2
    exact ⟨rfl, Or.inr ⟨kd, by omega, by omega, by omega, hw, rfl, rfl⟩⟩
  · have := wordS_inj (r := k0) (u := kd) ⟨e1, e3⟩ (by omega) (by rw [e4, hw])
    omega
theorem KdR.miss {a : ByteArray} {v : Int} {m : Nat} {xs : List Int} {kd m' : Nat} {xs' : List Int} (h : KdR a v m xs kd m' xs') (hw : wordS kd ≠ a) : KdR a v m xs (kd + 1) m' xs' := by
  rcases h with ⟨e1, e2, e3⟩ | ⟨k0, e1, e2, e3, e4, e5, e6⟩
  · refine Or.inl ⟨e1, e2, fun k h1 h2 => ?_⟩
    by_cases hk : k = kd
    · rw [hk]; exact hw
    · exact e3 k h1 (by omega)
  · exact Or.inr ⟨k0, e1, by omega, e3, e4, e5, e6⟩
theorem KdR.bd {a : ByteArray} {v : Int} {m : Nat} {xs : List Int} {kd m' : Nat} {xs' : List Int} (h : KdR a v m xs kd m' xs') : m' ≤ m + 1 := by
  rcases h with ⟨e1, _, _⟩ | ⟨_, _, _, _, _, e5, _⟩ <;> omega
/-- Behind one word. -/
theorem KdR.done {s p a b : ByteArray} {ys xs xs' : List Int} {n m m' j : Nat} {kk : Bool} {v : Int} (h : SigR s ys n kk) (hs : s ≠ ⟨#[]⟩) (hp : (pcs 32 s)[j]? = some p) (hab : pcs 64 p = [a, b]) (hv : NumR pS b v true) (hx : (m = j ∧ SgTo (pcs 32 s) j xs) ∨ kk = false) (hk : KdR a v m xs 9 m' xs') : (m' = j + 1 ∧ SgTo (pcs 32 s) (j + 1) xs') ∨ kk = false := by
  rcases hx with ⟨h1, h2⟩ | h1
  · rcases hk with ⟨_, _, e3⟩ | ⟨k0, e1, e2, e3, e4, e5, e6⟩
    · exact Or.inr (h.fail hs hp (Or.inl (part2_word hab fun k h3 h4 => e3 k h3 (by omega)))).2.2
    · subst e5 e6 h1
      exact Or.inl ⟨rfl, h2.step ⟨e1, e3⟩ (pS_bd (by rcases hv with ⟨_, h, _⟩ | ⟨h, _⟩; exact h; cases h)) (by rw [hp, part2_ok hab hv e4])⟩
  · exact Or.inr h1
end Go.Proofs.YtgdjgjkijcmkfaaDoor
