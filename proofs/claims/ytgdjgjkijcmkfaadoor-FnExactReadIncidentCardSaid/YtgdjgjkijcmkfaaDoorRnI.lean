/- Walks: the numbers of words, as the program reads them. Condition: what the library's variables hold (Env). -/
import Derived.Test.YtgdjgjkijcmkfaaDoorRdN
namespace Go.Proofs.YtgdjgjkijcmkfaaDoor
open Go.RowKit Go.WideShapes Go.ChangeShapes Go.Deep
/-- The number that the program reads a word as, 0 for a word that is none. -/
noncomputable def nvI (s : ByteArray) : Int := (NumR.ex pI s).choose
theorem nvI_spec (s : ByteArray) : ∃ k, NumR pI s (nvI s) k := (NumR.ex pI s).choose_spec
set_option maxRecDepth 100000 in
set_option maxHeartbeats 1000000 in
theorem impl_numbersOf (P : List ByteArray) (g N : Nat) (hP : P.length = N) (hN : N ≤ 1000000) (hz : ∀ x ∈ P, x.size ≤ 1048576) (w : World) (hE : Env w) (hB : ∀ j x, P[j]? = some x → w.cell? ⟨g, j, none⟩ = some (.string x)) :
    Calls Tryd.prog 79 #[.slice (some ⟨g, 0, none⟩) N N] w fun e w' => ∃ A d, e = .returned (.slice A N d) ∧ Own w' w.heap.size 2 1 (.slice A N d) N (P.map nvI) ∧ Q w w' := by
  have hNI : (N : Int) ≤ 1000000 := by omega
  have HP := Lib.hid hP
  have HZ := Lib.hid hz
  have HB := Lib.hid hB
  have O0 := OwnL.new w 2 1 (B := w.heap.size) (Nat.le_refl _)
  obtain ⟨A0, n0, c0, he0, ho0⟩ := O0
  injection he0 with h1 h2 h3
  subst h1 h2 h3
  clear hP hz hB
  go_enter Tryd.func79, Tryd.ntmps79
  go_wp2_with fail
  go_loopw [3, 11] (fun v i wr => ∃ k A1 d1, k ≤ N ∧ i = .int .i64 (k : Nat) ∧ v = .slice A1 k d1 ∧ Own wr w.heap.size 2 1 (.slice A1 k d1) k ((P.take k).map nvI) ∧ Q w wr) (fun _ i _ => N - (intOf i).toNat)
  case atStart => exact ⟨0, _, _, by omega, rfl, rfl, ho0, (Q.refl w).alloc _⟩
  case round =>
    obtain ⟨k, A1, d1, hk, rfl, rfl, hown, hq⟩ := hrel
    have HT : Hid ((P.take (k + 1)).map nvI = (P.take k).map nvI ++ [nvI (P.getD k ⟨#[]⟩)] ∨ N ≤ k) := Lib.hid (by
      rcases Nat.lt_or_ge k N with h | h
      · left
        rw [List.take_add_one, List.map_append]
        have hk2 : k < P.length := by rw [HP.out]; exact h
        simp [List.getD, List.getElem?_eq_getElem hk2]
      · exact Or.inr h)
    by_cases hlt : k < N
    · have hltI : (k : Int) < (N : Int) := by omega
      obtain ⟨x, hx⟩ : ∃ x, P[k]? = some x := ⟨P[k]'(by rw [HP.out]; exact hlt), List.getElem?_eq_getElem (by rw [HP.out]; exact hlt)⟩
      have c0 := hq.cell (HB.out k x hx)
      have hxz := HZ.out x (List.mem_of_getElem? hx)
      obtain ⟨kk, hnum⟩ := nvI_spec x
      have HT2 : Hid ((P.take (k + 1)).map nvI = (P.take k).map nvI ++ [nvI x]) := Lib.hid (by
        rcases HT.out with h | h
        · rw [h]; simp [List.getD, hx]
        · omega)
      have Er := hE.q hq
      have KN := Lib.hid (fun wv (hv : Env wv) => impl_number x _ kk hnum hxz wv hv)
      clear hnum HT hx hxz
      generalize nvI x = v at *
      generalize (P.take k).map nvI = L1 at *
      go_wp2_with fail
      refine (KN.out _ Er).mono ?_
      rintro e w2 ⟨rfl, q2⟩
      have hown2 := hown.q q2
      have Q2 := hq.trans q2
      clear Er
      go_wp2_with (at_builtin; refine appK elInt64 rfl _ _ rfl [v] rfl hown2 rfl (by simp) rfl _ _ rfl (by omega) Q2.size ?_; intro A' c' w' hown' hg' hgr')
      go_roundw
      case rel => exact ⟨k + 1, _, _, by omega, by go_num, rfl, by rw [HT2.out]; exact hown', Q2.grown hg' (by
        intro b hb
        rcases A1 with _ | a1
        · cases hb
        · have := (hown.from a1 rfl).1
          simp only [Option.map_some, Option.some.injEq] at hb
          omega)⟩
      case measure => simp [intOf]; omega
    · obtain rfl : k = N := by omega
      have HT3 : Hid (P.take k = P) := Lib.hid (List.take_of_length_le (by rw [HP.out]; exact Nat.le_refl _))
      go_wp2_with fail
      go_ret
      exact ⟨_, _, rfl, by rw [HT3.out] at hown; exact hown, hq⟩
end Go.Proofs.YtgdjgjkijcmkfaaDoor
