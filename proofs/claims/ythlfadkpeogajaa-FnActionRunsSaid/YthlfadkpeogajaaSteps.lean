/- Walks: the least number of actions to the closing of a protest, as the program and the reference count it, for every state. No condition. -/
import Derived.Test.YthlfadkpeogajaaAct
import Derived.Test.YthlfadkpeogajaaIndex
import Derived.Test.YthlfadkpeogajaaK
namespace Go.Proofs.Ythlfadkpeogajaa
open Go.RowKit Go.WideShapes Go.ChangeShapes
def nx1 (s : Int) : List Int := (actL s).map (nextSt s)
/-- The states one action after the first j of a list. -/
def nxTo (l : List Int) : Nat → List Int
  | 0 => []
  | j + 1 => nxTo l j ++ nx1 (el l j)
def itL (s : Int) : Nat → List Int
  | 0 => [s]
  | k + 1 => nxTo (itL s k) (itL s k).length
def closeN (s : Int) : Nat := if s = 7 then 0 else if s = 2 ∨ s = 4 ∨ s = 6 then 1 else 2
def stepsV (s : Int) : Int := if 1 ≤ s ∧ s ≤ 7 then closeN s else -1
theorem closeN_le (s : Int) : closeN s ≤ 2 := by unfold closeN; repeat' split
                                                 all_goals decide
def ItF (s : Int) : Prop := (∀ k, k < closeN s → decide ((7 : Int) ∈ itL s k) = false) ∧ decide ((7 : Int) ∈ itL s (closeN s)) = true ∧ (∀ k, k ≤ closeN s → (itL s k).length ≤ 16) ∧ (∀ k, k ≤ closeN s → ∀ x ∈ itL s k, 1 ≤ x ∧ x ≤ 7)
theorem it_facts (s : Int) (hs : 1 ≤ s ∧ s ≤ 7) : ItF s := by
  unfold ItF
  obtain rfl | rfl | rfl | rfl | rfl | rfl | rfl : s = 1 ∨ s = 2 ∨ s = 3 ∨ s = 4 ∨ s = 5 ∨ s = 6 ∨ s = 7 := by omega
  all_goals decide +kernel
theorem actL_in {s a : Int} (h : a ∈ actL s) : 1 ≤ a ∧ a ≤ 8 := by
  unfold actL at h
  split at h
  · unfold actTo at h
    simp only [List.mem_map, List.mem_filter, List.mem_range] at h
    obtain ⟨i, ⟨h1, _⟩, rfl⟩ := h
    omega
  · cases h
theorem el_mem {xs : List Int} {j : Nat} (h : j < xs.length) : el xs j ∈ xs := by
  unfold el
  rw [List.getD_eq_getElem?_getD, List.getElem?_eq_getElem h]
  exact List.getElem_mem h
theorem take_el {xs : List Int} {j : Nat} (f : Int → Int) (h : j < xs.length) : (xs.take (j + 1)).map f = (xs.take j).map f ++ [f (el xs j)] := by
  rw [List.take_succ_eq_append_getElem h, List.map_append]
  unfold el
  rw [List.getD_eq_getElem?_getD, List.getElem?_eq_getElem h]
  rfl
theorem nxTo_len (l : List Int) : ∀ j : Nat, (nxTo l j).length ≤ 8 * j
  | 0 => by simp [nxTo]
  | j + 1 => by
    have := nxTo_len l j
    have h := actL_len (el l j)
    rw [nxTo, List.length_append]
    unfold nx1
    rw [List.length_map]
    omega
set_option maxHeartbeats 4000000 in
theorem impl_StepsToClose (s : Int) (w : World) : Calls Try.prog 30 #[.int .i64 s] w fun e w' => e = .returned (.int .i64 (stepsV s)) ∧ Q w w' := by
  by_cases hs : 1 ≤ s ∧ s ≤ 7
  · have hF := it_facts s hs
    have HS := Lib.hid (show stepsV s = closeN s by simp [stepsV, hs])
    have hcl := closeN_le s
    unfold ItF at hF
    obtain ⟨K, hK⟩ : ∃ K, K = closeN s := ⟨_, rfl⟩
    rw [← hK] at hF HS hcl
    have HF := Lib.hid hF
    clear hF hK
    go_enter Try.func30, Try.ntmps30
    go_wp2_with (go_at_call 67; refine (impl_isState _ _).mono ?_; rintro e w' ⟨rfl, rfl⟩)
    go_loopw [3, 4] (fun v l wr => ∃ (k : Nat) (A : Option Addr) (c : Nat), k ≤ K ∧ v = .int .i64 k ∧ l = .slice A (itL s k).length c ∧ Rd wr A (itL s k) ∧ Q w wr) (fun v _ _ => K - (intOf v).toNat)
    case atStart => exact ⟨0, _, _, Nat.zero_le _, rfl, rfl, (Own.lit w 2 1 1 [s] rfl (Nat.le_refl _) rfl (by decide)).rd, by (repeat (first | assumption | exact Q.refl _ | refine Q.alloc ?_ _ | refine Q.drewN ?_ _ | refine Q.drew ?_))⟩
    case round =>
      obtain ⟨k, A, c, hk, rfl, rfl, hR, hq⟩ := hrel
      obtain ⟨L, hL⟩ : ∃ L, L = itL s k := ⟨_, rfl⟩
      have h16 : L.length ≤ 16 := by rw [hL]; exact HF.out.2.2.1 k hk
      have HIN := Lib.hid (show ∀ x ∈ L, 1 ≤ x ∧ x ≤ 7 by rw [hL]; exact HF.out.2.2.2 k hk)
      rw [← hL] at hR ⊢
      have HL := Lib.hid hL
      obtain ⟨n, hn⟩ : ∃ n, L.length = n := ⟨_, rfl⟩
      rw [hn] at h16 ⊢
      have HN := Lib.hid hn
      clear hn hL
      by_cases hlt : k < K
      · have KC := Lib.hid (fun (wv : World) (h : Rd wv A L) => (show Calls Try.prog 71 #[.slice A n c, .int .i64 7] wv fun e w' => e = .returned (.bool false) ∧ Q wv w' from by
          have h1 := contains_any A n c L 7 wv h HN.out (by omega)
          rwa [HL.out, HF.out.1 k hlt] at h1))
        go_wp2_with (go_at_call 71; refine (KC.out _ hR).mono ?_; rintro e w1 ⟨rfl, q1⟩)
        go_loopw [5, 21] (fun nx i wq => ∃ (j : Nat) (A1 : Option Addr) (n1 c1 : Nat), j ≤ n ∧ i = .int .i64 j ∧ nx = .slice A1 n1 c1 ∧ Own wq w1.heap.size 2 1 (.slice A1 n1 c1) n1 (nxTo L j) ∧ Q w1 wq) (fun _ i _ => n - (intOf i).toNat)
        case atStart => exact ⟨0, _, _, _, Nat.zero_le _, rfl, rfl, Own.lit w1 2 1 0 [] rfl (Nat.le_refl _) rfl (by decide), by (repeat (first | assumption | exact Q.refl _ | refine Q.alloc ?_ _ | refine Q.drewN ?_ _ | refine Q.drew ?_))⟩
        case round =>
          obtain ⟨j, A1, n1, c1, hj, rfl, rfl, ho, hq1⟩ := hrel
          have hl1 : n1 ≤ 8 * j := by
            have a1 := ho.len
            have a2 := nxTo_len L j
            omega
          by_cases hlt1 : j < n
          · obtain ⟨b, o, hA, g0⟩ := ((hR.q q1).q hq1).at1 HN.out hlt1
            have hx := HIN.out (el L j) (el_mem (by rw [HN.out]; exact hlt1))
            obtain ⟨x, hX⟩ : ∃ x, x = el L j := ⟨_, rfl⟩
            rw [← hX] at g0 hx
            have HX := Lib.hid hX
            obtain ⟨LX, hLX⟩ : ∃ LX, LX = actL x := ⟨_, rfl⟩
            have hlx := actL_len x
            have HAI := Lib.hid (fun a (h : a ∈ LX) => actL_in (s := x) (a := a) (by rw [← hLX]; exact h))
            have KA := (fun wv => (impl_ActionsOf x wv).mono fun e w' h => (show ∃ A c, e = .returned (.slice A (actL x).length c) ∧ Own w' wv.heap.size 2 1 (.slice A (actL x).length c) (actL x).length (actL x) ∧ Q wv w' from h))
            rw [← hLX] at hlx KA
            obtain ⟨na, hna⟩ : ∃ na, LX.length = na := ⟨_, rfl⟩
            rw [hna] at hlx KA
            have HNA := Lib.hid hna
            have HLX := Lib.hid hLX
            have HKA := Lib.hid KA
            subst hA
            clear hX hLX hna KA
            go_wp2_with (go_at_call 26; refine (HKA.out _).mono ?_; rintro e w2 ⟨AX, cX, rfl, oX, q2⟩)
            have rX := oX.rd
            have fX : Far AX A1 := fun a b ha hb => by
              have a1 := oX.from a ha
              have a2 := ho.from b hb
              omega
            have bX : ∀ a, AX = some a → a.block < w2.heap.size := fun a ha => (oX.from a ha).2
            have o2 := ho.q q2
            clear oX ho
            go_loopw [5, 28] (fun nx i wz => ∃ (m : Nat) (A2 : Option Addr) (n2 c2 : Nat), m ≤ na ∧ i = .int .i64 m ∧ nx = .slice A2 n2 c2 ∧ Own wz w1.heap.size 2 1 (.slice A2 n2 c2) n2 (nxTo L j ++ (LX.take m).map (nextSt x)) ∧ Far AX A2 ∧ Rd wz AX LX ∧ (∀ a, AX = some a → a.block < wz.heap.size) ∧ Q w1 wz) (fun _ i _ => na - (intOf i).toNat)
            case atStart => exact ⟨0, A1, n1, c1, Nat.zero_le _, rfl, rfl, by simpa using o2, fX, rX, bX, hq1.trans q2⟩
            case round =>
              obtain ⟨m, A2, n2, c2, hm, rfl, rfl, o2, fX, rX, bX, hq2⟩ := hrel
              have hl2 : n2 ≤ 8 * j + 8 := by
                have a1 := o2.len
                have a2 := nxTo_len L j
                have a3 : ((LX.take m).map (nextSt x)).length ≤ m := by rw [List.length_map]; exact List.length_take_le m LX
                rw [List.length_append] at a1
                omega
              by_cases hlt2 : m < na
              · obtain ⟨b2, o2', hA2, g2⟩ := rX.at1 HNA.out hlt2
                have hy := HAI.out (el LX m) (el_mem (by rw [HNA.out]; exact hlt2))
                obtain ⟨y, hY⟩ : ∃ y, y = el LX m := ⟨_, rfl⟩
                rw [← hY] at g2 hy
                have HY := Lib.hid hY
                subst hA2
                clear hY
                go_wp2_with (first | (go_at_call 68; refine (impl_stateAfter _ _ _ hx hy).mono ?_; rintro e w' ⟨rfl, rfl⟩) | (at_builtin; refine appK elInt64 rfl _ _ rfl [nextSt x y] rfl o2 rfl (by simp) rfl _ _ rfl (by omega) hq2.size ?_; intro A' c' w' hown' hg' hgr'))
                go_roundw
                case rel =>
                  refine ⟨m + 1, A', n2 + 1, c', by omega, by go_num, rfl, ?_, fX.grew hgr' bX, rX.far hg' fX, fun a ha => Nat.lt_of_lt_of_le (bX a ha) hg'.size, hq2.mark o2 (Nat.le_refl _) hg'⟩
                  rw [take_el _ (by rw [HNA.out]; exact hlt2), ← HY.out, ← List.append_assoc]
                  exact hown'
                case measure => simp [intOf]; omega
              · obtain rfl : m = na := by omega
                go_wp2_with fail
                go_roundw
                case rel =>
                  refine ⟨j + 1, A2, n2, c2, by omega, by go_num, rfl, ?_, hq2⟩
                  have e1 : nxTo L (j + 1) = nxTo L j ++ (LX.take m).map (nextSt x) := by rw [nxTo, ← HX.out, nx1, ← HLX.out, ← HNA.out, List.take_length]
                  rw [e1]
                  exact o2
                case measure => simp [intOf]; omega
          · obtain rfl : j = n := by omega
            have e1 : itL s (k + 1) = nxTo L j := by rw [itL, ← HL.out, HN.out]
            have e2 : n1 = (itL s (k + 1)).length := by rw [e1]; simpa using ho.len.symm
            have HE := Lib.hid (And.intro e1 e2)
            clear e1 e2
            go_wp2_with fail
            go_roundw
            case rel => exact ⟨k + 1, A1, c1, by omega, by go_num, by rw [← HE.out.2], by rw [HE.out.1]; exact ho.rd, hq.trans (q1.trans hq1)⟩
            case measure => simp [intOf]; omega
      · obtain rfl : k = K := by omega
        have KC := Lib.hid (fun (wv : World) (h : Rd wv A L) => (show Calls Try.prog 71 #[.slice A n c, .int .i64 7] wv fun e w' => e = .returned (.bool true) ∧ Q wv w' from by
          have h1 := contains_any A n c L 7 wv h HN.out (by omega)
          rwa [HL.out, HF.out.2.1] at h1))
        go_wp2_with (go_at_call 71; refine (KC.out _ hR).mono ?_; rintro e w1 ⟨rfl, q1⟩)
        go_ret
        exact ⟨ret_int HS.out.symm, hq.trans q1⟩
  · have HS := Lib.hid (show stepsV s = -1 by simp [stepsV, hs])
    go_enter Try.func30, Try.ntmps30
    go_wp2_with (go_at_call 67; refine (impl_isState _ _).mono ?_; rintro e w' ⟨rfl, rfl⟩)
    go_ret
    exact ⟨ret_int HS.out.symm, Q.refl _⟩
end Go.Proofs.Ythlfadkpeogajaa
