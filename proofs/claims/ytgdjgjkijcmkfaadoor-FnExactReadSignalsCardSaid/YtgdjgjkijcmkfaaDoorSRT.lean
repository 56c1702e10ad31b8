/- Walks: the reading of a time, as the reference does it. No condition. -/
import Derived.Test.YtgdjgjkijcmkfaaDoorVal
import Derived.Test.YtgdjgjkijcmkfaaDoorRdT
import Derived.Test.YtgdjgjkijcmkfaaDoorTail
namespace Go.Proofs.YtgdjgjkijcmkfaaDoor
open Go.RowKit Go.WideShapes Go.ChangeShapes Go.Deep
/-- The pieces of a string that the reference reads a time by. -/
theorem tm_parts {n : Nat} (hn : n ≤ 1000000000) : ∃ L, (bs (tmL n)).size = L + 7 ∧ 1 ≤ L ∧ L ≤ 5 ∧ (bs (tmL n)).extract 0 L = bs (Lib.decDigits (n / 60000)) ∧ (bs (tmL n)).extract (L + 1) (L + 3) = bs (lastD 2 (n / 1000 % 60)) ∧ (bs (tmL n)).extract (L + 4) (L + 7) = bs (lastD 3 (n % 1000)) := by
  have h1 := nDigits_le (k := 4) (n := n / 60000) (by omega)
  have h2 := Lib.nDigits_pos (n / 60000)
  have hl := Lib.decDigits_length (n / 60000)
  refine ⟨Lib.nDigits (n / 60000), ?_, h2, h1, ?_, ?_, ?_⟩
  · rw [bs_size]
    unfold tmL
    simp [lastD_len, hl]
  · rw [Lib.extract_eq, bs_data]
    show bs _ = bs _
    congr 1
    rw [List.drop_zero]
    unfold tmL
    exact List.take_left' (by rw [hl]; omega)
  · rw [Lib.extract_eq, bs_data]
    show bs _ = bs _
    congr 1
    unfold tmL
    rw [← hl, ← List.drop_drop, List.drop_left' rfl, show (Lib.decDigits (n / 60000)).length + 3 - ((Lib.decDigits (n / 60000)).length + 1) = 2 by omega]
    rfl
  · rw [Lib.extract_eq, bs_data]
    show bs _ = bs _
    congr 1
    unfold tmL
    rw [← hl, ← List.drop_drop, List.drop_left' rfl, show (Lib.decDigits (n / 60000)).length + 7 - ((Lib.decDigits (n / 60000)).length + 4) = 3 by omega]
    rfl
theorem num_small {s : ByteArray} {v : Int} {k : Bool} (h : NumR pS s v k) (hs : s.size ≤ 5) : -100000 < v ∧ v < 100000 := by
  rcases h with ⟨_, _, rfl⟩ | ⟨_, rfl, _⟩
  · have h1 := (dS_itoa v).1
    have h2 := dS_size (bs (Lib.itoa v))
    have h3 : (dS (bs (Lib.itoa v))).size ≤ 5 := by
      cases hn : negS (bs (Lib.itoa v))
      · rw [h2.2 hn]; exact hs
      · have := h2.1 hn; omega
    rw [h1, bs_size, Lib.decDigits_length] at h3
    have h4 := Lib.lt_pow_nDigits v.natAbs
    have h5 : (10 : Nat) ^ Lib.nDigits v.natAbs ≤ 10 ^ 5 := Nat.pow_le_pow_right (by omega) h3
    omega
  · omega
/-- The five digits behind the minutes. -/
def dgT (s : ByteArray) : ByteArray := s.extract (s.size - 6) (s.size - 4) ++ s.extract (s.size - 3) s.size
theorem dgT_size {s : ByteArray} (h : 8 ≤ s.size) : (dgT s).size = 5 := by
  unfold dgT
  rw [ByteArray.size_append, ByteArray.size_extract, ByteArray.size_extract]
  omega
theorem dgT_tm {n : Nat} (hn : n ≤ 1000000000) : dgT (bs (tmL n)) = bs (lastD 2 (n / 1000 % 60) ++ lastD 3 (n % 1000)) ∧ (bs (tmL n)).extract 0 ((bs (tmL n)).size - 7) = bs (Lib.decDigits (n / 60000)) := by
  obtain ⟨L, e1, _, _, e2, e3, e4⟩ := tm_parts hn
  unfold dgT
  rw [e1, show L + 7 - 6 = L + 1 by omega, show L + 7 - 4 = L + 3 by omega, show L + 7 - 3 = L + 4 by omega, show L + 7 - 7 = L by omega, e2, e3, e4, bs_app]
  exact ⟨rfl, rfl⟩
theorem rt_len {s : ByteArray} {t : Int} {k : Bool} (h : TimR s t k) (hn : ¬ (8 ≤ s.size ∧ s.size ≤ 12)) : t = 0 ∧ k = false := by
  refine h.no fun u h1 h2 he => hn ?_
  obtain ⟨n, rfl⟩ := Int.eq_ofNat_of_zero_le h1
  rw [he, tmS_nat (by omega), bs_size]
  exact tmL_len (by omega)
theorem rt_digit {s : ByteArray} {t : Int} {k : Bool} {j : Nat} {b : UInt8} (h : TimR s t k) (hb : (dgT s).data.toList[j]? = some b) (h1 : ¬ (48 ≤ b.toNat ∧ b.toNat ≤ 57)) : t = 0 ∧ k = false := by
  refine h.no fun u h2 h3 he => h1 ?_
  obtain ⟨n, rfl⟩ := Int.eq_ofNat_of_zero_le h2
  rw [he, tmS_nat (by omega), (dgT_tm (by omega)).1, bs_data] at hb
  have := List.mem_of_getElem? hb
  simp at this
  rcases this with h | h
  · exact lastD_mem _ _ b h
  · exact lastD_mem _ _ b h
theorem rt_end {s : ByteArray} {t v : Int} {k k1 : Bool} {r : Nat} (h : TimR s t k) (hs : 8 ≤ s.size) (hd : dTo (dgT s) 5 r) (hv : NumR pS (s.extract 0 (s.size - 7)) v k1) :
    (k1 = true ∧ tmS (60000 * v + r) = s ∧ t = 60000 * v + r ∧ k = true) ∨ ((k1 = false ∨ tmS (60000 * v + r) ≠ s) ∧ t = 0 ∧ k = false) := by
  rcases h with ⟨h1, h2, h3, h4⟩ | ⟨h1, h2, h3⟩
  · left
    obtain ⟨n, rfl⟩ := Int.eq_ofNat_of_zero_le h2
    have hn : n ≤ 1000000000 := by omega
    rw [tmS_nat hn] at h4
    obtain ⟨e1, e2⟩ := dgT_tm hn
    rw [← h4] at e1 e2
    rw [e2, ← itoa_nat'] at hv
    obtain ⟨rfl, rfl⟩ := hv.yes (fun _ h => pS_bd h) (pS_small (by omega))
    obtain ⟨_, hd⟩ := hd
    rw [e1, bs_data, List.take_of_length_le (by simp [lastD_len]), dval_app, dval_last, dval_last] at hd
    have e3 : 60000 * ((n / 60000 : Nat) : Int) + (r : Int) = n := by omega
    rw [e3]
    exact ⟨rfl, by rw [tmS_nat hn, h4], rfl, h1⟩
  · right
    refine ⟨?_, h2, h1⟩
    right
    intro he
    by_cases hT : 0 ≤ 60000 * v + (r : Int) ∧ 60000 * v + (r : Int) ≤ 1000000000
    · exact h3 _ hT.1 hT.2 he.symm
    · rw [tmS_no hT] at he
      rw [← he] at hs
      have h0 : (⟨#[]⟩ : ByteArray).size = 0 := rfl
      omega
set_option maxRecDepth 100000 in
set_option maxHeartbeats 2000000 in
theorem spec_ReadTime (s : ByteArray) (t : Int) (k : Bool) (h : TimR s t k) (hs : s.size ≤ 1048576) (w : World) :
    Calls Tryd.prog 83 #[.string s] w fun e w' => e = .returned (.tuple #[.int .i64 t, .bool k]) ∧ Q w w' := by
  have hsI : (s.size : Int) ≤ 1048576 := by omega
  by_cases hl : 8 ≤ s.size ∧ s.size ≤ 12
  · obtain ⟨v, k1, hv⟩ := NumR.ex pS (s.extract 0 (s.size - 7))
    have hvb := num_small hv (by rw [ByteArray.size_extract]; omega)
    have K1 := Lib.hid (fun wv => spec_Value _ v k1 hv (by rw [ByteArray.size_extract]; omega) wv)
    have HD := Lib.hid (fun j b => rt_digit (j := j) (b := b) h)
    have HE := Lib.hid (fun r hd => rt_end (r := r) h hl.1 hd hv)
    have K2 := Lib.hid (fun T wv => spec_TimeText T wv)
    have hdg : s.extract (s.size - 6) (s.size - 4) ++ s.extract (s.size - 3) s.size = dgT s := rfl
    have hdz := dgT_size hl.1
    obtain ⟨L, hL⟩ : ∃ L, s.size = L + 7 := ⟨s.size - 7, by omega⟩
    have hL1 : 1 ≤ L ∧ L ≤ 5 := by omega
    rw [hL] at K1 hdg
    rw [show L + 7 - 6 = L + 1 by omega, show L + 7 - 4 = L + 3 by omega, show L + 7 - 3 = L + 4 by omega] at hdg
    rw [show L + 7 - 7 = L by omega] at K1
    have hs1 : (s.extract (L + 1) (L + 3)).size = 2 := by rw [ByteArray.size_extract]; omega
    have hs2 : (s.extract (L + 4) (L + 7)).size = 3 := by rw [ByteArray.size_extract]; omega
    generalize dgT s = D at *
    clear h hv hl
    go_enter Tryd.func83, Tryd.ntmps83
    go_wp2_with fail
    refine wp_region_quiet_lit (by kernel_rfl) (by kernel_rfl) ?_
    repeat (any_goals (first | go_big_quiet_step ( fail) | quiet_step ( fail) | (refine wpQuiet_step (fun K hK => ?_); go_simp; split <;> (refine hK _ ?_; clear hK K))))
    all_goals (refine wpQuiet_nil ?_; intro _ hw'; obtain ⟨nq, hw''⟩ := hw'; subst hw'')
    have Q0 : Q w (w.drewN nq) := (Q.refl w).drewN nq
    generalize w.drewN nq = w0 at *
    have hdzI : (D.size : Int) = 5 := by omega
    go_wp2_with fail
    go_loopw [6, 7] (fun x i wr => ∃ j n : Nat, j ≤ 5 ∧ i = .int .i64 j ∧ x = .int .i64 n ∧ Hid (dTo D j n) ∧ n < 10 ^ j ∧ wr = w0) (fun _ i _ => 5 - (intOf i).toNat)
    case atStart => exact ⟨0, 0, by omega, rfl, rfl, Lib.hid (dTo_zero _), by omega, rfl⟩
    case round =>
      obtain ⟨j, n, hj, rfl, rfl, HT, hn, rfl⟩ := hrel
      have hn15 := pow15 (show j ≤ 15 by omega) hn
      have hn15I : (n : Int) < 1000000000000000 := by omega
      by_cases hlt : j < 5
      · have hltI : (j : Int) < 5 := by omega
        have hltD : j < D.size := by omega
        have hget : D.data.toList[j]? = some D[j] := by
          show D.data.toList[j]? = some D.data[j]
          simp
        by_cases hb : 48 ≤ D[j].toNat ∧ D[j].toNat ≤ 57
        · have HT' := Lib.hid (dTo_succ HT.out hget hb)
          have hb1 : ¬ ((D[j].toNat : Nat) : Int) < 48 := by omega
          have hb2 : ¬ (57 : Int) < ((D[j].toNat : Nat) : Int) := by omega
          have hb3 : ((D[j].toNat : Nat) : Int) ≤ 57 := by omega
          have hb4 : (48 : Int) ≤ ((D[j].toNat : Nat) : Int) := by omega
          have hp : 10 * n + (D[j].toNat - 48) < 10 ^ (j + 1) := by rw [Nat.pow_succ]; omega
          clear hget hn
          go_wp2_with fail
          go_roundw
          case rel => exact ⟨j + 1, _, by omega, by go_num, by go_num, HT', hp, by first | rfl | trivial⟩
          case measure => simp [intOf]; omega
        · obtain ⟨rfl, rfl⟩ := HD.out j _ hget hb
          clear hget
          by_cases hb1 : D[j].toNat < 48
          · have hb1I : ((D[j].toNat : Nat) : Int) < 48 := by omega
            go_wp2_with fail
            go_ret2
            exact ⟨rfl, Q0⟩
          · have hb1I : ¬ ((D[j].toNat : Nat) : Int) < 48 := by omega
            have hb2I : (57 : Int) < ((D[j].toNat : Nat) : Int) := by omega
            go_wp2_with fail
            go_ret2
            exact ⟨rfl, Q0⟩
      · obtain rfl : j = 5 := by omega
        have hnI : (n : Int) < 100000 := by omega
        have HE' := HE.out n HT.out
        have K3 := Lib.hid (fun wv => K2.out (60000 * v + n) wv)
        clear HE HD HT K2
        go_wp2_with fail
        refine (K1.out _).mono ?_
        rintro e w1 ⟨rfl, q1⟩
        rcases HE' with ⟨rfl, he, rfl, rfl⟩ | ⟨he, rfl, rfl⟩
        · rw [he] at K3
          clear he
          go_wp2_with fail
          refine (K3.out _).mono ?_
          rintro e w2 ⟨rfl, q2⟩
          go_wp2_with fail
          go_ret2
          exact ⟨rfl, (Q0.trans q1).trans q2⟩
        · cases k1
          · clear he
            go_wp2_with fail
            go_ret2
            exact ⟨rfl, Q0.trans q1⟩
          · have he2 : ((tmS (60000 * v + n)).toList == s.toList) = false := by
              rw [beq_eq_false_iff_ne]
              intro hh
              have := bytes_eq (a := tmS (60000 * v + n)) (b := s) (by simpa using hh)
              simp [this] at he
            generalize tmS (60000 * v + n) = S at *
            clear he
            go_wp2_with fail
            refine (K3.out _).mono ?_
            rintro e w2 ⟨rfl, q2⟩
            go_wp2_with fail
            go_ret2
            exact ⟨rfl, (Q0.trans q1).trans q2⟩
  · obtain ⟨rfl, rfl⟩ := rt_len h hl
    clear h
    by_cases h8 : s.size < 8
    · have h8I : (s.size : Int) < 8 := by omega
      go_enter Tryd.func83, Tryd.ntmps83
      go_wp2_with fail
      go_ret2
      exact ⟨rfl, Q.refl _⟩
    · have h8I : ¬ (s.size : Int) < 8 := by omega
      have h12I : (12 : Int) < (s.size : Int) := by omega
      go_enter Tryd.func83, Tryd.ntmps83
      go_wp2_with fail
      go_ret2
      exact ⟨rfl, Q.refl _⟩
end Go.Proofs.YtgdjgjkijcmkfaaDoor
