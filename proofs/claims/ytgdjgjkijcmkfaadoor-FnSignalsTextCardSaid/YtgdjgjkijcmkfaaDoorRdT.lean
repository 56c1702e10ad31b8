/- Walks: the reading of a time, as the program does it. Condition: what the library's variables hold (Env). -/
import Derived.Test.YtgdjgjkijcmkfaaDoorRdN
namespace Go.Proofs.YtgdjgjkijcmkfaaDoor
open Go.RowKit Go.WideShapes Go.ChangeShapes
theorem tmS_ne {T : Int} {s : ByteArray} (h1 : s ≠ ⟨#[]⟩) (h : ∀ u, 0 ≤ u → u ≤ 1000000000 → s ≠ tmS u) : ((tmS T).toList == s.toList) = false := by
  rw [beq_eq_false_iff_ne]
  intro hh
  have he := bytes_eq (a := tmS T) (b := s) (by simpa using hh)
  by_cases hT : 0 ≤ T ∧ T ≤ 1000000000
  · exact h T hT.1 hT.2 he.symm
  · rw [tmS_no hT] at he
    exact h1 he.symm
set_option maxRecDepth 100000 in
set_option maxHeartbeats 1000000 in
theorem impl_RTgood (n : Nat) (hn : n ≤ 1000000000) (w : World) (hE : Env w) :
    Calls Tryd.prog 77 #[.string (tmS (n : Int))] w fun e w' => e = .returned (.tuple #[.int .i64 n, .bool true]) ∧ Q w w' := by
  obtain ⟨m, hm⟩ := hE.mx
  have hsz := tmL_len hn
  have K1 : Calls Tryd.prog 72 #[.string (bs (tmL n)), .string (bs [58])] w fun e w' => e = .returned (.tuple #[.string (bs (Lib.decDigits (n / 60000))), .string (bs (lastD 2 (n / 1000 % 60) ++ (46 :: lastD 3 (n % 1000)))), .bool true]) ∧ ∃ n, w' = w.drewN n := by
    have := Tryd.strings_Cut (bs (tmL n)) (bs [58]) m w (by rw [bs_size]; omega) hm
    rw [bs_data, bs_data, cut_tm] at this
    exact this
  obtain ⟨r1, r2, r3⟩ := rest_tm (n / 1000 % 60) (n % 1000)
  have hv : NumR pI (bs (Lib.decDigits (n / 60000))) ((n / 60000 : Nat) : Int) true := by
    have := pI_small (n := ((n / 60000 : Nat) : Int)) (by omega)
    refine Or.inl ⟨rfl, this, ?_⟩
    rw [itoa_nat']
  have hds : (bs (Lib.decDigits (n / 60000))).size ≤ 1048576 := by
    rw [bs_size, Lib.decDigits_length]
    have := nDigits_le (k := 4) (n := n / 60000) (by omega)
    omega
  have K2 := Lib.hid (fun wv (h : Env wv) => impl_number _ _ _ hv hds wv h)
  have K3 : Hid (∀ wv (h : Env wv), Calls Tryd.prog 98 #[.string (bs (lastD 2 (n / 1000 % 60)))] wv fun e w' => e = .returned (.tuple #[.int .i64 ((n / 1000 % 60 : Nat) : Int), .nilIface]) ∧ Q wv w') := Lib.hid (by
    intro wv h
    refine (lib_Atoi (bs (lastD 2 (n / 1000 % 60))) (by rw [bs_size, lastD_len]; omega) wv h).mono ?_
    rintro e w' ⟨x, E, rfl, ⟨_, hG⟩, q⟩
    rw [bs_data, atoi_last 1 _ (by omega)] at hG
    rcases hG with ⟨rfl, hp⟩ | ⟨_, hp⟩
    · injection hp with hp
      subst hp
      exact ⟨by rw [show n / 1000 % 60 % 10 ^ (1 + 1) = n / 1000 % 60 by omega], q⟩
    · exact absurd rfl (hp _))
  have K4 : Hid (∀ wv (h : Env wv), Calls Tryd.prog 98 #[.string (bs (lastD 3 (n % 1000)))] wv fun e w' => e = .returned (.tuple #[.int .i64 ((n % 1000 : Nat) : Int), .nilIface]) ∧ Q wv w') := Lib.hid (by
    intro wv h
    refine (lib_Atoi (bs (lastD 3 (n % 1000))) (by rw [bs_size, lastD_len]; omega) wv h).mono ?_
    rintro e w' ⟨x, E, rfl, ⟨_, hG⟩, q⟩
    rw [bs_data, atoi_last 2 _ (by omega)] at hG
    rcases hG with ⟨rfl, hp⟩ | ⟨_, hp⟩
    · injection hp with hp
      subst hp
      exact ⟨by rw [show n % 1000 % 10 ^ (2 + 1) = n % 1000 by omega], q⟩
    · exact absurd rfl (hp _))
  have K5 := Lib.hid (fun T wv (h : Tbl wv) => impl_TimeText T wv h)
  have e0 := tmS_nat hn
  rw [← e0] at K1
  clear hv hds hsz
  generalize bs (lastD 2 (n / 1000 % 60) ++ (46 :: lastD 3 (n % 1000))) = R at *
  generalize bs (Lib.decDigits (n / 60000)) = P at *
  generalize bs (lastD 2 (n / 1000 % 60)) = S2 at *
  generalize bs (lastD 3 (n % 1000)) = S3 at *
  obtain ⟨a, ha⟩ : ∃ a, a = n / 60000 := ⟨_, rfl⟩
  obtain ⟨b, hb⟩ : ∃ b, b = n / 1000 % 60 := ⟨_, rfl⟩
  obtain ⟨c, hc⟩ : ∃ c, c = n % 1000 := ⟨_, rfl⟩
  rw [← ha] at K2
  rw [← hb] at K3
  rw [← hc] at K4
  have hT : (a : Int) * 60000 + (b : Int) * 1000 + (c : Int) = n := by omega
  have ha2 : a ≤ 16667 := by omega
  have hb2 : b < 60 := by omega
  have hc2 : c < 1000 := by omega
  have hT2 : a * 60000 + b * 1000 + c = n := by omega
  clear ha hb hc e0
  generalize hSS : tmS (n : Int) = S at *
  go_enter Tryd.func77, Tryd.ntmps77
  go_wp2_with fail
  refine K1.mono ?_
  rintro e w1 ⟨rfl, d, rfl⟩
  clear K1
  have E1 : Env (w.drewN d) := hE.q ((Q.refl w).drewN d)
  have Q1 : Q w (w.drewN d) := (Q.refl w).drewN d
  generalize w.drewN d = w1 at *
  go_wp2_with fail
  refine (K2.out _ E1).mono ?_
  rintro e w2 ⟨rfl, q2⟩
  have E2 := E1.q q2
  have Q2 := Q1.trans q2
  clear Q1 q2 E1
  go_wp2_with (go_at_call 81; refine (impl_in _ _ _ _).mono ?_; rintro e w' ⟨rfl, rfl⟩)
  refine (K3.out _ E2).mono ?_
  rintro e w3 ⟨rfl, q3⟩
  have E3 := E2.q q3
  have Q3 := Q2.trans q3
  clear Q2 q3 E2
  go_wp2_with fail
  refine (K4.out _ E3).mono ?_
  rintro e w4 ⟨rfl, q4⟩
  have E4 := E3.q q4
  have Q4 := Q3.trans q4
  clear Q3 q4 E3
  go_wp2_with fail
  refine (K5.out _ _ E4.tbl).mono ?_
  rintro e w5 ⟨rfl, q5⟩
  rw [hSS]
  go_wp2_with fail
  go_ret2
  exact ⟨rfl, Q4.trans q5⟩
set_option maxRecDepth 100000 in
set_option maxHeartbeats 1000000 in
theorem impl_RTbad (s : ByteArray) (h : ∀ u, 0 ≤ u → u ≤ 1000000000 → s ≠ tmS u) (hs : s.size ≤ 1048576) (w : World) (hE : Env w) :
    Calls Tryd.prog 77 #[.string s] w fun e w' => e = .returned (.tuple #[.int .i64 0, .bool false]) ∧ Q w w' := by
  obtain ⟨m, hm⟩ := hE.mx
  obtain ⟨p, r, f, hcut⟩ : ∃ p r f, Lib.cut s.data.toList (bs [58]).data.toList = (p, r, f) := ⟨_, _, _, rfl⟩
  have hpl : p.length ≤ s.size ∧ r.length ≤ s.size ∧ (s = ⟨#[]⟩ → p = []) := by
    rw [bs_data] at hcut
    rcases part_at 58 s.data.toList with h1 | ⟨p', r', h1, h2⟩
    · rw [cut_out h1] at hcut
      injection hcut with e1 e2
      injection e2 with e2 e3
      subst e1 e2
      refine ⟨by rw [Lib.size_eq]; exact Nat.le_refl _, by simp, fun h => by subst h; rfl⟩
    · rw [h1, cut_hit _ h2] at hcut
      injection hcut with e1 e2
      injection e2 with e2 e3
      subst e1 e2
      have : s.size = p'.length + (r'.length + 1) := by rw [Lib.size_eq, h1]; simp
      refine ⟨by omega, by omega, fun h => ?_⟩
      subst h
      have h0 : (⟨#[]⟩ : ByteArray).size = 0 := rfl
      omega
  have K1 : Calls Tryd.prog 72 #[.string s, .string (bs [58])] w fun e w' => e = .returned (.tuple #[.string (bs p), .string (bs r), .bool f]) ∧ ∃ n, w' = w.drewN n := by
    have := Tryd.strings_Cut s (bs [58]) m w (by omega) hm
    rw [hcut] at this
    exact this
  clear hcut
  have hP : (bs p).size ≤ 1048576 := by rw [bs_size]; omega
  have hR : (bs r).size ≤ 1048576 := by rw [bs_size]; omega
  obtain ⟨v, k, hv⟩ := NumR.ex pI (bs p)
  have K2 := Lib.hid (fun wv (h : Env wv) => impl_number _ _ _ hv hP wv h)
  have hbv := hv.bd (fun n hn => pI_bd hn)
  have hne : k = true → ∀ T, ((tmS T).toList == s.toList) = false := by
    intro hk T
    refine tmS_ne (fun h0 => ?_) h
    have := hpl.2.2 h0
    subst this
    rcases hv with ⟨_, _, h3⟩ | ⟨h1, _⟩
    · exact itoa_ne v (bs_inj h3).symm
    · rw [h1] at hk
      cases hk
  clear hv hpl h
  generalize bs p = P at *
  generalize bs r = R at *
  have K3 : Hid (∀ (i j : Nat) wv (h : Env wv), Calls Tryd.prog 98 #[.string (R.extract i j)] wv fun e w' => ∃ x E, e = .returned (.tuple #[.int .i64 x, E]) ∧ (E = .nilIface ∨ ∃ T a, E = .iface T (.pointer (some a))) ∧ Q wv w') := Lib.hid (by
    intro i j wv h
    refine (lib_Atoi (R.extract i j) (by rw [ByteArray.size_extract]; omega) wv h).mono ?_
    rintro e w' ⟨x, E, rfl, ⟨_, hG⟩, q⟩
    exact ⟨x, E, rfl, hG.imp (fun h => h.1) (fun h => h.1), q⟩)
  have K5 : Hid (k = true → ∀ T wv (h : Tbl wv), Calls Tryd.prog 62 #[.int .i64 T] wv fun e w' => ∃ S, e = .returned (.string S) ∧ (S.toList == s.toList) = false ∧ Q wv w') := Lib.hid (by
    intro hk T wv h
    refine (impl_TimeText T wv h).mono ?_
    rintro e w' ⟨rfl, q⟩
    exact ⟨_, rfl, hne hk T, q⟩)
  clear hne hs
  go_enter Tryd.func77, Tryd.ntmps77
  go_wp2_with fail
  refine K1.mono ?_
  rintro e w1 ⟨rfl, d, rfl⟩
  clear K1
  have E1 : Env (w.drewN d) := hE.q ((Q.refl w).drewN d)
  have Q1 : Q w (w.drewN d) := (Q.refl w).drewN d
  generalize w.drewN d = w1 at *
  go_wp2_with fail
  refine (K2.out _ E1).mono ?_
  rintro e w2 ⟨rfl, q2⟩
  have E2 := E1.q q2
  have Q2 := Q1.trans q2
  clear Q1 q2 E1
  cases k
  · go_wp2_with fail
    go_ret2
    exact ⟨rfl, Q2⟩
  · by_cases hin : 0 ≤ v ∧ v ≤ 1000000000
    · by_cases h6 : R.size = 6
      · go_wp2_with (go_at_call 81; refine (impl_in _ _ _ _).mono ?_; rintro e w' ⟨rfl, rfl⟩)
        refine (K3.out _ _ _ E2).mono ?_
        rintro e w3 ⟨x1, F1, rfl, hF1, q3⟩
        have E3 := E2.q q3
        have Q3 := Q2.trans q3
        clear Q2 q3 E2
        go_wp2_with fail
        refine (K3.out _ _ _ E3).mono ?_
        rintro e w4 ⟨x2, F2, rfl, hF2, q4⟩
        have E4 := E3.q q4
        have Q4 := Q3.trans q4
        clear Q3 q4 E3
        rcases hF1 with rfl | ⟨T1, a1, rfl⟩
        · rcases hF2 with rfl | ⟨T2, a2, rfl⟩
          · go_wp2_with fail
            refine (K5.out (by trivial) _ _ E4.tbl).mono ?_
            rintro e w5 ⟨S, rfl, hS, q5⟩
            go_wp2_with fail
            go_ret2
            exact ⟨rfl, Q4.trans q5⟩
          · go_wp2_with fail
            go_ret2
            exact ⟨rfl, Q4⟩
        · go_wp2_with fail
          go_ret2
          exact ⟨rfl, Q4⟩
      · have h6' : ¬ (R.size : Int) = 6 := by omega
        go_wp2_with (go_at_call 81; refine (impl_in _ _ _ _).mono ?_; rintro e w' ⟨rfl, rfl⟩)
        go_ret2
        exact ⟨rfl, Q2⟩
    · go_wp2_with (go_at_call 81; refine (impl_in _ _ _ _).mono ?_; rintro e w' ⟨rfl, rfl⟩)
      go_ret2
      exact ⟨rfl, Q2⟩
theorem impl_ReadTime (s : ByteArray) (t : Int) (k : Bool) (h : TimR s t k) (hs : s.size ≤ 1048576) (w : World) (hE : Env w) :
    Calls Tryd.prog 77 #[.string s] w fun e w' => e = .returned (.tuple #[.int .i64 t, .bool k]) ∧ Q w w' := by
  rcases h with ⟨rfl, h1, h2, rfl⟩ | ⟨rfl, rfl, h⟩
  · obtain ⟨n, rfl⟩ := Int.eq_ofNat_of_zero_le h1
    exact impl_RTgood n (by omega) w hE
  · exact impl_RTbad s h hs w hE
end Go.Proofs.YtgdjgjkijcmkfaaDoor
