/- Walks: the reading of a list of signals, as the reference does it. No condition. -/
import Derived.Test.YtgdjgjkijcmkfaaDoorSgU
namespace Go.Proofs.YtgdjgjkijcmkfaaDoor
open Go.RowKit Go.WideShapes Go.ChangeShapes Go.Deep
theorem grew_ne {wr : World} {A A' : Option Addr} {g : Nat} (h : Grew wr A A') (hne : ∀ a, A = some a → a.block ≠ g) (hl : g < wr.heap.size) : ∀ a, A' = some a → a.block ≠ g := by
  intro a ha
  rcases h with h9 | ⟨b, h9, h10⟩
  · rw [ha] at h9
    rcases hA : A with _ | a1
    · rw [hA] at h9; cases h9
    · rw [hA] at h9
      simp only [Option.map_some, Option.some.injEq] at h9
      rw [h9]
      exact hne a1 hA
  · rw [ha] at h9
    simp only [Option.map_some, Option.some.injEq] at h9
    omega
theorem cell_grown {w w' : World} {A : Option Addr} {g i : Nat} {v : Value} (hg : w.grownBy w' (A.map (·.block))) (hne : ∀ a, A = some a → a.block ≠ g) (hl : g < w.heap.size) (hc : w.cell? ⟨g, i, none⟩ = some v) : w'.cell? ⟨g, i, none⟩ = some v :=
  (hg.cell_far ⟨g, i, none⟩ hl (by
    rcases A with _ | a1
    · simp
    · intro e
      simp only [Option.map_some, Option.some.injEq] at e
      exact hne a1 rfl e.symm)).trans hc
theorem q_grown {w wr w' : World} {e : TypeId} {k n c : Nat} {A : Option Addr} {xs : List Int} (hq : Q w wr) (ho : Own wr w.heap.size e k (.slice A n c) n xs) (hg : wr.grownBy w' (A.map (·.block))) : Q w w' := hq.grown hg (by
  intro b hb
  rcases A with _ | a1
  · cases hb
  · have := (ho.from a1 rfl).1
    simp only [Option.map_some, Option.some.injEq] at hb
    omega)
set_option maxRecDepth 100000 in
set_option maxHeartbeats 4000000 in
theorem spec_ReadSignals (s : ByteArray) (ys : List Int) (n : Nat) (kk : Bool) (h : SigR s ys n kk) (hs : s.size ≤ 1048576) (w : World) : Calls Tryd.prog 29 #[.string s] w (RSg w n ys kk) := by
  by_cases h0 : s = ⟨#[]⟩
  · subst h0
    obtain ⟨rfl, rfl, rfl⟩ := h.nil
    have O0 := OwnL.new w 56 2 (B := w.heap.size) (Nat.le_refl _)
    obtain ⟨A0, n0, c0, he0, ho0⟩ := O0
    injection he0 with h1 h2 h3
    subst h1 h2 h3
    clear h hs
    go_enter Tryd.func29, Tryd.ntmps29
    go_wp2_with fail
    go_ret2
    exact ⟨_, _, rfl, ho0, (Q.refl w).alloc _⟩
  · have hs2 : s.toList ≠ [] := fun hh => h0 (bytes_eq (a := s) (b := ⟨#[]⟩) (by rw [hh]; simp))
    have hs0 : s.toList.isEmpty = false := by simpa using hs2
    obtain ⟨P, hP⟩ : ∃ P, pcs 32 s = P := ⟨_, rfl⟩
    obtain ⟨N, hN⟩ : ∃ N, N = P.length := ⟨_, rfl⟩
    have K0 := Lib.hid (fun wv => split_own 32 s hs P hP 32 rfl wv)
    have HF := Lib.hid (fun j p hp hb => h.fail (p := p) (j := j) h0 hp hb)
    have HLa := Lib.hid (fun xs m hl hx => h.last (xs := xs) (m := m) (N := N) h0 (by rw [hP]; exact hN.symm) hl hx)
    have HD := Lib.hid (fun p a b (xs xs' : List Int) (m m' j : Nat) (v : Int) hp hab hv hx hk => KdR.done (p := p) (a := a) (b := b) (xs := xs) (xs' := xs') (m := m) (m' := m') (j := j) (v := v) h h0 hp hab hv hx hk)
    rw [hP] at HF HLa HD
    have HZ := Lib.hid (fun p (hp : p ∈ P) => Nat.le_trans (pcs_le (by rw [hP]; exact hp)) hs)
    have HN := Lib.hid hN
    rw [← hN] at K0
    have O0 := OwnL.new w 56 2 (B := w.heap.size) (Nat.le_refl _)
    obtain ⟨A0, n0, c0, he0, ho0⟩ := O0
    injection he0 with h1 h2 h3
    subst h1 h2 h3
    by_cases h40 : N ≤ 40
    · have h40I : ¬ (40 : Int) < (N : Int) := by omega
      have h40J : (N : Int) ≤ 40 := by omega
      clear h hs h0 hP hN
      go_enter Tryd.func29, Tryd.ntmps29
      go_wp2_with fail
      refine (K0.out _).mono ?_
      rintro e w1 ⟨g, d, rfl, hcj, hd, hg, l1, q1⟩
      have Q1 := ((Q.refl w).alloc (.cells #[] 56)).trans q1
      have ho1 := ho0.q q1
      have hg1 : w.heap.size ≠ g := by simp at hg; omega
      clear K0 q1 ho0 hg
      go_wp2_with fail
      go_loopw [4, 6] (fun v i wr => ∃ (j m : Nat) (A1 : Option Addr) (d1 : Nat) (xs : List Int), j ≤ N ∧ i = .int .i64 (j : Nat) ∧ v = .slice A1 m d1 ∧ Own wr w.heap.size 56 2 (.slice A1 m d1) m xs ∧ Hid ((m = j ∧ SgTo P j xs) ∨ kk = false) ∧ m ≤ j ∧ Hid (∀ j u, P[j]? = some u → wr.cell? ⟨g, j, none⟩ = some (.string u)) ∧ (∀ a, A1 = some a → a.block ≠ g) ∧ g < wr.heap.size ∧ Q w wr) (fun _ i _ => N - (intOf i).toNat)
      case atStart => exact ⟨0, 0, _, _, [], by omega, rfl, rfl, ho1, Lib.hid (Or.inl ⟨rfl, SgTo.zero P⟩), by omega, Lib.hid hcj, (fun a ha => by injection ha with ha; subst ha; exact hg1), l1, Q1⟩
      case round =>
        clear hcj ho1 Q1 l1 hg1
        obtain ⟨j, m, A1, d1, xs, hj, rfl, rfl, hown, HT, hmj, HCj, hne, lg, hq⟩ := hrel
        by_cases hlt : j < N
        · have hltI : (j : Int) < (N : Int) := by omega
          have hltd : j < d := by omega
          obtain ⟨p, hp⟩ : ∃ p, P[j]? = some p := ⟨P[j]'(by rw [← HN.out]; exact hlt), List.getElem?_eq_getElem (by rw [← HN.out]; exact hlt)⟩
          have hc := HCj.out j p hp
          have hpz := HZ.out p (List.mem_of_getElem? hp)
          have HFj := Lib.hid (fun hb => HF.out j p hp hb)
          obtain ⟨Pp, hPp⟩ : ∃ Pp, pcs 64 p = Pp := ⟨_, rfl⟩
          have K1 := Lib.hid (fun wv => split_own 64 p hpz Pp hPp 64 rfl wv)
          by_cases h2 : Pp.length = 2
          · obtain ⟨a, b, rfl⟩ : ∃ a b, Pp = [a, b] := by
              match Pp, h2 with
              | [a, b], _ => exact ⟨a, b, rfl⟩
            obtain ⟨v, ok, hv⟩ := NumR.ex pS b
            have hvb := hv.bd (fun n hn => pS_bd hn)
            have hbz : b.size ≤ 1048576 := by
              have := congrArg ByteArray.size (part2_eq hPp)
              rw [ba_len, ba_len] at this
              omega
            have K2 := Lib.hid (fun wv => spec_Value b v ok hv hbz wv)
            have HBn : Hid (ok = false → n = 0 ∧ ys = [] ∧ kk = false) := Lib.hid (fun he => by subst he; exact HFj.out (Or.inl (part2_num hPp hv)))
            have HDj : Hid (ok = true → ∀ m' xs', KdR a v m xs 9 m' xs' → (m' = j + 1 ∧ SgTo P (j + 1) xs') ∨ kk = false) := Lib.hid (fun he m' xs' hk => by subst he; exact HD.out p a b xs xs' m m' j v hp hPp hv HT.out hk)
            clear hp hpz hv hbz hPp h2 HFj
            simp only [List.length_cons, List.length_nil, Nat.zero_add, Nat.reduceAdd] at K1
            go_wp2_with fail
            refine (K1.out _).mono ?_
            rintro e w2 ⟨gp, dp, rfl, hcp, hdp, hgp, lgp, q2⟩
            have ca := hcp 0 a rfl
            have cb := hcp 1 b rfl
            have hq2 := hq.trans q2
            have hown2 := hown.q q2
            have HC2 : Hid (∀ j u, P[j]? = some u → w2.cell? ⟨g, j, none⟩ = some (.string u)) := Lib.hid (fun j u hu => q2.cell (HCj.out j u hu))
            have lg2 := Nat.lt_of_lt_of_le lg q2.size
            have hnp : ∀ a, A1 = some a → a.block ≠ gp := fun a ha => by have := (hown.from a ha).2; omega
            clear K1 hq HCj hown hc q2 hcp hgp lg
            go_wp2_with fail
            refine (K2.out _).mono ?_
            rintro e w3 ⟨rfl, q3⟩
            have hq3 := hq2.trans q3
            have hown3 := hown2.q q3
            have HC3 : Hid (∀ j u, P[j]? = some u → w3.cell? ⟨g, j, none⟩ = some (.string u)) := Lib.hid (fun j u hu => q3.cell (HC2.out j u hu))
            have lg3 := Nat.lt_of_lt_of_le lg2 q3.size
            have lp3 := Nat.lt_of_lt_of_le lgp q3.size
            have ca3 := q3.cell ca
            clear K2 hq2 HC2 hown2 q3 lg2 lgp ca cb
            cases ok
            · obtain ⟨rfl, rfl, rfl⟩ := HBn.out rfl
              go_wp2_with fail
              go_ret2
              exact ⟨none, 0, rfl, Own.nil, hq3⟩
            · go_wp2_with fail
              go_loopw [4, 10] (fun x i wr => ∃ (kd m' : Nat) (A' : Option Addr) (d' : Nat) (xs' : List Int), 1 ≤ kd ∧ kd ≤ 9 ∧ i = .int .i64 (kd : Nat) ∧ x = .slice A' m' d' ∧ Own wr w.heap.size 56 2 (.slice A' m' d') m' xs' ∧ Hid (KdR a v m xs kd m' xs') ∧ m' ≤ m + 1 ∧ Hid (∀ j u, P[j]? = some u → wr.cell? ⟨g, j, none⟩ = some (.string u)) ∧ (∀ a, A' = some a → a.block ≠ g) ∧ g < wr.heap.size ∧ (∀ a, A' = some a → a.block ≠ gp) ∧ gp < wr.heap.size ∧ wr.cell? ⟨gp, 0, none⟩ = some (.string a) ∧ Q w wr) (fun _ i _ => 9 - (intOf i).toNat)
              case atStart => exact ⟨1, m, A1, d1, xs, by omega, by omega, rfl, rfl, hown3, Lib.hid (Or.inl ⟨rfl, rfl, fun k h1 h2 => by omega⟩), by omega, HC3, hne, lg3, hnp, lp3, ca3, hq3⟩
              case round =>
                clear hown3 HC3 lg3 lp3 ca3 hq3 hnp hne
                obtain ⟨kd, m', A', d', xs', hk1, hk9, rfl, rfl, ho, HK, hm', HCr, hne, lg, hnp, lp, ca, hq⟩ := hrel
                by_cases hlt8 : kd ≤ 8
                · have hlt8I : (kd : Int) ≤ 8 := by omega
                  have K4 := Lib.hid (fun wv => spec_l13Word kd (by omega) wv)
                  by_cases hW : wordS kd = a
                  · have hW2 : ((wordS kd).toList == a.toList) = true := by rw [hW]; simp
                    obtain ⟨rfl, hk'⟩ := HK.out.hit ⟨hk1, hlt8⟩ hW
                    have HK' := Lib.hid hk'
                    clear hk' hW HK
                    generalize wordS kd = W1 at *
                    go_wp2_with fail
                    go_region_with (go_at_call 51; refine (K4.out _).mono ?_; rintro e w7 ⟨rfl, q7⟩; have QW : Q wr w7 := Q.trans (by with_reducible first | exact (Q.refl _).drew | exact Q.refl _) q7; have c44 := QW.cell ca)
                    all_goals
                      have hqx : Q w _ := hq.trans QW
                      have hox := ho.q QW
                      have lgx := Nat.lt_of_lt_of_le lg QW.size
                      have lpx := Nat.lt_of_lt_of_le lp QW.size
                      go_wp2_with (at_builtin; refine appK elSignal rfl _ _ rfl [(kd : Int), v] rfl hox rfl (by simp) rfl _ _ rfl (by omega) hqx.size ?_; intro A9 c9 w9 hown9 hg9 hgr9)
                      go_roundw
                      case rel => exact ⟨kd + 1, _, _, _, _, by omega, by omega, by go_num, rfl, hown9, HK', by omega, Lib.hid (fun i u hu => cell_grown hg9 hne lgx (QW.cell (HCr.out i u hu))), grew_ne hgr9 hne lgx, Nat.lt_of_lt_of_le lgx hg9.size, grew_ne hgr9 hnp lpx, Nat.lt_of_lt_of_le lpx hg9.size, cell_grown hg9 hnp lpx c44, q_grown hqx hox hg9⟩
                      case measure => simp [intOf]; omega
                  · have hW2 := str_ne hW
                    have HK' := Lib.hid (HK.out.miss hW)
                    clear hW HK
                    generalize wordS kd = W1 at *
                    go_wp2_with fail
                    go_region_with (go_at_call 51; refine (K4.out _).mono ?_; rintro e w7 ⟨rfl, q7⟩; have QW : Q wr w7 := Q.trans (by with_reducible first | exact (Q.refl _).drew | exact Q.refl _) q7; have c44 := QW.cell ca)
                    all_goals
                      have hqx : Q w _ := hq.trans QW
                      have hox := ho.q QW
                      have lgx := Nat.lt_of_lt_of_le lg QW.size
                      have lpx := Nat.lt_of_lt_of_le lp QW.size
                      go_wp2_with fail
                      go_roundw
                      case rel => exact ⟨kd + 1, _, _, _, _, by omega, by omega, by go_num, rfl, by first | exact hox | exact hox.q ((Q.refl _).drew), HK', hm', Lib.hid (fun i u hu => by first | exact QW.cell (HCr.out i u hu) | exact ((Q.refl _).drew).cell (QW.cell (HCr.out i u hu))), hne, by first | exact lgx | (simp; exact lgx), hnp, by first | exact lpx | (simp; exact lpx), by first | exact c44 | (simp; exact c44), by first | exact hqx | exact hqx.drew⟩
                      case measure => simp [intOf]; omega
                · obtain rfl : kd = 9 := by omega
                  have HT' := Lib.hid (HDj.out (by trivial) _ _ HK.out)
                  clear HK
                  go_wp2_with fail
                  go_roundw
                  case rel => exact ⟨j + 1, m', A', d', xs', by omega, by go_num, rfl, ho, HT', by omega, HCr, hne, lg, hq⟩
                  case measure => simp [intOf]; omega
          · obtain ⟨rfl, rfl, rfl⟩ := HFj.out (Or.inl (part2_len (by rw [hPp]; exact h2)))
            have hp0 := pcs_pos 64 p
            rw [hPp] at hp0
            obtain ⟨M, hM⟩ : ∃ M, M = Pp.length := ⟨_, rfl⟩
            rw [← hM] at h2 K1
            have h2I : ¬ (M : Int) = 2 := by omega
            have h2b : ((M : Int) != 2) = true := by simp [h2I]
            have h2c : ((M : Int) == 2) = false := by simpa using h2I
            clear hp0 hM hPp hp hpz
            go_wp2_with fail
            refine (K1.out _).mono ?_
            rintro e w2 ⟨gp, dp, rfl, hcp, hdp, hgp, lgp, q2⟩
            go_wp2_with fail
            go_ret2
            exact ⟨none, 0, rfl, Own.nil, hq.trans q2⟩
        · obtain rfl : j = N := by omega
          have hlx : xs.length = m * 2 := by simpa using hown.1
          have K5 := Lib.hid (spec_SignalsText A1 m d1 xs _ hown.rd hlx (by omega))
          rcases HLa.out xs m hlx HT.out with ⟨hT, rfl, rfl, rfl⟩ | ⟨hT, rfl, rfl, rfl⟩
          · rw [hT] at K5
            clear hT
            go_wp2_with fail
            refine K5.out.mono ?_
            rintro e w5 ⟨rfl, q5⟩
            go_wp2_with fail
            go_ret2
            exact ⟨_, _, rfl, hown.q q5, hq.trans q5⟩
          · have hT2 := str_ne hT
            clear hT
            generalize sgT xs m = S at *
            go_wp2_with fail
            refine K5.out.mono ?_
            rintro e w5 ⟨rfl, q5⟩
            go_wp2_with fail
            go_ret2
            exact ⟨none, 0, rfl, Own.nil, hq.trans q5⟩
    · have h40I : (40 : Int) < (N : Int) := by omega
      obtain ⟨p, hp⟩ : ∃ p, P[40]? = some p := ⟨P[40]'(by omega), List.getElem?_eq_getElem (by omega)⟩
      obtain ⟨rfl, rfl, rfl⟩ := HF.out 40 p hp (Or.inr (by omega))
      clear h hs h0 hP hN hp
      go_enter Tryd.func29, Tryd.ntmps29
      go_wp2_with fail
      refine (K0.out _).mono ?_
      rintro e w1 ⟨g, d, rfl, hcj, hd, hg, l1, q1⟩
      have Q1 := ((Q.refl w).alloc (.cells #[] 56)).trans q1
      go_wp2_with fail
      go_ret2
      exact ⟨none, 0, rfl, Own.nil, Q1⟩
end Go.Proofs.YtgdjgjkijcmkfaaDoor
