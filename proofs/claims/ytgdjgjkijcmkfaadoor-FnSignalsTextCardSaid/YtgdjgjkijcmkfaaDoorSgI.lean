/- Walks: the reading of a list of signals, as the program does it. Condition: what the library's variables hold (Env). -/
import Derived.Test.YtgdjgjkijcmkfaaDoorSgQ
import Derived.Test.YtgdjgjkijcmkfaaDoorRdT
import Derived.Test.YtgdjgjkijcmkfaaDoorRfI
namespace Go.Proofs.YtgdjgjkijcmkfaaDoor
open Go.RowKit Go.WideShapes Go.ChangeShapes Go.Deep
theorem part_ok {p : ByteArray} {p1 p2 : List UInt8} {f : Bool} {v : Int} (h : Lib.cut p.data.toList [64] = (p1, p2, f)) (hv : NumR pI (bs p2) v true) : p = bs p1 ++ bs [64] ++ bs (Lib.itoa v) := by
  rcases hv with ⟨_, _, h3⟩ | ⟨h1, _⟩
  · rcases part_at 64 p.data.toList with h4 | ⟨a, b, h4, h5⟩
    · rw [cut_out h4] at h
      injection h with _ e2
      injection e2 with e2 _
      rw [← e2] at h3
      exact absurd (bs_inj h3).symm (itoa_ne v)
    · rw [h4, cut_hit _ h5] at h
      injection h with e1 e2
      injection e2 with e2 _
      subst e1 e2
      rw [← h3, bs_app, bs_app, ← bs_eta p, h4]
      simp
  · cases h1
theorem part_of {k t : Int} {p1 p2 : List UInt8} {f : Bool} (h : Lib.cut (sgW k t).data.toList [64] = (p1, p2, f)) : wordS k = bs p1 ∧ p2 = Lib.itoa t := by
  obtain ⟨l, e, c⟩ := sgW_cut k t
  rw [c] at h
  injection h with e1 e2
  injection e2 with e2 _
  exact ⟨by rw [e, e1], e2.symm⟩
theorem part_num {p : ByteArray} {p1 p2 : List UInt8} {f : Bool} {v : Int} (h : Lib.cut p.data.toList [64] = (p1, p2, f)) (hv : NumR pI (bs p2) v false) : ∀ k t, 1 ≤ k → k ≤ 8 → 0 ≤ t → t ≤ 1000000000 → p ≠ sgW k t := by
  intro k t _ _ h3 h4 he
  subst he
  obtain ⟨_, e⟩ := part_of h
  rw [e] at hv
  have := (hv.yes (fun _ h => pI_bd h) (pI_small ⟨h3, h4⟩)).2
  cases this
theorem part_word {p : ByteArray} {p1 p2 : List UInt8} {f : Bool} (h : Lib.cut p.data.toList [64] = (p1, p2, f)) (hw : ∀ k : Int, 1 ≤ k → k ≤ 8 → wordS k ≠ bs p1) : ∀ k t, 1 ≤ k → k ≤ 8 → 0 ≤ t → t ≤ 1000000000 → p ≠ sgW k t := by
  intro k t h1 h2 _ _ he
  subst he
  exact hw k h1 h2 (part_of h).1
/-- A list of signals of its own, and whether it was read. -/
def RSg (w : World) (n : Nat) (xs : List Int) (k : Bool) (e : Ending) (w' : World) : Prop := ∃ A c, e = .returned (.tuple #[.slice A n c, .bool k]) ∧ Own w' w.heap.size 56 2 (.slice A n c) n xs ∧ Q w w'
theorem elSignal : EltT 25 56 2 := EltT.mk infoSignal Tryd.underlying25 (by decide) rfl (by decide)
set_option maxRecDepth 100000 in
set_option maxHeartbeats 4000000 in
theorem impl_ReadSignals (s : ByteArray) (ys : List Int) (n : Nat) (kk : Bool) (h : SigR s ys n kk) (hs : s.size ≤ 1048576) (w : World) (hE : Env w) : Calls Tryd.prog 30 #[.string s] w (RSg w n ys kk) := by
  by_cases h0 : s = ⟨#[]⟩
  · subst h0
    obtain ⟨rfl, rfl, rfl⟩ := h.nil
    have O0 := OwnL.new w 56 2 (B := w.heap.size) (Nat.le_refl _)
    obtain ⟨A0, n0, c0, he0, ho0⟩ := O0
    injection he0 with h1 h2 h3
    subst h1 h2 h3
    clear h hs
    go_enter Tryd.func30, Tryd.ntmps30
    go_wp2_with fail
    go_ret2
    exact ⟨_, _, rfl, ho0, (Q.refl w).alloc _⟩
  · have hs2 : s.toList ≠ [] := fun hh => h0 (bytes_eq (a := s) (b := ⟨#[]⟩) (by rw [hh]; simp))
    have hs0 : s.toList.isEmpty = false := by simpa using hs2
    obtain ⟨P, hP⟩ : ∃ P, pcs 32 s = P := ⟨_, rfl⟩
    obtain ⟨N, hN⟩ : ∃ N, N = P.length := ⟨_, rfl⟩
    have K0 := Lib.hid (fun wv (hv : Env wv) => words_blk s hs _ hP wv hv)
    have HF := Lib.hid (fun j p hp hb => h.fail (p := p) (j := j) h0 hp hb)
    have HE := Lib.hid (fun xs ht => h.fin (xs := xs) (N := N) h0 (by rw [hP]; exact hN.symm) ht)
    rw [hP] at HF HE
    have HZ := Lib.hid (fun p (hp : p ∈ P) => Nat.le_trans (pcs_le (by rw [hP]; exact hp)) hs)
    have HN := Lib.hid hN
    rw [← hN] at K0
    have HC : Hid (∀ wv g, Blk wv g 9 (P.map Value.string).toArray → ∀ j u, P[j]? = some u → wv.cell? ⟨g, j, none⟩ = some (.string u)) := Lib.hid (fun wv g B j u hu => by
      have := B.cell j
      rw [this]
      simp only [List.getElem?_toArray, List.getElem?_map, hu, Option.map_some])
    have O0 := OwnL.new w 56 2 (B := w.heap.size) (Nat.le_refl _)
    obtain ⟨A0, n0, c0, he0, ho0⟩ := O0
    injection he0 with h1 h2 h3
    subst h1 h2 h3
    have E0 := hE.q ((Q.refl w).alloc (.cells #[] 56))
    clear h hs h0 hP hN
    go_enter Tryd.func30, Tryd.ntmps30
    go_wp2_with fail
    refine (K0.out _ E0).mono ?_
    rintro e w1 ⟨g, rfl, B1, hg, q1⟩
    have Q1 := ((Q.refl w).alloc (.cells #[] 56)).trans q1
    have hcj := HC.out _ _ B1
    have ho1 := ho0.q q1
    have l1 := B1.lt
    clear K0 HC E0 q1 ho0 B1
    go_wp2_with fail
    go_loopw [4, 20] (fun v i wr => ∃ (j : Nat) (A1 : Option Addr) (d1 : Nat) (xs : List Int), j ≤ N ∧ i = .int .i64 (j : Nat) ∧ v = .slice A1 j d1 ∧ Own wr w.heap.size 56 2 (.slice A1 j d1) j xs ∧ Hid (SgTo P j xs) ∧ j ≤ 40 ∧ Hid (∀ j u, P[j]? = some u → wr.cell? ⟨g, j, none⟩ = some (.string u)) ∧ (∀ a, A1 = some a → a.block ≠ g) ∧ g < wr.heap.size ∧ Q w wr) (fun _ i _ => N - (intOf i).toNat)
    case atStart => exact ⟨0, _, _, [], by omega, rfl, rfl, ho1, Lib.hid (SgTo.zero P), by omega, Lib.hid hcj, (fun a ha => by injection ha with ha; subst ha; simp at hg; show w.heap.size ≠ g; omega), l1, Q1⟩
    case round =>
      clear hcj ho1 Q1 l1
      obtain ⟨j, A1, d1, xs, hj, rfl, rfl, hown, HT, hj40, HCj, hne, lg, hq⟩ := hrel
      have hjI : (j : Int) ≤ 40 := by omega
      by_cases hlt : j < N
      · have hltI : (j : Int) < (N : Int) := by omega
        obtain ⟨p, hp⟩ : ∃ p, P[j]? = some p := ⟨P[j]'(by rw [← HN.out]; exact hlt), List.getElem?_eq_getElem (by rw [← HN.out]; exact hlt)⟩
        have hc := HCj.out j p hp
        have hpz := HZ.out p (List.mem_of_getElem? hp)
        have HFj := Lib.hid (fun hb => HF.out j p hp hb)
        have HSj := Lib.hid (fun k t hk ht he => HT.out.step (k := k) (t := t) hk ht (by rw [hp]; exact congrArg some he))
        obtain ⟨p1, p2, f, hcut⟩ : ∃ p1 p2 f, Lib.cut p.data.toList [64] = (p1, p2, f) := ⟨_, _, _, rfl⟩
        have Er := hE.q hq
        obtain ⟨m, hm⟩ := Er.mx
        have K1 : Calls Tryd.prog 72 #[.string p, .string (bs [64])] wr fun e w' => e = .returned (.tuple #[.string (bs p1), .string (bs p2), .bool f]) ∧ ∃ n, w' = wr.drewN n := by
          have := Tryd.strings_Cut p (bs [64]) m wr (by omega) hm
          rw [bs_data, hcut] at this
          exact this
        obtain ⟨v, ok, hv⟩ := NumR.ex pI (bs p2)
        have hvb := hv.bd (fun n hn => pI_bd hn)
        have hp2z : (bs p2).size ≤ 1048576 := by
          rw [bs_size]
          rcases part_at 64 p.data.toList with h4 | ⟨a, b, h4, h5⟩
          · rw [cut_out h4] at hcut
            injection hcut with _ e2
            injection e2 with e2 _
            subst e2
            simp
          · rw [h4, cut_hit _ h5] at hcut
            injection hcut with e1 e2
            injection e2 with e2 _
            subst e2
            have : p.size = a.length + (b.length + 1) := by rw [Lib.size_eq, h4]; simp
            omega
        have K2 := Lib.hid (fun wv (hv' : Env wv) => impl_number _ v ok hv hp2z wv hv')
        have HBn : Hid (ok = false → n = 0 ∧ ys = [] ∧ kk = false) := Lib.hid (fun he => by subst he; exact HFj.out (Or.inl (part_num hcut hv)))
        have HBw : Hid ((∀ k : Int, 1 ≤ k → k ≤ 8 → wordS k ≠ bs p1) → n = 0 ∧ ys = [] ∧ kk = false) := Lib.hid (fun hw => HFj.out (Or.inl (part_word hcut hw)))
        have HB40 : Hid (j = 40 → n = 0 ∧ ys = [] ∧ kk = false) := Lib.hid (fun h => HFj.out (Or.inr (by omega)))
        have HOK : Hid (ok = true → ∀ k : Int, 1 ≤ k → k ≤ 8 → wordS k = bs p1 → SgTo P (j + 1) (xs ++ [k, v])) := Lib.hid (fun he k h1 h2 h3 => by
          subst he
          refine HSj.out k v ⟨h1, h2⟩ hvb ?_
          rw [part_ok hcut hv]
          unfold sgW
          rw [h3])
        clear hp hpz HFj HSj hcut hv hp2z hm
        generalize bs p1 = W1 at *
        generalize bs p2 = W2 at *
        go_wp2_with fail
        refine K1.mono ?_
        rintro e w2 ⟨rfl, d, rfl⟩
        have Er2 := Er.q ((Q.refl wr).drewN d)
        have hq2 := hq.drewN d
        have hown2 := hown.q ((Q.refl wr).drewN d)
        have lg2 : g < (wr.drewN d).heap.size := Nat.lt_of_lt_of_le lg ((Q.refl wr).drewN d).size
        clear lg
        have HC2 : Hid (∀ j u, P[j]? = some u → (wr.drewN d).cell? ⟨g, j, none⟩ = some (.string u)) := Lib.hid (fun j u hu => ((Q.refl wr).drewN d).cell (HCj.out j u hu))
        clear K1 Er hq HCj hown hc
        generalize wr.drewN d = w2 at *
        go_wp2_with fail
        refine (K2.out _ Er2).mono ?_
        rintro e w3 ⟨rfl, q3⟩
        have hq3 := hq2.trans q3
        have hown3 := hown2.q q3
        have lg3 := Nat.lt_of_lt_of_le lg2 q3.size
        clear lg2
        have HC3 : Hid (∀ j u, P[j]? = some u → w3.cell? ⟨g, j, none⟩ = some (.string u)) := Lib.hid (fun j u hu => q3.cell (HC2.out j u hu))
        clear K2 Er2 hq2 HC2 hown2 q3
        go_wp2_with fail
        go_loopw [12] (fun i wr => ∃ kd : Nat, 1 ≤ kd ∧ kd ≤ 8 ∧ i = .int .i64 (kd : Nat) ∧ Hid (∀ k : Int, 1 ≤ k → k < kd → wordS k ≠ W1) ∧ Q w3 wr) (fun i _ => 8 - (intOf i).toNat)
        case atStart => exact ⟨1, by omega, by omega, rfl, Lib.hid (fun k h1 h2 => by omega), Q.refl _⟩
        case round =>
          obtain ⟨kd, hk1, hk8, rfl, HK, qk⟩ := hrel
          by_cases hlt8 : kd < 8
          · have hlt8I : (kd : Int) < 8 := by omega
            have K4 := Lib.hid (fun wv => impl_signalWord kd (by omega) wv)
            by_cases hW : wordS kd = W1
            · have hW2 : ((wordS kd).toList == W1.toList) = true := by rw [hW]; simp
              go_wp2_with fail
              refine (K4.out _).mono ?_
              rintro e w4 ⟨rfl, q4⟩
              replace qk := qk.trans q4
              clear q4
              cases ok
              · obtain ⟨rfl, rfl, rfl⟩ := HBn.out (by trivial)
                go_wp2_with fail
                go_ret2
                exact ⟨none, 0, rfl, Own.nil, hq3.trans qk⟩
              · go_wp2_with fail
                refine (K4.out _).mono ?_
                rintro e w5 ⟨rfl, q5⟩
                have hqx := (hq3.trans qk).trans q5
                have lgx := Nat.lt_of_lt_of_le lg3 (qk.trans q5).size
                have hox := (hown3.q qk).q q5
                have HCx : Hid (∀ j u, P[j]? = some u → w5.cell? ⟨g, j, none⟩ = some (.string u)) := Lib.hid (fun j u hu => q5.cell (qk.cell (HC3.out j u hu)))
                by_cases h40 : j = 40
                · obtain ⟨rfl, rfl, rfl⟩ := HB40.out h40
                  have h40I : (j : Int) = 40 := by omega
                  have h40b : ((j : Int) == 40) = true := by simpa using h40I
                  go_wp2_with fail
                  go_ret2
                  exact ⟨none, 0, rfl, Own.nil, hqx⟩
                · have h40I : ¬ (j : Int) = 40 := by omega
                  have h40b : ((j : Int) == 40) = false := by simpa using h40I
                  have HT' := Lib.hid (HOK.out (by trivial) (kd : Int) (by omega) (by omega) hW)
                  clear hW
                  go_wp2_with (at_builtin; refine appK elSignal rfl _ _ rfl [(kd : Int), v] rfl hox rfl (by simp) rfl _ _ rfl (by omega) hqx.size ?_; intro A' c' w' hown' hg' hgr')
                  go_roundw
                  case rel => exact ⟨j + 1, _, _, _, by omega, by go_num, rfl, hown', HT', by omega, Lib.hid (fun i u hu => (hg'.cell_far ⟨g, i, none⟩ lgx (by
                    rcases A1 with _ | a1
                    · simp
                    · intro e
                      simp only [Option.map_some, Option.some.injEq] at e
                      exact hne a1 rfl e.symm)).trans (HCx.out i u hu)), (fun a ha => by
                    rcases hgr' with h9 | ⟨b, h9, h10⟩
                    · rw [ha] at h9
                      rcases hA : A1 with _ | a1
                      · rw [hA] at h9; cases h9
                      · rw [hA] at h9
                        simp only [Option.map_some, Option.some.injEq] at h9
                        rw [h9]
                        exact hne a1 hA
                    · rw [ha] at h9
                      simp only [Option.map_some, Option.some.injEq] at h9
                      omega), Nat.lt_of_lt_of_le lgx hg'.size, hqx.grown hg' (by
                      intro b hb
                      rcases A1 with _ | a1
                      · cases hb
                      · have := (hox.from a1 rfl).1
                        simp only [Option.map_some, Option.some.injEq] at hb
                        omega)⟩
                  case measure => simp [intOf]; omega
            · have hW2 := str_ne hW
              have HK' := Lib.hid (fun (k : Int) (h1 : 1 ≤ k) (h2 : k < ((kd + 1 : Nat) : Int)) => show wordS k ≠ W1 by
                by_cases hk : k = kd
                · rw [hk]; exact hW
                · exact HK.out k h1 (by omega))
              clear hW
              go_wp2_with fail
              refine (K4.out _).mono ?_
              rintro e w4 ⟨rfl, q4⟩
              go_wp2_with fail
              go_roundw
              case rel => exact ⟨kd + 1, by omega, by omega, by go_num, HK', qk.trans q4⟩
              case measure => simp [intOf]; omega
          · obtain rfl : kd = 8 := by omega
            have K4 := Lib.hid (fun wv => impl_signalWord 8 (by omega) wv)
            have HK8 : Hid (∀ k : Int, 1 ≤ k → k < 8 → wordS k ≠ W1) := Lib.hid (fun k h1 h2 => HK.out k h1 (by simpa using h2))
            clear HK
            have HK := HK8
            cases ok
            · obtain ⟨rfl, rfl, rfl⟩ := HBn.out (by trivial)
              go_wp2_with fail
              go_ret2
              exact ⟨none, 0, rfl, Own.nil, hq3.trans qk⟩
            · go_wp2_with fail
              refine (K4.out _).mono ?_
              rintro e w5 ⟨rfl, q5⟩
              have hqx := (hq3.trans qk).trans q5
              have lgx := Nat.lt_of_lt_of_le lg3 (qk.trans q5).size
              have hox := (hown3.q qk).q q5
              have HCx : Hid (∀ j u, P[j]? = some u → w5.cell? ⟨g, j, none⟩ = some (.string u)) := Lib.hid (fun j u hu => q5.cell (qk.cell (HC3.out j u hu)))
              by_cases hW : wordS 8 = W1
              · have hW2 : ((wordS 8).toList == W1.toList) = true := by rw [hW]; simp
                by_cases h40 : j = 40
                · obtain ⟨rfl, rfl, rfl⟩ := HB40.out h40
                  have h40I : (j : Int) = 40 := by omega
                  have h40b : ((j : Int) == 40) = true := by simpa using h40I
                  go_wp2_with fail
                  go_ret2
                  exact ⟨none, 0, rfl, Own.nil, hqx⟩
                · have h40I : ¬ (j : Int) = 40 := by omega
                  have h40b : ((j : Int) == 40) = false := by simpa using h40I
                  have HT' := Lib.hid (HOK.out (by trivial) 8 (by omega) (by omega) hW)
                  clear hW
                  go_wp2_with (at_builtin; refine appK elSignal rfl _ _ rfl [8, v] rfl hox rfl (by simp) rfl _ _ rfl (by omega) hqx.size ?_; intro A' c' w' hown' hg' hgr')
                  go_roundw
                  case rel => exact ⟨j + 1, _, _, _, by omega, by go_num, rfl, hown', HT', by omega, Lib.hid (fun i u hu => (hg'.cell_far ⟨g, i, none⟩ lgx (by
                    rcases A1 with _ | a1
                    · simp
                    · intro e
                      simp only [Option.map_some, Option.some.injEq] at e
                      exact hne a1 rfl e.symm)).trans (HCx.out i u hu)), (fun a ha => by
                    rcases hgr' with h9 | ⟨b, h9, h10⟩
                    · rw [ha] at h9
                      rcases hA : A1 with _ | a1
                      · rw [hA] at h9; cases h9
                      · rw [hA] at h9
                        simp only [Option.map_some, Option.some.injEq] at h9
                        rw [h9]
                        exact hne a1 hA
                    · rw [ha] at h9
                      simp only [Option.map_some, Option.some.injEq] at h9
                      omega), Nat.lt_of_lt_of_le lgx hg'.size, hqx.grown hg' (by
                      intro b hb
                      rcases A1 with _ | a1
                      · cases hb
                      · have := (hox.from a1 rfl).1
                        simp only [Option.map_some, Option.some.injEq] at hb
                        omega)⟩
                  case measure => simp [intOf]; omega
              · have hW2 := str_ne hW
                obtain ⟨rfl, rfl, rfl⟩ := HBw.out (fun k h1 h2 => by
                  by_cases h8 : k = 8
                  · rw [h8]; exact hW
                  · exact HK.out k h1 (by omega))
                go_wp2_with fail
                go_ret2
                exact ⟨none, 0, rfl, Own.nil, hqx⟩
      · obtain rfl : j = N := by omega
        have K5 := Lib.hid (impl_IsSignals A1 j d1 xs _ hown.rd HT.out.1 (by omega))
        rcases HE.out xs HT.out with ⟨hok, rfl, rfl, rfl⟩ | ⟨hok, rfl, rfl, rfl⟩
        · rw [hok] at K5
          go_wp2_with fail
          refine K5.out.mono ?_
          rintro e w5 ⟨rfl, q5⟩
          go_wp2_with fail
          go_ret2
          exact ⟨_, _, rfl, hown.q q5, hq.trans q5⟩
        · rw [hok] at K5
          go_wp2_with fail
          refine K5.out.mono ?_
          rintro e w5 ⟨rfl, q5⟩
          go_wp2_with fail
          go_ret2
          exact ⟨none, 0, rfl, Own.nil, hq.trans q5⟩
end Go.Proofs.YtgdjgjkijcmkfaaDoor
