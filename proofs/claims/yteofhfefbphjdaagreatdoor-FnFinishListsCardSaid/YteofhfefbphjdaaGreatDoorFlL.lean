/- Walks: the law on lists of finishes. No condition. -/
import Derived.Test.YteofhfefbphjdaaGreatDoorFfP
import Derived.Test.YteofhfefbphjdaaGreatDoorDr18
import Derived.Test.YteofhfefbphjdaaGreatDoorFin
namespace Go.Proofs.YteofhfefbphjdaaGreatDoor
open Go.RowKit Go.WideShapes Go.ChangeShapes
theorem el_fs {a b c d : Int} {L : List Int} {N : Nat} {t fl : Int} {D : List (Nat × List Int)} : ∀ {K j : Nat}, j < K → el (fsTo a b c d L N t fl D K) (j * 3) = j ∧ el (fsTo a b c d L N t fl D K) (j * 3 + 1) = (fnV a b c d L N (dx D j) (dn D j) t fl).1 ∧ el (fsTo a b c d L N t fl D K) (j * 3 + 2) = (fnV a b c d L N (dx D j) (dn D j) t fl).2
  | 0, j, h => absurd h (Nat.not_lt_zero _)
  | K + 1, j, h => by
    have hl := fsTo_len a b c d L N t fl D K
    rw [fsTo]
    rcases Nat.lt_or_ge j K with h1 | h1
    · rw [elA_lt (by omega), elA_lt (by omega), elA_lt (by omega)]
      exact el_fs h1
    · obtain rfl : j = K := by omega
      refine ⟨?_, ?_, ?_⟩
      · rw [show j * 3 = (fsTo a b c d L N t fl D j).length + 0 by omega, elA_ge]; rfl
      · rw [show j * 3 + 1 = (fsTo a b c d L N t fl D j).length + 1 by omega, elA_ge]; rfl
      · rw [show j * 3 + 2 = (fsTo a b c d L N t fl D j).length + 2 by omega, elA_ge]; rfl
/-- What the list says, where all is well. -/
theorem fs_facts {p q r s a b c d : Int} {ms : List Mk} {D : List (Nat × List Int)} {t fl : Int} {k : Nat} (h : fsC a b c d p q r s ms D t fl = 0) (hD : D.length = k) :
    k ≤ 16 ∧ fsN a b c d p q r s ms D t fl = k ∧ (fsL a b c d p q r s ms D t fl).length = k * 3 ∧ finC (fsL a b c d p q r s ms D t fl) k = 0 ∧
    ∀ j, j < k → ffK a b c d p q r s ms (dx D j) (dn D j) t fl = 0 ∧ el (fsL a b c d p q r s ms D t fl) (j * 3) = j ∧ el (fsL a b c d p q r s ms D t fl) (j * 3 + 1) = (ffV a b c d p q r s ms (dx D j) (dn D j) t fl).2.1 ∧ el (fsL a b c d p q r s ms D t fl) (j * 3 + 2) = (ffV a b c d p q r s ms (dx D j) (dn D j) t fl).2.2 := by
  subst hD
  have h16 : ¬ 16 < D.length := fun e => by unfold fsC at h; rw [if_pos e] at h; exact absurd h (by decide)
  have hK : fsK a b c d p q r s ms D t fl = 0 := by unfold fsC at h; rwa [if_neg h16] at h
  obtain ⟨hc, hb, ht, hf, hall⟩ := fsK_0 hK
  have hL : fsL a b c d p q r s ms D t fl = fsTo a b c d (clL a b c d p q r s ms) (ms.length + 2) t fl D D.length := by unfold fsL; rw [if_pos h]
  have hE : ∀ j, j < D.length → ffK a b c d p q r s ms (dx D j) (dn D j) t fl = 0 ∧ el (fsL a b c d p q r s ms D t fl) (j * 3) = j ∧ el (fsL a b c d p q r s ms D t fl) (j * 3 + 1) = (ffV a b c d p q r s ms (dx D j) (dn D j) t fl).2.1 ∧ el (fsL a b c d p q r s ms D t fl) (j * 3 + 2) = (ffV a b c d p q r s ms (dx D j) (dn D j) t fl).2.2 := fun j hj => by
    have hT := allB_at hb hj
    have h1 : ffK a b c d p q r s ms (dx D j) (dn D j) t fl = 0 := by
      unfold ffK fsK
      rw [if_pos hc, if_pos (by unfold allB; simpa using hT), if_pos ⟨inR_yes ht, hf⟩, if_pos hall]
    have hV : ffV a b c d p q r s ms (dx D j) (dn D j) t fl = (0, (fnV a b c d (clL a b c d p q r s ms) (ms.length + 2) (dx D j) (dn D j) t fl).1, (fnV a b c d (clL a b c d p q r s ms) (ms.length + 2) (dx D j) (dn D j) t fl).2) := by unfold ffV; rw [if_pos h1]
    rw [hV, hL]
    exact ⟨h1, el_fs hj⟩
  refine ⟨by omega, by unfold fsN; rw [if_pos h], by rw [hL, fsTo_len], finC_ok h16 ?_, hE⟩
  unfold finTo
  rw [List.all_eq_true]
  intro j hj
  have hj : j < D.length := by simpa using hj
  obtain ⟨h1, h2, h3, h4⟩ := hE j hj
  have h5 := (ff_facts h1).2.2.1
  unfold finAt
  rw [show (fsL a b c d p q r s ms D t fl).getD (j * 3) 0 = j from h2, show (fsL a b c d p q r s ms D t fl).getD (j * 3 + 1) 0 = _ from h3, show (fsL a b c d p q r s ms D t fl).getD (j * 3 + 2) 0 = _ from h4]
  unfold isFin at h5 ⊢
  have h6 := of_decide_eq_true h5
  exact decide_eq_true ⟨by omega, by omega, h6.2.2⟩
theorem fsN_no {p q r s a b c d : Int} {ms : List Mk} {D : List (Nat × List Int)} {t fl : Int} (h : ¬ fsC a b c d p q r s ms D t fl = 0) : fsN a b c d p q r s ms D t fl = 0 := by unfold fsN; rw [if_neg h]
set_option maxRecDepth 100000 in
set_option maxHeartbeats 4000000 in
theorem law_FnFinishLists (A : Option Addr) (n c : Nat) (hc : n ≤ c ∧ c ≤ maxLen) (w : World) (ha : Rd8 w A n) :
    Calls Tryz.prog 3 #[.slice A n c] w fun e w' => e = .returned (.bool true) ∧ Below w.heap.size w w' := by
  have hn : n ≤ 9223372036854775807 := by unfold maxLen at hc; omega
  clear hc
  have K0 := Lib.hid (fun wv => big_any A n c wv hn)
  by_cases h4 : 4096 < n
  · rw [decide_eq_true h4] at K0
    go_enter Tryz.func3, Tryz.ntmps3
    go_wp2_with (go_at_call 5; refine (K0.out _).mono ?_; rintro e w' ⟨rfl, rfl⟩)
    go_ret
    exact ⟨rfl, Q.refl _⟩
  · rw [decide_eq_false h4] at K0
    replace hn : n ≤ 140737488355327 := by omega
    have K1 := Lib.hid (fun wv (h : Rd8 wv A n) => spec_DrawFinishesOf A n c wv h hn)
    clear h4
    go_enter Tryz.func3, Tryz.ntmps3
    go_wp2_with (go_at_call 5; refine (K0.out _).mono ?_; rintro e w' ⟨rfl, rfl⟩)
    refine (K1.out _ ha).mono ?_
    rintro e w1 ⟨x0, x1, x2, x3, x4, x5, x6, x7, C, m, d, ms, B, k, dk, D, t, f, rfl, ⟨hC, hml, hmd, hm10⟩, ⟨hx, hl, hk17⟩, q1⟩
    clear K0 K1 ha
    have BC := Blk.new w1 30 #[.int .i64 x0, .int .i64 x1, .int .i64 x2, .int .i64 x3, .int .i64 x4, .int .i64 x5, .int .i64 x6, .int .i64 x7, .slice C m d]
    have QW : Q w (w1.alloc (.cells #[.int .i64 x0, .int .i64 x1, .int .i64 x2, .int .i64 x3, .int .i64 x4, .int .i64 x5, .int .i64 x6, .int .i64 x7, .slice C m d] 30)) := q1.alloc _
    replace hx := hx.q ((Q.refl w1).alloc (.cells #[.int .i64 x0, .int .i64 x1, .int .i64 x2, .int .i64 x3, .int .i64 x4, .int .i64 x5, .int .i64 x6, .int .i64 x7, .slice C m d] 30))
    replace hC := hC.q ((Q.refl w1).alloc (.cells #[.int .i64 x0, .int .i64 x1, .int .i64 x2, .int .i64 x3, .int .i64 x4, .int .i64 x5, .int .i64 x6, .int .i64 x7, .slice C m d] 30))
    clear q1
    go_upto_region 4 with (fail)
    generalize w1.alloc (.cells #[.int .i64 x0, .int .i64 x1, .int .i64 x2, .int .i64 x3, .int .i64 x4, .int .i64 x5, .int .i64 x6, .int .i64 x7, .slice C m d] 30) = wb at *
    generalize w1.heap.size = b at *
    have k1 := fun wv (h1 : RdM wv C ms) (h2 : RdD wv B D) => impl_FinishesOf x0 x1 x2 x3 x4 x5 x6 x7 C m d ms B k dk D t f wv h1 hml hmd (by omega) h2 hl (by omega)
    have k2 := fun wv (h1 : RdM wv C ms) (h2 : RdD wv B D) => spec_FinishesOf x0 x1 x2 x3 x4 x5 x6 x7 C m d ms B k dk D t f wv h1 hml (by omega) h2 hl (by omega)
    have cC := BC.cell
    have lC := BC.lt
    by_cases h0 : fsC x0 x1 x2 x3 x4 x5 x6 x7 ms D t f = 0
    · obtain ⟨hk16, hN, hLn, hfc, hE⟩ := fs_facts h0 hl
      have k3 : ∀ j, j < k → ∀ (wv : World) (B' : Option Addr) (c' : Nat), RdM wv C ms → Rd wv B' (dx D j) → (dx D j).length = dn D j * 3 → dn D j ≤ 9223372036854775807 → Calls Tryz.prog 9 #[.agg #[.int .i64 x0, .int .i64 x1, .int .i64 x2, .int .i64 x3, .int .i64 x4, .int .i64 x5, .int .i64 x6, .int .i64 x7, .slice C m d], .agg #[.slice B' (dn D j) c'], .int .i64 t, .int .i64 f] wv fun e w' => e = .returned (.tuple #[.agg #[.int .i64 (ffV x0 x1 x2 x3 x4 x5 x6 x7 ms (dx D j) (dn D j) t f).1, .int .i64 (ffV x0 x1 x2 x3 x4 x5 x6 x7 ms (dx D j) (dn D j) t f).2.1, .int .i64 (ffV x0 x1 x2 x3 x4 x5 x6 x7 ms (dx D j) (dn D j) t f).2.2], .int .i64 0]) ∧ Q wv w' := fun j hj wv B' c' h1 h2 h3 h4 => by
        have := impl_FinishOf x0 x1 x2 x3 x4 x5 x6 x7 C m d ms B' (dn D j) c' (dx D j) t f wv h1 hml hmd (by omega) h2 h3 h4
        rwa [(hE j hj).1] at this
      replace hE := fun j hj => (hE j hj).2
      rw [h0, hN] at k1 k2
      have k4 := fun wv A' c' (h : Rd wv A' (fsL x0 x1 x2 x3 x4 x5 x6 x7 ms D t f)) => impl_CountFinished A' k c' (fsL x0 x1 x2 x3 x4 x5 x6 x7 ms D t f) wv h hLn (by omega)
      rw [hfc, if_pos rfl] at k4
      clear h0 hN hfc
      generalize fsL x0 x1 x2 x3 x4 x5 x6 x7 ms D t f = L at *
      obtain ⟨V, hV⟩ : ∃ V : Nat → Int × Int × Int, V = fun j => ffV x0 x1 x2 x3 x4 x5 x6 x7 ms (dx D j) (dn D j) t f := ⟨_, rfl⟩
      replace hE : ∀ j, j < k → el L (j * 3) = j ∧ el L (j * 3 + 1) = (V j).2.1 ∧ el L (j * 3 + 2) = (V j).2.2 := by rw [hV]; exact hE
      replace k3 : ∀ j, j < k → ∀ (wv : World) (B' : Option Addr) (c' : Nat), RdM wv C ms → Rd wv B' (dx D j) → (dx D j).length = dn D j * 3 → dn D j ≤ 9223372036854775807 → Calls Tryz.prog 9 #[.agg #[.int .i64 x0, .int .i64 x1, .int .i64 x2, .int .i64 x3, .int .i64 x4, .int .i64 x5, .int .i64 x6, .int .i64 x7, .slice C m d], .agg #[.slice B' (dn D j) c'], .int .i64 t, .int .i64 f] wv fun e w' => e = .returned (.tuple #[.agg #[.int .i64 (V j).1, .int .i64 (V j).2.1, .int .i64 (V j).2.2], .int .i64 0]) ∧ Q wv w' := by rw [hV]; exact k3
      clear hV
      have K1 := Lib.hid k1
      have K2 := Lib.hid k2
      have K3 := Lib.hid k3
      have K4 := Lib.hid k4
      have HE := Lib.hid hE
      have HL := Lib.hid hl
      have HLn := Lib.hid hLn
      clear k1 k2 k3 k4 hE hl hLn
      go_wp2_with fail
      refine (K1.out _ hC hx).mono ?_
      rintro e w2 ⟨A1, c1, rfl, O1, q2⟩
      replace BC := BC.q q2
      replace hC := hC.q q2
      replace hx := hx.q q2
      replace QW := QW.trans q2
      have R1 := O1.rd
      clear q2 cC lC O1
      have cC := BC.cell
      have lC := BC.lt
      go_wp2_with fail
      refine (K2.out _ hC hx).mono ?_
      rintro e w3 ⟨A2, c2, rfl, _, q3⟩
      replace BC := BC.q q3
      replace hC := hC.q q3
      replace hx := hx.q q3
      replace R1 := R1.q q3
      replace QW := QW.trans q3
      clear q3 cC lC
      go_wp2_with fail
      go_loopw [11, 12] (fun nn i wr => ∃ j : Nat, j ≤ k ∧ nn = .int .i64 (cntF L j) ∧ i = .int .i64 j ∧ RdM wr C ms ∧ RdD wr B D ∧ Rd wr A1 L ∧ Blk wr b 30 #[.int .i64 x0, .int .i64 x1, .int .i64 x2, .int .i64 x3, .int .i64 x4, .int .i64 x5, .int .i64 x6, .int .i64 x7, .slice C m d] ∧ Q w wr) (fun _ i _ => k - (intOf i).toNat)
      case atStart => exact ⟨0, by omega, rfl, rfl, hC, hx, R1, BC, QW⟩
      case round =>
        clear hC hx R1 BC QW
        obtain ⟨j, hj, rfl, rfl, hC, hx, R1, BC, QW⟩ := hrel
        by_cases hlt : j < k
        · have hltI : (j : Int) < (k : Int) := by omega
          obtain ⟨bD, oD, Bj, cj, hBe, cD, hRj, hlj, hnj⟩ := hx.at_ HL.out hlt
          subst hBe
          have hcf : (cntF L (j + 1) : Nat) = if (V j).2.1 = 0 then cntF L j + 1 else cntF L j := by
            have e := (HE.out j hlt).2.1
            show (if L.getD (j * 3 + 1) 0 = 0 then cntF L j + 1 else cntF L j) = _
            rw [show L.getD (j * 3 + 1) 0 = _ from e]
          have HCF := Lib.hid hcf
          have hcb := cntF_le L j
          clear hcf
          go_upto_region 16 with (fail)
          go_cut [13, 14] from 61 to 71 (fun v o wc => ∃ bf : Nat, v = .pointer (some ⟨bf, 0, none⟩) ∧ o = .int .i64 0 ∧ Blk wc bf 38 #[.int .i64 (V j).1, .int .i64 (V j).2.1, .int .i64 (V j).2.2] ∧ Q wr wc)
          case first =>
            have qz : Q wr wr.drew := (Q.refl _).drew
            refine wp_region_H (fun w' : World => Blk w' b 30 #[.int .i64 x0, .int .i64 x1, .int .i64 x2, .int .i64 x3, .int .i64 x4, .int .i64 x5, .int .i64 x6, .int .i64 x7, .slice C m d] ∧ w'.cell? ⟨bD, oD + j, none⟩ = some (.slice Bj (dn D j) cj)) (by kernel_rfl) ?_
            replace BC := BC.drew
            replace hC := hC.q qz
            replace hRj := hRj.q qz
            replace cD := qz.cell cD
            generalize wr.drew = wd at *
            (refine tkH 0 (v := ?_) rfl (by kernel_rfl) (fun _ _ _ h => h) ⟨BC, cD⟩ rfl ?_ ?_; rotate_left 1; focus (intro w s; have cA := s.1.cell; have cB := s.2; go_simp; try with_reducible rfl))
            (refine tkH 1 (v := ?_) rfl (by kernel_rfl) (fun _ _ _ h => h) ⟨BC, cD⟩ rfl ?_ ?_; rotate_left 1; focus (intro w s; have cA := s.1.cell; have cB := s.2; go_simp; try with_reducible rfl))
            (refine tkH 2 (v := ?_) rfl (by kernel_rfl) (fun _ _ _ h => h) ⟨BC, cD⟩ rfl ?_ ?_; rotate_left 1; focus (intro w s; have cA := s.1.cell; have cB := s.2; go_simp; try with_reducible rfl))
            (refine tkH 3 (v := ?_) rfl (by kernel_rfl) (fun _ _ _ h => h) ⟨BC, cD⟩ rfl ?_ ?_; rotate_left 1; focus (intro w s; have cA := s.1.cell; have cB := s.2; go_simp; try with_reducible rfl))
            (refine tkH 4 (v := ?_) rfl (by kernel_rfl) (fun _ _ _ h => h) ⟨BC, cD⟩ rfl ?_ ?_; rotate_left 1; focus (intro w s; have cA := s.1.cell; have cB := s.2; go_simp; try with_reducible rfl))
            (refine tkH 5 (v := ?_) rfl (by kernel_rfl) (fun _ _ _ h => h) ⟨BC, cD⟩ rfl ?_ ?_; rotate_left 1; focus (intro w s; have cA := s.1.cell; have cB := s.2; go_simp; try with_reducible rfl))
            (refine tkH 6 (v := ?_) rfl (by kernel_rfl) (fun _ _ _ h => h) ⟨BC, cD⟩ rfl ?_ ?_; rotate_left 1; focus (intro w s; have cA := s.1.cell; have cB := s.2; go_simp; try with_reducible rfl))
            try simp only [Act.put, List.setIfInBounds_toArray, List.set_cons_zero, List.set_cons_succ, List.getElem_toArray, List.getElem_cons_succ, List.getElem_cons_zero]; try simp only [Nat.zero_add]
            refine wpAnyH_two 7 11 (by kernel_rfl) rfl rfl (fun K hK => ?_) (fun K hK => ?_)
            · go_simp
              go_at_call 9
              refine (K3.out j hlt _ Bj cj hC hRj hlj hnj).mono ?_
              rintro e6 w6 ⟨rfl, q6⟩
              replace BC := BC.q q6
              replace cD := q6.cell cD
              replace qz := qz.trans q6
              clear q6 hC hRj
              refine hK.out _ _ ⟨BC, cD⟩ ?_
              clear hK K
              (refine tkH 8 (v := ?_) rfl (by kernel_rfl) (fun _ _ _ h => h) ⟨BC, cD⟩ rfl ?_ ?_; rotate_left 1; focus (intro w s; have cA := s.1.cell; have cB := s.2; go_simp; try with_reducible rfl))
              (refine tkH 9 (v := ?_) rfl (by kernel_rfl) (fun _ _ _ h => h) ⟨BC, cD⟩ rfl ?_ ?_; rotate_left 1; focus (intro w s; have cA := s.1.cell; have cB := s.2; go_simp; try with_reducible rfl))
              (refine tkH 10 (v := ?_) rfl (by kernel_rfl) (fun _ _ _ h => h) ⟨BC, cD⟩ rfl ?_ ?_; rotate_left 1; focus (intro w s; have cA := s.1.cell; have cB := s.2; go_simp; try with_reducible rfl))
              try simp only [Act.put, List.setIfInBounds_toArray, List.set_cons_zero, List.set_cons_succ, List.getElem_toArray, List.getElem_cons_succ, List.getElem_cons_zero]; try simp only [Nat.zero_add]
              refine wpAnyH_one 11 (by kernel_rfl) rfl (fun K hK => ?_)
              go_simp
              have q := (Q.refl w6).alloc (.cells #[.int .i64 0, .int .i64 0, .int .i64 0] 38)
              have BF := Blk.new w6 38 #[.int .i64 0, .int .i64 0, .int .i64 0]
              have hbf := qz.size
              have hbD := World.block_lt_of_cell? _ _ cD
              have hbC := BC.lt
              replace BC := BC.q q
              replace cD := q.cell cD
              replace qz := qz.trans q
              clear q
              generalize w6.alloc (.cells #[.int .i64 0, .int .i64 0, .int .i64 0] 38) = w6a at *
              generalize w6.heap.size = bf at *
              refine hK.out _ _ ⟨BC, cD⟩ ?_
              clear hK K
              refine wpAnyH_one 12 (by kernel_rfl) rfl (fun K hK => ?_)
              refine step_storeL rfl 38 _ _ rfl bf [.int .i64 (V j).1, .int .i64 (V j).2.1, .int .i64 (V j).2.2] rfl rfl BF.there (by kernel_rfl) (by simp [Value.oneCell']) ?_
              replace BC := BC.farAll (b := bf) (Nat.ne_of_lt hbC) 0 [.int .i64 (V j).1, .int .i64 (V j).2.1, .int .i64 (V j).2.2]
              replace cD := ((grown_all bf [.int .i64 (V j).1, .int .i64 (V j).2.1, .int .i64 (V j).2.2] 0 _ _ (grown_refl w6a _)).cell_far ⟨bD, oD + j, none⟩ (World.block_lt_of_cell? _ _ cD) (by simpa using Nat.ne_of_lt hbD)).trans cD
              replace qz := qz.setAll (b := bf) hbf 0 [.int .i64 (V j).1, .int .i64 (V j).2.1, .int .i64 (V j).2.2]
              have BG := ((BF.set_ 0 (.int .i64 (V j).1)).set_ 1 (.int .i64 (V j).2.1)).set_ 2 (.int .i64 (V j).2.2)
              replace BF : Blk (w6a.setCells bf 0 [.int .i64 (V j).1, .int .i64 (V j).2.1, .int .i64 (V j).2.2]) bf 38 #[.int .i64 (V j).1, .int .i64 (V j).2.1, .int .i64 (V j).2.2] := by simpa [World.setCells] using BG
              clear BG
              generalize w6a.setCells bf 0 [.int .i64 (V j).1, .int .i64 (V j).2.1, .int .i64 (V j).2.2] = w6as at *
              refine hK.out _ _ ⟨BC, cD⟩ ?_
              clear hK K
              (refine tkH 13 (v := ?_) rfl (by kernel_rfl) (fun _ _ _ h => h) ⟨BC, cD⟩ rfl ?_ ?_; rotate_left 1; focus (intro w s; have cA := s.1.cell; have cB := s.2; go_simp; try with_reducible rfl))
              try simp only [Act.put, List.setIfInBounds_toArray, List.set_cons_zero, List.set_cons_succ, List.getElem_toArray, List.getElem_cons_succ, List.getElem_cons_zero]; try simp only [Nat.zero_add]
              refine wpAnyH_done (by kernel_rfl) ?_ _
              go_wp2_with fail
              go_meet
              exact ⟨bf, rfl, rfl, BF, qz⟩
            go_simp
            have q := (Q.refl wd).alloc (.cells #[.int .i64 0, .int .i64 0, .int .i64 0] 38)
            have BF := Blk.new wd 38 #[.int .i64 0, .int .i64 0, .int .i64 0]
            have hbf := qz.size
            have hbD := World.block_lt_of_cell? _ _ cD
            have hbC := BC.lt
            replace BC := BC.q q
            replace cD := q.cell cD
            replace hC := hC.q q
            replace hRj := hRj.q q
            replace qz := qz.trans q
            clear q
            generalize wd.alloc (.cells #[.int .i64 0, .int .i64 0, .int .i64 0] 38) = wda at *
            generalize wd.heap.size = bf at *
            refine hK.out _ _ ⟨BC, cD⟩ ?_
            clear hK K
            refine wpAnyH_one 7 (by kernel_rfl) rfl (fun K hK => ?_)
            go_simp
            go_at_call 9
            refine (K3.out j hlt _ Bj cj hC hRj hlj hnj).mono ?_
            rintro e6 w6 ⟨rfl, q6⟩
            replace BC := BC.q q6
            replace cD := q6.cell cD
            replace qz := qz.trans q6
            replace BF := BF.q q6
            clear q6 hC hRj
            refine hK.out _ _ ⟨BC, cD⟩ ?_
            clear hK K
            (refine tkH 8 (v := ?_) rfl (by kernel_rfl) (fun _ _ _ h => h) ⟨BC, cD⟩ rfl ?_ ?_; rotate_left 1; focus (intro w s; have cA := s.1.cell; have cB := s.2; go_simp; try with_reducible rfl))
            (refine tkH 9 (v := ?_) rfl (by kernel_rfl) (fun _ _ _ h => h) ⟨BC, cD⟩ rfl ?_ ?_; rotate_left 1; focus (intro w s; have cA := s.1.cell; have cB := s.2; go_simp; try with_reducible rfl))
            (refine tkH 10 (v := ?_) rfl (by kernel_rfl) (fun _ _ _ h => h) ⟨BC, cD⟩ rfl ?_ ?_; rotate_left 1; focus (intro w s; have cA := s.1.cell; have cB := s.2; go_simp; try with_reducible rfl))
            try simp only [Act.put, List.setIfInBounds_toArray, List.set_cons_zero, List.set_cons_succ, List.getElem_toArray, List.getElem_cons_succ, List.getElem_cons_zero]; try simp only [Nat.zero_add]
            refine wpAnyH_one 12 (by kernel_rfl) rfl (fun K hK => ?_)
            refine step_storeL rfl 38 _ _ rfl bf [.int .i64 (V j).1, .int .i64 (V j).2.1, .int .i64 (V j).2.2] rfl rfl BF.there (by kernel_rfl) (by simp [Value.oneCell']) ?_
            replace BC := BC.farAll (b := bf) (Nat.ne_of_lt hbC) 0 [.int .i64 (V j).1, .int .i64 (V j).2.1, .int .i64 (V j).2.2]
            replace cD := ((grown_all bf [.int .i64 (V j).1, .int .i64 (V j).2.1, .int .i64 (V j).2.2] 0 _ _ (grown_refl w6 _)).cell_far ⟨bD, oD + j, none⟩ (World.block_lt_of_cell? _ _ cD) (by simpa using Nat.ne_of_lt hbD)).trans cD
            replace qz := qz.setAll (b := bf) hbf 0 [.int .i64 (V j).1, .int .i64 (V j).2.1, .int .i64 (V j).2.2]
            have BG := ((BF.set_ 0 (.int .i64 (V j).1)).set_ 1 (.int .i64 (V j).2.1)).set_ 2 (.int .i64 (V j).2.2)
            replace BF : Blk (w6.setCells bf 0 [.int .i64 (V j).1, .int .i64 (V j).2.1, .int .i64 (V j).2.2]) bf 38 #[.int .i64 (V j).1, .int .i64 (V j).2.1, .int .i64 (V j).2.2] := by simpa [World.setCells] using BG
            clear BG
            generalize w6.setCells bf 0 [.int .i64 (V j).1, .int .i64 (V j).2.1, .int .i64 (V j).2.2] = w6s at *
            refine hK.out _ _ ⟨BC, cD⟩ ?_
            clear hK K
            (refine tkH 13 (v := ?_) rfl (by kernel_rfl) (fun _ _ _ h => h) ⟨BC, cD⟩ rfl ?_ ?_; rotate_left 1; focus (intro w s; have cA := s.1.cell; have cB := s.2; go_simp; try with_reducible rfl))
            try simp only [Act.put, List.setIfInBounds_toArray, List.set_cons_zero, List.set_cons_succ, List.getElem_toArray, List.getElem_cons_succ, List.getElem_cons_zero]; try simp only [Nat.zero_add]
            refine wpAnyH_done (by kernel_rfl) ?_ _
            go_wp2_with fail
            go_meet
            exact ⟨bf, rfl, rfl, BF, qz⟩
          case rest =>
            obtain ⟨bf, rfl, rfl, BF, qz⟩ := hcut
            replace hC := hC.q qz
            replace hx := hx.q qz
            replace R1 := R1.q qz
            replace BC := BC.q qz
            replace QW := QW.trans qz
            clear qz cD hRj
            have hE := HE.out j hlt
            obtain ⟨gL, oL, hAL, cL⟩ := R1
            have hA1 := hAL (by have := HLn.out; omega)
            subst hA1
            have g0 := cL (j * 3) (by have := HLn.out; omega)
            have g1 := cL (j * 3 + 1) (by have := HLn.out; omega)
            have g2 := cL (j * 3 + 2) (by have := HLn.out; omega)
            rw [show L.getD (j * 3) 0 = _ from hE.1] at g0
            rw [show L.getD (j * 3 + 1) 0 = _ from hE.2.1, ← Nat.add_assoc] at g1
            rw [show L.getD (j * 3 + 2) 0 = _ from hE.2.2, ← Nat.add_assoc] at g2
            have R1 : Rd wc (some ⟨gL, oL, none⟩) L := ⟨gL, oL, hAL, cL⟩
            clear hE hAL cL
            generalize V j = Vj at *
            obtain ⟨v1, v2, v3⟩ := Vj
            dsimp only at BF g1 g2 HCF
            have cF := BF.cell
            have lF := BF.lt
            go_upto_region 17 with (fail)
            refine wp_region_quiet_lit (by kernel_rfl) (by kernel_rfl) ?_
            repeat (any_goals (first | go_big_quiet_step ( fail) | quiet_step ( fail) | (refine wpQuiet_step (fun K hK => ?_); go_simp; split <;> (refine hK _ ?_; clear hK K))))
            all_goals (refine wpQuiet_nil ?_; intro _ hw'; obtain ⟨nq, hw''⟩ := hw'; subst hw'')
            all_goals
              have qn := (Q.refl wc).drewN nq
              replace hC := hC.q qn
              replace hx := hx.q qn
              replace R1 := R1.q qn
              replace QW := QW.trans qn
              replace BC := BC.q qn
              replace BF := BF.q qn
              clear qn cF lF g0 g1 g2
              have cF := BF.cell
              have lF := BF.lt
              by_cases hv : v2 = 0
              · subst hv
                go_wp2_with fail
                go_roundw
                case rel => exact ⟨j + 1, hlt, by rw [HCF.out, if_pos rfl]; go_num, by go_num, hC, hx, R1, BC, QW⟩
                case measure => simp [intOf]; omega
              · have hvb : (v2 == 0) = false := by simpa using hv
                go_wp2_with fail
                go_roundw
                case rel => exact ⟨j + 1, hlt, by rw [HCF.out, if_neg hv], by go_num, hC, hx, R1, BC, QW⟩
                case measure => simp [intOf]; omega
        · obtain rfl : j = k := by omega
          go_wp2_with fail
          refine (K4.out _ _ _ R1).mono ?_
          rintro e w5 ⟨rfl, q5⟩
          go_wp2_with fail
          go_ret
          exact ⟨rfl, QW.trans q5⟩
    · have hN := fsN_no h0
      rw [hN] at k1 k2
      have hKb : (fsC x0 x1 x2 x3 x4 x5 x6 x7 ms D t f == 0) = false := by simpa using h0
      generalize fsC x0 x1 x2 x3 x4 x5 x6 x7 ms D t f = K at *
      have K1 := Lib.hid k1
      have K2 := Lib.hid k2
      clear k1 k2 hN
      go_wp2_with fail
      refine (K1.out _ hC hx).mono ?_
      rintro e w2 ⟨A1, c1, rfl, _, q2⟩
      replace BC := BC.q q2
      replace hC := hC.q q2
      replace hx := hx.q q2
      replace QW := QW.trans q2
      clear q2 cC lC
      have cC := BC.cell
      have lC := BC.lt
      go_wp2_with fail
      refine (K2.out _ hC hx).mono ?_
      rintro e w3 ⟨A2, c2, rfl, _, q3⟩
      replace QW := QW.trans q3
      go_wp2_with fail
      go_ret
      exact ⟨rfl, QW⟩
end Go.Proofs.YteofhfefbphjdaaGreatDoor
