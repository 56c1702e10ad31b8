/- Walks: the least number of actions to the closing of a protest, as the reference counts it over a row of flags, for every state; and the law's own walk. No condition. -/
import Derived.Test.YthlfadkpeogajaaSteps
import Derived.Deep.OwnRows
namespace Go.Proofs.Ythlfadkpeogajaa
open Go.RowKit Go.WideShapes Go.ChangeShapes
def rowF (g : Nat → Bool) : Array Value := #[.bool (g 0), .bool (g 1), .bool (g 2), .bool (g 3), .bool (g 4), .bool (g 5), .bool (g 6), .bool (g 7)]
theorem eight {i : Nat} (h : i < 8) : i = 0 ∨ i = 1 ∨ i = 2 ∨ i = 3 ∨ i = 4 ∨ i = 5 ∨ i = 6 ∨ i = 7 := by omega
theorem rowF_get (g : Nat → Bool) {i : Nat} (h : i < 8) : (rowF g)[i]? = some (.bool (g i)) := by
  obtain rfl | rfl | rfl | rfl | rfl | rfl | rfl | rfl := eight h
  all_goals rfl
theorem rowF_set (g : Nat → Bool) {i : Nat} (h : i < 8) (v : Bool) : (rowF g).setIfInBounds i (.bool v) = rowF (fun j => if j = i then v else g j) := by
  rcases eight h with h | h | h | h | h | h | h | h
  all_goals (subst h; simp [rowF])
theorem ite_bd {c : Prop} [Decidable c] {a b : Int} (ha : 0 ≤ a ∧ a ≤ 7) (hb : 0 ≤ b ∧ b ≤ 7) : 0 ≤ (if c then a else b) ∧ (if c then a else b) ≤ 7 := by split <;> assumption
theorem nextSt_bd (s a : Int) : 0 ≤ nextSt s a ∧ nextSt s a ≤ 7 := by
  unfold nextSt
  repeat (refine ite_bd (by decide) ?_)
  decide
theorem mem_nx1 {x i : Int} (hx : 1 ≤ x ∧ x ≤ 7) (hi : 0 < i) : i ∈ nx1 x ↔ ∃ b, 1 ≤ b ∧ b ≤ 8 ∧ nextSt x b = i := by
  unfold nx1
  constructor
  · intro h
    obtain ⟨a, ha, rfl⟩ := List.mem_map.1 h
    exact ⟨a, (actL_in ha).1, (actL_in ha).2, rfl⟩
  · rintro ⟨b, h1, h2, rfl⟩
    refine List.mem_map.2 ⟨b, ?_, rfl⟩
    unfold actL actTo
    rw [if_pos hx]
    refine List.mem_map.2 ⟨(b - 1).toNat, List.mem_filter.2 ⟨List.mem_range.2 (by omega), ?_⟩, by omega⟩
    rw [show (((b - 1).toNat : Nat) : Int) + 1 = b by omega]
    exact decide_eq_true hi
theorem mem_nxTo (l : List Int) (i : Int) : ∀ j : Nat, j ≤ l.length → (i ∈ nxTo l j ↔ ∃ x ∈ l.take j, i ∈ nx1 x)
  | 0, _ => by simp [nxTo]
  | j + 1, h => by
    rw [nxTo, List.mem_append, mem_nxTo l i j (by omega), List.take_succ_eq_append_getElem (show j < l.length by omega)]
    have e : el l j = l[j] := by
      unfold el
      rw [List.getD_eq_getElem?_getD, List.getElem?_eq_getElem (show j < l.length by omega)]
      rfl
    rw [e]
    constructor
    · rintro (⟨x, h1, h2⟩ | h2)
      · exact ⟨x, List.mem_append.2 (.inl h1), h2⟩
      · exact ⟨_, List.mem_append.2 (.inr (List.mem_singleton.2 rfl)), h2⟩
    · rintro ⟨x, h1, h2⟩
      rcases List.mem_append.1 h1 with h1 | h1
      · exact .inl ⟨x, h1, h2⟩
      · rw [List.mem_singleton.1 h1] at h2
        exact .inr h2
/-- What the flags say once the states below j are through. -/
def Sp2 (L : List Int) (j : Int) (f : Nat → Bool) : Prop := ∀ i : Nat, 1 ≤ i → i ≤ 7 → (f i = true ↔ ∃ x ∈ L, x < j ∧ ∃ b, 1 ≤ b ∧ b ≤ 8 ∧ nextSt x b = i)
/-- The same inside the round of the state j, with the actions below m through. -/
def Sp3 (L : List Int) (j m : Int) (f : Nat → Bool) : Prop := ∀ i : Nat, 1 ≤ i → i ≤ 7 → (f i = true ↔ (∃ x ∈ L, x < j ∧ ∃ b, 1 ≤ b ∧ b ≤ 8 ∧ nextSt x b = i) ∨ (j ∈ L ∧ ∃ b, 1 ≤ b ∧ b < m ∧ nextSt j b = i))
theorem sp2_start {L : List Int} (hL : ∀ x ∈ L, 1 ≤ x ∧ x ≤ 7) : Sp2 L 1 (fun _ => false) := fun i _ _ => by
  constructor
  · intro h; cases h
  · rintro ⟨x, h1, h2, _⟩
    have := hL x h1
    omega
theorem sp3_start {L : List Int} {j : Int} {f : Nat → Bool} (h : Sp2 L j f) : Sp3 L j 1 f := fun i h1 h2 => by
  rw [h i h1 h2]
  constructor
  · exact .inl
  · rintro (h3 | ⟨_, b, h3, h4, _⟩)
    · exact h3
    · omega
theorem sp3_next {L : List Int} {j m : Int} {f : Nat → Bool} {t : Nat} (h : Sp3 L j m f) (hj : j ∈ L) (hm : 1 ≤ m) (ht : nextSt j m = t) : Sp3 L j (m + 1) (fun i => if i = t then true else f i) := fun i h1 h2 => by
  by_cases he : i = t
  · subst he
    simp only [if_true, true_iff]
    exact .inr ⟨hj, m, hm, by omega, ht⟩
  · simp only [if_neg he]
    rw [h i h1 h2]
    constructor
    · rintro (h3 | ⟨h3, b, h4, h5, h6⟩)
      · exact .inl h3
      · exact .inr ⟨h3, b, h4, by omega, h6⟩
    · rintro (h3 | ⟨h3, b, h4, h5, h6⟩)
      · exact .inl h3
      · refine .inr ⟨h3, b, h4, ?_, h6⟩
        have hne : b ≠ m := fun hb => by subst hb; rw [ht] at h6; omega
        omega
theorem sp2_next {L : List Int} {j m : Int} {f : Nat → Bool} (h : Sp3 L j m f) (hm : m = 9 ∨ j ∉ L) : Sp2 L (j + 1) f := fun i h1 h2 => by
  rw [h i h1 h2]
  constructor
  · rintro (⟨x, h3, h4, h5⟩ | ⟨h3, b, h4, h5, h6⟩)
    · exact ⟨x, h3, by omega, h5⟩
    · rcases hm with rfl | hm
      · exact ⟨j, h3, by omega, b, h4, by omega, h6⟩
      · exact absurd h3 hm
  · rintro ⟨x, h3, h4, b, h5, h6, h7⟩
    rcases Int.lt_or_le x j with h8 | h8
    · exact .inl ⟨x, h3, h8, b, h5, h6, h7⟩
    · obtain rfl : x = j := by omega
      rcases hm with rfl | hm
      · exact .inr ⟨h3, b, h5, by omega, h7⟩
      · exact absurd h3 hm
theorem sp2_end {L : List Int} {f : Nat → Bool} (hL : ∀ x ∈ L, 1 ≤ x ∧ x ≤ 7) (hN : ∀ x ∈ nxTo L L.length, 1 ≤ x) (h : Sp2 L 8 f) : ∀ i, i < 8 → (if i = 0 then false else f i) = decide ((i : Int) ∈ nxTo L L.length) := fun i hi => by
  by_cases h0 : i = 0
  · subst h0
    rw [if_pos rfl]
    refine (decide_eq_false fun h1 => ?_).symm
    have := hN _ h1
    omega
  · rw [if_neg h0, Bool.eq_iff_iff, decide_eq_true_iff, h i (by omega) (by omega), mem_nxTo _ _ _ (Nat.le_refl _), List.take_length]
    constructor
    · rintro ⟨x, h1, _, h2⟩
      exact ⟨x, h1, (mem_nx1 (hL x h1) (by omega)).2 h2⟩
    · rintro ⟨x, h1, h2⟩
      exact ⟨x, h1, by have := hL x h1; omega, (mem_nx1 (hL x h1) (by omega)).1 h2⟩
theorem infoBool : (Try.prog.info? 4).map (fun i => (i.zero, i.size, i.bytes)) = some (some (.bool false), 1, 1) := by kernel_rfl
theorem flags_made : madeCells #[Value.bool false] 8 = rowF (fun _ => false) := by kernel_rfl
theorem makeFlags {w : World} {ops : Array Oper} {rest : List Oper} {o : Oper} {a : Act} {R : Exit → Act → World → Prop} (hg : o.guard = none) (l c : Operand) (hop : o.op = Op.makeSlice 89 l c) (hl : a.eval l = .int .i64 8) (hc : a.eval c = .int .i64 8)
    (hK : ∀ w1, Blk w1 w.heap.size 4 (rowF fun _ => false) → Q w w1 → wpList Try.prog ops R rest (a.put o.dst (.slice (some ⟨w.heap.size, 0, none⟩) 8 8)) w1) : wpList Try.prog ops R (o :: rest) a w := by
  obtain ⟨i0, hi, hz0, hz1, hz2⟩ := info_parts infoBool
  refine wpList_make_row w hg l c 89 hop 4 i0 (.bool false) Try.underlying89 hi hz0 hz1 rfl .i64 .i64 8 hl hc (by rw [hz2]; decide) (by decide) ?_
  rw [flags_made]
  exact hK _ (Blk.new _ _ _) ((Q.refl _).alloc _)
set_option maxHeartbeats 4000000 in
theorem spec_StepsToClose (s : Int) (w : World) : Calls Try.prog 31 #[.int .i64 s] w fun e w' => e = .returned (.int .i64 (stepsV s)) ∧ Q w w' := by
  by_cases hs : 1 ≤ s ∧ s ≤ 7
  · have hF := it_facts s hs
    have HS := Lib.hid (show stepsV s = closeN s by simp [stepsV, hs])
    have hcl := closeN_le s
    unfold ItF at hF
    obtain ⟨K, hK⟩ : ∃ K, K = closeN s := ⟨_, rfl⟩
    rw [← hK] at hF HS hcl
    have HF := Lib.hid hF
    clear hF hK
    obtain ⟨s, rfl⟩ : ∃ n : Nat, s = n := ⟨s.toNat, by omega⟩
    have hs8 : s < 8 := by omega
    go_enter Try.func31, Try.ntmps31
    go_wp2_with (first | (go_at_call 69; refine (spec_State _ _).mono ?_; rintro e w' ⟨rfl, rfl⟩) | (at_make; refine makeFlags rfl _ _ rfl rfl rfl ?_; intro w1 B1 q1; have c1 := (B1.cell s).trans (rowF_get _ hs8); have z1 := B1.frozen s))
    go_loopw [3, 4] (fun v st wr => ∃ (k g : Nat) (f : Nat → Bool), k ≤ K ∧ v = .slice (some ⟨g, 0, none⟩) 8 8 ∧ st = .int .i64 k ∧ Blk wr g 4 (rowF f) ∧ Hid (∀ i, i < 8 → f i = decide ((i : Int) ∈ itL s k)) ∧ w.heap.size ≤ g ∧ Q w wr) (fun _ st _ => K - (intOf st).toNat)
    case atStart =>
      refine ⟨0, w.heap.size, fun i => if i = s then true else false, Nat.zero_le _, rfl, rfl, ?_, ?_, Nat.le_refl _, ?_⟩
      · rw [← rowF_set (fun _ => false) hs8]
        exact B1.set_ _ _
      · refine Lib.hid fun i hi => ?_
        by_cases h : i = s
        · subst h; simp [itL]
        · simp [itL, h]; omega
      · exact q1.setCell (Nat.le_refl _) _
    case round =>
      obtain ⟨k, g, f, hk, rfl, rfl, hB, HB, hg, hq⟩ := hrel
      obtain ⟨wo, rfl⟩ : ∃ wo, wo = wr := ⟨_, rfl⟩
      obtain ⟨L, hL⟩ : ∃ L, L = itL s k := ⟨_, rfl⟩
      have HIN := Lib.hid (show ∀ x ∈ L, 1 ≤ x ∧ x ≤ 7 by rw [hL]; exact HF.out.2.2.2 k hk)
      rw [← hL] at HB
      have HL := Lib.hid hL
      clear hL
      have c7 := (hB.cell 7).trans (rowF_get f (by decide))
      by_cases hlt : k < K
      · have hf7 : f 7 = false := by
          rw [HB.out 7 (by decide), HL.out]
          exact HF.out.1 k hlt
        rw [hf7] at c7
        clear hf7
        go_wp2_with (at_make; refine makeFlags rfl _ _ rfl rfl rfl ?_; intro w1 B1 q1)
        go_loopw [6] (fun i wq => ∃ (j : Nat) (f2 : Nat → Bool), 1 ≤ j ∧ j ≤ 8 ∧ i = .int .i64 j ∧ Blk wq wo.heap.size 4 (rowF f2) ∧ Hid (Sp2 L j f2) ∧ Q wo wq) (fun i _ => 8 - (intOf i).toNat)
        case atStart => exact ⟨1, _, Nat.le_refl _, by decide, rfl, B1, Lib.hid (sp2_start HIN.out), q1⟩
        case round =>
          obtain ⟨j, f2, hj1, hj, rfl, b2, H2, q2⟩ := hrel
          by_cases hlt1 : j < 8
          · have hjI : (j : Int) < 8 := by omega
            go_wp2_with fail
            go_loopw [7] (fun i wz => ∃ (m : Nat) (f3 : Nat → Bool), 1 ≤ m ∧ m ≤ 9 ∧ i = .int .i64 m ∧ Blk wz wo.heap.size 4 (rowF f3) ∧ Hid (Sp3 L j m f3) ∧ Q wo wz) (fun i _ => 9 - (intOf i).toNat)
            case atStart => exact ⟨1, f2, Nat.le_refl _, by decide, rfl, b2, Lib.hid (sp3_start H2.out), q2⟩
            case round =>
              obtain ⟨m, f3, hm1, hm, rfl, b3, H3, q3⟩ := hrel
              by_cases hlt2 : m < 9
              · have cj := ((hB.q q3).cell j).trans (rowF_get f hlt1)
                by_cases hfj : f j = true
                · have hJ : (j : Int) ∈ L := of_decide_eq_true ((HB.out j hlt1).symm.trans hfj)
                  rw [hfj] at cj
                  have HJ := Lib.hid hJ
                  have hb := nextSt_bd (j : Int) (m : Int)
                  obtain ⟨t, ht⟩ : ∃ t : Nat, nextSt (j : Int) (m : Int) = t := ⟨(nextSt (j : Int) (m : Int)).toNat, by omega⟩
                  rw [ht] at hb
                  have ht8 : t < 8 := by omega
                  have HT := Lib.hid ht
                  clear ht hJ hfj
                  go_wp2_with (go_at_call 70; refine (spec_Table _).mono ?_; rintro e w4 ⟨rfl, q4, hT⟩; have t1 := hT.1 j (by omega) (by omega); have t2 := hT.2 j m (by omega) (by omega) (by omega); rw [HT.out] at t2; have ct := ((b3.q q4).cell t).trans (rowF_get _ ht8); have zt := (b3.q q4).frozen t)
                  go_roundw
                  case rel =>
                    refine ⟨m + 1, fun i => if i = t then true else f3 i, by omega, by omega, by go_num, ?_, Lib.hid (sp3_next H3.out HJ.out (by omega) HT.out), (q3.trans q4).setCell (Nat.le_refl _) _⟩
                    rw [← rowF_set f3 ht8]
                    exact (b3.q q4).set_ _ _
                  case measure => simp [intOf]; omega
                · have hfj : f j = false := by simpa using hfj
                  have hJ : (j : Int) ∉ L := of_decide_eq_false ((HB.out j hlt1).symm.trans hfj)
                  rw [hfj] at cj
                  have HJ := Lib.hid hJ
                  clear hJ hfj
                  go_wp2_with fail
                  go_roundw
                  case rel => exact ⟨j + 1, f3, by omega, by omega, by go_num, b3, Lib.hid (sp2_next H3.out (.inr HJ.out)), q3⟩
                  case measure => simp [intOf]; omega
              · obtain rfl : m = 9 := by omega
                go_wp2_with fail
                go_roundw
                case rel => exact ⟨j + 1, f3, by omega, by omega, by go_num, b3, Lib.hid (sp2_next H3.out (.inl rfl)), q3⟩
                case measure => simp [intOf]; omega
          · obtain rfl : j = 8 := by omega
            have c0 := (b2.cell 0).trans (rowF_get f2 (by decide))
            have z0 := b2.frozen 0
            have HN := Lib.hid (show nxTo L L.length = itL s (k + 1) by rw [itL, ← HL.out])
            have HE := Lib.hid (sp2_end HIN.out (by rw [HN.out]; exact fun x hx => (HF.out.2.2.2 (k + 1) hlt x hx).1) H2.out)
            go_wp2_with fail
            go_roundw
            case rel =>
              refine ⟨k + 1, wo.heap.size, fun i => if i = 0 then false else f2 i, by omega, rfl, by go_num, ?_, Lib.hid (by rw [← HN.out]; exact HE.out), hq.size, (hq.trans q2).setCell hq.size _⟩
              rw [← rowF_set f2 (by decide)]
              exact b2.set_ _ _
            case measure => simp [intOf]; omega
      · obtain rfl : k = K := by omega
        have hf7 : f 7 = true := by
          rw [HB.out 7 (by decide), HL.out]
          exact HF.out.2.1
        rw [hf7] at c7
        clear hf7
        go_wp2_with fail
        go_ret
        exact ⟨ret_int HS.out.symm, hq⟩
  · have HS := Lib.hid (show stepsV s = -1 by simp [stepsV, hs])
    go_enter Try.func31, Try.ntmps31
    go_wp2_with (go_at_call 69; refine (spec_State _ _).mono ?_; rintro e w' ⟨rfl, rfl⟩)
    go_ret
    exact ⟨ret_int HS.out.symm, Q.refl _⟩

end Go.Proofs.Ythlfadkpeogajaa
