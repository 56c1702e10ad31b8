/- Walks: whether a demand is as described, and whether it is met, as the reference decides it. No condition. -/
import Derived.Test.YtckmlioklnjboaaMetD
namespace Go.Proofs.Ytckmlioklnjboaa
open Go.RowKit Go.WideShapes Go.ChangeShapes Go.Deep
theorem infoBool : (Try.prog.info? 4).map (fun i => (i.zero, i.size, i.bytes)) = some (some (.bool false), 1, 1) := by kernel_rfl
def abH (L : List Int) (k i : Nat) : Bool := (List.range k).any fun j => (el L j).natAbs == i
theorem abH_succ (L : List Int) (k i : Nat) : abH L (k + 1) i = (abH L k i || ((el L k).natAbs == i)) := by simp [abH, List.range_succ]
def seenL (L : List Int) (k : Nat) : List Value := (List.range 9).map fun i => .bool (abH L k i)
theorem seenL_at (L : List Int) (k : Nat) {i : Nat} (h : i < 9) : (seenL L k)[i]? = some (.bool (abH L k i)) := by
  unfold seenL
  rw [List.getElem?_map, List.getElem?_range h]; rfl
theorem seenL_set (L : List Int) (k : Nat) : (seenL L k).set (el L k).natAbs (.bool true) = seenL L (k + 1) := by
  apply List.ext_getElem?
  intro i
  rw [List.getElem?_set]
  have hl : (seenL L k).length = 9 := by simp [seenL]
  by_cases h : i < 9
  · rw [seenL_at _ _ h, seenL_at _ _ h, abH_succ, hl]
    by_cases e : (el L k).natAbs = i
    · rw [if_pos e, if_pos (by omega), beq_iff_eq.2 e, Bool.or_true]
    · rw [if_neg e, beq_eq_false_iff_ne.2 e, Bool.or_false]
  · have h2 : (seenL L (k + 1)).length = 9 := by simp [seenL]
    rw [List.getElem?_eq_none (l := seenL L k) (by omega), List.getElem?_eq_none (l := seenL L (k + 1)) (by omega), hl]
    split
    · rw [if_neg (by omega)]
    · rfl
theorem abH_has (L : List Int) (k : Nat) : abH L k (el L k).natAbs = (hasTo L k (el L k) || hasTo L k (-(el L k))) := by
  rw [Bool.eq_iff_iff]
  simp only [abH, hasTo, Bool.or_eq_true, List.any_eq_true, beq_iff_eq]
  constructor
  · rintro ⟨j, hj, h⟩
    rcases Int.natAbs_eq_natAbs_iff.1 h with h | h
    · exact .inl ⟨j, hj, h⟩
    · exact .inr ⟨j, hj, h⟩
  · rintro (⟨j, hj, h⟩ | ⟨j, hj, h⟩)
    · exact ⟨j, hj, by omega⟩
    · exact ⟨j, hj, by omega⟩
theorem dmAt_ab {L : List Int} {k : Nat} (h : abH L k (el L k).natAbs = true) : dmAt L k = false := by
  rw [abH_has, Bool.or_eq_true] at h
  rcases h with h | h <;> simp [dmAt, h]
theorem dmAt_ok {L : List Int} {k : Nat} (h : -8 ≤ el L k ∧ el L k ≤ 8) (h0 : el L k ≠ 0) (h1 : abH L k (el L k).natAbs = false) : dmAt L k = true := by
  rw [abH_has, Bool.or_eq_false_iff] at h1
  exact dmAt_mk h h0 h1.1 h1.2
set_option maxRecDepth 100000 in
set_option maxHeartbeats 2000000 in
theorem spec_l18Demand (A : Option Addr) (n c : Nat) (L : List Int) (o : Int) (w : World) (ha : Rd w A L) (hn : L.length = n) (hn2 : n ≤ 9223372036854775807) :
    Calls Try.prog 51 #[.agg #[.slice A n c, .int .i64 o]] w fun e w' => e = .returned (.bool (demB L n o)) ∧ Q w w' := by
  have HN := Lib.hid hn
  clear hn
  have Q1 : Q w (w.alloc (.cells #[.slice A n c, .int .i64 o] 74)) := (Q.refl w).alloc _
  have B := Blk.new w 74 #[.slice A n c, .int .i64 o]
  cases ho : inR o 0 3
  · go_enter Try.func51, Try.ntmps51
    go_wp2_with (go_at_call 52; refine (spec_inR _ _ _ _).mono ?_; rintro e w' ⟨rfl, rfl⟩)
    go_ret
    exact ⟨ret_bool (by unfold demB; rw [ho, Bool.and_false]), Q1⟩
  · by_cases h8 : 8 < n
    · have hI : (8 : Int) < (n : Int) := by omega
      have HD : dmTo L n = false := by
        cases hd : dmTo L n
        · rfl
        · have := dmTo_len hd; omega
      have HD := Lib.hid HD
      go_enter Try.func51, Try.ntmps51
      go_wp2_with (go_at_call 52; refine (spec_inR _ _ _ _).mono ?_; rintro e w' ⟨rfl, rfl⟩)
      go_ret
      exact ⟨ret_bool (by unfold demB; rw [HD.out]; rfl), Q1⟩
    · have hI : ¬ (8 : Int) < (n : Int) := by omega
      obtain ⟨i0, hi, hz0, hz1, hz2⟩ := info_parts infoBool
      have HO := Lib.hid ho
      go_enter Try.func51, Try.ntmps51
      go_wp2_with (first | (go_at_call 52; refine (spec_inR _ _ _ _).mono ?_; rintro e w' ⟨rfl, rfl⟩) | (at_make; refine wpList_make_full _ rfl _ _ 120 rfl (w.heap.size + 1) 4 i0 (.bool false) 1 Try.underlying120 hi hz0 hz1 .i64 .i64 9 9 9 rfl rfl rfl rfl (by rw [hz2]; omega) (by unfold maxLen; omega) (by simp) ?_; intro w1 hown hgrow))
      have Q2 : Q w w1 := Q1.grown hgrow (by simp)
      replace hown : w1.ownsRow (w.heap.size + 1) 4 1 (.slice (some ⟨w.heap.size + 1, 0, none⟩) 9 9) 9 (seenL L 0) := by
        have e : (madeCells (Value.bool false).cells (9 * 1)).toList = seenL L 0 := by
          apply List.ext_getElem
          · simp [madeCells, seenL]
          · intro i h1 h2
            have e2 : (Value.bool false).cells = #[.bool false] := rfl
            simp [madeCells, seenL, abH, e2, Nat.mod_one]
        rw [e] at hown
        simpa using hown
      have B1 := B.grown hgrow (by simp)
      have hg1 := hgrow.size
      clear hgrow B hi hz0 hz1 hz2 ho
      go_loopw [4] (fun i wr => ∃ k : Nat, k ≤ n ∧ i = .int .i64 k ∧ Hid (dmTo L k = true) ∧ wr.ownsRow (w.heap.size + 1) 4 1 (.slice (some ⟨w.heap.size + 1, 0, none⟩) 9 9) 9 (seenL L k) ∧ Blk wr w.heap.size 74 #[.slice A n c, .int .i64 o] ∧ Q w wr) (fun i _ => n - (intOf i).toNat)
      case atStart => exact ⟨0, Nat.zero_le _, by simp, Lib.hid rfl, hown, B1, Q2⟩
      case round =>
        clear B1 Q2 hown hg1
        obtain ⟨k, hk, rfl, HT, hown, B, hq⟩ := hrel
        have cB := B.cell
        by_cases hlt : k < n
        · have hltI : (k : Int) < (n : Int) := by omega
          obtain ⟨bl, o1, rfl, g0⟩ := (ha.q hq).at1 HN.out hlt
          by_cases h0 : el L k = 0
          · have HF := Lib.hid (dmTo_no hlt (show dmAt L k = false by simp [dmAt, h0]))
            have hb : (el L k == 0) = true := by simpa using h0
            clear h0
            go_wp2_with fail
            go_ret
            exact ⟨ret_bool (by unfold demB; rw [HF.out]; rfl), hq⟩
          · have hb : (el L k == 0) = false := by simpa using h0
            cases hR : inR (el L k) (-8) 8
            · have HF := Lib.hid (dmTo_no hlt (show dmAt L k = false by simp [dmAt, hR]))
              clear h0
              go_wp2_with (go_at_call 52; refine (spec_inR _ _ _ _).mono ?_; rintro e w' ⟨rfl, rfl⟩)
              go_ret
              exact ⟨ret_bool (by unfold demB; rw [HF.out]; rfl), hq⟩
            · have hRb : -8 ≤ el L k ∧ el L k ≤ 8 := by simpa [inR] using hR
              have hN8 : (el L k).natAbs < 9 := by omega
              have cS := World.ownsRow.cellAt hown (el L k).natAbs (by omega)
              rw [seenL_at _ _ hN8] at cS
              have fS := World.ownsRow.frozenAt hown (el L k).natAbs
              have hS := (World.ownsRow.stored hown (el L k).natAbs (.bool true)).1
              rw [seenL_set] at hS
              cases hA : abH L k (el L k).natAbs
              · have HS : Hid (dmTo L (k + 1) = true) := Lib.hid (by rw [dmTo_succ, HT.out, dmAt_ok hRb h0 hA]; rfl)
                rw [hA] at cS
                clear h0 hA
                have BF := B.far (p := ⟨w.heap.size + 1, (el L k).natAbs, none⟩) (by simp) (.bool true)
                have QF := hq.setCell (p := ⟨w.heap.size + 1, (el L k).natAbs, none⟩) (by simp) (.bool true)
                by_cases hs : 0 ≤ el L k
                · obtain ⟨m, hm⟩ : ∃ m : Nat, el L k = (m : Int) := ⟨(el L k).toNat, by omega⟩
                  have em : (el L k).natAbs = m := by omega
                  rw [em] at cS fS hS BF QF hN8
                  have hmx : -(m : Int) ≤ (m : Int) := by omega
                  rw [hm] at g0 hb hR hRb
                  have hmI : (m : Int) < 9 := by omega
                  clear hs em
                  generalize el L k = f at *
                  subst hm
                  go_wp2_with (go_at_call 52; refine (spec_inR _ _ _ _).mono ?_; rintro e w' ⟨rfl, rfl⟩)
                  go_roundw
                  case rel => exact ⟨k + 1, by omega, by go_num, HS, hS, BF, QF⟩
                  case measure => simp [intOf]; omega
                · obtain ⟨m, hm⟩ : ∃ m : Nat, el L k = -(m : Int) := ⟨(-(el L k)).toNat, by omega⟩
                  have hmn : ¬ (m : Int) ≤ -(m : Int) := by omega
                  have em : (el L k).natAbs = m := by omega
                  rw [em] at cS fS hS BF QF hN8
                  have hmx : -(m : Int) ≤ (m : Int) := by omega
                  rw [hm] at g0 hb hR hRb
                  have hmI : (m : Int) < 9 := by omega
                  clear hs em
                  generalize el L k = f at *
                  subst hm
                  go_wp2_with (go_at_call 52; refine (spec_inR _ _ _ _).mono ?_; rintro e w' ⟨rfl, rfl⟩)
                  go_roundw
                  case rel => exact ⟨k + 1, by omega, by go_num, HS, hS, BF, QF⟩
                  case measure => simp [intOf]; omega
              · have HF := Lib.hid (dmTo_no hlt (dmAt_ab hA))
                rw [hA] at cS
                clear h0 hA hS fS
                by_cases hs : 0 ≤ el L k
                · obtain ⟨m, hm⟩ : ∃ m : Nat, el L k = (m : Int) := ⟨(el L k).toNat, by omega⟩
                  have em : (el L k).natAbs = m := by omega
                  rw [em] at cS hN8
                  have hmx : -(m : Int) ≤ (m : Int) := by omega
                  rw [hm] at g0 hb hR hRb
                  have hmI : (m : Int) < 9 := by omega
                  clear hs em
                  generalize el L k = f at *
                  subst hm
                  go_wp2_with (go_at_call 52; refine (spec_inR _ _ _ _).mono ?_; rintro e w' ⟨rfl, rfl⟩)
                  go_ret
                  exact ⟨ret_bool (by unfold demB; rw [HF.out]; rfl), hq⟩
                · obtain ⟨m, hm⟩ : ∃ m : Nat, el L k = -(m : Int) := ⟨(-(el L k)).toNat, by omega⟩
                  have hmn : ¬ (m : Int) ≤ -(m : Int) := by omega
                  have em : (el L k).natAbs = m := by omega
                  rw [em] at cS hN8
                  have hmx : -(m : Int) ≤ (m : Int) := by omega
                  rw [hm] at g0 hb hR hRb
                  have hmI : (m : Int) < 9 := by omega
                  clear hs em
                  generalize el L k = f at *
                  subst hm
                  go_wp2_with (go_at_call 52; refine (spec_inR _ _ _ _).mono ?_; rintro e w' ⟨rfl, rfl⟩)
                  go_ret
                  exact ⟨ret_bool (by unfold demB; rw [HF.out]; rfl), hq⟩
        · obtain rfl : k = n := by omega
          go_wp2_with fail
          go_ret
          exact ⟨ret_bool (by unfold demB; rw [HT.out, HO.out]; rfl), hq⟩
end Go.Proofs.Ytckmlioklnjboaa
