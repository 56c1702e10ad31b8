/- Walks: the faults of a protest, as the program and the reference list them, for all arguments. No condition. -/
import Derived.Test.YthlfadkpeogajaaK
import Derived.Test.YthlfadkpeogajaaTc
import Derived.Test.YthlfadkpeogajaaTail
import Derived.Outline
namespace Go.Proofs.Ythlfadkpeogajaa
open Go.RowKit Go.WideShapes Go.ChangeShapes
def pfB (a b c d e f bo dl : Int) : Nat → Bool
  | 0 => a == b
  | 1 => !inR a 0 (bo - 1) || !inR b 0 (bo - 1)
  | 2 => decide (10000 < d - c)
  | 3 => decide (60000 < e - c)
  | _ => decide (dl < f)
def pfTo (a b c d e f bo dl : Int) (k : Nat) : List Int := ((List.range k).filter (pfB a b c d e f bo dl)).map fun (i : Nat) => (i : Int) + 1
theorem pfTo_yes {a b c d e f bo dl : Int} {k : Nat} (h : pfB a b c d e f bo dl k = true) : pfTo a b c d e f bo dl (k + 1) = pfTo a b c d e f bo dl k ++ [(k : Int) + 1] := by simp [pfTo, List.range_succ, h]
theorem pfTo_no {a b c d e f bo dl : Int} {k : Nat} (h : pfB a b c d e f bo dl k = false) : pfTo a b c d e f bo dl (k + 1) = pfTo a b c d e f bo dl k := by simp [pfTo, List.range_succ, h]
theorem pfTo_len (a b c d e f bo dl : Int) (k : Nat) : (pfTo a b c d e f bo dl k).length ≤ k := by
  unfold pfTo
  rw [List.length_map]
  exact Nat.le_trans (List.length_filter_le _ _) (by simp)
def pfC (c d e f bo dl : Int) : Int := if isPro c d e f = false then 1 else if ¬ (1 ≤ bo ∧ bo ≤ 16 ∧ 0 ≤ dl ∧ dl ≤ 1000000000) then 2 else 0
def pfL (a b c d e f bo dl : Int) : List Int := if pfC c d e f bo dl = 0 then pfTo a b c d e f bo dl 5 else []
theorem pfC_1 {c d e f bo dl : Int} (h : isPro c d e f = false) : pfC c d e f bo dl = 1 := by simp [pfC, h]
theorem pfC_2 {c d e f bo dl : Int} (h : isPro c d e f = true) (h2 : ¬ (1 ≤ bo ∧ bo ≤ 16 ∧ 0 ≤ dl ∧ dl ≤ 1000000000)) : pfC c d e f bo dl = 2 := by simp only [pfC, h]; rw [if_neg (by simp), if_pos h2]
theorem pfC_0 {c d e f bo dl : Int} (h : isPro c d e f = true) (h2 : 1 ≤ bo ∧ bo ≤ 16 ∧ 0 ≤ dl ∧ dl ≤ 1000000000) : pfC c d e f bo dl = 0 := by simp [pfC, h, h2]
theorem pfL_no {a b c d e f bo dl : Int} (h : pfC c d e f bo dl ≠ 0) : pfL a b c d e f bo dl = [] := by simp [pfL, h]
theorem pfL_yes {a b c d e f bo dl : Int} (h : pfC c d e f bo dl = 0) : pfL a b c d e f bo dl = pfTo a b c d e f bo dl 5 := by simp [pfL, h]
theorem pfL_len (a b c d e f bo dl : Int) : (pfL a b c d e f bo dl).length ≤ 5 := by
  unfold pfL
  split
  · exact pfTo_len _ _ _ _ _ _ _ _ 5
  · simp
theorem isPro_bd {c d e f : Int} (h : isPro c d e f = true) : 0 ≤ c ∧ c ≤ 1000000000 ∧ c ≤ d ∧ d ≤ 1000000000 ∧ c ≤ e ∧ e ≤ 1000000000 ∧ c ≤ f ∧ f ≤ 1000000000 := of_decide_eq_true h
set_option maxHeartbeats 2000000 in
theorem spec_ProtestFaults (a b c d e f bo dl : Int) (w : World) :
    Calls Try.prog 18 #[.agg #[.int .i64 a, .int .i64 b, .int .i64 c, .int .i64 d, .int .i64 e, .int .i64 f], .int .i64 bo, .int .i64 dl] w (RS w 2 1 (pfL a b c d e f bo dl).length (pfL a b c d e f bo dl) (pfC c d e f bo dl)) := by
  cases hp : isPro c d e f
  · rw [pfL_no (by rw [pfC_1 hp]; decide), pfC_1 hp]
    go_enter Try.func18, Try.ntmps18
    go_wp2_with (go_at_call 21; refine (spec_IsProtest _ _ _ _ _ _ _).mono ?_; rintro r w1 ⟨rfl, q1⟩; have Q1 : Q w w1 := Q.trans (by (repeat (first | assumption | exact Q.refl _ | refine Q.alloc ?_ _ | refine Q.drewN ?_ _ | refine Q.drew ?_))) q1)
    go_ret2
    exact RS.nil _ _ _ _ _ Q1
  · by_cases h2 : 1 ≤ bo ∧ bo ≤ 16 ∧ 0 ≤ dl ∧ dl ≤ 1000000000
    · have hb := isPro_bd hp
      rw [pfL_yes (pfC_0 hp h2), pfC_0 hp h2]
      cases h3 : inR a 0 (bo - 1)
      · go_enter Try.func18, Try.ntmps18
        go_wp2_with (first | (go_at_call 21; refine (spec_IsProtest _ _ _ _ _ _ _).mono ?_; rintro r w1 ⟨rfl, q1⟩; have Q1 : Q w w1 := Q.trans (by (repeat (first | assumption | exact Q.refl _ | refine Q.alloc ?_ _ | refine Q.drewN ?_ _ | refine Q.drew ?_))) q1; have B1 := (Blk.new _ _ _).q q1; have c1 := later_cells B1.cell B1.lt) | (go_at_call 64; refine (spec_in _ _ _ _).mono ?_; rintro e w' ⟨rfl, rfl⟩))
        refine wp_region_later_tail 35 (by kernel_rfl) (by kernel_rfl) ?_
        simp only [List.take_succ_cons, List.take_zero, List.drop_succ_cons, List.drop_zero]
        repeat (any_goals (first | go_big_quiet_step ((go_at_call 64; exact later_same (spec_inR _ _ _ _))) | quiet_step ((go_at_call 64; exact later_same (spec_inR _ _ _ _))) | (refine wpQuiet_step (fun K hK => ?_); go_simp; split <;> (refine hK _ ?_; clear hK K))))
        refine wpQuiet_nil ?_
        rintro w2 ⟨⟨w3, q2⟩, hw⟩
        obtain rfl : w2 = w3 := hw
        go_wp2_with fail
        have Q2 : Q w w2 := Q1.trans q2
        have hB : ∀ k : Nat, k < 5 → ∀ wr, Q (w2.alloc (.cells #[.bool (a == b), .bool (true), .bool (decide (10000 < d - c)), .bool (decide (60000 < e - c)), .bool (decide (dl < f))] 4)) wr → wr.cell? ⟨w2.heap.size, k, none⟩ = some (.bool (pfB a b c d e f bo dl k)) := by
          intro k hk wr hq
          rw [hq.box k]
          obtain rfl | rfl | rfl | rfl | rfl : k = 0 ∨ k = 1 ∨ k = 2 ∨ k = 3 ∨ k = 4 := by omega
          all_goals simp [pfB, h3]
        clear h3 h2 hb c1 hp
        go_loopw [9, 10] (fun v i wr => ∃ k : Nat, k ≤ 5 ∧ i = .int .i64 k ∧ OwnL wr (w2.heap.size + 1) 2 1 v (pfTo a b c d e f bo dl k) ∧ Q (w2.alloc (.cells #[.bool (a == b), .bool (true), .bool (decide (10000 < d - c)), .bool (decide (60000 < e - c)), .bool (decide (dl < f))] 4)) wr) (fun _ i _ => 5 - (intOf i).toNat)
        case atStart => exact ⟨0, by omega, rfl, by have := OwnL.new (B := w2.heap.size + 1) (w2.alloc (.cells #[.bool (a == b), .bool (true), .bool (decide (10000 < d - c)), .bool (decide (60000 < e - c)), .bool (decide (dl < f))] 4)) 2 1 (by simp); simpa [pfTo] using this, by (repeat (first | assumption | exact Q.refl _ | refine Q.alloc ?_ _ | refine Q.drewN ?_ _ | refine Q.drew ?_))⟩
        case round =>
          obtain ⟨k, hk, rfl, ⟨A1, m, d1, rfl, hown⟩, hq⟩ := hrel
          have hlen : m ≤ k := by have := hown.len; have := pfTo_len a b c d e f bo dl k; omega
          by_cases hlt : k < 5
          · have hc := hB k hlt wr hq
            cases hbk : pfB a b c d e f bo dl k
            · go_wp2_with fail
              go_roundw
              case rel => exact ⟨k + 1, by omega, by go_num, by rw [pfTo_no hbk]; exact ⟨_, _, _, rfl, hown⟩, hq⟩
              case measure => simp [intOf]; omega
            · go_wp2_with (at_builtin; refine appK elInt64 rfl _ _ rfl [(k : Int) + 1] rfl hown rfl (by simp) rfl _ _ rfl (by omega) (Nat.le_trans (by simp) hq.size) ?_; intro A' c' w' hown' hg' hgr')
              go_roundw
              case rel => exact ⟨k + 1, by omega, by go_num, by rw [pfTo_yes hbk]; exact ⟨_, _, _, rfl, hown'⟩, hq.mark hown (by simp) hg'⟩
              case measure => simp [intOf]; omega
          · obtain rfl : k = 5 := by omega
            go_wp2_with fail
            go_ret2
            exact RS.mk' (hown.mono (by have := Q2.size; omega)) (Q.trans (by (repeat (first | assumption | exact Q.refl _ | refine Q.alloc ?_ _ | refine Q.drewN ?_ _ | refine Q.drew ?_))) hq) (by simp) (by decide)
      · go_enter Try.func18, Try.ntmps18
        go_wp2_with (first | (go_at_call 21; refine (spec_IsProtest _ _ _ _ _ _ _).mono ?_; rintro r w1 ⟨rfl, q1⟩; have Q1 : Q w w1 := Q.trans (by (repeat (first | assumption | exact Q.refl _ | refine Q.alloc ?_ _ | refine Q.drewN ?_ _ | refine Q.drew ?_))) q1; have B1 := (Blk.new _ _ _).q q1; have c1 := later_cells B1.cell B1.lt) | (go_at_call 64; refine (spec_in _ _ _ _).mono ?_; rintro e w' ⟨rfl, rfl⟩))
        refine wp_region_later_tail 35 (by kernel_rfl) (by kernel_rfl) ?_
        simp only [List.take_succ_cons, List.take_zero, List.drop_succ_cons, List.drop_zero]
        repeat (any_goals (first | go_big_quiet_step ((go_at_call 64; exact later_same (spec_inR _ _ _ _))) | quiet_step ((go_at_call 64; exact later_same (spec_inR _ _ _ _))) | (refine wpQuiet_step (fun K hK => ?_); go_simp; split <;> (refine hK _ ?_; clear hK K))))
        refine wpQuiet_nil ?_
        rintro w2 ⟨⟨w3, q2⟩, hw⟩
        obtain rfl : w2 = w3 := hw
        go_wp2_with fail
        have Q2 : Q w w2 := Q1.trans q2
        have hB : ∀ k : Nat, k < 5 → ∀ wr, Q (w2.alloc (.cells #[.bool (a == b), .bool (!inR b 0 (bo - 1)), .bool (decide (10000 < d - c)), .bool (decide (60000 < e - c)), .bool (decide (dl < f))] 4)) wr → wr.cell? ⟨w2.heap.size, k, none⟩ = some (.bool (pfB a b c d e f bo dl k)) := by
          intro k hk wr hq
          rw [hq.box k]
          obtain rfl | rfl | rfl | rfl | rfl : k = 0 ∨ k = 1 ∨ k = 2 ∨ k = 3 ∨ k = 4 := by omega
          all_goals simp [pfB, h3]
        clear h3 h2 hb c1 hp
        go_loopw [9, 10] (fun v i wr => ∃ k : Nat, k ≤ 5 ∧ i = .int .i64 k ∧ OwnL wr (w2.heap.size + 1) 2 1 v (pfTo a b c d e f bo dl k) ∧ Q (w2.alloc (.cells #[.bool (a == b), .bool (!inR b 0 (bo - 1)), .bool (decide (10000 < d - c)), .bool (decide (60000 < e - c)), .bool (decide (dl < f))] 4)) wr) (fun _ i _ => 5 - (intOf i).toNat)
        case atStart => exact ⟨0, by omega, rfl, by have := OwnL.new (B := w2.heap.size + 1) (w2.alloc (.cells #[.bool (a == b), .bool (!inR b 0 (bo - 1)), .bool (decide (10000 < d - c)), .bool (decide (60000 < e - c)), .bool (decide (dl < f))] 4)) 2 1 (by simp); simpa [pfTo] using this, by (repeat (first | assumption | exact Q.refl _ | refine Q.alloc ?_ _ | refine Q.drewN ?_ _ | refine Q.drew ?_))⟩
        case round =>
          obtain ⟨k, hk, rfl, ⟨A1, m, d1, rfl, hown⟩, hq⟩ := hrel
          have hlen : m ≤ k := by have := hown.len; have := pfTo_len a b c d e f bo dl k; omega
          by_cases hlt : k < 5
          · have hc := hB k hlt wr hq
            cases hbk : pfB a b c d e f bo dl k
            · go_wp2_with fail
              go_roundw
              case rel => exact ⟨k + 1, by omega, by go_num, by rw [pfTo_no hbk]; exact ⟨_, _, _, rfl, hown⟩, hq⟩
              case measure => simp [intOf]; omega
            · go_wp2_with (at_builtin; refine appK elInt64 rfl _ _ rfl [(k : Int) + 1] rfl hown rfl (by simp) rfl _ _ rfl (by omega) (Nat.le_trans (by simp) hq.size) ?_; intro A' c' w' hown' hg' hgr')
              go_roundw
              case rel => exact ⟨k + 1, by omega, by go_num, by rw [pfTo_yes hbk]; exact ⟨_, _, _, rfl, hown'⟩, hq.mark hown (by simp) hg'⟩
              case measure => simp [intOf]; omega
          · obtain rfl : k = 5 := by omega
            go_wp2_with fail
            go_ret2
            exact RS.mk' (hown.mono (by have := Q2.size; omega)) (Q.trans (by (repeat (first | assumption | exact Q.refl _ | refine Q.alloc ?_ _ | refine Q.drewN ?_ _ | refine Q.drew ?_))) hq) (by simp) (by decide)
    · rw [pfL_no (by rw [pfC_2 hp h2]; decide), pfC_2 hp h2]
      go_enter Try.func18, Try.ntmps18
      go_wp2_with (first | (go_at_call 21; refine (spec_IsProtest _ _ _ _ _ _ _).mono ?_; rintro r w1 ⟨rfl, q1⟩; have Q1 : Q w w1 := Q.trans (by (repeat (first | assumption | exact Q.refl _ | refine Q.alloc ?_ _ | refine Q.drewN ?_ _ | refine Q.drew ?_))) q1) | (go_at_call 64; refine (spec_in _ _ _ _).mono ?_; rintro e w' ⟨rfl, rfl⟩))
      all_goals (first | (exfalso; simp at *; omega) | (go_ret2; exact RS.nil _ _ _ _ _ Q1))
/-- The variable in block g holds a slice of the call's own that reads as xs. -/
def Ad (w0 w : World) (g : Nat) (xs : List Int) : Prop := Q w0 w ∧ w0.heap.size ≤ g ∧ ∃ A n c, Blk w g 35 #[.slice A n c] ∧ Own w w0.heap.size 2 1 (.slice A n c) n xs
theorem Ad.alloc {w0 w : World} {g : Nat} {xs : List Int} (h : Ad w0 w g xs) (o : Obj) : Ad w0 (w.alloc o) g xs := by
  obtain ⟨h1, h2, A, n, c, h3, h4⟩ := h
  exact ⟨h1.alloc _, h2, A, n, c, h3.alloc _, h4.q ((Q.refl _).alloc _)⟩
theorem Ad.q {w0 w w' : World} {g : Nat} {xs : List Int} (h : Ad w0 w g xs) (hq : Q w w') : Ad w0 w' g xs := by
  obtain ⟨h1, h2, A, n, c, h3, h4⟩ := h
  exact ⟨h1.trans hq, h2, A, n, c, h3.q hq, h4.q hq⟩
def addL (b : Bool) (xs : List Int) (v : Int) : List Int := if b then xs ++ [v] else xs
theorem addL_step {b : Bool} {xs : List Int} {v : Int} {k N : Nat} (h : xs.length + (k + 1) ≤ N) : (addL b xs v).length + k ≤ N := by
  cases b
  · show xs.length + k ≤ N; omega
  · show (xs ++ [v]).length + k ≤ N; simp; omega
theorem impl_add (w0 w : World) (g : Nat) (xs : List Int) (v : Int) (b : Bool) (h : Ad w0 w g xs) (hl : xs.length + 0 ≤ 1000) :
    Calls Try.prog 93 #[.int .i64 v, .bool b, .pointer (some ⟨g, 0, none⟩)] w fun e w' => e = .returned (.tuple #[]) ∧ Ad w0 w' g (addL b xs v) := by
  cases b
  · rw [show addL false xs v = xs from rfl]
    go_enter Try.func93, Try.ntmps93
    go_wp2_with fail
    go_end0
    exact ⟨rfl, h⟩
  · rw [show addL true xs v = xs ++ [v] from rfl]
    obtain ⟨h1, h2, A, n, c, h3, h4⟩ := h
    have hz := h3.lt
    have c3 : w.cell? ⟨g, 0, none⟩ = some (.slice A n c) := h3.cell 0
    have f3 := h3.frozen 0
    have hn := h4.len
    go_enter Try.func93, Try.ntmps93
    go_wp2_with (at_builtin; refine appK elInt64 rfl _ _ rfl [v] rfl h4 rfl (by simp) rfl _ _ rfl (by omega) h1.size ?_; intro A' c' w' hown' hg' hgr'; have hb := h3.markO h4 (by decide) hg'; have c4 : w'.cell? ⟨g, 0, none⟩ = some (.slice A n c) := hb.cell 0; have f4 := hb.frozen 0)
    go_end0
    refine ⟨rfl, ?_, h2, A', n + 1, c', hb.set_ 0 _, hown'.setFar (Own.ne_blk hown' hb (by decide)) 0 _⟩
    exact (h1.mark h4 (Nat.le_refl _) hg').setCell (p := ⟨g, 0, none⟩) h2 _
theorem pfTo_eq (a b c d e f bo dl : Int) : addL (decide (dl < f)) (addL (decide (60000 < e - c)) (addL (decide (10000 < d - c)) (addL (!inR a 0 (bo - 1) || !inR b 0 (bo - 1)) (addL (a == b) [] 1) 2) 3) 4) 5 = pfTo a b c d e f bo dl 5 := by
  have h : ∀ k : Nat, addL (pfB a b c d e f bo dl k) (pfTo a b c d e f bo dl k) ((k : Int) + 1) = pfTo a b c d e f bo dl (k + 1) := by
    intro k
    cases hb : pfB a b c d e f bo dl k
    · rw [pfTo_no hb]; rfl
    · rw [pfTo_yes hb]; rfl
  have h0 := h 0
  have h1 := h 1
  have h2 := h 2
  have h3 := h 3
  have h4 := h 4
  rw [← h4, ← h3, ← h2, ← h1, ← h0]
  rfl
set_option maxHeartbeats 1000000 in
theorem impl_faultsOf (a b c d e f bo dl : Int) (w : World) (hb : 0 ≤ c ∧ c ≤ 1000000000 ∧ c ≤ d ∧ d ≤ 1000000000 ∧ c ≤ e ∧ e ≤ 1000000000 ∧ c ≤ f ∧ f ≤ 1000000000) (h2 : 1 ≤ bo ∧ bo ≤ 16) :
    Calls Try.prog 66 #[.agg #[.int .i64 a, .int .i64 b, .int .i64 c, .int .i64 d, .int .i64 e, .int .i64 f], .int .i64 bo, .int .i64 dl] w (RL w 2 1 (pfTo a b c d e f bo dl 5).length (pfTo a b c d e f bo dl 5)) := by
  have A0 : Ad (w.alloc (.cells #[.int .i64 a, .int .i64 b, .int .i64 c, .int .i64 d, .int .i64 e, .int .i64 f] 32)) (((w.alloc (.cells #[.int .i64 a, .int .i64 b, .int .i64 c, .int .i64 d, .int .i64 e, .int .i64 f] 32)).alloc (.cells #[] 2)).alloc (.cells #[.slice (some ⟨w.heap.size + 1, 0, none⟩) 0 0] 35)) (w.heap.size + 2) [] := by
    refine ⟨by (repeat (first | assumption | exact Q.refl _ | refine Q.alloc ?_ _ | refine Q.drewN ?_ _ | refine Q.drew ?_)), by simp, some ⟨w.heap.size + 1, 0, none⟩, 0, 0, ?_, ?_⟩
    · have := Blk.new ((w.alloc (.cells #[.int .i64 a, .int .i64 b, .int .i64 c, .int .i64 d, .int .i64 e, .int .i64 f] 32)).alloc (.cells #[] 2)) 35 #[.slice (some ⟨w.heap.size + 1, 0, none⟩) 0 0]
      simpa using this
    · have := Own.lit (B := w.heap.size + 1) (w.alloc (.cells #[.int .i64 a, .int .i64 b, .int .i64 c, .int .i64 d, .int .i64 e, .int .i64 f] 32)) 2 1 0 [] rfl (by simp) rfl (by decide)
      have := this.q ((Q.refl _).alloc (.cells #[.slice (some ⟨w.heap.size + 1, 0, none⟩) 0 0] 35))
      simpa using this
  cases h3 : inR a 0 (bo - 1)
  all_goals
    have HE := Lib.hid (pfTo_eq a b c d e f bo dl)
    go_enter Try.func66, Try.ntmps66
    go_wp2_with (first | (go_at_call 60; refine (impl_inR _ _ _ _).mono ?_; rintro e w' ⟨rfl, rfl⟩) | (go_at_call 93; refine (impl_add _ _ _ _ _ _ (by assumption) (by (repeat (apply addL_step)); simp)).mono ?_; rintro e w1 ⟨rfl, AD⟩; have cb := ((Blk.new _ _ _).q AD.1).cell; obtain ⟨u1, u2, A, n, cp, u3, u4⟩ := id AD; have c3 := u3.cell0))
    go_ret
    have HE' := HE.out
    rw [h3] at HE'
    simp only [Bool.not_false, Bool.true_or, Bool.not_true, Bool.false_or] at HE'
    rw [← HE']
    exact RL.mk' (u4.mono (by simp)) (Q.trans (by (repeat (first | assumption | exact Q.refl _ | refine Q.alloc ?_ _ | refine Q.drewN ?_ _ | refine Q.drew ?_))) u1) (by simp) (by decide)
theorem impl_ProtestFaults (a b c d e f bo dl : Int) (w : World) :
    Calls Try.prog 17 #[.agg #[.int .i64 a, .int .i64 b, .int .i64 c, .int .i64 d, .int .i64 e, .int .i64 f], .int .i64 bo, .int .i64 dl] w (RS w 2 1 (pfL a b c d e f bo dl).length (pfL a b c d e f bo dl) (pfC c d e f bo dl)) := by
  cases hp : isPro c d e f
  · rw [pfL_no (by rw [pfC_1 hp]; decide), pfC_1 hp]
    go_enter Try.func17, Try.ntmps17
    go_wp2_with (go_at_call 20; refine (impl_IsProtest _ _ _ _ _ _ _).mono ?_; rintro r w1 ⟨rfl, q1⟩; have Q1 : Q w w1 := Q.trans (by (repeat (first | assumption | exact Q.refl _ | refine Q.alloc ?_ _ | refine Q.drewN ?_ _ | refine Q.drew ?_))) q1)
    go_ret2
    exact RS.nil _ _ _ _ _ Q1
  · by_cases h2 : 1 ≤ bo ∧ bo ≤ 16 ∧ 0 ≤ dl ∧ dl ≤ 1000000000
    · have hb := isPro_bd hp
      rw [pfL_yes (pfC_0 hp h2), pfC_0 hp h2]
      go_enter Try.func17, Try.ntmps17
      go_wp2_with (first | (go_at_call 20; refine (impl_IsProtest _ _ _ _ _ _ _).mono ?_; rintro r w1 ⟨rfl, q1⟩; have Q1 : Q w w1 := Q.trans (by (repeat (first | assumption | exact Q.refl _ | refine Q.alloc ?_ _ | refine Q.drewN ?_ _ | refine Q.drew ?_))) q1; have cb := q1.box) | (go_at_call 60; refine (impl_in _ _ _ _).mono ?_; rintro e w' ⟨rfl, rfl⟩) | (go_at_call 61; refine (impl_isTime _ _).mono ?_; rintro e w' ⟨rfl, rfl⟩) | (go_at_call 66; refine (impl_faultsOf _ _ _ _ _ _ _ _ _ hb ⟨h2.1, h2.2.1⟩).mono ?_; rintro e w2 ⟨A, cp, rfl, o2, q2⟩))
      go_ret2
      exact ⟨A, cp, rfl, o2.mono Q1.size, Q1.trans q2⟩
    · rw [pfL_no (by rw [pfC_2 hp h2]; decide), pfC_2 hp h2]
      go_enter Try.func17, Try.ntmps17
      go_wp2_with (first | (go_at_call 20; refine (impl_IsProtest _ _ _ _ _ _ _).mono ?_; rintro r w1 ⟨rfl, q1⟩; have Q1 : Q w w1 := Q.trans (by (repeat (first | assumption | exact Q.refl _ | refine Q.alloc ?_ _ | refine Q.drewN ?_ _ | refine Q.drew ?_))) q1) | (go_at_call 60; refine (impl_in _ _ _ _).mono ?_; rintro e w' ⟨rfl, rfl⟩) | (go_at_call 61; refine (impl_isTime _ _).mono ?_; rintro e w' ⟨rfl, rfl⟩))
      all_goals (first | (exfalso; simp at *; omega) | (go_ret2; exact RS.nil _ _ _ _ _ Q1))

end Go.Proofs.Ythlfadkpeogajaa
