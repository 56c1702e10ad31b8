/- Walks: whether a track is early, as the program and the reference compute it. Walks: the codes of a start, as the program and the reference compute them. Walks: whether a track is early, with its code, as the reference computes it. Words: slices of tracks; and the walk of the program's areTracks over any such slice. Walks: the program's startCode, and its IsEarly. Walks: the program's IsEarly, for all arguments; and the law's own walk. -/
import Derived.Test.YtpdcehmnegagmaaLine
namespace Go.Proofs.Ytpdcehmnegagmaa
open Go.RowKit Go.WideShapes Go.ChangeShapes
theorem posC_in {a b g d : Int} (hg : 0 ≤ g ∧ g ≤ d) (hd : 0 < d) (ha : -1000000 ≤ a ∧ a ≤ 1000000) (hb : -1000000 ≤ b ∧ b ≤ 1000000) : -1000000 ≤ posC a b g d ∧ posC a b g d ≤ 1000000 := by
  unfold posC
  rcases Int.le_total 0 (b - a) with h | h
  · have h1 := posC_bd (a := a) (b := b) (V := b - a) hg hd (by omega)
    have h2 : 0 ≤ (b - a) * g / d := Int.ediv_nonneg (Int.mul_nonneg h hg.1) (by omega)
    omega
  · have h1 := posC_bd (a := a) (b := b) (V := a - b) hg hd (by omega)
    have h2 : (b - a) * g ≤ 0 := Int.mul_nonpos_of_nonpos_of_nonneg h hg.1
    have h3 : (b - a) * g / d ≤ 0 := by
      have := Int.ediv_le_ediv hd h2
      rwa [Int.zero_ediv] at this
    omega
theorem pos_pt {xs : List Int} {n : Nat} {t : Int} (hT : isTrk xs n = true) (hl : lastsB xs n t = true) : pt (atX xs n t) (atY xs n t) := by
  obtain ⟨hk, ht1, ht2⟩ := leg_facts hT hl
  obtain ⟨⟨f1, f2, f3⟩, f4, f5, f6, f7⟩ := trk_two hT hk
  unfold atX atY
  exact ⟨posC_in (by omega) (by omega) f4 f6, posC_in (by omega) (by omega) f5 f7⟩
theorem impl_behindAt (a b c d : Int) (A : Option Addr) (n cc : Nat) (xs : List Int) (t : Int) (w : World) (hp : pt a b) (hq : pt c d) (ha : Rd w A xs) (hn : xs.length = n * 3) (hT : isTrk xs n = true) (hl : lastsB xs n t = true) :
    Calls Try.prog 46 #[.agg #[.int .i64 a, .int .i64 b, .int .i64 c, .int .i64 d], .agg #[.slice A n cc], .int .i64 t] w fun e w' => e = .returned (.bool (sgn (crossV a b c d (atX xs n t) (atY xs n t)) == 1)) ∧ Q w w' := by
  have hr := pos_pt hT hl
  have K1 := Lib.hid (fun wv (h : Rd wv A xs) => impl_positionAt A n cc xs t wv h hn hT hl)
  generalize atX xs n t = X at *
  generalize atY xs n t = Y at *
  have K2 := Lib.hid (fun wv => impl_sideOf a b c d X Y wv hp hq hr)
  generalize sgn (crossV a b c d X Y) = S at *
  clear hp hq hr hT hl hn
  obtain ⟨W, hW⟩ : ∃ W, W = (w.alloc (.cells #[.int .i64 a, .int .i64 b, .int .i64 c, .int .i64 d] 27)).alloc (.cells #[.slice A n cc] 30) := ⟨_, rfl⟩
  have B1 : Blk W w.heap.size 27 #[.int .i64 a, .int .i64 b, .int .i64 c, .int .i64 d] := by rw [hW]; exact (Blk.new _ _ _).alloc _
  have B2 : Blk W (w.heap.size + 1) 30 #[.slice A n cc] := by rw [hW]; exact (by simpa using Blk.new (w.alloc (.cells #[.int .i64 a, .int .i64 b, .int .i64 c, .int .i64 d] 27)) 30 #[.slice A n cc])
  have hRW : Rd W A xs := by rw [hW]; exact ha.q (by (repeat (first | assumption | exact Q.refl _ | refine Q.alloc ?_ _ | refine Q.drewN ?_ _ | refine Q.drew ?_)))
  have L1 := later_cells B1.cell B1.lt
  have L2 := later_cells B2.cell B2.lt
  clear B1 B2 ha
  subst hW
  go_enter Try.func46, Try.ntmps46
  go_wp2_with fail
  refine wp_region_later_lit (by kernel_rfl) (by kernel_rfl) ?_
  repeat (any_goals (first | go_big_quiet_step (((first | (go_at_call 64; exact later_call (K1.out _ (hRW.q (Later.q _)))) | (go_at_call 48; exact later_call (K2.out _))))) | quiet_step (((first | (go_at_call 64; exact later_call (K1.out _ (hRW.q (Later.q _)))) | (go_at_call 48; exact later_call (K2.out _))))) | (refine wpQuiet_step (fun K hK => ?_); go_simp; split <;> (refine hK _ ?_; clear hK K))))
  all_goals (refine wpQuiet_nil ?_; rintro _ ⟨⟨w2, q2⟩, rfl⟩; try dsimp only)
  all_goals go_wp2_with fail
  go_ret
  exact ⟨rfl, Q.trans (by (repeat (first | assumption | exact Q.refl _ | refine Q.alloc ?_ _ | refine Q.drewN ?_ _ | refine Q.drew ?_))) q2⟩
def sideV (a b c d : Int) (xs : List Int) (n : Nat) (t : Int) : Int := if lastsB xs n t = true then sgn (crossV a b c d (atX xs n t) (atY xs n t)) else 0
theorem impl_isEarly (a b c d : Int) (A : Option Addr) (n cc : Nat) (xs : List Int) (t : Int) (w : World) (hp : pt a b) (hq : pt c d) (ha : Rd w A xs) (hn : xs.length = n * 3) (hT : isTrk xs n = true) :
    Calls Try.prog 26 #[.agg #[.int .i64 a, .int .i64 b, .int .i64 c, .int .i64 d], .agg #[.slice A n cc], .int .i64 t] w fun e w' => e = .returned (.bool (sideV a b c d xs n t == 1)) ∧ Q w w' := by
  have K1 := (fun wv (h : Rd wv A xs) => impl_lasts A n cc xs t wv h hn hT)
  cases hl : lastsB xs n t
  · rw [hl] at K1
    have K1 := Lib.hid K1
    have HS := Lib.hid (show (sideV a b c d xs n t == 1) = false by simp [sideV, hl])
    clear hl
    go_enter Try.func26, Try.ntmps26
    go_wp2_with (go_at_call 45; refine (K1.out _ (ha.q (by (repeat (first | assumption | exact Q.refl _ | refine Q.alloc ?_ _ | refine Q.drewN ?_ _ | refine Q.drew ?_))))).mono ?_; rintro e w1 ⟨rfl, q1⟩)
    go_ret
    exact ⟨ret_bool (by rw [HS.out]), Q.trans (by (repeat (first | assumption | exact Q.refl _ | refine Q.alloc ?_ _ | refine Q.drewN ?_ _ | refine Q.drew ?_))) q1⟩
  · rw [hl] at K1
    have K1 := Lib.hid K1
    have K2 := Lib.hid (fun wv (h : Rd wv A xs) => impl_behindAt a b c d A n cc xs t wv hp hq h hn hT hl)
    rw [show sideV a b c d xs n t = sgn (crossV a b c d (atX xs n t) (atY xs n t)) by simp [sideV, hl]]
    generalize (sgn (crossV a b c d (atX xs n t) (atY xs n t)) == 1) = S at *
    clear hl hp hq hn hT
    go_enter Try.func26, Try.ntmps26
    go_wp2_with (first | (have q0 := q1; go_at_call 46; refine (K2.out _ (ha.q (Q.trans (by (repeat (first | assumption | exact Q.refl _ | refine Q.alloc ?_ _ | refine Q.drewN ?_ _ | refine Q.drew ?_))) q0))).mono ?_; rintro e w2 ⟨rfl, q2⟩; have Q2 := q0.trans q2) | (go_at_call 45; refine (K1.out _ (ha.q (by (repeat (first | assumption | exact Q.refl _ | refine Q.alloc ?_ _ | refine Q.drewN ?_ _ | refine Q.drew ?_))))).mono ?_; rintro e w1 ⟨rfl, q1⟩; have bx := q1.box2; have bx1 : ∀ i, w1.cell? ⟨w.heap.size + 1, i, none⟩ = #[Value.slice A n cc][i]? := (by simpa using q1.box)))
    go_ret
    exact ⟨ret_bool (by simp), Q.trans (by (repeat (first | assumption | exact Q.refl _ | refine Q.alloc ?_ _ | refine Q.drewN ?_ _ | refine Q.drew ?_))) Q2⟩
theorem spec_l14Side (a b c d : Int) (A : Option Addr) (n cc : Nat) (xs : List Int) (t : Int) (w : World) (hp : pt a b) (hq : pt c d) (ha : Rd w A xs) (hn : xs.length = n * 3) (hT : isTrk xs n = true) :
    Calls Try.prog 43 #[.agg #[.int .i64 a, .int .i64 b, .int .i64 c, .int .i64 d], .agg #[.slice A n cc], .int .i64 t] w fun e w' => e = .returned (.int .i64 (sideV a b c d xs n t)) ∧ Q w w' := by
  have K1 := (fun wv (h : Rd wv A xs) => spec_l03Lasts A n cc xs t wv h hn hT)
  cases hl : lastsB xs n t
  · rw [hl] at K1
    have K1 := Lib.hid K1
    have HS := Lib.hid (show sideV a b c d xs n t = 0 by simp [sideV, hl])
    clear hl
    go_enter Try.func43, Try.ntmps43
    go_wp2_with (go_at_call 61; refine (K1.out _ (ha.q (by (repeat (first | assumption | exact Q.refl _ | refine Q.alloc ?_ _ | refine Q.drewN ?_ _ | refine Q.drew ?_))))).mono ?_; rintro e w1 ⟨rfl, q1⟩)
    go_ret
    exact ⟨ret_int (by rw [HS.out]), Q.trans (by (repeat (first | assumption | exact Q.refl _ | refine Q.alloc ?_ _ | refine Q.drewN ?_ _ | refine Q.drew ?_))) q1⟩
  · rw [hl] at K1
    have K1 := Lib.hid K1
    have hr := pos_pt hT hl
    rw [show sideV a b c d xs n t = sgn (crossV a b c d (atX xs n t) (atY xs n t)) by simp [sideV, hl]]
    have K3 := Lib.hid (fun wv (h : Rd wv A xs) => spec_l03At A n cc xs t wv h hn hT hl)
    generalize atX xs n t = X at *
    generalize atY xs n t = Y at *
    have K2 := Lib.hid (fun wv => spec_l04Before a b c d X Y wv hp hq hr)
    generalize sgn (crossV a b c d X Y) = S at *
    clear hp hq hr hT hl hn
    go_enter Try.func43, Try.ntmps43
    go_wp2_with (go_at_call 61; refine (K1.out _ (ha.q (by (repeat (first | assumption | exact Q.refl _ | refine Q.alloc ?_ _ | refine Q.drewN ?_ _ | refine Q.drew ?_))))).mono ?_; rintro e w1 ⟨rfl, q1⟩; have L1 := later_cells q1.boxB2.cell q1.boxB2.lt; have B2 : Blk w1 (w.heap.size + 1) 30 #[.slice A n cc] := (by simpa using q1.boxB); have L2 := later_cells B2.cell B2.lt; have hRW : Rd w1 A xs := ha.q (Q.trans (by (repeat (first | assumption | exact Q.refl _ | refine Q.alloc ?_ _ | refine Q.drewN ?_ _ | refine Q.drew ?_))) q1))
    refine wp_region_later_lit (by kernel_rfl) (by kernel_rfl) ?_
    repeat (any_goals (first | go_big_quiet_step (((first | (go_at_call 63; exact later_call (K3.out _ (hRW.q (Later.q _)))) | (go_at_call 62; exact later_call (K2.out _))))) | quiet_step (((first | (go_at_call 63; exact later_call (K3.out _ (hRW.q (Later.q _)))) | (go_at_call 62; exact later_call (K2.out _))))) | (refine wpQuiet_step (fun K hK => ?_); go_simp; split <;> (refine hK _ ?_; clear hK K))))
    all_goals (refine wpQuiet_nil ?_; rintro _ ⟨⟨w2, q2⟩, rfl⟩; try dsimp only)
    all_goals go_wp2_with fail
    go_ret
    exact ⟨rfl, Q.trans (Q.trans (by (repeat (first | assumption | exact Q.refl _ | refine Q.alloc ?_ _ | refine Q.drewN ?_ _ | refine Q.drew ?_))) q1) q2⟩
end Go.Proofs.Ytpdcehmnegagmaa
namespace Go.Proofs.Ytpdcehmnegagmaa
open Go.RowKit Go.WideShapes Go.ChangeShapes
def stC (a b c d : Int) (xs : List Int) (n : Nat) (t : Int) : Int := if lnB a b c d = true ∧ isTrk xs n = true then (if 0 ≤ t ∧ t ≤ 1000000000 then 0 else 2) else 1
set_option maxHeartbeats 1000000 in
theorem spec_l14Code (a b c d : Int) (A : Option Addr) (n cc : Nat) (xs : List Int) (t : Int) (w : World) (ha : Rd w A xs) (hn : xs.length = n * 3) (hn2 : n ≤ 9223372036854775807) :
    Calls Try.prog 23 #[.agg #[.int .i64 a, .int .i64 b, .int .i64 c, .int .i64 d], .agg #[.slice A n cc], .int .i64 t] w fun e w' => e = .returned (.int .i64 (stC a b c d xs n t)) ∧ Q w w' := by
  have K1 := (fun wv => spec_IsLine a b c d wv)
  have K2 := (fun wv (h : Rd wv A xs) => spec_IsTrack A n cc xs wv h hn hn2)
  cases h1 : lnB a b c d
  · rw [h1] at K1
    have K1 := Lib.hid K1
    have HS := Lib.hid (show stC a b c d xs n t = 1 by simp [stC, h1])
    clear h1 K2
    go_enter Try.func23, Try.ntmps23
    go_wp2_with (go_at_call 39; refine (K1.out _).mono ?_; rintro e w1 ⟨rfl, q1⟩)
    go_ret
    exact ⟨ret_int HS.out.symm, Q.trans (by (repeat (first | assumption | exact Q.refl _ | refine Q.alloc ?_ _ | refine Q.drewN ?_ _ | refine Q.drew ?_))) q1⟩
  · rw [h1] at K1
    have K1 := Lib.hid K1
    cases h2 : isTrk xs n
    · rw [h2] at K2
      have K2 := Lib.hid K2
      have HS := Lib.hid (show stC a b c d xs n t = 1 by simp [stC, h2])
      clear h1 h2
      go_enter Try.func23, Try.ntmps23
      go_wp2_with (first | (have q0 := q1; go_at_call 40; refine (K2.out _ (ha.q (Q.trans (by (repeat (first | assumption | exact Q.refl _ | refine Q.alloc ?_ _ | refine Q.drewN ?_ _ | refine Q.drew ?_))) q0))).mono ?_; rintro e w2 ⟨rfl, q2⟩; have Q2 := q0.trans q2) | (go_at_call 39; refine (K1.out _).mono ?_; rintro e w1 ⟨rfl, q1⟩; have bx1 : ∀ i, w1.cell? ⟨w.heap.size + 1, i, none⟩ = #[Value.slice A n cc][i]? := (by simpa using q1.box)))
      go_ret
      exact ⟨ret_int HS.out.symm, Q.trans (by (repeat (first | assumption | exact Q.refl _ | refine Q.alloc ?_ _ | refine Q.drewN ?_ _ | refine Q.drew ?_))) Q2⟩
    · rw [h2] at K2
      have K2 := Lib.hid K2
      have KI := Lib.hid (fun wv => spec_inR t 0 1000000000 wv)
      have HS := Lib.hid (show stC a b c d xs n t = if inR t 0 1000000000 = true then 0 else 2 by simp [stC, h1, h2, inR])
      clear h1 h2
      cases hI : inR t 0 1000000000
      all_goals rw [hI] at HS KI
      all_goals clear hI
      all_goals go_enter Try.func23, Try.ntmps23
      all_goals go_wp2_with (first | (have q0 := q1; go_at_call 40; refine (K2.out _ (ha.q (Q.trans (by (repeat (first | assumption | exact Q.refl _ | refine Q.alloc ?_ _ | refine Q.drewN ?_ _ | refine Q.drew ?_))) q0))).mono ?_; rintro e w2 ⟨rfl, q2⟩; have Q2 := q0.trans q2) | (go_at_call 41; refine (KI.out _).mono ?_; rintro e w' ⟨rfl, rfl⟩) | (go_at_call 39; refine (K1.out _).mono ?_; rintro e w1 ⟨rfl, q1⟩; have bx1 : ∀ i, w1.cell? ⟨w.heap.size + 1, i, none⟩ = #[Value.slice A n cc][i]? := (by simpa using q1.box)))
      all_goals go_ret
      · exact ⟨ret_int (by rw [HS.out]; simp), Q.trans (by (repeat (first | assumption | exact Q.refl _ | refine Q.alloc ?_ _ | refine Q.drewN ?_ _ | refine Q.drew ?_))) Q2⟩
      · exact ⟨ret_int (by rw [HS.out]; simp), Q.trans (by (repeat (first | assumption | exact Q.refl _ | refine Q.alloc ?_ _ | refine Q.drewN ?_ _ | refine Q.drew ?_))) Q2⟩
end Go.Proofs.Ytpdcehmnegagmaa
namespace Go.Proofs.Ytpdcehmnegagmaa
open Go.RowKit Go.WideShapes Go.ChangeShapes
def earB (a b c d : Int) (xs : List Int) (n : Nat) (t : Int) : Bool := decide (stC a b c d xs n t = 0) && (sideV a b c d xs n t == 1)
theorem stC_0 {a b c d : Int} {xs : List Int} {n : Nat} {t : Int} (h : stC a b c d xs n t = 0) : lnB a b c d = true ∧ isTrk xs n = true := by
  unfold stC at h
  split at h
  · assumption
  · cases h
end Go.Proofs.Ytpdcehmnegagmaa
namespace Go.Proofs.Ytpdcehmnegagmaa
open Go.RowKit Go.WideShapes Go.ChangeShapes
/-- A track as it lies in memory: its slice, and the numbers of its fixes. -/
structure Tk where
  A : Option Addr
  n : Nat
  c : Nat
  xs : List Int
def Tk.ok (w : World) (T : Tk) : Prop := Rd w T.A T.xs ∧ T.xs.length = T.n * 3 ∧ T.n ≤ 9223372036854775807
def Tk.trk (T : Tk) : Bool := isTrk T.xs T.n
def RdT (w : World) (A : Option Addr) (ts : List Tk) : Prop := ∃ b o, (0 < ts.length → A = some ⟨b, o, none⟩) ∧ ∀ j (h : j < ts.length), w.cell? ⟨b, o + j, none⟩ = some (.slice ts[j].A ts[j].n ts[j].c) ∧ ts[j].ok w
theorem RdT.q {w w' : World} {A : Option Addr} {ts : List Tk} (h : RdT w A ts) (hq : Q w w') : RdT w' A ts := by
  obtain ⟨b, o, hA, hc⟩ := h
  exact ⟨b, o, hA, fun j hj => ⟨hq.cell (hc j hj).1, (hc j hj).2.1.q hq, (hc j hj).2.2⟩⟩
theorem RdT.at_ {w : World} {A : Option Addr} {ts : List Tk} {m k : Nat} (h : RdT w A ts) (hm : ts.length = m) (hk : k < m) : ∃ b o T, A = some ⟨b, o, none⟩ ∧ ts[k]? = some T ∧ w.cell? ⟨b, o + k, none⟩ = some (.slice T.A T.n T.c) ∧ T.ok w := by
  subst hm
  obtain ⟨b, o, hA, hc⟩ := h
  exact ⟨b, o, ts[k], hA (by omega), List.getElem?_eq_getElem hk, (hc k hk).1, (hc k hk).2⟩
theorem all_take {ts : List Tk} {k : Nat} {T : Tk} (h : ts[k]? = some T) : (ts.take (k + 1)).all Tk.trk = ((ts.take k).all Tk.trk && T.trk) := by
  rw [List.take_add_one, h, List.all_append]
  simp
theorem all_no {ts : List Tk} {k : Nat} {T : Tk} (h : ts[k]? = some T) (hT : T.trk = false) : ts.all Tk.trk = false := by
  rw [List.all_eq_false]
  exact ⟨T, List.mem_of_getElem? h, by simp [hT]⟩
set_option maxHeartbeats 1000000 in
theorem impl_areTracks (A : Option Addr) (m c : Nat) (ts : List Tk) (w : World) (ha : RdT w A ts) (hm : ts.length = m) (hm2 : m ≤ 9223372036854775807) :
    Calls Try.prog 36 #[.slice A m c] w fun e w' => e = .returned (.bool (ts.all Tk.trk)) ∧ Q w w' := by
  have HM := Lib.hid hm
  go_enter Try.func36, Try.ntmps36
  go_wp2_with fail
  go_loopw [7] (fun i wr => ∃ k : Nat, k ≤ m ∧ i = .int .i64 k ∧ Hid ((ts.take k).all Tk.trk = true) ∧ Q w wr) (fun i _ => m - (intOf i).toNat)
  case atStart => exact ⟨0, Nat.zero_le _, rfl, Lib.hid rfl, Q.refl _⟩
  case round =>
    obtain ⟨k, hk, rfl, HT, hq⟩ := hrel
    by_cases hlt : k < m
    · have hltI : (k : Int) < (m : Int) := by omega
      obtain ⟨b, o, T, rfl, hT, g0, hok⟩ := (ha.q hq).at_ HM.out hlt
      have K1 := (fun wv (h : Rd wv T.A T.xs) => impl_IsTrack T.A T.n T.c T.xs wv h hok.2.1 hok.2.2)
      have hR := hok.1
      obtain ⟨B, hB⟩ : ∃ B, B = T.trk := ⟨_, rfl⟩
      rw [show isTrk T.xs T.n = B from hB.symm] at K1
      have K1 := Lib.hid K1
      have HB := Lib.hid hB
      have HX := Lib.hid hT
      clear hB hT hok hm
      cases B
      · go_wp2_with (go_at_call 50; refine (K1.out _ (hR.q (by (repeat (first | assumption | exact Q.refl _ | refine Q.alloc ?_ _ | refine Q.drewN ?_ _ | refine Q.drew ?_))))).mono ?_; rintro e w1 ⟨rfl, q1⟩)
        go_ret
        exact ⟨ret_bool (by rw [all_no HX.out HB.out.symm]), hq.trans (Q.trans (by (repeat (first | assumption | exact Q.refl _ | refine Q.alloc ?_ _ | refine Q.drewN ?_ _ | refine Q.drew ?_))) q1)⟩
      · go_wp2_with (go_at_call 50; refine (K1.out _ (hR.q (by (repeat (first | assumption | exact Q.refl _ | refine Q.alloc ?_ _ | refine Q.drewN ?_ _ | refine Q.drew ?_))))).mono ?_; rintro e w1 ⟨rfl, q1⟩)
        go_roundw
        case rel => exact ⟨k + 1, by omega, by go_num, Lib.hid (by rw [all_take HX.out, HT.out, ← HB.out]; rfl), hq.trans (Q.trans (by (repeat (first | assumption | exact Q.refl _ | refine Q.alloc ?_ _ | refine Q.drewN ?_ _ | refine Q.drew ?_))) q1)⟩
        case measure => simp [intOf]; omega
    · obtain rfl : k = m := by omega
      go_wp2_with fail
      go_ret
      exact ⟨ret_bool (by have := HT.out; rw [List.take_of_length_le (by rw [HM.out]; omega)] at this; exact this.symm), hq⟩
end Go.Proofs.Ytpdcehmnegagmaa
namespace Go.Proofs.Ytpdcehmnegagmaa
open Go.RowKit Go.WideShapes Go.ChangeShapes
theorem impl_isFlag (n : Int) (w : World) : Calls Try.prog 38 #[.int .i64 n] w fun e w' => e = .returned (.bool (inR n 0 3)) ∧ w = w' := by
  have K := Lib.hid (fun wv => impl_inR n 0 3 wv)
  generalize inR n 0 3 = B at *
  go_enter Try.func38, Try.ntmps38
  go_wp2_with (go_at_call 47; refine (K.out _).mono ?_; rintro e w' ⟨rfl, rfl⟩)
  go_ret
  exact ⟨rfl, rfl⟩
def scC (a b c d : Int) (ts : List Tk) (t fl : Int) : Int := if lnB a b c d = true ∧ ts.all Tk.trk = true then (if inR t 0 1000000000 = true ∧ inR fl 0 3 = true then 0 else 2) else 1
set_option maxHeartbeats 2000000 in
theorem impl_startCode (a b c d : Int) (A : Option Addr) (m cc : Nat) (ts : List Tk) (t fl : Int) (w : World) (ha : RdT w A ts) (hm : ts.length = m) (hm2 : m ≤ 9223372036854775807) :
    Calls Try.prog 21 #[.agg #[.int .i64 a, .int .i64 b, .int .i64 c, .int .i64 d], .slice A m cc, .int .i64 t, .int .i64 fl] w fun e w' => e = .returned (.int .i64 (scC a b c d ts t fl)) ∧ Q w w' := by
  have K1 := (fun wv => impl_IsLine a b c d wv)
  have K2 := (fun wv (h : RdT wv A ts) => impl_areTracks A m cc ts wv h hm hm2)
  have K3 := (fun wv => (show Calls Try.prog 37 #[.int .i64 t] wv fun e w' => e = .returned (.bool (inR t 0 1000000000)) ∧ wv = w' from impl_isTime t wv))
  have K4 := (fun wv => impl_isFlag fl wv)
  have HS := Lib.hid (show scC a b c d ts t fl = if lnB a b c d = true ∧ ts.all Tk.trk = true then (if inR t 0 1000000000 = true ∧ inR fl 0 3 = true then 0 else 2) else 1 from rfl)
  generalize scC a b c d ts t fl = C at *
  generalize lnB a b c d = p1 at *
  generalize ts.all Tk.trk = p2 at *
  generalize inR t 0 1000000000 = p3 at *
  generalize inR fl 0 3 = p4 at *
  cases p1 <;> cases p2 <;> cases p3 <;> cases p4
  all_goals (have K1 := Lib.hid K1; have K2 := Lib.hid K2; have K3 := Lib.hid K3; have K4 := Lib.hid K4)
  all_goals go_enter Try.func21, Try.ntmps21
  all_goals go_wp2_with (first | (have q0 := q1; go_at_call 36; refine (K2.out _ (ha.q (Q.trans (by (repeat (first | assumption | exact Q.refl _ | refine Q.alloc ?_ _ | refine Q.drewN ?_ _ | refine Q.drew ?_))) q0))).mono ?_; rintro e w2 ⟨rfl, q2⟩) | (go_at_call 37; refine (K3.out _).mono ?_; rintro e w' ⟨rfl, rfl⟩) | (go_at_call 38; refine (K4.out _).mono ?_; rintro e w' ⟨rfl, rfl⟩) | (go_at_call 35; refine (K1.out _).mono ?_; rintro e w1 ⟨rfl, q1⟩))
  all_goals go_ret
  all_goals first
    | exact ⟨ret_int (by rw [HS.out]; simp), Q.trans (Q.trans (by (repeat (first | assumption | exact Q.refl _ | refine Q.alloc ?_ _ | refine Q.drewN ?_ _ | refine Q.drew ?_))) q1) q2⟩
    | exact ⟨ret_int (by rw [HS.out]; simp), Q.trans (by (repeat (first | assumption | exact Q.refl _ | refine Q.alloc ?_ _ | refine Q.drewN ?_ _ | refine Q.drew ?_))) q1⟩
end Go.Proofs.Ytpdcehmnegagmaa
namespace Go.Proofs.Ytpdcehmnegagmaa
open Go.RowKit Go.WideShapes Go.ChangeShapes
theorem scC_one (a b c d : Int) (A : Option Addr) (n cc : Nat) (xs : List Int) (t : Int) : scC a b c d [⟨A, n, cc, xs⟩] t 0 = stC a b c d xs n t := by
  simp [scC, stC, inR, Tk.trk]
theorem rdT_one {w : World} {A : Option Addr} {n cc : Nat} {xs : List Int} (T : TypeId) (ha : Rd w A xs) (hn : xs.length = n * 3) (hn2 : n ≤ 9223372036854775807) : RdT (w.alloc (.cells #[.slice A n cc] T)) (some ⟨w.heap.size, 0, none⟩) [⟨A, n, cc, xs⟩] := by
  refine ⟨_, _, fun _ => rfl, fun j hj => ?_⟩
  obtain rfl : j = 0 := by simp at hj; omega
  exact ⟨(Blk.new w T #[.slice A n cc]).cell 0, ha.q ((Q.refl w).alloc _), hn, hn2⟩
set_option maxHeartbeats 1000000 in
theorem impl_IsEarly (a b c d : Int) (A : Option Addr) (n cc : Nat) (xs : List Int) (t : Int) (w : World) (ha : Rd w A xs) (hn : xs.length = n * 3) (hn2 : n ≤ 9223372036854775807) :
    Calls Try.prog 9 #[.agg #[.int .i64 a, .int .i64 b, .int .i64 c, .int .i64 d], .agg #[.slice A n cc], .int .i64 t] w fun e w' => e = .returned (.tuple #[.bool (earB a b c d xs n t), .int .i64 (stC a b c d xs n t)]) ∧ Q w w' := by
  have K1 : ∀ (wv : World) (H : Nat), wv.heap.size = H → Rd wv A xs → Calls Try.prog 21 #[.agg #[.int .i64 a, .int .i64 b, .int .i64 c, .int .i64 d], .slice (some ⟨H, 0, none⟩) 1 1, .int .i64 t, .int .i64 0] (wv.alloc (.cells #[.slice A n cc] 30)) fun e w' => e = .returned (.int .i64 (stC a b c d xs n t)) ∧ Q (wv.alloc (.cells #[.slice A n cc] 30)) w' := fun wv H hH h => by
    subst hH
    have := impl_startCode a b c d _ 1 1 [⟨A, n, cc, xs⟩] t 0 _ (rdT_one 30 (cc := cc) h hn hn2) rfl (by decide)
    rwa [scC_one] at this
  by_cases h0 : stC a b c d xs n t = 0
  · obtain ⟨h1, h2⟩ := stC_0 h0
    obtain ⟨hp, hq⟩ := lnB_pts h1
    have K2 := Lib.hid (fun wv (h : Rd wv A xs) => impl_isEarly a b c d A n cc xs t wv hp hq h hn h2)
    have HE := Lib.hid (show earB a b c d xs n t = (sideV a b c d xs n t == 1) by simp [earB, h0])
    rw [h0] at K1 ⊢
    have K1 := Lib.hid K1
    clear h0 h1 h2 hp hq
    generalize (sideV a b c d xs n t == 1) = S at *
    go_enter Try.func9, Try.ntmps9
    go_wp2_with (first | (have q0 := q1; go_at_call 26; refine (K2.out _ (ha.q (Q.trans (by (repeat (first | assumption | exact Q.refl _ | refine Q.alloc ?_ _ | refine Q.drewN ?_ _ | refine Q.drew ?_))) q0))).mono ?_; rintro e w2 ⟨rfl, q2⟩; have Q2 := q0.trans q2) | (go_at_call 21; refine (K1.out _ _ (by simp) (ha.q (by (repeat (first | assumption | exact Q.refl _ | refine Q.alloc ?_ _ | refine Q.drewN ?_ _ | refine Q.drew ?_))))).mono ?_; rintro e w1 ⟨rfl, q1⟩; have bx := q1.box3; have bx1 : ∀ i, w1.cell? ⟨w.heap.size + 1, i, none⟩ = #[Value.slice A n cc][i]? := (by simpa using q1.box2)))
    go_ret2
    exact ⟨ret_bi HE.out.symm rfl, Q.trans (by (repeat (first | assumption | exact Q.refl _ | refine Q.alloc ?_ _ | refine Q.drewN ?_ _ | refine Q.drew ?_))) Q2⟩
  · have HE := Lib.hid (show earB a b c d xs n t = false by simp [earB, h0])
    generalize stC a b c d xs n t = C at *
    have hC : (C == 0) = false := by simpa using h0
    have K1 := Lib.hid K1
    go_enter Try.func9, Try.ntmps9
    go_wp2_with (go_at_call 21; refine (K1.out _ _ (by simp) (ha.q (by (repeat (first | assumption | exact Q.refl _ | refine Q.alloc ?_ _ | refine Q.drewN ?_ _ | refine Q.drew ?_))))).mono ?_; rintro e w1 ⟨rfl, q1⟩)
    go_ret2
    exact ⟨ret_bi HE.out.symm rfl, Q.trans (by (repeat (first | assumption | exact Q.refl _ | refine Q.alloc ?_ _ | refine Q.drewN ?_ _ | refine Q.drew ?_))) q1⟩
end Go.Proofs.Ytpdcehmnegagmaa
