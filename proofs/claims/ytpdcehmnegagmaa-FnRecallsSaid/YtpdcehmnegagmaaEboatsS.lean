/- Walks: the boats that are early, as the program and the reference list them, for all arguments. No condition. Walks: the boats that are early, as the reference lists them; and the recall, for all arguments. No condition. -/
import Derived.Test.YtpdcehmnegagmaaTdsT
import Derived.Test.YtpdcehmnegagmaaEarly
namespace Go.Proofs.Ytpdcehmnegagmaa
open Go.RowKit Go.WideShapes Go.ChangeShapes
def allB (D : List (Nat × List Int)) : Bool := D.all fun d => isTrk d.2 d.1
theorem all_dat (ts : List Tk) : ts.all Tk.trk = allB (ts.map Tk.dat) := by
  unfold allB
  rw [List.all_map]
  rfl
theorem allB_at {D : List (Nat × List Int)} {k : Nat} (h : allB D = true) (hk : k < D.length) : isTrk (dx D k) (dn D k) = true := by
  unfold allB at h
  rw [List.all_eq_true] at h
  have := h D[k] (List.getElem_mem hk)
  simpa [dx, dn, List.getD_eq_getElem?_getD, List.getElem?_eq_getElem hk] using this
def scD (a b c d : Int) (D : List (Nat × List Int)) (t : Int) : Int := if lnB a b c d = true ∧ allB D = true then (if inR t 0 1000000000 = true then 0 else 2) else 1
theorem impl_startD (a b c d : Int) (A : Option Addr) (m cc : Nat) (D : List (Nat × List Int)) (t : Int) (w : World) (ha : RdD w A D) (hm : D.length = m) (hm2 : m ≤ 9223372036854775807) :
    Calls Try.prog 21 #[.agg #[.int .i64 a, .int .i64 b, .int .i64 c, .int .i64 d], .slice A m cc, .int .i64 t, .int .i64 0] w fun e w' => e = .returned (.int .i64 (scD a b c d D t)) ∧ Q w w' := by
  obtain ⟨ts, h1, rfl⟩ := ha
  have := impl_startCode a b c d A m cc ts t 0 w h1 (by simpa using hm) hm2
  rwa [show scC a b c d ts t 0 = scD a b c d (ts.map Tk.dat) t by unfold scC scD; rw [all_dat]; simp [inR]] at this
def allC (a b c d : Int) (D : List (Nat × List Int)) (t : Int) : Int := if 16 < D.length then 3 else scD a b c d D t
def erB (a b c d t : Int) (D : List (Nat × List Int)) (k : Nat) : Bool := sideV a b c d (dx D k) (dn D k) t == 1
def erTo (a b c d t : Int) (D : List (Nat × List Int)) (k : Nat) : List Int := ((List.range k).filter (erB a b c d t D)).map Int.ofNat
theorem erTo_yes {a b c d t : Int} {D : List (Nat × List Int)} {k : Nat} (h : erB a b c d t D k = true) : erTo a b c d t D (k + 1) = erTo a b c d t D k ++ [(k : Int)] := by simp [erTo, List.range_succ, h]
theorem erTo_no {a b c d t : Int} {D : List (Nat × List Int)} {k : Nat} (h : erB a b c d t D k = false) : erTo a b c d t D (k + 1) = erTo a b c d t D k := by simp [erTo, List.range_succ, h]
theorem erTo_len (a b c d t : Int) (D : List (Nat × List Int)) (k : Nat) : (erTo a b c d t D k).length ≤ k := by
  unfold erTo
  rw [List.length_map]
  exact Nat.le_trans (List.length_filter_le _ _) (by simp)
def ebL (a b c d : Int) (D : List (Nat × List Int)) (t : Int) : List Int := if allC a b c d D t = 0 then erTo a b c d t D D.length else []
theorem allC_0 {a b c d : Int} {D : List (Nat × List Int)} {t : Int} (h : allC a b c d D t = 0) : D.length ≤ 16 ∧ scD a b c d D t = 0 ∧ lnB a b c d = true ∧ allB D = true ∧ inR t 0 1000000000 = true := by
  unfold allC at h
  split at h
  · cases h
  · refine ⟨by omega, h, ?_⟩
    unfold scD at h
    split at h
    · rename_i h1
      split at h
      · rename_i h2; exact ⟨h1.1, h1.2, h2⟩
      · cases h
    · cases h
theorem ebL_len (a b c d : Int) (D : List (Nat × List Int)) (t : Int) : (ebL a b c d D t).length ≤ 16 := by
  unfold ebL
  split
  · rename_i h
    have h1 := (allC_0 h).1
    have h2 := erTo_len a b c d t D D.length
    omega
  · simp
theorem ebL_no {a b c d : Int} {D : List (Nat × List Int)} {t : Int} (h : allC a b c d D t ≠ 0) : ebL a b c d D t = [] := by simp [ebL, h]
set_option maxHeartbeats 2000000 in
theorem impl_EarlyBoats (a b c d : Int) (A : Option Addr) (n cc : Nat) (D : List (Nat × List Int)) (t : Int) (w : World) (ha : RdD w A D) (hD : D.length = n) (hn2 : n ≤ 9223372036854775807) :
    Calls Try.prog 15 #[.agg #[.int .i64 a, .int .i64 b, .int .i64 c, .int .i64 d], .slice A n cc, .int .i64 t] w (RS w 2 1 (ebL a b c d D t).length (ebL a b c d D t) (allC a b c d D t)) := by
  by_cases h16 : n ≤ 16
  · have k0 := (fun wv (h : RdD wv A D) => impl_startD a b c d A n cc D t wv h hD hn2)
    rw [show scD a b c d D t = allC a b c d D t by unfold allC; rw [if_neg (by omega)]] at k0
    by_cases hC : allC a b c d D t = 0
    · obtain ⟨_, _, hl, hb, _⟩ := allC_0 hC
      obtain ⟨hp, hq⟩ := lnB_pts hl
      rw [show ebL a b c d D t = erTo a b c d t D n by unfold ebL; rw [if_pos hC, hD]]
      have kL := fun k (hk : k < n) wv (B : Option Addr) (c1 : Nat) (h : Rd wv B (dx D k)) (hx : (dx D k).length = dn D k * 3) => (show Calls Try.prog 26 #[.agg #[.int .i64 a, .int .i64 b, .int .i64 c, .int .i64 d], .agg #[.slice B (dn D k) c1], .int .i64 t] wv fun e w' => e = .returned (.bool (erB a b c d t D k)) ∧ Q wv w' from impl_isEarly a b c d B (dn D k) c1 (dx D k) t wv hp hq h hx (allB_at hb (by omega)))
      rw [hC] at k0 ⊢
      have K0 := Lib.hid k0
      have KL := Lib.hid kL
      have HD := Lib.hid hD
      clear k0 kL hC hl hb hp hq hD
      go_enter Try.func15, Try.ntmps15
      go_wp2_with (go_at_call 21; refine (K0.out _ (ha.q (by (repeat (first | assumption | exact Q.refl _ | refine Q.alloc ?_ _ | refine Q.drewN ?_ _ | refine Q.drew ?_))))).mono ?_; rintro e w1 ⟨rfl, q1⟩; have Q1 : Q w w1 := Q.trans (by (repeat (first | assumption | exact Q.refl _ | refine Q.alloc ?_ _ | refine Q.drewN ?_ _ | refine Q.drew ?_))) q1; have B1 := (Blk.new _ _ _).q q1; have c1 := q1.box)
      go_loopw [9, 25] (fun v i wr => ∃ k : Nat, k ≤ n ∧ i = .int .i64 k ∧ OwnL wr w1.heap.size 2 1 v (erTo a b c d t D k) ∧ Q w1 wr) (fun _ i _ => n - (intOf i).toNat)
      case atStart => exact ⟨0, by omega, rfl, OwnL.new w1 _ _ (Nat.le_refl _), by (repeat (first | assumption | exact Q.refl _ | refine Q.alloc ?_ _ | refine Q.drewN ?_ _ | refine Q.drew ?_))⟩
      case round =>
        obtain ⟨k, hk, rfl, ⟨A1, m, d1, rfl, hown⟩, hq⟩ := hrel
        have hlen : m ≤ k := by have := hown.len; have := erTo_len a b c d t D k; omega
        have hqw : Q w wr := Q1.trans hq
        by_cases hlt : k < n
        · have hltI : (k : Int) < (n : Int) := by omega
          obtain ⟨bl, o, B, cb, rfl, g0, hr, hx, _⟩ := (ha.q hqw).at_ HD.out hlt
          have KK := Lib.hid (fun wv (h : Rd wv B (dx D k)) => KL.out k hlt wv B cb h hx)
          obtain ⟨E, hE⟩ : ∃ E, E = erB a b c d t D k := ⟨_, rfl⟩
          rw [← hE] at KK
          have HE := Lib.hid hE
          obtain ⟨mm, hme⟩ : ∃ mm, mm = dn D k := ⟨_, rfl⟩
          rw [← hme] at g0 KK
          obtain ⟨ys, hye⟩ : ∃ ys, ys = dx D k := ⟨_, rfl⟩
          rw [← hye] at hr KK
          have c2 := ((B1.q hq).alloc (.cells #[.slice B mm cb] 30)).cell
          have c3 := (Blk.new wr 30 #[.slice B mm cb]).cell
          clear hE hme hye hx
          cases E
          · go_wp2_with (go_at_call 26; refine (KK.out _ (hr.q (by (repeat (first | assumption | exact Q.refl _ | refine Q.alloc ?_ _ | refine Q.drewN ?_ _ | refine Q.drew ?_))))).mono ?_; rintro e w2 ⟨rfl, q2⟩; have Q2 : Q wr w2 := Q.trans (by (repeat (first | assumption | exact Q.refl _ | refine Q.alloc ?_ _ | refine Q.drewN ?_ _ | refine Q.drew ?_))) q2)
            go_roundw
            case rel => exact ⟨k + 1, by omega, by go_num, by rw [erTo_no HE.out.symm]; exact ⟨_, _, _, rfl, hown.q Q2⟩, hq.trans Q2⟩
            case measure => simp [intOf]; omega
          · go_wp2_with (first | (go_at_call 26; refine (KK.out _ (hr.q (by (repeat (first | assumption | exact Q.refl _ | refine Q.alloc ?_ _ | refine Q.drewN ?_ _ | refine Q.drew ?_))))).mono ?_; rintro e w2 ⟨rfl, q2⟩; have Q2 : Q wr w2 := Q.trans (by (repeat (first | assumption | exact Q.refl _ | refine Q.alloc ?_ _ | refine Q.drewN ?_ _ | refine Q.drew ?_))) q2; have hown2 := hown.q Q2) | (at_builtin; refine appK elInt64 rfl _ _ rfl [(k : Int)] rfl hown2 rfl (by simp) rfl _ _ rfl (by omega) (hq.trans Q2).size ?_; intro A' c' w' hown' hg' hgr'))
            go_roundw
            case rel => exact ⟨k + 1, by omega, by go_num, by rw [erTo_yes HE.out.symm]; exact ⟨_, _, _, rfl, hown'⟩, (hq.trans Q2).mark hown2 (Nat.le_refl _) hg'⟩
            case measure => simp [intOf]; omega
        · obtain rfl : k = n := by omega
          go_wp2_with fail
          go_ret2
          exact RS.mk' (hown.mono Q1.size) hqw (by simp) (by decide)
    · rw [ebL_no hC]
      have K0 := Lib.hid k0
      have hb : (allC a b c d D t != 0) = true := by simpa using hC
      clear k0 hC
      generalize allC a b c d D t = C at *
      go_enter Try.func15, Try.ntmps15
      go_wp2_with (go_at_call 21; refine (K0.out _ (ha.q (by (repeat (first | assumption | exact Q.refl _ | refine Q.alloc ?_ _ | refine Q.drewN ?_ _ | refine Q.drew ?_))))).mono ?_; rintro e w1 ⟨rfl, q1⟩; have Q1 : Q w w1 := Q.trans (by (repeat (first | assumption | exact Q.refl _ | refine Q.alloc ?_ _ | refine Q.drewN ?_ _ | refine Q.drew ?_))) q1)
      go_ret2
      exact RS.nil _ _ _ _ _ Q1
  · have hC : allC a b c d D t = 3 := by unfold allC; rw [if_pos (by omega)]
    rw [ebL_no (by rw [hC]; decide), hC]
    go_enter Try.func15, Try.ntmps15
    go_wp2_with fail
    go_ret2
    exact RS.nil _ _ _ _ _ (by (repeat (first | assumption | exact Q.refl _ | refine Q.alloc ?_ _ | refine Q.drewN ?_ _ | refine Q.drew ?_)))
end Go.Proofs.Ytpdcehmnegagmaa
namespace Go.Proofs.Ytpdcehmnegagmaa
open Go.RowKit Go.WideShapes Go.ChangeShapes
theorem allB_take {D : List (Nat × List Int)} {k : Nat} (hk : k < D.length) : allB (D.take (k + 1)) = (allB (D.take k) && isTrk (dx D k) (dn D k)) := by
  unfold allB
  rw [List.take_succ_eq_append_getElem hk, List.all_append]
  simp [dx, dn, List.getD_eq_getElem?_getD, List.getElem?_eq_getElem hk]
theorem allB_no {D : List (Nat × List Int)} {k : Nat} (hk : k < D.length) (h : isTrk (dx D k) (dn D k) = false) : allB D = false := by
  cases hB : allB D
  · rfl
  · rw [allB_at hB hk] at h; cases h
set_option maxHeartbeats 2000000 in
theorem spec_l14All (a b c d : Int) (A : Option Addr) (n cc : Nat) (D : List (Nat × List Int)) (t : Int) (w : World) (ha : RdD w A D) (hD : D.length = n) (hn2 : n ≤ 9223372036854775807) :
    Calls Try.prog 31 #[.agg #[.int .i64 a, .int .i64 b, .int .i64 c, .int .i64 d], .slice A n cc, .int .i64 t] w fun e w' => e = .returned (.int .i64 (allC a b c d D t)) ∧ Q w w' := by
  by_cases h16 : n ≤ 16
  · have k1 := (fun wv => spec_IsLine a b c d wv)
    have HS := Lib.hid (show allC a b c d D t = if lnB a b c d = true ∧ allB D = true then (if inR t 0 1000000000 = true then 0 else 2) else 1 by unfold allC scD; rw [if_neg (by omega)])
    have HD := Lib.hid hD
    obtain ⟨R, hR⟩ : ∃ R, R = allC a b c d D t := ⟨_, rfl⟩
    rw [← hR] at HS ⊢
    have k4 := (fun wv => spec_inR t 0 1000000000 wv)
    obtain ⟨p4, hp4⟩ : ∃ p, p = inR t 0 1000000000 := ⟨_, rfl⟩
    rw [← hp4] at k4 HS
    obtain ⟨p1, hp1⟩ : ∃ p, p = lnB a b c d := ⟨_, rfl⟩
    rw [← hp1] at k1 HS
    have K1 := Lib.hid k1
    have K4 := Lib.hid k4
    clear k1 k4 hR hD hp1 hp4
    cases p1
    · go_enter Try.func31, Try.ntmps31
      go_wp2_with (go_at_call 39; refine (K1.out _).mono ?_; rintro e w1 ⟨rfl, q1⟩)
      go_ret
      exact ⟨ret_int (by rw [HS.out]; simp), Q.trans (by (repeat (first | assumption | exact Q.refl _ | refine Q.alloc ?_ _ | refine Q.drewN ?_ _ | refine Q.drew ?_))) q1⟩
    · go_enter Try.func31, Try.ntmps31
      go_wp2_with (go_at_call 39; refine (K1.out _).mono ?_; rintro e w1 ⟨rfl, q1⟩; have Q1 : Q w w1 := Q.trans (by (repeat (first | assumption | exact Q.refl _ | refine Q.alloc ?_ _ | refine Q.drewN ?_ _ | refine Q.drew ?_))) q1)
      go_loopw [7] (fun i wr => ∃ k : Nat, k ≤ n ∧ i = .int .i64 k ∧ Hid (allB (D.take k) = true) ∧ Q w wr) (fun i _ => n - (intOf i).toNat)
      case atStart => exact ⟨0, Nat.zero_le _, rfl, Lib.hid rfl, Q1⟩
      case round =>
        clear Q1 q1
        obtain ⟨k, hk, rfl, HT, hq⟩ := hrel
        by_cases hlt : k < n
        · have hltI : (k : Int) < (n : Int) := by omega
          obtain ⟨bl, o, B, cb, rfl, g0, hr, hx, hm⟩ := (ha.q hq).at_ HD.out hlt
          have k2 := (fun wv (h : Rd wv B (dx D k)) => spec_IsTrack B (dn D k) cb (dx D k) wv h hx hm)
          obtain ⟨E, hE⟩ : ∃ E, E = isTrk (dx D k) (dn D k) := ⟨_, rfl⟩
          rw [← hE] at k2
          have HE := Lib.hid hE
          obtain ⟨mm, hme⟩ : ∃ mm, mm = dn D k := ⟨_, rfl⟩
          rw [← hme] at g0 k2 hm
          obtain ⟨ys, hye⟩ : ∃ ys, ys = dx D k := ⟨_, rfl⟩
          rw [← hye] at hr k2
          have K2 := Lib.hid k2
          clear hE hme hye hx k2
          cases E
          · go_wp2_with (go_at_call 40; refine (K2.out _ (hr.q (by (repeat (first | assumption | exact Q.refl _ | refine Q.alloc ?_ _ | refine Q.drewN ?_ _ | refine Q.drew ?_))))).mono ?_; rintro e w2 ⟨rfl, q2⟩)
            go_ret
            exact ⟨ret_int (by rw [HS.out, allB_no (by rw [HD.out]; exact hlt) HE.out.symm]; simp), hq.trans (Q.trans (by (repeat (first | assumption | exact Q.refl _ | refine Q.alloc ?_ _ | refine Q.drewN ?_ _ | refine Q.drew ?_))) q2)⟩
          · go_wp2_with (go_at_call 40; refine (K2.out _ (hr.q (by (repeat (first | assumption | exact Q.refl _ | refine Q.alloc ?_ _ | refine Q.drewN ?_ _ | refine Q.drew ?_))))).mono ?_; rintro e w2 ⟨rfl, q2⟩)
            go_roundw
            case rel => exact ⟨k + 1, by omega, by go_num, Lib.hid (by rw [allB_take (by rw [HD.out]; exact hlt), HT.out, ← HE.out]; rfl), hq.trans (Q.trans (by (repeat (first | assumption | exact Q.refl _ | refine Q.alloc ?_ _ | refine Q.drewN ?_ _ | refine Q.drew ?_))) q2)⟩
            case measure => simp [intOf]; omega
        · obtain rfl : k = n := by omega
          have HA := Lib.hid (show allB D = true by have := HT.out; rwa [List.take_of_length_le (by rw [HD.out]; omega)] at this)
          cases p4
          · go_wp2_with (go_at_call 41; refine (K4.out _).mono ?_; rintro e w' ⟨rfl, rfl⟩)
            go_ret
            exact ⟨ret_int (by rw [HS.out, HA.out]; simp), hq⟩
          · go_wp2_with (go_at_call 41; refine (K4.out _).mono ?_; rintro e w' ⟨rfl, rfl⟩)
            go_ret
            exact ⟨ret_int (by rw [HS.out, HA.out]; simp), hq⟩
  · have hC : allC a b c d D t = 3 := by unfold allC; rw [if_pos (by omega)]
    rw [hC]
    go_enter Try.func31, Try.ntmps31
    go_wp2_with fail
    go_ret
    exact ⟨rfl, by (repeat (first | assumption | exact Q.refl _ | refine Q.alloc ?_ _ | refine Q.drewN ?_ _ | refine Q.drew ?_))⟩
/-- Whether the start is recalled as a whole. -/
def rcB (a b c d : Int) (D : List (Nat × List Int)) (t : Int) : Bool := decide (D.length < 2 * (ebL a b c d D t).length) && decide (allC a b c d D t = 0)
end Go.Proofs.Ytpdcehmnegagmaa
