/- Walks: valid courses, as the program and the reference tell them. No condition. Walks: valid courses, as the program and the reference tell them; the walks. No condition. -/
import Derived.Test.YteofhfefbphjdaaGreatDoorMkD
import Derived.Deep.RegionHeld3
import Derived.Deep.CutBlock
namespace Go.Proofs.YteofhfefbphjdaaGreatDoor
open Go.RowKit Go.WideShapes Go.ChangeShapes
/-- The first of the first k marks with a name, or -1. -/
def nmIx (ms : List Mk) (nm : ByteArray) : Nat → Int
  | 0 => -1
  | k + 1 => if 0 ≤ nmIx ms nm k then nmIx ms nm k else if ((mx ms k).nm.toList == nm.toList) = true then k else -1
theorem nmIx_no {ms : List Mk} {nm : ByteArray} : ∀ {k : Nat}, noNm ms nm k → nmIx ms nm k = -1
  | 0, _ => rfl
  | k + 1, h => by
    have ih := nmIx_no (k := k) fun j hj => h j (by omega)
    rw [nmIx, ih, if_neg (by decide), h k (Nat.lt_succ_self k)]
    rfl
theorem nmIx_yes {ms : List Mk} {nm : ByteArray} {k : Nat} (hk : noNm ms nm k) (he : ((mx ms k).nm.toList == nm.toList) = true) : ∀ e, nmIx ms nm (k + 1 + e) = k
  | 0 => by
    show nmIx ms nm (k + 1) = k
    rw [nmIx, nmIx_no hk, if_neg (by decide), he]
    rfl
  | e + 1 => by
    show nmIx ms nm (k + 1 + e + 1) = k
    rw [nmIx, nmIx_yes hk he e, if_pos (by omega)]
theorem NmR.ix {ms : List Mk} {nm : ByteArray} {n : Nat} {r : Int} (h : NmR ms nm n r) : r = nmIx ms nm n := by
  rcases h with ⟨k, hk, rfl, he, hno⟩ | ⟨rfl, hno⟩
  · have := nmIx_yes hno he (n - (k + 1))
    rw [show k + 1 + (n - (k + 1)) = n by omega] at this
    exact this.symm
  exact (nmIx_no hno).symm
theorem nmIx_take {ms : List Mk} {nm : ByteArray} : ∀ {k j : Nat}, j ≤ k → nmIx (ms.take k) nm j = nmIx ms nm j
  | _, 0, _ => rfl
  | k, j + 1, h => by rw [nmIx, nmIx, nmIx_take (by omega), mx_take (by omega)]
theorem impl_namedX (nm : ByteArray) (A : Option Addr) (n cc : Nat) (ms : List Mk) (w : World) (ha : RdM w A ms) (k : Nat) (hn : ms.length = n) (hk : k ≤ n) (hn2 : n ≤ 9223372036854775807) :
    Calls Tryz.prog 48 #[.slice A k cc, .string nm] w fun e w' => e = .returned (.int .i64 (nmIx ms nm k)) ∧ Q w w' :=
  (impl_markNamed nm A k cc (ms.take k) w (ha.take k) (by rw [List.length_take]; omega) (by omega)).mono fun e w' ⟨r, he, hr, hq⟩ => ⟨by rw [he, hr.ix, nmIx_take (Nat.le_refl _)], hq⟩
set_option maxHeartbeats 1000000 in
theorem spec_named (nm : ByteArray) (a b c d p q r s : Int) (A : Option Addr) (n cc : Nat) (ms : List Mk) (w : World) (ha : RdM w A ms) (hn : ms.length = n) (hn2 : n ≤ 9223372036854775807) :
    Calls Tryz.prog 36 #[.agg #[.int .i64 a, .int .i64 b, .int .i64 c, .int .i64 d, .int .i64 p, .int .i64 q, .int .i64 r, .int .i64 s, .slice A n cc], .string nm] w fun e w' => e = .returned (.int .i64 (nmIx ms nm n)) ∧ Q w w' := by
  have B0 := Blk.new w 30 #[.int .i64 a, .int .i64 b, .int .i64 c, .int .i64 d, .int .i64 p, .int .i64 q, .int .i64 r, .int .i64 s, .slice A n cc]
  have Q0 : Q w (w.alloc (.cells #[.int .i64 a, .int .i64 b, .int .i64 c, .int .i64 d, .int .i64 p, .int .i64 q, .int .i64 r, .int .i64 s, .slice A n cc] 30)) := by (repeat (first | assumption | exact Q.refl _ | refine Q.alloc ?_ _ | refine Q.drewN ?_ _ | refine Q.drew ?_))
  have HN := Lib.hid hn
  clear hn
  obtain ⟨R, hR⟩ : ∃ R, R = nmIx ms nm n := ⟨_, rfl⟩
  rw [← hR]
  have HR := Lib.hid hR
  clear hR
  go_enter Tryz.func36, Tryz.ntmps36
  go_wp2_with fail
  go_loopw [5] (fun i wr => ∃ k : Nat, k ≤ n ∧ i = .int .i64 k ∧ Hid (noNm ms nm k) ∧ Q (w.alloc (.cells #[.int .i64 a, .int .i64 b, .int .i64 c, .int .i64 d, .int .i64 p, .int .i64 q, .int .i64 r, .int .i64 s, .slice A n cc] 30)) wr) (fun i _ => n - (intOf i).toNat)
  case atStart => exact ⟨0, Nat.zero_le _, rfl, Lib.hid (fun j hj => absurd hj (Nat.not_lt_zero _)), by (repeat (first | assumption | exact Q.refl _ | refine Q.alloc ?_ _ | refine Q.drewN ?_ _ | refine Q.drew ?_))⟩
  case round =>
    obtain ⟨k, hk, rfl, HA, hq⟩ := hrel
    have b0 := (B0.q hq).cell
    have l0 := (B0.q hq).lt
    by_cases hlt : k < n
    · have hltI : (k : Int) < (n : Int) := by omega
      obtain ⟨b1, o1, rfl, g0, g1, g2, g3, g4, _⟩ := (ha.q (Q0.trans hq)).at_ HN.out hlt
      cases hp : ((mx ms k).nm.toList == nm.toList)
      · have HP := Lib.hid (HA.out.succ hp)
        generalize mx ms k = m at *
        go_wp2_with fail
        go_roundw
        case rel => exact ⟨k + 1, by omega, by go_num, HP, hq.trans (by (repeat (first | assumption | exact Q.refl _ | refine Q.alloc ?_ _ | refine Q.drewN ?_ _ | refine Q.drew ?_)))⟩
        case measure => simp [intOf]; omega
      have HE := Lib.hid (show nmIx ms nm n = k by have := nmIx_yes HA.out hp (n - (k + 1)); rwa [show k + 1 + (n - (k + 1)) = n by omega] at this)
      generalize mx ms k = m at *
      go_wp2_with fail
      go_ret
      exact ⟨ret_int (by rw [HR.out, HE.out]), Q0.trans hq⟩
    obtain rfl : k = n := by omega
    have HE := Lib.hid (nmIx_no HA.out)
    go_wp2_with fail
    go_ret
    exact ⟨ret_int (by rw [HR.out, HE.out]), Q0.trans hq⟩
/-- Mark i is valid and the first with its name. -/
def mkOk (ms : List Mk) (i : Nat) : Bool := mkB (mx ms i) && decide (nmIx ms (mx ms i).nm i < 0)
theorem named_first {ms : List Mk} {i n : Nat} (hi : i < n) : decide (nmIx ms (mx ms i).nm n = (i : Int)) = decide (nmIx ms (mx ms i).nm i < 0) := by
  have key : ∀ k, (noNm ms (mx ms i).nm k ∧ nmIx ms (mx ms i).nm k = -1) ∨ ∃ j, j < k ∧ noNm ms (mx ms i).nm j ∧ ((mx ms j).nm.toList == (mx ms i).nm.toList) = true := by
    intro k
    induction k with
    | zero => exact .inl ⟨fun j hj => absurd hj (Nat.not_lt_zero _), rfl⟩
    | succ k ih =>
      rcases ih with ⟨h1, h2⟩ | ⟨j, h1, h2, h3⟩
      · cases he : ((mx ms k).nm.toList == (mx ms i).nm.toList)
        · exact .inl ⟨h1.succ he, nmIx_no (h1.succ he)⟩
        exact .inr ⟨k, Nat.lt_succ_self k, h1, he⟩
      exact .inr ⟨j, by omega, h2, h3⟩
  rcases key i with ⟨h1, h2⟩ | ⟨j, h1, h2, h3⟩
  · have h3 := nmIx_yes h1 (by simp) (n - (i + 1))
    rw [show i + 1 + (n - (i + 1)) = n by omega] at h3
    rw [h3, h2]
    simp
  have h4 := nmIx_yes h2 h3 (i - (j + 1))
  rw [show j + 1 + (i - (j + 1)) = i by omega] at h4
  have h5 := nmIx_yes h2 h3 (n - (j + 1))
  rw [show j + 1 + (n - (j + 1)) = n by omega] at h5
  rw [h4, h5, decide_eq_false (by omega), decide_eq_false (by omega)]
def adjNoB (L : List Int) (k : Nat) : Bool := (List.range (k - 1)).all fun i => !(decide (el L (i * 2) = el L ((i + 1) * 2)) && decide (el L (i * 2 + 1) = el L ((i + 1) * 2 + 1)))
theorem adjNoB_iff {L : List Int} {k : Nat} : adjNoB L k = true ↔ adjNo L k := by
  unfold adjNoB adjNo adjB
  rw [List.all_eq_true]
  constructor
  · intro h i hi he
    have := h i (List.mem_range.2 (by omega))
    rw [decide_eq_true he.1, decide_eq_true he.2] at this
    cases this
  intro h i hi
  have := h i (by have := List.mem_range.1 hi; omega)
  cases h1 : decide (el L (i * 2) = el L ((i + 1) * 2))
  · rfl
  cases h2 : decide (el L (i * 2 + 1) = el L ((i + 1) * 2 + 1))
  · rfl
  exact absurd ⟨of_decide_eq_true h1, of_decide_eq_true h2⟩ this
/-- A valid course. -/
def crsB (a b c d p q r s : Int) (ms : List Mk) : Bool := lnB a b c d && (lnB p q r s && (decide (1 ≤ ms.length) && (decide (ms.length ≤ 8) && ((List.range ms.length).all (mkOk ms) && adjNoB (stL a b c d p q r s ms) (ms.length + 2)))))
theorem crs_len {a b c d p q r s : Int} {ms : List Mk} (h : ¬ (1 ≤ ms.length ∧ ms.length ≤ 8)) : crsB a b c d p q r s ms = false := by
  unfold crsB
  by_cases h1 : 1 ≤ ms.length
  · rw [decide_eq_false (show ¬ ms.length ≤ 8 from fun h2 => h ⟨h1, h2⟩)]; simp
  rw [decide_eq_false h1]; simp
theorem crs_mk {a b c d p q r s : Int} {ms : List Mk} {k : Nat} (hk : k < ms.length) (h : mkOk ms k = false) : crsB a b c d p q r s ms = false := by
  unfold crsB
  have : (List.range ms.length).all (mkOk ms) = false := List.all_eq_false.2 ⟨k, List.mem_range.2 hk, by rw [h]; decide⟩
  rw [this]
  simp
theorem crs_adj {a b c d p q r s : Int} {ms : List Mk} (h0 : lnB a b c d = true) (h1 : lnB p q r s = true) (h2 : 1 ≤ ms.length) (h3 : ms.length ≤ 8) (h : ∀ k, k < ms.length → mkOk ms k = true) : crsB a b c d p q r s ms = adjNoB (stL a b c d p q r s ms) (ms.length + 2) := by
  unfold crsB
  have : (List.range ms.length).all (mkOk ms) = true := List.all_eq_true.2 fun k hk => h k (List.mem_range.1 hk)
  rw [h0, h1, decide_eq_true h2, decide_eq_true h3, this]
  rfl
end Go.Proofs.YteofhfefbphjdaaGreatDoor
namespace Go.Proofs.YteofhfefbphjdaaGreatDoor
open Go.RowKit Go.WideShapes Go.ChangeShapes
set_option maxRecDepth 100000 in
set_option maxHeartbeats 4000000 in
theorem impl_IsCourse (a b c d p q r s : Int) (A : Option Addr) (n cc : Nat) (ms : List Mk) (w : World) (ha : RdM w A ms) (hn : ms.length = n) (hn2 : n ≤ 9223372036854775807) (hcap : n ≤ cc) :
    Calls Tryz.prog 20 #[.agg #[.int .i64 a, .int .i64 b, .int .i64 c, .int .i64 d, .int .i64 p, .int .i64 q, .int .i64 r, .int .i64 s, .slice A n cc]] w fun e w' => e = .returned (.bool (crsB a b c d p q r s ms)) ∧ Q w w' := by
  have k1 := fun wv => impl_IsLine a b c d wv
  have k2 := fun wv => impl_IsLine p q r s wv
  have B0 := Blk.new w 30 #[.int .i64 a, .int .i64 b, .int .i64 c, .int .i64 d, .int .i64 p, .int .i64 q, .int .i64 r, .int .i64 s, .slice A n cc]
  have Q0 : Q w (w.alloc (.cells #[.int .i64 a, .int .i64 b, .int .i64 c, .int .i64 d, .int .i64 p, .int .i64 q, .int .i64 r, .int .i64 s, .slice A n cc] 30)) := by (repeat (first | assumption | exact Q.refl _ | refine Q.alloc ?_ _ | refine Q.drewN ?_ _ | refine Q.drew ?_))
  cases h1 : lnB a b c d
  · have HE := Lib.hid (show crsB a b c d p q r s ms = false by unfold crsB; rw [h1]; rfl)
    rw [h1] at k1
    have K1 := Lib.hid k1
    clear k1 k2 h1
    go_enter Tryz.func20, Tryz.ntmps20
    go_wp2_with fail
    refine (K1.out _).mono ?_
    rintro e1 w1 ⟨rfl, q1⟩
    replace B0 := B0.q q1
    replace Q0 := Q0.trans q1
    go_wp2_with fail
    go_ret
    exact ⟨ret_bool HE.out.symm, Q0⟩
  cases h2 : lnB p q r s
  · have HE := Lib.hid (show crsB a b c d p q r s ms = false by unfold crsB; rw [h2]; simp)
    rw [h1] at k1
    rw [h2] at k2
    have K1 := Lib.hid k1
    have K2 := Lib.hid k2
    clear k1 k2 h1 h2
    go_enter Tryz.func20, Tryz.ntmps20
    go_wp2_with fail
    refine (K1.out _).mono ?_
    rintro e1 w1 ⟨rfl, q1⟩
    replace B0 := B0.q q1
    replace Q0 := Q0.trans q1
    have c0 := B0.cell
    have l0 := B0.lt
    go_wp2_with fail
    refine (K2.out _).mono ?_
    rintro e2 w2 ⟨rfl, q2⟩
    replace B0 := B0.q q2
    replace Q0 := Q0.trans q2
    clear c0 l0
    go_wp2_with fail
    go_ret
    exact ⟨ret_bool HE.out.symm, Q0⟩
  by_cases hlen : 1 ≤ n ∧ n ≤ 8
  · obtain ⟨hn1, hn8⟩ := hlen
    have hb1 := lnB_bd h1
    have hb2 := lnB_bd h2
    have hb1' : bd4 1000001 a b c d := by unfold bd4 at *; omega
    have hb2' : bd4 1000001 p q r s := by unfold bd4 at *; omega
    have HADJ := Lib.hid (fun (h : ∀ k, k < ms.length → mkOk ms k = true) => crs_adj h1 h2 (by omega) (by omega) h)
    have HMK := Lib.hid (fun k (hk : k < n) (h : mkOk ms k = false) => crs_mk (a := a) (b := b) (c := c) (d := d) (p := p) (q := q) (r := r) (s := s) (show k < ms.length by omega) h)
    have KS := Lib.hid (fun wv (h : RdM wv A ms) => impl_stations a b c d p q r s A n cc ms wv h hn (by omega) hb1' hb2')
    rw [h1] at k1
    rw [h2] at k2
    have K1 := Lib.hid k1
    have K2 := Lib.hid k2
    have HN := Lib.hid hn
    have hn1I : (1 : Int) ≤ (n : Int) := by omega
    have hn8I : (n : Int) ≤ 8 := by omega
    obtain ⟨CB, hCB⟩ : ∃ CB, CB = crsB a b c d p q r s ms := ⟨_, rfl⟩
    rw [← hCB] at HADJ HMK ⊢
    clear k1 k2 h1 h2 hb1 hb2 hb1' hb2' hn hCB
    go_enter Tryz.func20, Tryz.ntmps20
    go_wp2_with fail
    refine (K1.out _).mono ?_
    rintro e1 w1 ⟨rfl, q1⟩
    replace B0 := B0.q q1
    replace Q0 := Q0.trans q1
    have c0 := B0.cell
    have l0 := B0.lt
    go_wp2_with fail
    refine (K2.out _).mono ?_
    rintro e2 w2 ⟨rfl, q2⟩
    replace B0 := B0.q q2
    replace Q0 := Q0.trans q2
    clear c0 l0
    have c0 := B0.cell
    have l0 := B0.lt
    go_wp2_with fail
    clear c0 l0
    go_loopw [31] (fun i wr => ∃ k : Nat, k ≤ n ∧ i = .int .i64 k ∧ Hid (∀ j, j < k → mkOk ms j = true) ∧ Q w2 wr) (fun i _ => n - (intOf i).toNat)
    case atStart => exact ⟨0, Nat.zero_le _, rfl, Lib.hid (fun j hj => absurd hj (Nat.not_lt_zero _)), by (repeat (first | assumption | exact Q.refl _ | refine Q.alloc ?_ _ | refine Q.drewN ?_ _ | refine Q.drew ?_))⟩
    case round =>
      obtain ⟨k, hk, rfl, HA, hq⟩ := hrel
      by_cases hlt : k < n
      · have hltI : (k : Int) < (n : Int) := by omega
        have hkcI : (k : Int) ≤ (cc : Int) := by omega
        have hk0I : (0 : Int) ≤ (k : Int) := by omega
        obtain ⟨b1, o1, rfl, g0, g1, g2, g3, g4, hsz⟩ := (ha.q (Q0.trans hq)).at_ HN.out hlt
        have k3 := fun wv => impl_isMark (mx ms k) hsz wv
        have k4 := fun wv (h : RdM wv (some ⟨b1, o1, none⟩) ms) => impl_namedX (mx ms k).nm (some ⟨b1, o1, none⟩) n cc ms wv h k HN.out hk hn2
        have HOK := Lib.hid (show mkOk ms k = (mkB (mx ms k) && decide (nmIx ms (mx ms k).nm k < 0)) from rfl)
        have HM := Lib.hid (fun h => HMK.out k hlt h)
        obtain ⟨OK, hOK⟩ : ∃ OK, OK = mkOk ms k := ⟨_, rfl⟩
        rw [← hOK] at HOK HM
        have HOE := Lib.hid hOK.symm
        clear hOK
        generalize nmIx ms (mx ms k).nm k = R at *
        generalize mx ms k = m at *
        have BM := Blk.new wr 85 #[.string m.nm, .int .i64 m.x, .int .i64 m.y, .int .i64 m.sd, .int .i64 m.zn]
        have Bc := (B0.q hq).alloc (.cells #[.string m.nm, .int .i64 m.x, .int .i64 m.y, .int .i64 m.sd, .int .i64 m.zn] 85)
        have Qb : Q wr (wr.alloc (.cells #[.string m.nm, .int .i64 m.x, .int .i64 m.y, .int .i64 m.sd, .int .i64 m.zn] 85)) := by (repeat (first | assumption | exact Q.refl _ | refine Q.alloc ?_ _ | refine Q.drewN ?_ _ | refine Q.drew ?_))
        have hab := (ha.q (Q0.trans hq)).q Qb
        obtain ⟨bm, hbm⟩ : ∃ bm, bm = wr.heap.size := ⟨_, rfl⟩
        rw [← hbm] at BM
        go_upto_region 6 with (fail)
        rw [← hbm]
        generalize wr.alloc (.cells #[.string m.nm, .int .i64 m.x, .int .i64 m.y, .int .i64 m.sd, .int .i64 m.zn] 85) = wb at *
        have lM := later_cells BM.cell BM.lt
        have lC := later_cells Bc.cell Bc.lt
        clear g0 g1 g2 g3 g4 hbm
        cases hB : mkB m
        · rw [hB] at k3
          have HE := Lib.hid (HM.out (by rw [HOK.out, hB]; rfl))
          have K3 := Lib.hid k3
          clear k3 k4 hB
          refine wp_region_later_lit (by kernel_rfl) (by kernel_rfl) ?_
          repeat (any_goals (first | go_big_quiet_step ((go_at_call 47; exact later_call (K3.out _))) | quiet_step ((go_at_call 47; exact later_call (K3.out _))) | (refine wpQuiet_step (fun K hK => ?_); go_simp; split <;> (refine hK _ ?_; clear hK K))))
          all_goals (refine wpQuiet_nil ?_; rintro _ ⟨⟨w8, q8⟩, rfl⟩; try dsimp only)
          all_goals go_wp2_with fail
          go_ret
          exact ⟨ret_bool HE.out.symm, Q0.trans (hq.trans (Qb.trans q8))⟩
        rw [hB] at k3
        by_cases hR : R < 0
        · have HC := Lib.hid (show OK = true by rw [HOK.out, hB, decide_eq_true hR]; rfl)
          have hRI : ¬ (0 : Int) ≤ R := by omega
          have hRD : decide ((0 : Int) ≤ R) = false := decide_eq_false hRI
          have HAO := Lib.hid (fun j (hj : j < k) => HA.out j hj)
          have K3 := Lib.hid k3
          have K4 := Lib.hid k4
          clear k3 k4 hB HM
          refine wp_region_later_lit (by kernel_rfl) (by kernel_rfl) ?_
          repeat (any_goals (first | go_big_quiet_step ((first | (go_at_call 47; exact later_call (K3.out _)) | (go_at_call 48; exact later_call (K4.out _ (hab.q (Later.q _)))))) | quiet_step ((first | (go_at_call 47; exact later_call (K3.out _)) | (go_at_call 48; exact later_call (K4.out _ (hab.q (Later.q _)))))) | (refine wpQuiet_step (fun K hK => ?_); go_simp; split <;> (refine hK _ ?_; clear hK K))))
          all_goals (refine wpQuiet_nil ?_; rintro _ ⟨⟨w8, q8⟩, rfl⟩; try dsimp only)
          all_goals go_wp2_with fail
          go_roundw
          case rel => exact ⟨k + 1, by omega, by go_num, Lib.hid (fun j hj => if h : j < k then HAO.out j h else by have e : j = k := (by omega); rw [e]; exact HOE.out.trans HC.out), hq.trans (Qb.trans q8)⟩
          case measure => simp [intOf]; omega
        have HE := Lib.hid (HM.out (by rw [HOK.out, hB, decide_eq_false hR]; rfl))
        have hRI : (0 : Int) ≤ R := by omega
        have hRD : decide ((0 : Int) ≤ R) = true := decide_eq_true hRI
        have K3 := Lib.hid k3
        have K4 := Lib.hid k4
        clear k3 k4 hB
        refine wp_region_later_lit (by kernel_rfl) (by kernel_rfl) ?_
        repeat (any_goals (first | go_big_quiet_step ((first | (go_at_call 47; exact later_call (K3.out _)) | (go_at_call 48; exact later_call (K4.out _ (hab.q (Later.q _)))))) | quiet_step ((first | (go_at_call 47; exact later_call (K3.out _)) | (go_at_call 48; exact later_call (K4.out _ (hab.q (Later.q _)))))) | (refine wpQuiet_step (fun K hK => ?_); go_simp; split <;> (refine hK _ ?_; clear hK K))))
        all_goals (refine wpQuiet_nil ?_; rintro _ ⟨⟨w8, q8⟩, rfl⟩; try dsimp only)
        all_goals go_wp2_with fail
        go_ret
        exact ⟨ret_bool HE.out.symm, Q0.trans (hq.trans (Qb.trans q8))⟩
      obtain rfl : k = n := by omega
      have HADJ2 := Lib.hid (HADJ.out (fun j hj => HA.out j (by rw [HN.out] at hj; exact hj)))
      rw [HN.out] at HADJ2
      have HSL := Lib.hid (stL_len a b c d p q r s ms)
      replace B0 := B0.q hq
      replace Q0 := Q0.trans hq
      have c0 := B0.cell
      have l0 := B0.lt
      have haw := ha.q Q0
      generalize stL a b c d p q r s ms = SL at *
      go_wp2_with fail
      clear c0 l0
      refine (KS.out _ haw).mono ?_
      rintro e5 w5 ⟨AS, cS, rfl, oS, q5⟩
      obtain ⟨gS, rfl, hgS⟩ := oS.split (show 0 < k + 2 by omega)
      have hwq : Q wr w5 := q5
      have hcell := (B0.cell 8)
      have hS : ∀ w', Q wr w' → (Q wr w' ∧ w'.cell? ⟨w.heap.size, 8, none⟩ = some (.slice A k cc)) := fun w' q => ⟨q, (B0.q q).cell 8⟩
      have KC := Lib.hid (fun wv (h : Q w5 wv) => run_Compact gS (k + 2) cS wr.heap.size SL wr wv (oS.q h) (by omega) (Nat.le_refl _) (hwq.trans h))
      have HIFF := Lib.hid (adjNoB_iff (L := SL) (k := k + 2))
      have hw2 : IntKind.i64.wrap ((k : Int) + 2) = (k : Int) + 2 := by rw [IntKind.wrap_i64]; omega
      clear hcell
      go_wp2_with fail
      go_region_held3 (fun w' => Q wr w' ∧ w'.cell? ⟨w.heap.size, 8, none⟩ = some (.slice A k cc)) (first | exact hS _ (by first | exact QC | exact hwq.trans (by (repeat (first | assumption | exact Q.refl _ | refine Q.alloc ?_ _ | refine Q.drewN ?_ _ | refine Q.drew ?_)))) | (go_split_ands; exact hS _ (by first | exact QC | exact hwq.trans (by (repeat (first | assumption | exact Q.refl _ | refine Q.alloc ?_ _ | refine Q.drewN ?_ _ | refine Q.drew ?_)))))) (first | (go_at_call 50; refine (KC.out _ (by (repeat (first | assumption | exact Q.refl _ | refine Q.alloc ?_ _ | refine Q.drewN ?_ _ | refine Q.drew ?_)))).mono ?_; rintro e6 w6 ⟨mm, rfl, hmm, hmle, QC⟩))
      have HMM := Lib.hid hmm
      have hmI : (mm : Int) ≤ 10 := by omega
      clear hmm
      go_wp2_with fail
      go_ret
      refine ⟨ret_bool ?_, Q0.trans QC⟩
      rw [HADJ2.out]
      cases hb : adjNoB SL (k + 2)
      · have h1 : ¬ mm = k + 2 := fun h => by have := HIFF.out.2 (HMM.out.1 h); rw [hb] at this; cases this
        simp
        omega
      have h1 : mm = k + 2 := HMM.out.2 (HIFF.out.1 hb)
      subst h1
      simp
  have HE := Lib.hid (crs_len (a := a) (b := b) (c := c) (d := d) (p := p) (q := q) (r := r) (s := s) (ms := ms) (by rw [hn]; exact hlen))
  rw [h1] at k1
  rw [h2] at k2
  have K1 := Lib.hid k1
  have K2 := Lib.hid k2
  clear k1 k2 h1 h2
  by_cases hz : n < 1
  · have hzI : (n : Int) < 1 := by omega
    clear hlen
    go_enter Tryz.func20, Tryz.ntmps20
    go_wp2_with fail
    refine (K1.out _).mono ?_
    rintro e1 w1 ⟨rfl, q1⟩
    replace B0 := B0.q q1
    replace Q0 := Q0.trans q1
    have c0 := B0.cell
    have l0 := B0.lt
    go_wp2_with fail
    refine (K2.out _).mono ?_
    rintro e2 w2 ⟨rfl, q2⟩
    replace B0 := B0.q q2
    replace Q0 := Q0.trans q2
    clear c0 l0
    have c0 := B0.cell
    have l0 := B0.lt
    go_wp2_with fail
    go_ret
    exact ⟨ret_bool HE.out.symm, Q0⟩
  have hzI : ¬ (n : Int) < 1 := by omega
  have hz1 : (1 : Int) ≤ (n : Int) := by omega
  have hz8 : (8 : Int) < (n : Int) := by omega
  clear hlen
  go_enter Tryz.func20, Tryz.ntmps20
  go_wp2_with fail
  refine (K1.out _).mono ?_
  rintro e1 w1 ⟨rfl, q1⟩
  replace B0 := B0.q q1
  replace Q0 := Q0.trans q1
  have c0 := B0.cell
  have l0 := B0.lt
  go_wp2_with fail
  refine (K2.out _).mono ?_
  rintro e2 w2 ⟨rfl, q2⟩
  replace B0 := B0.q q2
  replace Q0 := Q0.trans q2
  clear c0 l0
  have c0 := B0.cell
  have l0 := B0.lt
  go_wp2_with fail
  go_ret
  exact ⟨ret_bool HE.out.symm, Q0⟩
set_option maxRecDepth 100000 in
set_option maxHeartbeats 4000000 in
theorem spec_IsCourse (a b c d p q r s : Int) (A : Option Addr) (n cc : Nat) (ms : List Mk) (w : World) (ha : RdM w A ms) (hn : ms.length = n) (hn2 : n ≤ 9223372036854775807) :
    Calls Tryz.prog 18 #[.agg #[.int .i64 a, .int .i64 b, .int .i64 c, .int .i64 d, .int .i64 p, .int .i64 q, .int .i64 r, .int .i64 s, .slice A n cc]] w fun e w' => e = .returned (.bool (crsB a b c d p q r s ms)) ∧ Q w w' := by
  have k1 := fun wv => spec_IsLine a b c d wv
  have k2 := fun wv => spec_IsLine p q r s wv
  have B0 := Blk.new w 30 #[.int .i64 a, .int .i64 b, .int .i64 c, .int .i64 d, .int .i64 p, .int .i64 q, .int .i64 r, .int .i64 s, .slice A n cc]
  have Q0 : Q w (w.alloc (.cells #[.int .i64 a, .int .i64 b, .int .i64 c, .int .i64 d, .int .i64 p, .int .i64 q, .int .i64 r, .int .i64 s, .slice A n cc] 30)) := by (repeat (first | assumption | exact Q.refl _ | refine Q.alloc ?_ _ | refine Q.drewN ?_ _ | refine Q.drew ?_))
  cases h1 : lnB a b c d
  · have HE := Lib.hid (show crsB a b c d p q r s ms = false by unfold crsB; rw [h1]; rfl)
    rw [h1] at k1
    have K1 := Lib.hid k1
    clear k1 k2 h1
    go_enter Tryz.func18, Tryz.ntmps18
    go_wp2_with fail
    refine (K1.out _).mono ?_
    rintro e1 w1 ⟨rfl, q1⟩
    replace B0 := B0.q q1
    replace Q0 := Q0.trans q1
    go_wp2_with fail
    go_ret
    exact ⟨ret_bool HE.out.symm, Q0⟩
  cases h2 : lnB p q r s
  · have HE := Lib.hid (show crsB a b c d p q r s ms = false by unfold crsB; rw [h2]; simp)
    rw [h1] at k1
    rw [h2] at k2
    have K1 := Lib.hid k1
    have K2 := Lib.hid k2
    clear k1 k2 h1 h2
    go_enter Tryz.func18, Tryz.ntmps18
    go_wp2_with fail
    refine (K1.out _).mono ?_
    rintro e1 w1 ⟨rfl, q1⟩
    replace B0 := B0.q q1
    replace Q0 := Q0.trans q1
    have c0 := B0.cell
    have l0 := B0.lt
    go_wp2_with fail
    refine (K2.out _).mono ?_
    rintro e2 w2 ⟨rfl, q2⟩
    replace B0 := B0.q q2
    replace Q0 := Q0.trans q2
    clear c0 l0
    go_wp2_with fail
    go_ret
    exact ⟨ret_bool HE.out.symm, Q0⟩
  by_cases hlen : 1 ≤ n ∧ n ≤ 8
  · obtain ⟨hn1, hn8⟩ := hlen
    have hb1 := lnB_bd h1
    have hb2 := lnB_bd h2
    have hb1' : bd4 1000001 a b c d := by unfold bd4 at *; omega
    have hb2' : bd4 1000001 p q r s := by unfold bd4 at *; omega
    have HADJ := Lib.hid (fun (h : ∀ k, k < ms.length → mkOk ms k = true) => crs_adj h1 h2 (by omega) (by omega) h)
    have HMK := Lib.hid (fun k (hk : k < n) (h : mkOk ms k = false) => crs_mk (a := a) (b := b) (c := c) (d := d) (p := p) (q := q) (r := r) (s := s) (show k < ms.length by omega) h)
    have KS := Lib.hid (fun wv (h : RdM wv A ms) => spec_stations a b c d p q r s A n cc ms wv h hn (by omega) hb1' hb2')
    rw [h1] at k1
    rw [h2] at k2
    have K1 := Lib.hid k1
    have K2 := Lib.hid k2
    have HN := Lib.hid hn
    have hn1I : (1 : Int) ≤ (n : Int) := by omega
    have hn8I : (n : Int) ≤ 8 := by omega
    obtain ⟨CB, hCB⟩ : ∃ CB, CB = crsB a b c d p q r s ms := ⟨_, rfl⟩
    rw [← hCB] at HADJ HMK ⊢
    clear k1 k2 h1 h2 hb1 hb2 hb1' hb2' hn hCB
    go_enter Tryz.func18, Tryz.ntmps18
    go_wp2_with fail
    refine (K1.out _).mono ?_
    rintro e1 w1 ⟨rfl, q1⟩
    replace B0 := B0.q q1
    replace Q0 := Q0.trans q1
    have c0 := B0.cell
    have l0 := B0.lt
    go_wp2_with fail
    refine (K2.out _).mono ?_
    rintro e2 w2 ⟨rfl, q2⟩
    replace B0 := B0.q q2
    replace Q0 := Q0.trans q2
    clear c0 l0
    have c0 := B0.cell
    have l0 := B0.lt
    go_wp2_with fail
    clear c0 l0
    go_loopw [4] (fun i wr => ∃ k : Nat, k ≤ n ∧ i = .int .i64 k ∧ Hid (∀ j, j < k → mkOk ms j = true) ∧ Q w2 wr) (fun i _ => n - (intOf i).toNat)
    case atStart => exact ⟨0, Nat.zero_le _, rfl, Lib.hid (fun j hj => absurd hj (Nat.not_lt_zero _)), by (repeat (first | assumption | exact Q.refl _ | refine Q.alloc ?_ _ | refine Q.drewN ?_ _ | refine Q.drew ?_))⟩
    case round =>
      obtain ⟨k, hk, rfl, HA, hq⟩ := hrel
      by_cases hlt : k < n
      · have hltI : (k : Int) < (n : Int) := by omega
        obtain ⟨b1, o1, rfl, g0, g1, g2, g3, g4, hsz⟩ := (ha.q (Q0.trans hq)).at_ HN.out hlt
        have k3 := fun wv => spec_isMark (mx ms k) hsz wv
        have k4 := fun wv (h : RdM wv (some ⟨b1, o1, none⟩) ms) => spec_named (mx ms k).nm a b c d p q r s (some ⟨b1, o1, none⟩) n cc ms wv h HN.out hn2
        have HOK := Lib.hid (show mkOk ms k = (mkB (mx ms k) && decide (nmIx ms (mx ms k).nm n = (k : Int))) by rw [named_first hlt]; rfl)
        have HM := Lib.hid (fun h => HMK.out k hlt h)
        obtain ⟨OK, hOK⟩ : ∃ OK, OK = mkOk ms k := ⟨_, rfl⟩
        rw [← hOK] at HOK HM
        have HOE := Lib.hid hOK.symm
        clear hOK
        generalize nmIx ms (mx ms k).nm n = R at *
        generalize mx ms k = m at *
        have hab := ha.q (Q0.trans hq)
        have Qb := Q.refl wr
        have Bc := B0.q hq
        have lC := later_cells Bc.cell Bc.lt
        have l0 := later_cell g0
        have l1 := later_cell g1
        have l2 := later_cell g2
        have l3 := later_cell g3
        have l4 := later_cell g4
        clear g0 g1 g2 g3 g4
        cases hB : mkB m
        · rw [hB] at k3
          have HE := Lib.hid (HM.out (by rw [HOK.out, hB]; rfl))
          have K3 := Lib.hid k3
          clear k3 k4 hB
          go_wp2_with fail
          refine wp_region_later_lit (by kernel_rfl) (by kernel_rfl) ?_
          repeat (any_goals (first | go_big_quiet_step ((go_at_call 35; exact later_call (K3.out _))) | quiet_step ((go_at_call 35; exact later_call (K3.out _))) | (refine wpQuiet_step (fun K hK => ?_); go_simp; split <;> (refine hK _ ?_; clear hK K))))
          all_goals (refine wpQuiet_nil ?_; rintro _ ⟨⟨w8, q8⟩, rfl⟩; try dsimp only)
          all_goals go_wp2_with fail
          go_ret
          exact ⟨ret_bool HE.out.symm, Q0.trans (hq.trans (Qb.trans q8))⟩
        rw [hB] at k3
        by_cases hR : R = (k : Int)
        · have HC := Lib.hid (show OK = true by rw [HOK.out, hB, decide_eq_true hR]; rfl)
          subst hR
          have HAO := Lib.hid (fun j (hj : j < k) => HA.out j hj)
          have K3 := Lib.hid k3
          have K4 := Lib.hid k4
          clear k3 k4 hB HM
          go_wp2_with fail
          refine wp_region_later_lit (by kernel_rfl) (by kernel_rfl) ?_
          repeat (any_goals (first | go_big_quiet_step ((first | (go_at_call 35; exact later_call (K3.out _)) | (go_at_call 36; exact later_call (K4.out _ (hab.q (Later.q _)))))) | quiet_step ((first | (go_at_call 35; exact later_call (K3.out _)) | (go_at_call 36; exact later_call (K4.out _ (hab.q (Later.q _)))))) | (refine wpQuiet_step (fun K hK => ?_); go_simp; split <;> (refine hK _ ?_; clear hK K))))
          all_goals (refine wpQuiet_nil ?_; rintro _ ⟨⟨w8, q8⟩, rfl⟩; try dsimp only)
          all_goals go_wp2_with fail
          go_roundw
          case rel => exact ⟨k + 1, by omega, by go_num, Lib.hid (fun j hj => if h : j < k then HAO.out j h else by have e : j = k := (by omega); rw [e]; exact HOE.out.trans HC.out), hq.trans (Qb.trans q8)⟩
          case measure => simp [intOf]; omega
        have HE := Lib.hid (HM.out (by rw [HOK.out, hB, decide_eq_false hR]; rfl))
        have hRb : (R != (k : Int)) = true := by simpa using hR
        have hRc : (R == (k : Int)) = false := by simpa using hR
        have K3 := Lib.hid k3
        have K4 := Lib.hid k4
        clear k3 k4 hB hR
        go_wp2_with fail
        refine wp_region_later_lit (by kernel_rfl) (by kernel_rfl) ?_
        repeat (any_goals (first | go_big_quiet_step ((first | (go_at_call 35; exact later_call (K3.out _)) | (go_at_call 36; exact later_call (K4.out _ (hab.q (Later.q _)))))) | quiet_step ((first | (go_at_call 35; exact later_call (K3.out _)) | (go_at_call 36; exact later_call (K4.out _ (hab.q (Later.q _)))))) | (refine wpQuiet_step (fun K hK => ?_); go_simp; split <;> (refine hK _ ?_; clear hK K))))
        all_goals (refine wpQuiet_nil ?_; rintro _ ⟨⟨w8, q8⟩, rfl⟩; try dsimp only)
        all_goals go_wp2_with fail
        go_ret
        exact ⟨ret_bool HE.out.symm, Q0.trans (hq.trans (Qb.trans q8))⟩
      obtain rfl : k = n := by omega
      have HADJ2 := Lib.hid (HADJ.out (fun j hj => HA.out j (by rw [HN.out] at hj; exact hj)))
      rw [HN.out] at HADJ2
      have HSL := Lib.hid (show (stL a b c d p q r s ms).length = (k + 2) * 2 by rw [stL_len, HN.out])
      replace B0 := B0.q hq
      replace Q0 := Q0.trans hq
      have c0 := B0.cell
      have l0 := B0.lt
      have haw := ha.q Q0
      generalize stL a b c d p q r s ms = SL at *
      go_wp2_with fail
      clear c0 l0
      refine (KS.out _ haw).mono ?_
      rintro e5 w5 ⟨AS, cS, rfl, oS, q5⟩
      obtain ⟨gS, rfl, hgS⟩ := oS.split (show 0 < k + 2 by omega)
      have HIFF := Lib.hid (adjNoB_iff (L := SL) (k := k + 2))
      go_wp2_with fail
      go_loopw [6] (fun i wz => ∃ t : Nat, 1 ≤ t ∧ t ≤ k + 2 ∧ i = .int .i64 t ∧ Hid (adjNo SL t) ∧ Q w5 wz) (fun i _ => k + 2 - (intOf i).toNat)
      case atStart => exact ⟨1, by omega, by omega, rfl, Lib.hid (fun i hi => by omega), by (repeat (first | assumption | exact Q.refl _ | refine Q.alloc ?_ _ | refine Q.drewN ?_ _ | refine Q.drew ?_))⟩
      case round =>
        obtain ⟨t, ht1, ht, rfl, HT, hq6⟩ := hrel
        by_cases hlt2 : t < k + 2
        · obtain ⟨j, rfl⟩ : ∃ j, t = j + 1 := ⟨t - 1, by omega⟩
          have htI : (j : Int) + 1 < ((k + 2 : Nat) : Int) := by omega
          have htJ : (j : Int) + 1 < (k : Int) + 2 := by omega
          have hjI : (j : Int) < ((k + 2 : Nat) : Int) := by omega
          have hjJ : (j : Int) < (k : Int) + 2 := by omega
          have hjw : IntKind.i64.wrap (j : Int) = (j : Int) := by rw [IntKind.wrap_i64]; omega
          have hjn : j < k + 2 := by omega
          have hown := oS.q hq6
          have hLl := HSL.out
          have x1 : wr.cell? ⟨gS, (j + 1) * 2, none⟩ = some (.int .i64 (el SL ((j + 1) * 2))) := hown.cell (by omega)
          have y1 : wr.cell? ⟨gS, (j + 1) * 2 + 1, none⟩ = some (.int .i64 (el SL ((j + 1) * 2 + 1))) := hown.cell (by omega)
          have x0 : wr.cell? ⟨gS, j * 2, none⟩ = some (.int .i64 (el SL (j * 2))) := hown.cell (by omega)
          have y0 : wr.cell? ⟨gS, j * 2 + 1, none⟩ = some (.int .i64 (el SL (j * 2 + 1))) := hown.cell (by omega)
          have HAD := Lib.hid (show adjB SL j ↔ (el SL (j * 2) = el SL ((j + 1) * 2) ∧ el SL (j * 2 + 1) = el SL ((j + 1) * 2 + 1)) from Iff.rfl)
          generalize el SL ((j + 1) * 2) = X1 at *
          generalize el SL ((j + 1) * 2 + 1) = Y1 at *
          generalize el SL (j * 2) = X0 at *
          generalize el SL (j * 2 + 1) = Y0 at *
          clear hown hLl
          by_cases hx : X0 = X1
          · subst hx
            by_cases hy : Y0 = Y1
            · subst hy
              have HBAD := Lib.hid (show adjNoB SL (k + 2) = false by
                cases hb : adjNoB SL (k + 2)
                · rfl
                exact absurd (HAD.out.2 ⟨rfl, rfl⟩) (HIFF.out.1 hb j hlt2))
              go_wp2_with fail
              refine wp_region_quiet_lit (by kernel_rfl) (by kernel_rfl) ?_
              repeat (any_goals (first | go_big_quiet_step ( fail) | quiet_step ( fail) | (refine wpQuiet_step (fun K hK => ?_); go_simp; split <;> (refine hK _ ?_; clear hK K))))
              all_goals (refine wpQuiet_nil ?_; intro _ hw'; obtain ⟨nq, hw''⟩ := hw'; subst hw'')
              all_goals go_wp2_with fail
              go_ret
              exact ⟨ret_bool (by rw [HADJ2.out, HBAD.out]), Q0.trans (q5.trans (hq6.trans (by (repeat (first | assumption | exact Q.refl _ | refine Q.alloc ?_ _ | refine Q.drewN ?_ _ | refine Q.drew ?_)))))⟩
            have HNE := Lib.hid (show ¬ adjB SL j from fun h => hy (HAD.out.1 h).2)
            have hyb : (Y0 == Y1) = false := by simpa using hy
            go_wp2_with fail
            refine wp_region_quiet_lit (by kernel_rfl) (by kernel_rfl) ?_
            repeat (any_goals (first | go_big_quiet_step ( fail) | quiet_step ( fail) | (refine wpQuiet_step (fun K hK => ?_); go_simp; split <;> (refine hK _ ?_; clear hK K))))
            all_goals (refine wpQuiet_nil ?_; intro _ hw'; obtain ⟨nq, hw''⟩ := hw'; subst hw'')
            all_goals go_wp2_with fail
            go_roundw
            case rel => exact ⟨j + 1 + 1, by omega, by omega, by go_num, Lib.hid (HT.out.succ HNE.out), hq6.trans (by (repeat (first | assumption | exact Q.refl _ | refine Q.alloc ?_ _ | refine Q.drewN ?_ _ | refine Q.drew ?_)))⟩
            case measure => simp [intOf]; omega
          have HNE := Lib.hid (show ¬ adjB SL j from fun h => hx (HAD.out.1 h).1)
          have hxb : (X0 == X1) = false := by simpa using hx
          go_wp2_with fail
          refine wp_region_quiet_lit (by kernel_rfl) (by kernel_rfl) ?_
          repeat (any_goals (first | go_big_quiet_step ( fail) | quiet_step ( fail) | (refine wpQuiet_step (fun K hK => ?_); go_simp; split <;> (refine hK _ ?_; clear hK K))))
          all_goals (refine wpQuiet_nil ?_; intro _ hw'; obtain ⟨nq, hw''⟩ := hw'; subst hw'')
          all_goals go_wp2_with fail
          go_roundw
          case rel => exact ⟨j + 1 + 1, by omega, by omega, by go_num, Lib.hid (HT.out.succ HNE.out), hq6.trans (by (repeat (first | assumption | exact Q.refl _ | refine Q.alloc ?_ _ | refine Q.drewN ?_ _ | refine Q.drew ?_)))⟩
          case measure => simp [intOf]; omega
        obtain rfl : t = k + 2 := by omega
        have HOK2 := Lib.hid (HIFF.out.2 HT.out)
        go_wp2_with fail
        go_ret
        exact ⟨ret_bool (by rw [HADJ2.out, HOK2.out]), Q0.trans (q5.trans hq6)⟩
  have HE := Lib.hid (crs_len (a := a) (b := b) (c := c) (d := d) (p := p) (q := q) (r := r) (s := s) (ms := ms) (by rw [hn]; exact hlen))
  rw [h1] at k1
  rw [h2] at k2
  have K1 := Lib.hid k1
  have K2 := Lib.hid k2
  clear k1 k2 h1 h2
  by_cases hz : n < 1
  · have hzI : (n : Int) < 1 := by omega
    clear hlen
    go_enter Tryz.func18, Tryz.ntmps18
    go_wp2_with fail
    refine (K1.out _).mono ?_
    rintro e1 w1 ⟨rfl, q1⟩
    replace B0 := B0.q q1
    replace Q0 := Q0.trans q1
    have c0 := B0.cell
    have l0 := B0.lt
    go_wp2_with fail
    refine (K2.out _).mono ?_
    rintro e2 w2 ⟨rfl, q2⟩
    replace B0 := B0.q q2
    replace Q0 := Q0.trans q2
    clear c0 l0
    have c0 := B0.cell
    have l0 := B0.lt
    go_wp2_with fail
    go_ret
    exact ⟨ret_bool HE.out.symm, Q0⟩
  have hzI : ¬ (n : Int) < 1 := by omega
  have hz1 : (1 : Int) ≤ (n : Int) := by omega
  have hz8 : (8 : Int) < (n : Int) := by omega
  clear hlen
  go_enter Tryz.func18, Tryz.ntmps18
  go_wp2_with fail
  refine (K1.out _).mono ?_
  rintro e1 w1 ⟨rfl, q1⟩
  replace B0 := B0.q q1
  replace Q0 := Q0.trans q1
  have c0 := B0.cell
  have l0 := B0.lt
  go_wp2_with fail
  refine (K2.out _).mono ?_
  rintro e2 w2 ⟨rfl, q2⟩
  replace B0 := B0.q q2
  replace Q0 := Q0.trans q2
  clear c0 l0
  have c0 := B0.cell
  have l0 := B0.lt
  go_wp2_with fail
  go_ret
  exact ⟨ret_bool HE.out.symm, Q0⟩
end Go.Proofs.YteofhfefbphjdaaGreatDoor
