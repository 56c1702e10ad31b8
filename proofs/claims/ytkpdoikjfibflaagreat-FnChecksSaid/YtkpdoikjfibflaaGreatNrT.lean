/- Walks: slices.IndexFunc and slices.DeleteFunc of whole numbers with a function that makes blocks of its own, and the function that tells whether two tracks are not near. No condition. Walks: slices.DeleteFunc of whole numbers with a function that makes blocks of its own. No condition. Walks: the check times at which two tracks are near, as the program and the reference make them. No condition. -/
import Derived.Test.YtkpdoikjfibflaaGreatNrO
import Derived.Lib.SliceRun
import Derived.Test.YtkpdoikjfibflaaGreatCheck
namespace Go.Proofs.YtkpdoikjfibflaaGreat
open Go.RowKit Go.WideShapes Go.ChangeShapes
/-- The row of L while it is filtered: i are kept, j are looked at. -/
structure KI (p : Int → Bool) (L M : List Int) (i j : Nat) : Prop where
  len : M.length = L.length
  le : i ≤ j
  low : M.take i = (L.take j).filter p
  high : ∀ t, j ≤ t → el M t = el L t
theorem el_get {L : List Int} {j : Nat} (h : j < L.length) : el L j = L[j] := by unfold el; rw [List.getD_eq_getElem?_getD, List.getElem?_eq_getElem h]; rfl
theorem el_set_ne {L : List Int} {i t : Nat} (u : Int) (h : i ≠ t) : el (L.set i u) t = el L t := by unfold el; rw [List.getD_eq_getElem?_getD, List.getD_eq_getElem?_getD, List.getElem?_set_ne h]
theorem take_succ_el {L : List Int} {j : Nat} (h : j < L.length) : L.take (j + 1) = L.take j ++ [el L j] := by rw [List.take_succ_eq_append_getElem h, el_get h]
theorem KI.keep {p : Int → Bool} {L M : List Int} {i j : Nat} (h : KI p L M i j) (hj : j < L.length) (hp : p (el L j) = true) : KI p L (M.set i (el L j)) (i + 1) (j + 1) where
  len := by simp [h.len]
  le := by have := h.le; omega
  low := by
    have h1 : i < M.length := by have := h.le; have := h.len; omega
    rw [take_succ_el (by simpa using h1), take_succ_el hj, List.filter_append, ← h.low, List.take_set_of_le (Nat.le_refl i)]
    congr 1
    rw [el_get (by simpa using h1)]
    simp [hp]
  high := fun t ht => by rw [el_set_ne _ (by have := h.le; omega)]; exact h.high t (by omega)
theorem KI.skip {p : Int → Bool} {L M : List Int} {i j : Nat} (h : KI p L M i j) (hj : j < L.length) (hp : p (el L j) = false) : KI p L M i (j + 1) where
  len := h.len
  le := by have := h.le; omega
  low := by rw [take_succ_el hj, List.filter_append, ← h.low]; simp [hp]
  high := fun t ht => h.high t (by omega)
theorem KI.start {p : Int → Bool} {L : List Int} {k : Nat} (hk : k < L.length) (hp : p (el L k) = false) (hall : ∀ j, j < k → p (el L j) = true) : KI p L L k (k + 1) where
  len := rfl
  le := by omega
  low := by
    rw [take_succ_el hk, List.filter_append]
    have : (L.take k).filter p = L.take k := List.filter_eq_self.2 fun x hx => by
      obtain ⟨j, hj, rfl⟩ := List.mem_iff_getElem.1 hx
      have hjk : j < k := by simp at hj; omega
      rw [List.getElem_take, ← el_get (by omega)]
      exact hall j hjk
    rw [this]
    simp [hp]
  high := fun _ _ => rfl
theorem KI.done {p : Int → Bool} {L M : List Int} {i : Nat} (h : KI p L M i L.length) : M.take i = L.filter p := by rw [h.low, List.take_length]
theorem KI.all {p : Int → Bool} {L : List Int} (hall : ∀ j, j < L.length → p (el L j) = true) : L.filter p = L := List.filter_eq_self.2 fun x hx => by
  obtain ⟨j, hj, rfl⟩ := List.mem_iff_getElem.1 hx
  rw [← el_get hj]
  exact hall j hj
/-- Rows that are written from a place on. -/
theorem Own.setCells {B : Nat} {e : TypeId} {n c g : Nat} (z : Int) : ∀ (m o : Nat) (w : World) (M : List Int), Own w B e 1 (.slice (some ⟨g, 0, none⟩) n c) n M →
    ∃ M', Own (w.setCells g o (List.replicate m (.int .i64 z))) B e 1 (.slice (some ⟨g, 0, none⟩) n c) n M' ∧ M'.take o = M.take o
  | 0, _, _, M, h => ⟨M, h, rfl⟩
  | m + 1, o, w, M, h => by
    obtain ⟨M', h1, h2⟩ := Own.setCells z m (o + 1) _ _ (h.stored o z)
    refine ⟨M', h1, ?_⟩
    have h3 := congrArg (List.take o) h2
    rw [List.take_take, List.take_take, Nat.min_eq_left (by omega), List.take_set_of_le (Nat.le_refl o)] at h3
    exact h3
theorem Q.setCells {a : World} {g : Nat} (hg : a.heap.size ≤ g) : ∀ (vs : List Value) (o : Nat) (w : World), Q a w → Q a (w.setCells g o vs)
  | [], _, _, h => h
  | v :: r, o, _, h => Q.setCells hg r (o + 1) _ (h.setCell (p := ⟨g, o, none⟩) hg v)
theorem Own.cut {w : World} {B : Nat} {e : TypeId} {n c g : Nat} {M : List Int} (h : Own w B e 1 (.slice (some ⟨g, 0, none⟩) n c) n M) {i : Nat} (hi : i ≤ n) : Own w B e 1 (.slice (some ⟨g, 0, none⟩) i c) i (M.take i) := by
  have hl := h.len
  refine ⟨by simp; omega, ?_⟩
  rcases h.2 with ⟨h1, _⟩ | ⟨g', cap, cur, h1, hg, hh, hn, hcm, hcs, hx⟩
  · cases h1
  · injection h1 with h1 _ h3
    subst h3
    refine .inr ⟨g', c, cur, by rw [h1], hg, hh, by omega, hcm, hcs, ?_⟩
    rw [List.map_take, ← hx, List.take_take]
    congr 1
    omega
/-- What a function value needs to stay as it is: C holds on while blocks are made, and while the row in block g is written. -/
structure Stays (C : World → Prop) (g : Nat) : Prop where
  q : ∀ w w', C w → Q w w' → C w'
  set : ∀ w i u, C w → C (w.setCell ⟨g, i, none⟩ u)
/-- A call of slices.IndexFunc tells the first place where p does not hold. -/
def IxR (p : Int → Bool) (L : List Int) (n : Nat) (w : World) (e : Ending) (w' : World) : Prop :=
  Q w w' ∧ ((∃ k : Nat, k < n ∧ e = .returned (.int .i64 k) ∧ p (el L k) = false ∧ ∀ j, j < k → p (el L j) = true) ∨ (e = .returned (.int .i64 (-1)) ∧ ∀ j, j < n → p (el L j) = true))
theorem run_IndexFunc (fn : Nat) (lb : Array Value) (p : Int → Bool) (C : World → Prop) (hC : ∀ w w', C w → Q w w' → C w') (ef : ∀ args w, (callFunc fn args).run Tryz.prog w = .ok (.enter fn args) w)
    (K : ∀ w t, C w → Calls Tryz.prog fn (#[.int .i64 t] ++ lb) w fun e w' => e = .returned (.bool (!p t)) ∧ Q w w')
    (A : Option Addr) (n c : Nat) (L : List Int) (w : World) (ha : Rd w A L) (hn : L.length = n) (hn2 : n ≤ 9223372036854775807) (hc : C w) :
    Calls Tryz.prog 69 #[.slice A n c, .func (.func fn) #[] lb] w (IxR p L n w) := by
  have KK := Lib.hid K
  have HC := Lib.hid hC
  clear K hC
  go_enter Tryz.func69, Tryz.ntmps69
  go_wp2_with fail
  go_loopw [8] (fun i wr => ∃ k : Nat, k ≤ n ∧ i = .int .i64 k ∧ (∀ j, j < k → p (el L j) = true) ∧ Q w wr) (fun i _ => n - (intOf i).toNat)
  case atStart => exact ⟨0, by omega, rfl, fun j hj => absurd hj (by omega), by (repeat (first | assumption | exact Q.refl _ | refine Q.alloc ?_ _ | refine Q.drewN ?_ _ | refine Q.drew ?_))⟩
  case round =>
    obtain ⟨k, hk, rfl, hall, hq⟩ := hrel
    have HA := Lib.hid hall
    clear hall
    by_cases hlt : k < n
    · obtain ⟨b, o, rfl, g0⟩ := (ha.q hq).at1 hn hlt
      have hltI : (k : Int) < (n : Int) := by omega
      have k1 := KK.out wr (el L k) (HC.out _ _ hc hq)
      obtain ⟨u, hu⟩ : ∃ u, u = el L k := ⟨_, rfl⟩
      rw [← hu] at g0 k1
      cases hp : p u
      · rw [hp] at k1
        have HP := Lib.hid hp
        have HU := Lib.hid hu
        clear hp hu
        go_wp2_with (go_at_fn fn; refine k1.mono ?_; rintro e w1 ⟨rfl, q1⟩)
        go_ret
        exact ⟨hq.trans q1, .inl ⟨k, hlt, rfl, by rw [← HU.out]; exact HP.out, HA.out⟩⟩
      · rw [hp] at k1
        have HP := Lib.hid hp
        have HU := Lib.hid hu
        clear hp hu
        go_wp2_with (go_at_fn fn; refine k1.mono ?_; rintro e w1 ⟨rfl, q1⟩)
        go_roundw
        case rel =>
          refine ⟨k + 1, by omega, by go_num, fun j hj => ?_, hq.trans q1⟩
          rcases Nat.lt_or_ge j k with h | h
          · exact HA.out j h
          · obtain rfl : j = k := by omega
            rw [← HU.out]; exact HP.out
        case measure => simp [intOf]; omega
    · obtain rfl : k = n := by omega
      go_wp2_with fail
      go_ret
      exact ⟨hq, .inr ⟨rfl, HA.out⟩⟩
/-- A call of slices.DeleteFunc keeps those for which p holds. -/
def DfR (p : Int → Bool) (L : List Int) (B : Nat) (w0 : World) (e : Ending) (w' : World) : Prop :=
  ∃ A k c, e = .returned (.slice A k c) ∧ Own w' B 2 1 (.slice A k c) k (L.filter p) ∧ Q w0 w'
end Go.Proofs.YtkpdoikjfibflaaGreat
namespace Go.Proofs.YtkpdoikjfibflaaGreat
open Go.RowKit Go.WideShapes Go.ChangeShapes
set_option maxHeartbeats 1000000 in
theorem run_DeleteFunc (fn : Nat) (lb : Array Value) (p : Int → Bool) (C : World → Prop) (A : Option Addr) (hC : ∀ g, A = some ⟨g, 0, none⟩ → Stays C g) (hC0 : ∀ w w', C w → Q w w' → C w') (ef : ∀ args w, (callFunc fn args).run Tryz.prog w = .ok (.enter fn args) w)
    (K : ∀ w t, C w → Calls Tryz.prog fn (#[.int .i64 t] ++ lb) w fun e w' => e = .returned (.bool (!p t)) ∧ Q w w')
    (n c B : Nat) (L : List Int) (w0 w : World) (ho : Own w B 2 1 (.slice A n c) n L) (hn2 : n ≤ 9223372036854775807) (hB : w0.heap.size ≤ B) (hq0 : Q w0 w) (hc : C w) :
    Calls Tryz.prog 43 #[.slice A n c, .func (.func fn) #[] lb] w (DfR p L B w0) := by
  have hL : L.length = n := by have := ho.len; omega
  have hcap := ho.cap
  have KI0 := Lib.hid (run_IndexFunc fn lb p C hC0 ef K A n c L w ho.rd hL hn2 hc)
  have KK := Lib.hid K
  have HL := Lib.hid hL
  have HO := Lib.hid ho
  have HC0 := Lib.hid hC0
  have HC := Lib.hid hC
  clear K hL ho hC hC0
  go_enter Tryz.func43, Tryz.ntmps43
  go_wp2_with fail
  refine KI0.out.mono ?_
  rintro e w1 ⟨q1, ⟨k, hk, rfl, hp, hall⟩ | ⟨rfl, hall⟩⟩
  · obtain ⟨g, rfl, hg⟩ := HO.out.split (by omega)
    have hI := KI.start (p := p) (L := L) (by rw [HL.out]; exact hk) hp hall
    have HI := Lib.hid hI
    have hkne : ((k : Int) == -1) = false := beq_eq_false_iff_ne.2 (by omega)
    clear hp hall hI
    have HS := Lib.hid (HC.out g rfl)
    have hgw : g < w1.heap.size := Nat.lt_of_lt_of_le ((HO.out.from _ rfl).2) q1.size
    go_wp2_with fail
    go_loopw [5, 6, 7] (fun s5 s6 _ wr => ∃ (i j : Nat) (M : List Int), s5 = .int .i64 i ∧ s6 = .int .i64 j ∧ j ≤ n ∧ i < j ∧ Hid (KI p L M i j) ∧ Own wr B 2 1 (.slice (some ⟨g, 0, none⟩) n c) n M ∧ Q w0 wr ∧ C wr) (fun _ s6 _ _ => n - (intOf s6).toNat)
    case atStart => exact ⟨k, k + 1, L, rfl, by go_num, by omega, by omega, HI, HO.out.q q1, hq0.trans q1, HC0.out _ _ hc q1⟩
    case round =>
      obtain ⟨i, j, M, rfl, rfl, hj, hij, HK, hM, hqr, hcr⟩ := hrel
      by_cases hlt : j < n
      · have hltI : (j : Int) < (n : Int) := by omega
        have hiI : (i : Int) < (n : Int) := by omega
        have g0 : wr.cell? ⟨g, j, none⟩ = some (.int .i64 (el L j)) := by
          have h1 := hM.cell (j := j) (by omega)
          rw [← HK.out.high j (Nat.le_refl j)]
          exact h1
        have i0 := hM.cell (j := i) (by omega)
        have fz := hM.frozen
        obtain ⟨u, hu⟩ : ∃ u, u = el L j := ⟨_, rfl⟩
        rw [← hu] at g0
        have HU := Lib.hid hu
        have HM := Lib.hid hM
        clear hu hM
        generalize M.getD i 0 = old at i0
        have k1 := KK.out wr u hcr
        cases hp : p u
        · rw [hp] at k1
          have HP := Lib.hid hp
          clear hp
          go_wp2_with (go_at_fn fn; refine k1.mono ?_; rintro e w2 ⟨rfl, q2⟩)
          go_roundw
          case rel => exact ⟨i, j + 1, M, rfl, by go_num, by omega, by omega, Lib.hid (HK.out.skip (by rw [HL.out]; exact hlt) (by rw [← HU.out]; exact HP.out)), HM.out.q q2, hqr.trans q2, HC0.out _ _ hcr q2⟩
          case measure => simp [intOf]; omega
        · rw [hp] at k1
          have HP := Lib.hid hp
          clear hp
          go_wp2_with (go_at_fn fn; refine k1.mono ?_; rintro e w2 ⟨rfl, q2⟩; have i2 := q2.cell i0; have f2 := (HM.out.q q2).frozen)
          go_roundw
          case rel =>
            refine ⟨i + 1, j + 1, M.set i u, by go_num, by go_num, by omega, by omega, Lib.hid ?_, (HM.out.q q2).stored i u, (hqr.trans q2).setCell (p := ⟨g, i, none⟩) (by simp only; omega) _, HS.out.set _ _ _ (HC0.out _ _ hcr q2)⟩
            rw [HU.out]
            exact HK.out.keep (by rw [HL.out]; exact hlt) (by rw [← HU.out]; exact HP.out)
          case measure => simp [intOf]; omega
      · obtain rfl : j = n := by omega
        have hcl : ∀ ty, (Builtin.clear_ #[50] ty #[.slice (some ⟨g, i, none⟩) (j - i) (c - i)]).run Tryz.prog wr = .ok (.tuple #[]) (wr.setCells g i (List.replicate (j - i) (.int .i64 0))) :=
          fun ty => Lib.run_clear_slice wr _ _ ty _ Tryz.underlying50 (fun w => by kernel_rfl) rfl rfl g i _ _ (by omega) (fun t ht => by rw [hM.cell (j := i + t) (by omega)]; rfl) (fun t _ => hM.frozen _)
        have hii : (i : Int) ≤ (j : Int) := by omega
        have hic : (i : Int) ≤ (c : Int) := by omega
        have HM := Lib.hid hM
        clear hM
        go_wp2_with fail
        go_ret
        obtain ⟨M', h1, h2⟩ := Own.setCells 0 (j - i) i _ _ HM.out
        have h3 := h1.cut (i := i) (by omega)
        rw [h2] at h3
        have hI := HK.out
        rw [← HL.out] at hI
        rw [hI.done] at h3
        exact ⟨_, _, _, rfl, h3, Q.setCells (by omega) _ _ _ hqr⟩
  · have HA := Lib.hid hall
    clear hall
    go_wp2_with fail
    go_ret
    refine ⟨A, n, c, rfl, ?_, hq0.trans q1⟩
    rw [KI.all (by rw [HL.out]; exact HA.out)]
    exact HO.out.q q1
end Go.Proofs.YtkpdoikjfibflaaGreat
namespace Go.Proofs.YtkpdoikjfibflaaGreat
open Go.RowKit Go.WideShapes Go.ChangeShapes
/-- What the function value of NearTimes reads. -/
def NC (gx g1 g2 : Nat) (a b d s : Int) (A1 : Option Addr) (n c1 : Nat) (xs : List Int) (A2 : Option Addr) (m c2 : Nat) (ys : List Int) (w : World) : Prop :=
  Blk w gx 35 #[.int .i64 a, .int .i64 b, .int .i64 d, .int .i64 s] ∧ Blk w g1 39 #[.slice A1 n c1] ∧ Blk w g2 39 #[.slice A2 m c2] ∧ Rd w A1 xs ∧ Rd w A2 ys
theorem NC.q {gx g1 g2 : Nat} {a b d s : Int} {A1 A2 : Option Addr} {n c1 m c2 : Nat} {xs ys : List Int} : ∀ w w', NC gx g1 g2 a b d s A1 n c1 xs A2 m c2 ys w → Q w w' → NC gx g1 g2 a b d s A1 n c1 xs A2 m c2 ys w' :=
  fun _ _ h q => ⟨h.1.q q, h.2.1.q q, h.2.2.1.q q, h.2.2.2.1.q q, h.2.2.2.2.q q⟩
theorem Rd.setFar {w : World} {A : Option Addr} {xs : List Int} {g : Nat} (h : Rd w A xs) (hA : ∀ a, A = some a → a.block ≠ g) (i : Nat) (u : Value) : Rd (w.setCell ⟨g, i, none⟩ u) A xs :=
  h.grown (grown_set (grown_refl w (some g)) i u) fun a ha he => by injection he with he; exact hA a ha he
theorem NC.stays {gx g1 g2 g : Nat} {a b d s : Int} {A1 A2 : Option Addr} {n c1 m c2 : Nat} {xs ys : List Int} (h0 : gx ≠ g) (h1 : g1 ≠ g) (h2 : g2 ≠ g) (hA1 : ∀ a, A1 = some a → a.block ≠ g) (hA2 : ∀ a, A2 = some a → a.block ≠ g) :
    Stays (NC gx g1 g2 a b d s A1 n c1 xs A2 m c2 ys) g where
  q := NC.q
  set := fun _ i u h => ⟨h.1.far (p := ⟨g, i, none⟩) h0 u, h.2.1.far (p := ⟨g, i, none⟩) h1 u, h.2.2.1.far (p := ⟨g, i, none⟩) h2 u, h.2.2.2.1.setFar hA1 i u, h.2.2.2.2.setFar hA2 i u⟩
theorem Rd.lt3 {w : World} {A : Option Addr} {xs : List Int} {n : Nat} (h : Rd w A xs) (hn : xs.length = n * 3) (hT : isTrk xs n = true) : ∀ a, A = some a → a.block < w.heap.size := by
  have h2 : 2 ≤ n := by
    have : (decide (2 ≤ n ∧ n ≤ 40) && fixTo xs n) = true := hT
    simp at this
    omega
  obtain ⟨b, o, rfl, g0, _, _⟩ := h.at3 hn (show 0 < n by omega)
  rintro a ha
  injection ha with ha
  subst ha
  exact World.block_lt_of_cell? w _ g0
theorem impl_clo (gx g1 g2 : Nat) (a b d s : Int) (A1 : Option Addr) (n c1 : Nat) (xs : List Int) (A2 : Option Addr) (m c2 : Nat) (ys : List Int) (hn : xs.length = n * 3) (h1 : isTrk xs n = true) (hm : ys.length = m * 3) (h2 : isTrk ys m = true) (hw : isWat a b d s = true) (w : World) (t : Int)
    (hc : NC gx g1 g2 a b d s A1 n c1 xs A2 m c2 ys w) :
    Calls Tryz.prog 44 (#[.int .i64 t] ++ #[.pointer (some ⟨gx, 0, none⟩), .pointer (some ⟨g1, 0, none⟩), .pointer (some ⟨g2, 0, none⟩)]) w fun e w' => e = .returned (.bool (!naR a d xs n ys m t)) ∧ Q w w' := by
  obtain ⟨B1, B2, B3, ha, hb⟩ := hc
  have K := Lib.hid (impl_near a b d s A1 n c1 xs A2 m c2 ys t w ha hn h1 hb hm h2 hw)
  generalize naR a d xs n ys m t = R at *
  have k1 := B1.cell
  have k2 := B2.cell
  have k3 := B3.cell
  have l1 := B1.lt
  have l2 := B2.lt
  have l3 := B3.lt
  clear ha hb hn hm h1 h2 hw
  go_enter Tryz.func44, Tryz.ntmps44
  go_wp2_with fail
  refine K.out.mono ?_
  rintro e w1 ⟨rfl, q1⟩
  go_wp2_with fail
  go_ret
  exact ⟨rfl, q1⟩
/-- The near times. -/
def ntL (a b d s : Int) (xs : List Int) (n : Nat) (ys : List Int) (m : Nat) : List Int := (ctimL a b d s xs n ys m).filter (naR a d xs n ys m)
theorem ntL_len (a b d s : Int) (xs : List Int) (n : Nat) (ys : List Int) (m : Nat) : (ntL a b d s xs n ys m).length ≤ 401 := Nat.le_trans (List.length_filter_le _ _) (ctimL_len a b d s xs n ys m)
theorem ctim_no {a b d s : Int} {xs ys : List Int} {n m : Nat} (h : ¬ ctimC a b d s xs n ys m = 0) : ctimL a b d s xs n ys m = [] := by
  cases hv : (isWat a b d s && isTrk xs n && isTrk ys m)
  · exact (ctim_bad hv).2
  · have hv' : (isWat a b d s = true ∧ isTrk xs n = true) ∧ isTrk ys m = true := by simpa using hv
    obtain ⟨e1, e2⟩ := ctim_ok hv'.1.1 hv'.1.2 hv'.2
    rw [e1] at h
    rw [e2]
    cases hg : ckGo s (ckTo xs n ys m) 401 (ckFrom s xs ys) with
    | none => rfl
    | some L => rw [hg] at h; exact absurd rfl h
theorem ctim_yes {a b d s : Int} {xs ys : List Int} {n m : Nat} (h : ctimC a b d s xs n ys m = 0) : isWat a b d s = true ∧ isTrk xs n = true ∧ isTrk ys m = true := by
  cases hv : (isWat a b d s && isTrk xs n && isTrk ys m)
  · rw [(ctim_bad hv).1] at h; cases h
  · have hv' : (isWat a b d s = true ∧ isTrk xs n = true) ∧ isTrk ys m = true := by simpa using hv
    exact ⟨hv'.1.1, hv'.1.2, hv'.2⟩
/-- Those of the first k that p holds. -/
def fiTo (p : Int → Bool) (L : List Int) (k : Nat) : List Int := (L.take k).filter p
theorem fiTo_no {p : Int → Bool} {L : List Int} {k : Nat} (hk : k < L.length) (h : p (el L k) = false) : fiTo p L (k + 1) = fiTo p L k := by unfold fiTo; rw [take_succ_el hk, List.filter_append]; simp [h]
theorem fiTo_yes {p : Int → Bool} {L : List Int} {k : Nat} (hk : k < L.length) (h : p (el L k) = true) : fiTo p L (k + 1) = fiTo p L k ++ [el L k] := by unfold fiTo; rw [take_succ_el hk, List.filter_append]; simp [h]
theorem fiTo_len (p : Int → Bool) (L : List Int) (k : Nat) : (fiTo p L k).length ≤ k := Nat.le_trans (List.length_filter_le _ _) (by simp; omega)
theorem fiTo_all (p : Int → Bool) (L : List Int) : fiTo p L L.length = L.filter p := by unfold fiTo; rw [List.take_length]
set_option maxHeartbeats 1000000 in
theorem impl_NearTimes (a b d s : Int) (A1 : Option Addr) (n c1 : Nat) (xs : List Int) (A2 : Option Addr) (m c2 : Nat) (ys : List Int) (w : World) (ha : Rd w A1 xs) (hn : xs.length = n * 3) (hn2 : n ≤ 9223372036854775807) (hb : Rd w A2 ys) (hm : ys.length = m * 3) (hm2 : m ≤ 9223372036854775807) :
    Calls Tryz.prog 20 #[.agg #[.int .i64 a, .int .i64 b, .int .i64 d, .int .i64 s], .agg #[.slice A1 n c1], .agg #[.slice A2 m c2]] w (RS w 2 1 (ntL a b d s xs n ys m).length (ntL a b d s xs n ys m) (ctimC a b d s xs n ys m)) := by
  have hB := fun w1 (q : Q (((w.alloc (.cells #[.int .i64 a, .int .i64 b, .int .i64 d, .int .i64 s] 35)).alloc (.cells #[.slice A1 n c1] 39)).alloc (.cells #[.slice A2 m c2] 39)) w1) => (show Blk w1 w.heap.size 35 #[.int .i64 a, .int .i64 b, .int .i64 d, .int .i64 s] ∧ Blk w1 (w.heap.size + 1) 39 #[.slice A1 n c1] ∧ Blk w1 (w.heap.size + 1 + 1) 39 #[.slice A2 m c2] from ⟨q.boxB3, by simpa using q.boxB2, by simpa using q.boxB⟩)
  have Q0 : Q w (((w.alloc (.cells #[.int .i64 a, .int .i64 b, .int .i64 d, .int .i64 s] 35)).alloc (.cells #[.slice A1 n c1] 39)).alloc (.cells #[.slice A2 m c2] 39)) := by (repeat (first | assumption | exact Q.refl _ | refine Q.alloc ?_ _ | refine Q.drewN ?_ _ | refine Q.drew ?_))
  have K1 := Lib.hid (fun wv (h1 : Rd wv A1 xs) (h2 : Rd wv A2 ys) => impl_CheckTimes a b d s A1 n c1 xs A2 m c2 ys wv h1 hn hn2 h2 hm hm2)
  by_cases hC : ctimC a b d s xs n ys m = 0
  · obtain ⟨hw, h1, h2⟩ := ctim_yes hC
    have lA1 := ha.lt3 hn h1
    have lA2 := hb.lt3 hm h2
    have hLn := ctimL_len a b d s xs n ys m
    rw [hC] at K1 ⊢
    have KD := Lib.hid (fun (A : Option Addr) (k c B : Nat) (wv w0 : World) ho h401 hB hq hN hst => run_DeleteFunc 44 #[.pointer (some ⟨w.heap.size, 0, none⟩), .pointer (some ⟨w.heap.size + 1, 0, none⟩), .pointer (some ⟨w.heap.size + 1 + 1, 0, none⟩)] (naR a d xs n ys m) (NC w.heap.size (w.heap.size + 1) (w.heap.size + 1 + 1) a b d s A1 n c1 xs A2 m c2 ys) A hst NC.q (enters_of Tryz.func44 (by kernel_rfl) rfl)
      (fun wz t hz => impl_clo _ _ _ a b d s A1 n c1 xs A2 m c2 ys hn h1 hm h2 hw wz t hz) k c B (ctimL a b d s xs n ys m) w0 wv ho h401 hB hq hN)
    have HT : Hid (ntL a b d s xs n ys m = (ctimL a b d s xs n ys m).filter (naR a d xs n ys m)) := Lib.hid rfl
    clear hn hm h1 h2 hw hC
    generalize ntL a b d s xs n ys m = N at *
    generalize ctimL a b d s xs n ys m = L at *
    go_enter Tryz.func20, Tryz.ntmps20
    go_wp2_with fail
    refine (K1.out _ (ha.q Q0) (hb.q Q0)).mono ?_
    rintro e1 w1 ⟨A, c, rfl, ho, q1⟩
    obtain ⟨b1, b2, b3⟩ := hB _ q1
    have Q1 := Q0.trans q1
    have z0 : (((w.alloc (.cells #[.int .i64 a, .int .i64 b, .int .i64 d, .int .i64 s] 35)).alloc (.cells #[.slice A1 n c1] 39)).alloc (.cells #[.slice A2 m c2] 39)).heap.size = w.heap.size + 1 + 1 + 1 := by simp
    have hgo := ho.from
    rw [z0] at ho hgo
    go_wp2_with fail
    refine (KD.out A L.length c _ w1 w ho (by omega) (by omega) Q1 ⟨b1, b2, b3, ha.q Q1, hb.q Q1⟩ (fun g hg => NC.stays (by have := hgo _ hg; simp only at this; omega) (by have := hgo _ hg; simp only at this; omega) (by have := hgo _ hg; simp only at this; omega) (fun a ha' => by have := lA1 a ha'; have := hgo _ hg; simp only at this; omega) (fun a ha' => by have := lA2 a ha'; have := hgo _ hg; simp only at this; omega))).mono ?_
    rintro e2 w2 ⟨A5, k5, c5, rfl, o5, q5⟩
    rw [← HT.out] at o5
    have hk5 : k5 = N.length := by have := o5.len; omega
    subst hk5
    go_wp2_with fail
    go_ret2
    exact ⟨A5, c5, rfl, o5.mono (by omega), q5⟩
  · have hL := ctim_no hC
    have hLL : ntL a b d s xs n ys m = [] := by unfold ntL; rw [hL]; rfl
    rw [hLL]
    rw [hL] at K1
    clear hL hLL hn hm
    generalize ctimC a b d s xs n ys m = C at *
    go_enter Tryz.func20, Tryz.ntmps20
    go_wp2_with fail
    refine (K1.out _ (ha.q Q0) (hb.q Q0)).mono ?_
    rintro e1 w1 ⟨A, c, rfl, ho, q1⟩
    go_wp2_with fail
    go_ret2
    exact RS.nil _ _ _ _ _ (Q0.trans q1)
end Go.Proofs.YtkpdoikjfibflaaGreat
