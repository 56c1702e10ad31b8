/- Walks: the times at which a track crosses lines one after the other, as the program and the reference find them. No condition. -/
import Derived.Test.YteofhfefbphjdaaGreatDoorMkL
import Derived.Test.YteofhfefbphjdaaGreatDoorFirS
import Derived.Test.YteofhfefbphjdaaGreatDoorStI
import Derived.Deep.RegionHeld3
import Derived.Deep.CutBlock
import Derived.Deep.AppendLies
import Derived.RegionTactic
namespace Go.Proofs.YteofhfefbphjdaaGreatDoor
open Go.RowKit Go.WideShapes Go.ChangeShapes
/-- The crossing of line k from a time on, its time. -/
def tcV (L ys : List Int) (m k : Nat) (fr : Int) : Int := fcV (el L (k * 4)) (el L (k * 4 + 1)) (el L (k * 4 + 2)) (el L (k * 4 + 3)) ys m 1 fr
def tcT (L ys : List Int) (m k : Nat) (fr : Int) : Int := el (crL (el L (k * 4)) (el L (k * 4 + 1)) (el L (k * 4 + 2)) (el L (k * 4 + 3)) ys (m - 1)) ((tcV L ys m k fr).toNat * 5)
/-- The time at which k lines are crossed; are they all; the times. -/
def taF (L ys : List Int) (m : Nat) : Nat → Int
  | 0 => 0
  | k + 1 => tcT L ys m k (taF L ys m k)
def taOk (L ys : List Int) (m : Nat) : Nat → Bool
  | 0 => true
  | k + 1 => taOk L ys m k && decide (0 ≤ tcV L ys m k (taF L ys m k))
def taL (L ys : List Int) (m : Nat) : Nat → List Int
  | 0 => []
  | k + 1 => taL L ys m k ++ [taF L ys m (k + 1)]
theorem taL_len (L ys : List Int) (m : Nat) : ∀ k, (taL L ys m k).length = k
  | 0 => rfl
  | k + 1 => by rw [taL, List.length_append, taL_len L ys m k]; rfl
theorem taOk_no {L ys : List Int} {m k : Nat} (h : taOk L ys m k = false) : ∀ d, taOk L ys m (k + d) = false
  | 0 => h
  | d + 1 => by rw [← Nat.add_assoc, taOk, taOk_no h d]; rfl
theorem taL_last {L ys : List Int} {m k : Nat} : el (taL L ys m (k + 1)) k = taF L ys m (k + 1) := by
  rw [taL]
  unfold el
  rw [List.getD_eq_getElem?_getD, List.getElem?_append_right (by rw [taL_len]; exact Nat.le_refl _), taL_len, Nat.sub_self]
  rfl
set_option maxRecDepth 100000 in
/-- append of all elements of a slice that reads as ys, at a step of a region that draws its order. -/
theorem stepKs9 {wr : World} {ops : Array Oper} {o : Oper} {a : Act} {K : Act → World → Prop} {R : Exit → Act → World → Prop} {E0 : Prop} {st e : TypeId} {k : Nat} (E : EltT st e k) (hgd : o.guard = none) (s x : Operand)
    (ho : o.op = .call { callee := .builtin .append, args := #[s, x], argTypes := #[st, st] })
    {B : Nat} {A : Option Addr} {n c : Nat} {xs : List Int} (hs : a.eval s = .slice A n c) (hown : Own wr B e k (.slice A n c) n xs)
    {m d b o' : Nat} {ys : List Int} (hx : a.eval x = .slice (some ⟨b, o', none⟩) m d) (hr : ∀ j, j < ys.length → wr.cell? ⟨b, o' + j, none⟩ = some (.int .i64 (ys.getD j 0))) (hl : ys.length = m * k)
    (hm : 0 < m) (hn : n + m ≤ 1073741823) (hB : B ≤ wr.heap.size)
    (h : ∀ g c' w', Own w' B e k (.slice (some ⟨g, 0, none⟩) (n + m) c') (n + m) (xs ++ ys) → wr.grownBy w' (A.map (·.block)) → g < w'.heap.size → K (a.put o.dst (.slice (some ⟨g, 0, none⟩) (n + m) c')) w') :
    if Region.wanted o (yielded ops a.tmps) = true then Oper.wp Tryz.prog o a wr K R else E0 := by
  obtain ⟨i, z, hu, hi, hz0, hz1, hz2, hz3, hk⟩ := E
  refine step_append_lies wr hgd s x st ho B e i z k i.bytes hu hi hz0 hz1 rfl (by rw [hz3]; simp) hk (.slice A n c) n _ hs hown ⟨b, o', none⟩ m d (ys.map (Value.int .i64)) hx (by simpa using hl) ?_ (ints_one ys) hm (by unfold maxLen; omega) ?_ hB _ rfl ?_
  · intro j u hu
    rw [List.getElem?_map] at hu
    have hj : j < ys.length := by
      rcases Nat.lt_or_ge j ys.length with h | h
      · exact h
      · rw [List.getElem?_eq_none h] at hu; cases hu
    rw [Go.WideShapes.add_plain, hr j hj, List.getD_eq_getElem?_getD]
    rw [List.getElem?_eq_getElem hj] at hu ⊢
    simpa using hu
  · exact Nat.le_trans (Nat.mul_le_mul hn hz2) (by decide)
  · intro g cap w' h1 h2 _ h4
    rw [← List.map_append] at h1
    exact h g cap w' h1 (by cases A <;> simpa [Value.ownBlock] using h2) h4
theorem lit1 {w : World} {l : Nat} {T : TypeId} {a : Int} (h : Blk w l T #[.int .i64 a]) : ∀ j, j < [a].length → w.cell? ⟨l, 0 + j, none⟩ = some (.int .i64 ([a].getD j 0)) := by
  intro j hj
  rw [Nat.zero_add, h.cell j]
  match j, hj with
  | 0, _ => rfl
def lnsOk (L : List Int) (N : Nat) : Prop := ∀ k, k < N → lnB (el L (k * 4)) (el L (k * 4 + 1)) (el L (k * 4 + 2)) (el L (k * 4 + 3)) = true
theorem Rd.at4 {w : World} {A : Option Addr} {xs : List Int} {n k : Nat} (h : Rd w A xs) (hn : xs.length = n * 4) (hk : k < n) :
    ∃ b o, A = some ⟨b, o, none⟩ ∧ w.cell? ⟨b, o + k * 4, none⟩ = some (.int .i64 (el xs (k * 4))) ∧ w.cell? ⟨b, o + k * 4 + 1, none⟩ = some (.int .i64 (el xs (k * 4 + 1))) ∧ w.cell? ⟨b, o + k * 4 + 2, none⟩ = some (.int .i64 (el xs (k * 4 + 2))) ∧
      w.cell? ⟨b, o + k * 4 + 3, none⟩ = some (.int .i64 (el xs (k * 4 + 3))) := by
  obtain ⟨b, o, hA, hc⟩ := h
  exact ⟨b, o, hA (by omega), hc _ (by omega), by rw [Nat.add_assoc]; exact hc _ (by omega), by rw [Nat.add_assoc]; exact hc _ (by omega), by rw [Nat.add_assoc]; exact hc _ (by omega)⟩
theorem lns_app {L : List Int} {N : Nat} (hL : L.length = N * 4) (h : lnsOk L N) {e f g i : Int} (hl : lnB e f g i = true) : lnsOk (L ++ [e, f, g, i]) (N + 1) := by
  intro k hk
  by_cases hkN : k < N
  · rw [elA_lt (by omega), elA_lt (by omega), elA_lt (by omega), elA_lt (by omega)]
    exact h k hkN
  · obtain rfl : k = N := by omega
    have e0 := elA_ge (L := L) (E := [e, f, g, i]) (j := 0)
    have e1 := elA_ge (L := L) (E := [e, f, g, i]) (j := 1)
    have e2 := elA_ge (L := L) (E := [e, f, g, i]) (j := 2)
    have e3 := elA_ge (L := L) (E := [e, f, g, i]) (j := 3)
    rw [hL] at e0 e1 e2 e3
    rw [show k * 4 = k * 4 + 0 from rfl, e0, e1, e2, e3]
    exact hl
theorem clTo_ok {a b c d : Int} {ms : List Mk} (h0 : lnB a b c d = true) : ∀ K, (∀ k, k < K → clOk a b c d ms k = true) → lnsOk (clTo a b c d ms K) (K + 1)
  | 0, _ => fun k hk => by obtain rfl : k = 0 := (by omega); exact h0
  | K + 1, h => by
    rw [clTo]
    exact lns_app (clTo_len a b c d ms K) (clTo_ok h0 K fun k hk => h k (by omega)) (h K (by omega))
theorem clL_ok {a b c d p q r s : Int} {ms : List Mk} {n : Nat} (hn : ms.length = n) (hc : crsB a b c d p q r s ms = true) (hall : clAll a b c d ms n = true) : lnsOk (clL a b c d p q r s ms) (n + 2) := by
  obtain ⟨h1, h2, _⟩ := crs_yes hc
  unfold clL
  rw [hn]
  exact lns_app (clTo_len a b c d ms n) (clTo_ok h1 n fun k hk => clAll_at hall hk) h2
/-- What both make: the times as far as they go. -/
def TA (w : World) (N : Nat) (L ys : List Int) (m : Nat) (e : Ending) (w' : World) : Prop :=
  ∃ A k c, e = .returned (.slice A k c) ∧ Own w' w.heap.size 2 1 (.slice A k c) k (taL L ys m k) ∧ Q w w' ∧ k ≤ N ∧ taOk L ys m k = true ∧ (k = N ∨ taOk L ys m (k + 1) = false)
set_option maxRecDepth 100000 in
set_option maxHeartbeats 8000000 in
theorem impl_timesAcross (B : Option Addr) (N cb : Nat) (L : List Int) (A : Option Addr) (m cc : Nat) (ys : List Int) (w : World) (hb : Rd w B L) (hL : L.length = N * 4) (hN : 1 ≤ N) (hN2 : N ≤ 1000) (hl : lnsOk L N) (ha : Rd w A ys) (hm : ys.length = m * 3) (hT : isTrk ys m = true) :
    Calls Tryz.prog 56 #[.slice B N cb, .agg #[.slice A m cc]] w (TA w N L ys m) := by
  have HLN := Lib.hid hL
  have HL := Lib.hid hl
  have HM := Lib.hid hm
  have HT := Lib.hid hT
  have HFS := Lib.hid (fun k => (show taF L ys m (k + 1) = tcT L ys m k (taF L ys m k) from rfl))
  have HOS := Lib.hid (fun k => (show taOk L ys m (k + 1) = (taOk L ys m k && decide (0 ≤ tcV L ys m k (taF L ys m k))) from rfl))
  have HLS := Lib.hid (fun k => (show taL L ys m (k + 1) = taL L ys m k ++ [taF L ys m (k + 1)] from rfl))
  obtain ⟨b1, o1, rfl, _, _, _, _⟩ := hb.at4 hL (show 0 < N by omega)
  obtain ⟨W, hW⟩ : ∃ W, W = w.alloc (.cells #[.slice A m cc] 43) := ⟨_, rfl⟩
  have B0 : Blk W w.heap.size 43 #[.slice A m cc] := by rw [hW]; exact Blk.new _ _ _
  have Q0 : Q w W := by rw [hW]; (repeat (first | assumption | exact Q.refl _ | refine Q.alloc ?_ _ | refine Q.drewN ?_ _ | refine Q.drew ?_))
  have zW : W.heap.size = w.heap.size + 1 := by rw [hW]; simp
  have HW := Lib.hid hW
  have hNI : (N : Int) ≤ 1000 := by omega
  clear hW hL hl hm hT
  go_enter Tryz.func56, Tryz.ntmps56
  go_wp2_with fail
  rw [← HW.out, ← zW]
  clear zW
  go_loopw [5, 6, 14] (fun v u i wr => ∃ (k : Nat) (A1 : Option Addr) (c1 : Nat), k ≤ N ∧ i = .int .i64 k ∧ v = .slice A1 k c1 ∧ u = .int .i64 (taF L ys m k) ∧ taOk L ys m k = true ∧ Own wr W.heap.size 2 1 (.slice A1 k c1) k (taL L ys m k) ∧ Q W wr) (fun _ _ i _ => N - (intOf i).toNat)
  case atStart => exact ⟨0, _, _, Nat.zero_le _, rfl, rfl, rfl, rfl, Own.lit W 2 1 0 [] rfl (Nat.le_refl _) rfl (by decide), by (repeat (first | assumption | exact Q.refl _ | refine Q.alloc ?_ _ | refine Q.drewN ?_ _ | refine Q.drew ?_))⟩
  case round =>
    obtain ⟨k, A1, c1, hk, rfl, rfl, rfl, hok, hown, hq⟩ := hrel
    have b0 := (B0.q hq).cell
    have l0 := (B0.q hq).lt
    have hsz := hq.size
    by_cases hlt : k < N
    · have hltI : (k : Int) < (N : Int) := by omega
      have hkI0 : (0 : Int) ≤ (k : Int) := by omega
      obtain ⟨b1, o1, hA, g0, g1, g2, g3⟩ := (hb.q (Q0.trans hq)).at4 HLN.out hlt
      cases hA
      have HF := Lib.hid (HFS.out k)
      have HO := Lib.hid (HOS.out k)
      have HLs := Lib.hid (HLS.out k)
      have kf := fun wv (h : Rd wv A ys) => impl_firstCrossing A m cc ys (el L (k * 4)) (el L (k * 4 + 1)) (el L (k * 4 + 2)) (el L (k * 4 + 3)) 1 (taF L ys m k) wv h HM.out HT.out (HL.out k hlt)
      rw [show fcV (el L (k * 4)) (el L (k * 4 + 1)) (el L (k * 4 + 2)) (el L (k * 4 + 3)) ys m 1 (taF L ys m k) = tcV L ys m k (taF L ys m k) from rfl] at kf
      unfold tcT at HF
      generalize tcV L ys m k (taF L ys m k) = V at *
      generalize crL (el L (k * 4)) (el L (k * 4 + 1)) (el L (k * 4 + 2)) (el L (k * 4 + 3)) ys (m - 1) = CL at *
      obtain ⟨X, hX⟩ : ∃ X, X = taF L ys m (k + 1) := ⟨_, rfl⟩
      rw [← hX] at HF HLs
      have HX := Lib.hid hX
      clear hX
      generalize taF L ys m k = X0 at *
      generalize el L (k * 4) = e at *
      generalize el L (k * 4 + 1) = f at *
      generalize el L (k * 4 + 2) = g at *
      generalize el L (k * 4 + 3) = h at *
      have lb1 := World.block_lt_of_cell? _ _ g0
      have q8 : Q wr (wr.alloc (.cells #[.int .i64 e, .int .i64 f, .int .i64 g, .int .i64 h] 27)) := by (repeat (first | assumption | exact Q.refl _ | refine Q.alloc ?_ _ | refine Q.drewN ?_ _ | refine Q.drew ?_))
      by_cases hV : V < 0
      · have hdv : decide (0 ≤ V) = false := decide_eq_false (by omega)
        have HE := Lib.hid (show taOk L ys m (k + 1) = false by rw [HO.out, hok, hdv]; rfl)
        rw [hdv, fcA_neg hV] at kf
        have KF := Lib.hid kf
        clear kf hdv
        go_wp2_with fail
        refine (KF.out _ (ha.q ((Q0.trans hq).trans q8))).mono ?_
        rintro e5 w5 ⟨rfl, q5⟩
        go_wp2_with fail
        go_ret
        exact ⟨_, _, _, rfl, ((hown.q (q8.trans q5)).q (by (repeat (first | assumption | exact Q.refl _ | refine Q.alloc ?_ _ | refine Q.drewN ?_ _ | refine Q.drew ?_)))).mono Q0.size, (Q0.trans (hq.trans (q8.trans q5))).trans (by (repeat (first | assumption | exact Q.refl _ | refine Q.alloc ?_ _ | refine Q.drewN ?_ _ | refine Q.drew ?_))), hk, hok, .inr HE.out⟩
      · have hdv : decide (0 ≤ V) = true := decide_eq_true (by omega)
        have HE := Lib.hid (show taOk L ys m (k + 1) = true by rw [HO.out, hok, hdv]; rfl)
        rw [hdv, fcA_pos hV, ← HF.out] at kf
        generalize el CL (V.toNat * 5 + 1) = y1 at *
        generalize el CL (V.toNat * 5 + 2) = y2 at *
        generalize el CL (V.toNat * 5 + 3) = y3 at *
        generalize el CL (V.toNat * 5 + 4) = y4 at *
        have KF := Lib.hid kf
        clear kf hdv
        go_wp2_with fail
        refine (KF.out _ (ha.q ((Q0.trans hq).trans q8))).mono ?_
        rintro e5 w5 ⟨rfl, q5⟩
        have q85 := q8.trans q5
        have hsz5 := q85.size
        go_upto_region 7 with (fail)
        have BX := Blk.new w5 79 #[.int .i64 X, .int .i64 y1, .int .i64 y2, .int .i64 y3, .int .i64 y4]
        have QX : Q w5 (w5.alloc (.cells #[.int .i64 X, .int .i64 y1, .int .i64 y2, .int .i64 y3, .int .i64 y4] 79)) := (Q.refl _).alloc _
        have own6 := (hown.q q85).q QX
        have q6 := hq.trans (q85.trans QX)
        have hsz6 := QX.size
        generalize w5.alloc (.cells #[.int .i64 X, .int .i64 y1, .int .i64 y2, .int .i64 y3, .int .i64 y4] 79) = w6 at *
        have hC : ∀ w', Q w6 w' → w'.cell? ⟨w5.heap.size, 0, none⟩ = some (.int .i64 X) := fun w' q => (BX.q q).cell 0
        go_region_held3 (fun w' => w'.cell? ⟨w5.heap.size, 0, none⟩ = some (.int .i64 X)) (first | exact hC8 | exact hC _ (by ((repeat (first | assumption | exact Q.refl _ | refine Q.alloc ?_ _ | refine Q.drewN ?_ _ | refine Q.drew ?_)); done))) (first | (refine stepKs9 elInt64 (by rfl) _ _ (by rfl) (by rfl) (own6.q (by ((repeat (first | assumption | exact Q.refl _ | refine Q.alloc ?_ _ | refine Q.drewN ?_ _ | refine Q.drew ?_)); done))) (by rfl) (lit1 (by (repeat (first | exact Blk.newZ rfl | refine Blk.q ?_ ((Q.refl _).alloc _) | refine Blk.q ?_ ((Q.refl _).drew))))) (by rfl) (by decide) (by omega) (by simp; omega) ?_; intro g8 c8 w8 hown8 hg8 hl8; have q8 := Q.mark (q6.trans (by ((repeat (first | assumption | exact Q.refl _ | refine Q.alloc ?_ _ | refine Q.drewN ?_ _ | refine Q.drew ?_)); done))) (own6.q (by ((repeat (first | assumption | exact Q.refl _ | refine Q.alloc ?_ _ | refine Q.drewN ?_ _ | refine Q.drew ?_)); done))) (Nat.le_refl _) hg8; have BX8 := Blk.markO (BX.q (by ((repeat (first | assumption | exact Q.refl _ | refine Q.alloc ?_ _ | refine Q.drewN ?_ _ | refine Q.drew ?_)); done))) (own6.q (by ((repeat (first | assumption | exact Q.refl _ | refine Q.alloc ?_ _ | refine Q.drewN ?_ _ | refine Q.drew ?_)); done))) (by decide) hg8; have hC8 := BX8.cell 0))
        go_wp2_with fail
        go_roundw
        case rel => exact ⟨k + 1, _, _, by omega, by go_num, rfl, by rw [HX.out], HE.out, by rw [HLs.out]; exact hown8.q (by (repeat (first | assumption | exact Q.refl _ | refine Q.alloc ?_ _ | refine Q.drewN ?_ _ | refine Q.drew ?_))), q8.trans (by (repeat (first | assumption | exact Q.refl _ | refine Q.alloc ?_ _ | refine Q.drewN ?_ _ | refine Q.drew ?_)))⟩
        case measure => simp [intOf]; omega
    · obtain rfl : k = N := by omega
      go_wp2_with fail
      go_ret
      exact ⟨_, _, _, rfl, hown.mono Q0.size, Q0.trans hq, hk, hok, .inl rfl⟩
set_option maxRecDepth 100000 in
set_option maxHeartbeats 8000000 in
theorem spec_l06Times (a b c d p q r s : Int) (A0 : Option Addr) (n c0 : Nat) (ms : List Mk) (A : Option Addr) (m cc : Nat) (ys : List Int) (w : World) (hm0 : RdM w A0 ms) (hn : ms.length = n) (hc : crsB a b c d p q r s ms = true) (hall : clAll a b c d ms n = true) (ha : Rd w A ys) (hm : ys.length = m * 3) (hT : isTrk ys m = true) :
    Calls Tryz.prog 93 #[.agg #[.int .i64 a, .int .i64 b, .int .i64 c, .int .i64 d, .int .i64 p, .int .i64 q, .int .i64 r, .int .i64 s, .slice A0 n c0], .agg #[.slice A m cc]] w (TA w (n + 2) (clL a b c d p q r s ms) ys m) := by
  have kl : ∀ wv, RdM wv A0 ms → Calls Tryz.prog 39 #[.agg #[.int .i64 a, .int .i64 b, .int .i64 c, .int .i64 d, .int .i64 p, .int .i64 q, .int .i64 r, .int .i64 s, .slice A0 n c0]] wv (RSB wv 27 4 (n + 2) (clL a b c d p q r s ms) true) := fun wv h => by
    have := spec_l06Lines a b c d p q r s A0 n c0 ms wv h hn hc
    unfold CLs at this
    rw [hall] at this
    exact this
  have KL := Lib.hid kl
  have hlen8 : n ≤ 8 := by obtain ⟨_, _, h3, _⟩ := crs_yes hc; omega
  have hl := clL_ok hn hc hall
  have hL : (clL a b c d p q r s ms).length = (n + 2) * 4 := by rw [clL_len, hn]
  clear kl hc hall hn
  generalize clL a b c d p q r s ms = L at *
  obtain ⟨N, hN⟩ : ∃ N, N = n + 2 := ⟨_, rfl⟩
  rw [← hN] at KL hl hL ⊢
  have hN2 : N ≤ 1000 := by omega
  have hN1 : 0 < N := by omega
  clear hN
  have HLN := Lib.hid hL
  have HL := Lib.hid hl
  have HM := Lib.hid hm
  have HT := Lib.hid hT
  have HFS := Lib.hid (fun k => (show taF L ys m (k + 1) = tcT L ys m k (taF L ys m k) from rfl))
  have HOS := Lib.hid (fun k => (show taOk L ys m (k + 1) = (taOk L ys m k && decide (0 ≤ tcV L ys m k (taF L ys m k))) from rfl))
  have HLS := Lib.hid (fun k => (show taL L ys m (k + 1) = taL L ys m k ++ [taF L ys m (k + 1)] from rfl))
  obtain ⟨W, hW⟩ : ∃ W, W = (w.alloc (.cells #[.int .i64 a, .int .i64 b, .int .i64 c, .int .i64 d, .int .i64 p, .int .i64 q, .int .i64 r, .int .i64 s, .slice A0 n c0] 30)).alloc (.cells #[.slice A m cc] 43) := ⟨_, rfl⟩
  have B0 : Blk W (w.heap.size + 1) 43 #[.slice A m cc] := by rw [hW]; exact Blk.new1 _ _ _ _
  have Q0 : Q w W := by rw [hW]; (repeat (first | assumption | exact Q.refl _ | refine Q.alloc ?_ _ | refine Q.drewN ?_ _ | refine Q.drew ?_))
  have HW := Lib.hid hW
  have hNI : (N : Int) ≤ 1000 := by omega
  clear hW hL hl hm hT hlen8
  go_enter Tryz.func93, Tryz.ntmps93
  go_wp2_with fail
  rw [← HW.out]
  refine (KL.out _ (hm0.q Q0)).mono ?_
  rintro e1 w1 ⟨B, cb, rfl, ol, q1⟩
  obtain ⟨bl, rfl, _⟩ := ol.split hN1
  replace B0 := B0.q q1
  replace Q0 := Q0.trans q1
  have hb := ol.rd
  clear hm0 q1
  go_wp2_with fail
  go_loopw [7, 8, 9] (fun v u i wr => ∃ (k : Nat) (A1 : Option Addr) (c1 : Nat), k ≤ N ∧ i = .int .i64 k ∧ v = .slice A1 k c1 ∧ u = .int .i64 (taF L ys m k) ∧ taOk L ys m k = true ∧ Own wr w1.heap.size 2 1 (.slice A1 k c1) k (taL L ys m k) ∧ Q w1 wr) (fun _ _ i _ => N - (intOf i).toNat)
  case atStart => exact ⟨0, _, _, Nat.zero_le _, rfl, rfl, rfl, rfl, Own.lit w1 2 1 0 [] rfl (Nat.le_refl _) rfl (by decide), by (repeat (first | assumption | exact Q.refl _ | refine Q.alloc ?_ _ | refine Q.drewN ?_ _ | refine Q.drew ?_))⟩
  case round =>
    obtain ⟨k, A1, c1, hk, rfl, rfl, rfl, hok, hown, hq⟩ := hrel
    have b0 := (B0.q hq).cell
    have l0 := (B0.q hq).lt
    have hsz := hq.size
    by_cases hlt : k < N
    · have hltI : (k : Int) < (N : Int) := by omega
      have hkI0 : (0 : Int) ≤ (k : Int) := by omega
      obtain ⟨b1, o1, hA, g0, g1, g2, g3⟩ := (hb.q hq).at4 HLN.out hlt
      cases hA
      have HF := Lib.hid (HFS.out k)
      have HO := Lib.hid (HOS.out k)
      have HLs := Lib.hid (HLS.out k)
      have kf := fun wv (h : Rd wv A ys) => spec_First A m cc ys (el L (k * 4)) (el L (k * 4 + 1)) (el L (k * 4 + 2)) (el L (k * 4 + 3)) 1 (taF L ys m k) wv h HM.out HT.out (HL.out k hlt)
      rw [show fcV (el L (k * 4)) (el L (k * 4 + 1)) (el L (k * 4 + 2)) (el L (k * 4 + 3)) ys m 1 (taF L ys m k) = tcV L ys m k (taF L ys m k) from rfl] at kf
      unfold tcT at HF
      generalize tcV L ys m k (taF L ys m k) = V at *
      generalize crL (el L (k * 4)) (el L (k * 4 + 1)) (el L (k * 4 + 2)) (el L (k * 4 + 3)) ys (m - 1) = CL at *
      obtain ⟨X, hX⟩ : ∃ X, X = taF L ys m (k + 1) := ⟨_, rfl⟩
      rw [← hX] at HF HLs
      have HX := Lib.hid hX
      clear hX
      generalize taF L ys m k = X0 at *
      generalize el L (k * 4) = e at *
      generalize el L (k * 4 + 1) = f at *
      generalize el L (k * 4 + 2) = g at *
      generalize el L (k * 4 + 3) = h at *
      simp only [Nat.zero_add] at g0 g1 g2 g3
      have haR := ha.q (Q0.trans hq)
      by_cases hV : V < 0
      · have hdv : decide (0 ≤ V) = false := decide_eq_false (by omega)
        have HE := Lib.hid (show taOk L ys m (k + 1) = false by rw [HO.out, hok, hdv]; rfl)
        rw [hdv, fcA_neg hV] at kf
        have KF := Lib.hid kf
        clear kf hdv
        go_upto_region 7 with (fail)
        go_cut [10, 11] from 24 to 42 (fun x y wc => ∃ bx, x = .pointer (some ⟨bx, 0, none⟩) ∧ y = .bool false ∧ Blk wc bx 79 #[.int .i64 0, .int .i64 0, .int .i64 0, .int .i64 0, .int .i64 0] ∧ Q wr wc)
        case first =>
          have hS : ∀ w', Q wr w' → (Q wr w' ∧ w'.cell? ⟨w.heap.size + 1, 0, none⟩ = some (.slice A m cc) ∧ w'.cell? ⟨bl, k * 4, none⟩ = some (.int .i64 e) ∧ w'.cell? ⟨bl, k * 4 + 1, none⟩ = some (.int .i64 f) ∧ w'.cell? ⟨bl, k * 4 + 2, none⟩ = some (.int .i64 g) ∧ w'.cell? ⟨bl, k * 4 + 3, none⟩ = some (.int .i64 h)) := fun w' q => ⟨q, (B0.q (hq.trans q)).cell 0, q.cell g0, q.cell g1, q.cell g2, q.cell g3⟩
          go_region_held3 (fun w' => Q wr w' ∧ w'.cell? ⟨w.heap.size + 1, 0, none⟩ = some (.slice A m cc) ∧ w'.cell? ⟨bl, k * 4, none⟩ = some (.int .i64 e) ∧ w'.cell? ⟨bl, k * 4 + 1, none⟩ = some (.int .i64 f) ∧ w'.cell? ⟨bl, k * 4 + 2, none⟩ = some (.int .i64 g) ∧ w'.cell? ⟨bl, k * 4 + 3, none⟩ = some (.int .i64 h)) (first | with_reducible exact hS _ QR | (with_reducible refine hS _ ?_; ((repeat (first | with_reducible assumption | with_reducible exact Q.refl _ | with_reducible refine Q.alloc ?_ _ | with_reducible refine Q.setCell ?_ (by (try simp only); first | with_reducible exact Nat.le_refl _ | with_reducible assumption | omega) _ | with_reducible refine Q.drew ?_)); done)) | (go_split_ands; first | with_reducible exact hS _ QR | (with_reducible refine hS _ ?_; ((repeat (first | with_reducible assumption | with_reducible exact Q.refl _ | with_reducible refine Q.alloc ?_ _ | with_reducible refine Q.setCell ?_ (by (try simp only); first | with_reducible exact Nat.le_refl _ | with_reducible assumption | omega) _ | with_reducible refine Q.drew ?_)); done)))) (first | (go_at_call 89; with_reducible refine Calls.mono (KF.out _ ?hr) ?_; (case hr => (refine haR.q ?_; ((repeat (first | with_reducible assumption | with_reducible exact Q.refl _ | with_reducible refine Q.alloc ?_ _ | with_reducible refine Q.setCell ?_ (by (try simp only); first | with_reducible exact Nat.le_refl _ | with_reducible assumption | omega) _ | with_reducible refine Q.drew ?_)); done))); rintro e5 w5 ⟨rfl, q5⟩; have QR : Q wr w5 := Q.trans (by ((repeat (first | with_reducible assumption | with_reducible exact Q.refl _ | with_reducible refine Q.alloc ?_ _ | with_reducible refine Q.setCell ?_ (by (try simp only); first | with_reducible exact Nat.le_refl _ | with_reducible assumption | omega) _ | with_reducible refine Q.drew ?_)); done)) q5; have zR := QR.size; (first | (have BP : Blk w5 wr.heap.size 79 #[.int .i64 0, .int .i64 0, .int .i64 0, .int .i64 0, .int .i64 0] := ?hb; (case hb => (refine Blk.q ?_ q5; (repeat (first | exact Blk.new _ _ _ | exact Blk.drew (Blk.new _ _ _))); done))) | skip); (first | (have bpc := BP.cell; have bpf := BP.frozen; have bpl := BP.lt) | skip)))
          all_goals (go_wp2_with fail; go_meet)
          all_goals (first | (have PS := BP.set5 (.int .i64 0) (.int .i64 0) (.int .i64 0) (.int .i64 0) (.int .i64 0)) | skip)
          all_goals refine ⟨_, rfl, rfl, ?_, ?_⟩
          all_goals first
            | with_reducible exact Blk.new _ _ _
            | with_reducible exact PS
            | with_reducible exact QR.alloc _
            | with_reducible exact QR.set5 (Nat.le_refl _) _ _ _ _ _
        case rest =>
          obtain ⟨bx, rfl, rfl, BX, QX⟩ := hcut
          go_wp2_with fail
          go_ret
          exact ⟨_, _, _, rfl, (hown.q QX).mono Q0.size, (Q0.trans hq).trans QX, hk, hok, .inr HE.out⟩
      · have hdv : decide (0 ≤ V) = true := decide_eq_true (by omega)
        have HE := Lib.hid (show taOk L ys m (k + 1) = true by rw [HO.out, hok, hdv]; rfl)
        rw [hdv, fcA_pos hV, ← HF.out] at kf
        generalize el CL (V.toNat * 5 + 1) = y1 at *
        generalize el CL (V.toNat * 5 + 2) = y2 at *
        generalize el CL (V.toNat * 5 + 3) = y3 at *
        generalize el CL (V.toNat * 5 + 4) = y4 at *
        have KF := Lib.hid kf
        clear kf hdv
        go_upto_region 7 with (fail)
        go_cut [10, 11] from 24 to 42 (fun x y wc => ∃ bx, x = .pointer (some ⟨bx, 0, none⟩) ∧ y = .bool true ∧ Blk wc bx 79 #[.int .i64 X, .int .i64 y1, .int .i64 y2, .int .i64 y3, .int .i64 y4] ∧ Q wr wc)
        case first =>
          have hS : ∀ w', Q wr w' → (Q wr w' ∧ w'.cell? ⟨w.heap.size + 1, 0, none⟩ = some (.slice A m cc) ∧ w'.cell? ⟨bl, k * 4, none⟩ = some (.int .i64 e) ∧ w'.cell? ⟨bl, k * 4 + 1, none⟩ = some (.int .i64 f) ∧ w'.cell? ⟨bl, k * 4 + 2, none⟩ = some (.int .i64 g) ∧ w'.cell? ⟨bl, k * 4 + 3, none⟩ = some (.int .i64 h)) := fun w' q => ⟨q, (B0.q (hq.trans q)).cell 0, q.cell g0, q.cell g1, q.cell g2, q.cell g3⟩
          go_region_held3 (fun w' => Q wr w' ∧ w'.cell? ⟨w.heap.size + 1, 0, none⟩ = some (.slice A m cc) ∧ w'.cell? ⟨bl, k * 4, none⟩ = some (.int .i64 e) ∧ w'.cell? ⟨bl, k * 4 + 1, none⟩ = some (.int .i64 f) ∧ w'.cell? ⟨bl, k * 4 + 2, none⟩ = some (.int .i64 g) ∧ w'.cell? ⟨bl, k * 4 + 3, none⟩ = some (.int .i64 h)) (first | with_reducible exact hS _ QR | (with_reducible refine hS _ ?_; ((repeat (first | with_reducible assumption | with_reducible exact Q.refl _ | with_reducible refine Q.alloc ?_ _ | with_reducible refine Q.setCell ?_ (by (try simp only); first | with_reducible exact Nat.le_refl _ | with_reducible assumption | omega) _ | with_reducible refine Q.drew ?_)); done)) | (go_split_ands; first | with_reducible exact hS _ QR | (with_reducible refine hS _ ?_; ((repeat (first | with_reducible assumption | with_reducible exact Q.refl _ | with_reducible refine Q.alloc ?_ _ | with_reducible refine Q.setCell ?_ (by (try simp only); first | with_reducible exact Nat.le_refl _ | with_reducible assumption | omega) _ | with_reducible refine Q.drew ?_)); done)))) (first | (go_at_call 89; with_reducible refine Calls.mono (KF.out _ ?hr) ?_; (case hr => (refine haR.q ?_; ((repeat (first | with_reducible assumption | with_reducible exact Q.refl _ | with_reducible refine Q.alloc ?_ _ | with_reducible refine Q.setCell ?_ (by (try simp only); first | with_reducible exact Nat.le_refl _ | with_reducible assumption | omega) _ | with_reducible refine Q.drew ?_)); done))); rintro e5 w5 ⟨rfl, q5⟩; have QR : Q wr w5 := Q.trans (by ((repeat (first | with_reducible assumption | with_reducible exact Q.refl _ | with_reducible refine Q.alloc ?_ _ | with_reducible refine Q.setCell ?_ (by (try simp only); first | with_reducible exact Nat.le_refl _ | with_reducible assumption | omega) _ | with_reducible refine Q.drew ?_)); done)) q5; have zR := QR.size; (first | (have BP : Blk w5 wr.heap.size 79 #[.int .i64 0, .int .i64 0, .int .i64 0, .int .i64 0, .int .i64 0] := ?hb; (case hb => (refine Blk.q ?_ q5; (repeat (first | exact Blk.new _ _ _ | exact Blk.drew (Blk.new _ _ _))); done))) | skip); (first | (have bpc := BP.cell; have bpf := BP.frozen; have bpl := BP.lt) | skip)))
          all_goals (go_wp2_with fail; go_meet)
          all_goals (first | (have PS := BP.set5 (.int .i64 X) (.int .i64 y1) (.int .i64 y2) (.int .i64 y3) (.int .i64 y4)) | skip)
          all_goals refine ⟨_, rfl, rfl, ?_, ?_⟩
          all_goals first
            | with_reducible exact Blk.new _ _ _
            | with_reducible exact PS
            | with_reducible exact QR.alloc _
            | with_reducible exact QR.set5 (Nat.le_refl _) _ _ _ _ _
        case rest =>
          obtain ⟨bx, rfl, rfl, BX, QX⟩ := hcut
          have cX := BX.cell
          have hszX := QX.size
          go_wp2_with (at_builtin; refine appK elInt64 rfl _ _ rfl [X] rfl (hown.q QX) rfl (by simp) rfl _ _ rfl (by omega) (by first | omega | (simp; omega)) ?_; intro A' c' w' hown' hg' hgr'; have BX8 := Blk.markO BX (hown.q QX) (by decide) hg'; have cX8 := BX8.cell)
          go_roundw
          case rel => exact ⟨k + 1, _, _, by omega, by go_num, rfl, by rw [HX.out], HE.out, by rw [HLs.out]; exact hown', Q.mark (hq.trans QX) (hown.q QX) (Nat.le_refl _) hg'⟩
          case measure => simp [intOf]; omega
    · obtain rfl : k = N := by omega
      go_wp2_with fail
      go_ret
      exact ⟨_, _, _, rfl, hown.mono Q0.size, Q0.trans hq, hk, hok, .inl rfl⟩
end Go.Proofs.YteofhfefbphjdaaGreatDoor
