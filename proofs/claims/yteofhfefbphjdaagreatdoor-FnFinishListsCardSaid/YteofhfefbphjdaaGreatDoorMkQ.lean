/- Plain: a track cut at two times is a track. No condition. Walks: the part of a track between two times, as the program and the reference make it. No condition. -/
import Derived.Test.YteofhfefbphjdaaGreatDoorStV
import Derived.Test.YteofhfefbphjdaaGreatDoorAt
import Derived.Test.YteofhfefbphjdaaGreatDoorCrsS
namespace Go.Proofs.YteofhfefbphjdaaGreatDoor
open Go.RowKit Go.WideShapes Go.ChangeShapes
theorem elP_lt {L E : List Int} {j : Nat} (h : j < L.length) : el (L ++ E) j = el L j := by unfold el; rw [List.getD_eq_getElem?_getD, List.getD_eq_getElem?_getD, List.getElem?_append_left h]
theorem elP_ge {L E : List Int} {j : Nat} : el (L ++ E) (L.length + j) = el E j := by unfold el; rw [List.getD_eq_getElem?_getD, List.getD_eq_getElem?_getD, List.getElem?_append_right (by omega), Nat.add_sub_cancel_left]
theorem fixAt_app {L E : List Int} {m k : Nat} (hL : L.length = m * 3) (hk : k < m) : fixAt (L ++ E) k = fixAt L k := by
  unfold fixAt
  rw [elP_lt (by omega), elP_lt (by omega), elP_lt (by omega), elP_lt (by omega)]
theorem fixTo_app {L : List Int} {m : Nat} (hL : L.length = m * 3) (h : fixTo L m = true) {a x y : Int} (ha : 0 ≤ a ∧ a ≤ 1000000000) (hp : ptB x y = true) (hl : m = 0 ∨ el L ((m - 1) * 3) < a) : fixTo (L ++ [a, x, y]) (m + 1) = true := by
  have e0 := elP_ge (L := L) (E := [a, x, y]) (j := 0)
  have e1 := elP_ge (L := L) (E := [a, x, y]) (j := 1)
  have e2 := elP_ge (L := L) (E := [a, x, y]) (j := 2)
  rw [hL] at e0 e1 e2
  have h0 : el (L ++ [a, x, y]) (m * 3) = a := e0
  have h1 : el (L ++ [a, x, y]) (m * 3 + 1) = x := e1
  have h2 : el (L ++ [a, x, y]) (m * 3 + 2) = y := e2
  rw [fixTo_succ, Bool.and_eq_true]
  constructor
  · unfold fixTo
    rw [List.all_eq_true]
    intro k hk
    rw [List.mem_range] at hk
    rw [fixAt_app hL hk]
    exact fixTo_at h hk
  · refine fixAt_mk ⟨?_, ?_, ?_⟩
    · rw [h0]; exact ha
    · rw [h1, h2]; exact hp
    · rcases hl with hl | hl
      · exact .inl hl
      · by_cases hm : m = 0
        · exact .inl hm
        · right
          rw [h0, elP_lt (by omega)]
          exact hl
/-- The fixes among the first k strictly between two times. -/
def cuM (xs : List Int) (t e : Int) : Nat → List Int
  | 0 => []
  | k + 1 => if t < el xs (k * 3) ∧ el xs (k * 3) < e then cuM xs t e k ++ [el xs (k * 3), el xs (k * 3 + 1), el xs (k * 3 + 2)] else cuM xs t e k
def cuN (xs : List Int) (t e : Int) : Nat → Nat
  | 0 => 0
  | k + 1 => if t < el xs (k * 3) ∧ el xs (k * 3) < e then cuN xs t e k + 1 else cuN xs t e k
theorem cuM_len (xs : List Int) (t e : Int) : ∀ k, (cuM xs t e k).length = cuN xs t e k * 3
  | 0 => rfl
  | k + 1 => by
    rw [cuM, cuN]
    split
    · rw [List.length_append, cuM_len xs t e k]; simp; omega
    · exact cuM_len xs t e k
theorem cuN_le (xs : List Int) (t e : Int) : ∀ k, cuN xs t e k ≤ k
  | 0 => Nat.le_refl _
  | k + 1 => by
    rw [cuN]
    have := cuN_le xs t e k
    split <;> omega
/-- The track from t to e: the place at t, the fixes between, the place at e. -/
def cuH (xs : List Int) (n : Nat) (t e : Int) (k : Nat) : List Int := [t, atX xs n t, atY xs n t] ++ cuM xs t e k
def cuL (xs : List Int) (n : Nat) (t e : Int) : List Int := cuH xs n t e n ++ [e, atX xs n e, atY xs n e]
def cuC (xs : List Int) (n : Nat) (t e : Int) : Nat := cuN xs t e n + 2
theorem cuH_len (xs : List Int) (n : Nat) (t e : Int) (k : Nat) : (cuH xs n t e k).length = (cuN xs t e k + 1) * 3 := by unfold cuH; rw [List.length_append, cuM_len]; simp; omega
theorem cuL_len (xs : List Int) (n : Nat) (t e : Int) : (cuL xs n t e).length = cuC xs n t e * 3 := by unfold cuL cuC; rw [List.length_append, cuH_len]; simp; omega
theorem ptB_bd {x y : Int} (h : ptB x y = true) : (-1000000 ≤ x ∧ x ≤ 1000000) ∧ (-1000000 ≤ y ∧ y ≤ 1000000) := by unfold ptB at h; simp only [decide_eq_true_eq] at h; omega
theorem ptB_mk {x y : Int} (h : (-1000000 ≤ x ∧ x ≤ 1000000) ∧ (-1000000 ≤ y ∧ y ≤ 1000000)) : ptB x y = true := by unfold ptB; rw [decide_eq_true_eq]; omega
theorem posC_inP {a b g d lo hi : Int} (hg : 0 ≤ g ∧ g ≤ d) (hd : 0 < d) (ha : lo ≤ a ∧ a ≤ hi) (hb : lo ≤ b ∧ b ≤ hi) : lo ≤ posC a b g d ∧ posC a b g d ≤ hi := by
  unfold posC
  constructor
  · have h1 : (lo - a) * d ≤ (b - a) * g := by
      have q1 : (lo - a) * g ≤ (b - a) * g := Int.mul_le_mul_of_nonneg_right (by omega) hg.1
      have q2 : (lo - a) * d ≤ (lo - a) * g := Int.mul_le_mul_of_nonpos_left (by omega) hg.2
      omega
    have := (Int.le_ediv_iff_mul_le hd).2 h1
    omega
  · have h1 : (b - a) * g ≤ (hi - a) * d := by
      have q1 : (b - a) * g ≤ (hi - a) * g := Int.mul_le_mul_of_nonneg_right (by omega) hg.1
      have q2 : (hi - a) * g ≤ (hi - a) * d := Int.mul_le_mul_of_nonneg_left hg.2 (by omega)
      omega
    have h2 := Int.ediv_le_ediv hd h1
    rw [Int.mul_ediv_cancel _ (by omega)] at h2
    omega
theorem at_pt {xs : List Int} {n : Nat} {t : Int} (hT : isTrk xs n = true) (hl : lastsB xs n t = true) : ptB (atX xs n t) (atY xs n t) = true := by
  obtain ⟨h1, h2, h3⟩ := leg_facts hT hl
  obtain ⟨⟨a1, a2, a3⟩, a4, a5, a6, a7⟩ := trk_two hT h1
  unfold atX atY
  exact ptB_mk ⟨posC_inP ⟨by omega, by omega⟩ (by omega) a4 a6, posC_inP ⟨by omega, by omega⟩ (by omega) a5 a7⟩
theorem lasts_bd {xs : List Int} {n : Nat} {t : Int} (h : lastsB xs n t = true) : el xs 0 ≤ t ∧ t ≤ el xs ((n - 1) * 3) := of_decide_eq_true h
theorem cuH_inv {xs : List Int} {n : Nat} {t e : Int} (hT : isTrk xs n = true) (hl : lastsB xs n t = true) (hte : t < e) : ∀ k, k ≤ n →
    fixTo (cuH xs n t e k) (cuN xs t e k + 1) = true ∧ el (cuH xs n t e k) (cuN xs t e k * 3) < e ∧ (∀ j, k ≤ j → j < n → t < el xs (j * 3) → el (cuH xs n t e k) (cuN xs t e k * 3) < el xs (j * 3))
  | 0, _ => by
    have hb := lasts_bd hl
    have h2 := trk_n hT
    have t0 := (trk_time hT (show 0 < n by omega)).1
    have t1 := (trk_time hT (show n - 1 < n by omega)).2
    rw [Nat.zero_mul] at t0
    refine ⟨?_, hte, fun j _ _ h => h⟩
    exact fixTo_app (L := []) (m := 0) rfl rfl (show 0 ≤ t ∧ t ≤ 1000000000 by omega) (at_pt hT hl) (.inl rfl)
  | k + 1, hk => by
    obtain ⟨h1, h2, h3⟩ := cuH_inv hT hl hte k (by omega)
    have hlen := cuH_len xs n t e k
    by_cases hc : t < el xs (k * 3) ∧ el xs (k * 3) < e
    · have eM : cuM xs t e (k + 1) = cuM xs t e k ++ [el xs (k * 3), el xs (k * 3 + 1), el xs (k * 3 + 2)] := by rw [cuM, if_pos hc]
      have eN : cuN xs t e (k + 1) = cuN xs t e k + 1 := by rw [cuN, if_pos hc]
      have eH : cuH xs n t e (k + 1) = cuH xs n t e k ++ [el xs (k * 3), el xs (k * 3 + 1), el xs (k * 3 + 2)] := by unfold cuH; rw [eM, List.append_assoc]
      have e0 := elP_ge (L := cuH xs n t e k) (E := [el xs (k * 3), el xs (k * 3 + 1), el xs (k * 3 + 2)]) (j := 0)
      rw [hlen] at e0
      have e1 : el (cuH xs n t e k ++ [el xs (k * 3), el xs (k * 3 + 1), el xs (k * 3 + 2)]) ((cuN xs t e k + 1) * 3) = el xs (k * 3) := e0
      rw [eH, eN, e1]
      obtain ⟨f1, f2, _⟩ := trk_at hT (show k < n by omega)
      refine ⟨fixTo_app hlen h1 f1 f2 (.inr ?_), hc.2, fun j hj hjn _ => trk_lt' hT (by omega) hjn⟩
      rw [Nat.add_sub_cancel]
      exact h3 k (Nat.le_refl _) (by omega) hc.1
    · have eM : cuM xs t e (k + 1) = cuM xs t e k := by rw [cuM, if_neg hc]
      have eN : cuN xs t e (k + 1) = cuN xs t e k := by rw [cuN, if_neg hc]
      have eH : cuH xs n t e (k + 1) = cuH xs n t e k := by unfold cuH; rw [eM]
      rw [eH, eN]
      exact ⟨h1, h2, fun j hj hjn h => h3 j (by omega) hjn h⟩
theorem cuN_bd {xs : List Int} {n : Nat} {t e : Int} (hT : isTrk xs n = true) (hl : lastsB xs n t = true) (he : e = el xs ((n - 1) * 3)) : cuN xs t e n + 2 ≤ n := by
  have hb := lasts_bd hl
  obtain ⟨N, rfl⟩ : ∃ N, n = N + 2 := ⟨n - 2, by have := trk_n hT; omega⟩
  rw [show N + 2 - 1 = N + 1 by omega] at he
  have e1 : cuN xs t e (N + 2) = cuN xs t e (N + 1) := by rw [cuN, if_neg (by rw [he]; omega)]
  have h1 : ∀ k, cuN xs t e (k + 1) ≤ k := by
    intro k
    induction k with
    | zero => rw [cuN, if_neg (by rw [Nat.zero_mul]; omega)]; exact Nat.le_refl _
    | succ k ih => rw [cuN]; split <;> omega
  have := h1 N
  omega
/-- A valid track cut at a time within it and its last time is a valid track. -/
theorem cut_trk {xs : List Int} {n : Nat} {t e : Int} (hT : isTrk xs n = true) (hl : lastsB xs n t = true) (he : e = el xs ((n - 1) * 3)) (hte : t < e) : isTrk (cuL xs n t e) (cuC xs n t e) = true := by
  obtain ⟨h1, h2, h3⟩ := cuH_inv hT hl hte n (Nat.le_refl _)
  have hn := trk_n hT
  have hb := lasts_bd hl
  have hN := cuN_bd hT hl he
  have t1 := trk_time hT (show n - 1 < n by omega)
  have hle : lastsB xs n e = true := by
    unfold lastsB inR
    rw [decide_eq_true_eq]
    omega
  unfold isTrk
  rw [Bool.and_eq_true, decide_eq_true_eq]
  refine ⟨by unfold cuC; omega, ?_⟩
  unfold cuL cuC
  refine fixTo_app (cuH_len xs n t e n) h1 (by omega) (at_pt hT hle) (.inr ?_)
  rw [Nat.add_sub_cancel]
  exact h2
end Go.Proofs.YteofhfefbphjdaaGreatDoor
namespace Go.Proofs.YteofhfefbphjdaaGreatDoor
open Go.RowKit Go.WideShapes Go.ChangeShapes
/-- A track cut: the row of its fixes, and no error. -/
def CTr (w : World) (n : Nat) (L : List Int) (e : Ending) (w' : World) : Prop := ∃ A c, e = .returned (.tuple #[.agg #[.slice A n c], .int .i64 0]) ∧ Own w' w.heap.size 98 3 (.slice A n c) n L ∧ Q w w'
set_option maxRecDepth 100000 in
set_option maxHeartbeats 8000000 in
theorem impl_CutTrack (A : Option Addr) (n cc : Nat) (xs : List Int) (t e : Int) (w : World) (ha : Rd w A xs) (hn : xs.length = n * 3) (hT : isTrk xs n = true) (hl : lastsB xs n t = true) (hl2 : lastsB xs n e = true) (hte : t < e) :
    Calls Tryz.prog 55 #[.agg #[.slice A n cc], .int .i64 t, .int .i64 e] w (CTr w (cuC xs n t e) (cuL xs n t e)) := by
  have hn24 := trk_n hT
  obtain ⟨hn2, hn40⟩ := hn24
  have KT0 := fun wv (h : Rd wv A xs) => impl_IsTrack A n cc xs wv h hn (by omega)
  rw [hT] at KT0
  have kl1 := fun wv (h : Rd wv A xs) => impl_lasts A n cc xs t wv h hn hT
  rw [hl] at kl1
  have kl2 := fun wv (h : Rd wv A xs) => impl_lasts A n cc xs e wv h hn hT
  rw [hl2] at kl2
  have kp1 := fun wv (h : Rd wv A xs) => impl_positionAt A n cc xs t wv h hn hT hl
  have kp2 := fun wv (h : Rd wv A xs) => impl_positionAt A n cc xs e wv h hn hT hl2
  have HH0 := Lib.hid (show cuH xs n t e 0 = [t, atX xs n t, atY xs n t] from rfl)
  have HL := Lib.hid (show cuL xs n t e = cuH xs n t e n ++ [e, atX xs n e, atY xs n e] from rfl)
  have HLC := Lib.hid (cuL_len xs n t e)
  have HCC := Lib.hid (show cuC xs n t e = cuN xs t e n + 1 + 1 from rfl)
  have HCY := Lib.hid (fun k (h : t < el xs (k * 3) ∧ el xs (k * 3) < e) => (show cuH xs n t e (k + 1) = cuH xs n t e k ++ [el xs (k * 3), el xs (k * 3 + 1), el xs (k * 3 + 2)] ∧ cuN xs t e (k + 1) = cuN xs t e k + 1 by unfold cuH; rw [cuM, cuN, if_pos h, if_pos h, List.append_assoc]; exact ⟨rfl, rfl⟩))
  have HCN := Lib.hid (fun k (h : ¬ (t < el xs (k * 3) ∧ el xs (k * 3) < e)) => (show cuH xs n t e (k + 1) = cuH xs n t e k ∧ cuN xs t e (k + 1) = cuN xs t e k by unfold cuH; rw [cuM, cuN, if_neg h, if_neg h]; exact ⟨rfl, rfl⟩))
  have HNle := Lib.hid (fun k => cuN_le xs t e k)
  obtain ⟨bl, o, rfl, _, _, _⟩ := ha.at3 hn (show 0 < n by omega)
  have KT := Lib.hid KT0
  have KL1 := Lib.hid kl1
  have KL2 := Lib.hid kl2
  have KP1 := Lib.hid kp1
  have KP2 := Lib.hid kp2
  have HN := Lib.hid hn
  have hnI : (n : Int) ≤ 40 := by omega
  clear hn KT0 kl1 kl2 kp1 kp2 hT hl hl2
  generalize atX xs n t = PX at *
  generalize atY xs n t = PY at *
  generalize atX xs n e = QX at *
  generalize atY xs n e = QY at *
  obtain ⟨W, hW⟩ : ∃ W, W = (w.alloc (.cells #[.slice (some ⟨bl, o, none⟩) n cc] 43)).alloc (.cells #[.slice none 0 0] 43) := ⟨_, rfl⟩
  have B0 : Blk W w.heap.size 43 #[.slice (some ⟨bl, o, none⟩) n cc] := by rw [hW]; exact (Blk.new _ _ _).alloc _
  have R0 : Blk W (w.heap.size + 1) 43 #[.slice none 0 0] := by rw [hW]; exact (by simpa using Blk.new (w.alloc (.cells #[.slice (some ⟨bl, o, none⟩) n cc] 43)) 43 #[.slice none 0 0])
  have Q0 : Q w W := by rw [hW]; (repeat (first | assumption | exact Q.refl _ | refine Q.alloc ?_ _ | refine Q.drewN ?_ _ | refine Q.drew ?_))
  have HW := Lib.hid hW
  clear hW
  go_enter Tryz.func55, Tryz.ntmps55
  go_wp2_with fail
  rw [← HW.out]
  refine (KT.out _ (ha.q Q0)).mono ?_
  rintro e1 w1 ⟨rfl, q1⟩
  replace B0 := B0.q q1
  replace R0 := R0.q q1
  replace Q0 := Q0.trans q1
  have c0 := B0.cell
  have l0 := B0.lt
  go_wp2_with fail
  refine (KL1.out _ (ha.q Q0)).mono ?_
  rintro e2 w2 ⟨rfl, q2⟩
  replace B0 := B0.q q2
  replace R0 := R0.q q2
  replace Q0 := Q0.trans q2
  clear c0 l0
  have c0 := B0.cell
  have l0 := B0.lt
  go_wp2_with fail
  refine (KL2.out _ (ha.q Q0)).mono ?_
  rintro e3 wo ⟨rfl, q3⟩
  replace B0 := B0.q q3
  replace R0 := R0.q q3
  replace Q0 := Q0.trans q3
  clear c0 l0 q1 q2 q3
  have hR := ha.q Q0
  go_upto_region 5 with (fail)
  go_cut [8, 9] from 13 (fun p q wc => PtsAt wo wc 25 (.int .i64 PX) (.int .i64 PY) (.int .i64 QX) (.int .i64 QY) p q)
  case first =>
    have c0 := B0.cell
    have l0 := B0.lt
    have hS : ∀ w', Q wo w' → (Q wo w' ∧ w'.cell? ⟨w.heap.size, 0, none⟩ = some (.slice (some ⟨bl, o, none⟩) n cc)) := fun w' q => ⟨q, (B0.q q).cell _⟩
    go_region_held3 (fun w' => Q wo w' ∧ w'.cell? ⟨w.heap.size, 0, none⟩ = some (.slice (some ⟨bl, o, none⟩) n cc)) (first | with_reducible exact hS _ QR | (with_reducible refine hS _ ?_; ((repeat (first | with_reducible assumption | with_reducible exact Q.refl _ | with_reducible refine Q.alloc ?_ _ | with_reducible refine Q.setCell ?_ (by (try simp only); first | with_reducible exact Nat.le_refl _ | with_reducible assumption | omega) _ | with_reducible refine Q.drew ?_)); done)) | (go_split_ands; first | with_reducible exact hS _ QR | (with_reducible refine hS _ ?_; ((repeat (first | with_reducible assumption | with_reducible exact Q.refl _ | with_reducible refine Q.alloc ?_ _ | with_reducible refine Q.setCell ?_ (by (try simp only); first | with_reducible exact Nat.le_refl _ | with_reducible assumption | omega) _ | with_reducible refine Q.drew ?_)); done)))) (first | (have q50 := q5; go_at_call 86; (first | (with_reducible refine Calls.mono (KP1.out _ ?hr) ?_; (case hr => (refine hR.q ?_; ((repeat (first | with_reducible assumption | with_reducible exact Q.refl _ | with_reducible refine Q.alloc ?_ _ | with_reducible refine Q.setCell ?_ (by (try simp only); first | with_reducible exact Nat.le_refl _ | with_reducible assumption | omega) _ | with_reducible refine Q.drew ?_)); done)))) | (with_reducible refine Calls.mono (KP2.out _ ?hr) ?_; (case hr => (refine hR.q ?_; ((repeat (first | with_reducible assumption | with_reducible exact Q.refl _ | with_reducible refine Q.alloc ?_ _ | with_reducible refine Q.setCell ?_ (by (try simp only); first | with_reducible exact Nat.le_refl _ | with_reducible assumption | omega) _ | with_reducible refine Q.drew ?_)); done))))); rintro e w6 ⟨rfl, q6⟩; have QR : Q wo w6 := Q.trans (by (repeat (first | with_reducible assumption | with_reducible exact Q.refl _ | with_reducible refine Q.alloc ?_ _ | with_reducible refine Q.setCell ?_ (by (try simp only); first | with_reducible exact Nat.le_refl _ | with_reducible assumption | omega) _ | with_reducible refine Q.drew ?_))) q6; have zr := QR.size; (first | (have X1 := Y1.q q6; have X1c := X1.cell; have X1f := X1.frozen; have X1l := X1.lt) | (have X1 := (Y1.alloc _).q q6; have X1c := X1.cell; have X1f := X1.frozen; have X1l := X1.lt) | (have X1 := ((Y1.alloc _).alloc _).q q6; have X1c := X1.cell; have X1f := X1.frozen; have X1l := X1.lt) | skip); (first | (have X2 := Y2.q q6; have X2c := X2.cell; have X2f := X2.frozen; have X2l := X2.lt) | (have X2 := (Y2.alloc _).q q6; have X2c := X2.cell; have X2f := X2.frozen; have X2l := X2.lt) | (have X2 := ((Y2.alloc _).alloc _).q q6; have X2c := X2.cell; have X2f := X2.frozen; have X2l := X2.lt) | skip); (first | (have X3 := q6.boxB2; have X40 := q6.boxB; have X3c := X3.cell; have X3f := X3.frozen; have X3l := X3.lt; simp only [World.size_alloc] at X40; have X4 := X40; have X4c := X4.cell; have X4f := X4.frozen; have X4l := X4.lt) | (have X3 := q6.boxB; have X3c := X3.cell; have X3f := X3.frozen; have X3l := X3.lt) | (have X3 := (Q.trans ((Q.refl _).drew) q6).boxB2; have X40 := (Q.trans ((Q.refl _).drew) q6).boxB; have X3c := X3.cell; have X3f := X3.frozen; have X3l := X3.lt; simp only [World.size_alloc] at X40; have X4 := X40; have X4c := X4.cell; have X4f := X4.frozen; have X4l := X4.lt) | (have X3 := (Q.trans ((Q.refl _).drew) q6).boxB; have X3c := X3.cell; have X3f := X3.frozen; have X3l := X3.lt) | skip)) | (go_at_call 86; (first | (with_reducible refine Calls.mono (KP1.out _ ?hr) ?_; (case hr => (refine hR.q ?_; ((repeat (first | with_reducible assumption | with_reducible exact Q.refl _ | with_reducible refine Q.alloc ?_ _ | with_reducible refine Q.setCell ?_ (by (try simp only); first | with_reducible exact Nat.le_refl _ | with_reducible assumption | omega) _ | with_reducible refine Q.drew ?_)); done)))) | (with_reducible refine Calls.mono (KP2.out _ ?hr) ?_; (case hr => (refine hR.q ?_; ((repeat (first | with_reducible assumption | with_reducible exact Q.refl _ | with_reducible refine Q.alloc ?_ _ | with_reducible refine Q.setCell ?_ (by (try simp only); first | with_reducible exact Nat.le_refl _ | with_reducible assumption | omega) _ | with_reducible refine Q.drew ?_)); done))))); rintro e w5 ⟨rfl, q5⟩; have QR : Q wo w5 := Q.trans (by (repeat (first | with_reducible assumption | with_reducible exact Q.refl _ | with_reducible refine Q.alloc ?_ _ | with_reducible refine Q.setCell ?_ (by (try simp only); first | with_reducible exact Nat.le_refl _ | with_reducible assumption | omega) _ | with_reducible refine Q.drew ?_))) q5; have zr := QR.size; (first | (have Y1 := q5.boxB2; have Y20 := q5.boxB; have Y1c := Y1.cell; have Y1f := Y1.frozen; have Y1l := Y1.lt; simp only [World.size_alloc] at Y20; have Y2 := Y20; have Y2c := Y2.cell; have Y2f := Y2.frozen; have Y2l := Y2.lt) | (have Y1 := q5.boxB; have Y1c := Y1.cell; have Y1f := Y1.frozen; have Y1l := Y1.lt) | (have Y1 := (Q.trans ((Q.refl _).drew) q5).boxB2; have Y20 := (Q.trans ((Q.refl _).drew) q5).boxB; have Y1c := Y1.cell; have Y1f := Y1.frozen; have Y1l := Y1.lt; simp only [World.size_alloc] at Y20; have Y2 := Y20; have Y2c := Y2.cell; have Y2f := Y2.frozen; have Y2l := Y2.lt) | (have Y1 := (Q.trans ((Q.refl _).drew) q5).boxB; have Y1c := Y1.cell; have Y1f := Y1.frozen; have Y1l := Y1.lt) | skip)))
    all_goals (go_wp2_with fail; go_meet)
    all_goals clear hS
    all_goals first | with_reducible exact pt_s0a QR | with_reducible exact pt_s0b QR | with_reducible exact pt_s1a X3 QR (by omega) | with_reducible exact pt_s1a X1 QR (by omega) | with_reducible exact pt_s1b X3 QR (by omega) | with_reducible exact pt_s1b X1 QR (by omega) | with_reducible exact pt_s2 X3 X4 QR (by omega) (by omega) (by omega) | with_reducible exact pt_s2 X4 X3 QR (by omega) (by omega) (by omega) | with_reducible exact pt_s2 X1 X3 QR (by omega) (by omega) (by omega) | with_reducible exact pt_s2 X3 X1 QR (by omega) (by omega) (by omega) | with_reducible exact pt_s2 X1 X2 QR (by omega) (by omega) (by omega) | with_reducible exact pt_s2 X2 X1 QR (by omega) (by omega) (by omega)
  case rest =>
    obtain ⟨b8, b9, rfl, rfl, B8, B9, QC⟩ := hcut
    replace B0 := B0.q QC
    replace R0 := R0.q QC
    replace Q0 := Q0.trans QC
    clear hR QC
    have d8 := B8.cell
    have QL : Q wc (wc.alloc (.cells #[.int .i64 t, .int .i64 PX, .int .i64 PY] 98)) := by (repeat (first | assumption | exact Q.refl _ | refine Q.alloc ?_ _ | refine Q.drewN ?_ _ | refine Q.drew ?_))
    have OL : Own (wc.alloc (.cells #[.int .i64 t, .int .i64 PX, .int .i64 PY] 98)) wc.heap.size 98 3 (.slice (some ⟨wc.heap.size, 0, none⟩) 1 1) (cuN xs t e 0 + 1) (cuH xs n t e 0) := by
      rw [HH0.out]
      exact Own.lit wc 98 3 1 [t, PX, PY] rfl (Nat.le_refl _) rfl (by decide)
    have c0 := (B0.q QL).cell
    have l0 := (B0.q QL).lt
    go_wp2_with fail
    clear c0 l0 d8
    go_loopw [10, 49] (fun v i wr => ∃ (k : Nat) (A1 : Option Addr) (c1 : Nat), k ≤ n ∧ i = .int .i64 k ∧ v = .slice A1 (cuN xs t e k + 1) c1 ∧ Own wr wc.heap.size 98 3 (.slice A1 (cuN xs t e k + 1) c1) (cuN xs t e k + 1) (cuH xs n t e k) ∧ Q wc wr) (fun _ i _ => n - (intOf i).toNat)
    case atStart => exact ⟨0, _, _, Nat.zero_le _, rfl, rfl, OL, QL⟩
    case round =>
      clear OL QL
      obtain ⟨k, A1, c1, hk, rfl, rfl, hown, hq⟩ := hrel
      have b0 := (B0.q hq).cell
      have l0 := (B0.q hq).lt
      have hsz := hq.size
      have hkN := HNle.out k
      by_cases hlt : k < n
      · have hltI : (k : Int) < (n : Int) := by omega
        obtain ⟨b1, o1, hA, g0, g1, g2⟩ := (ha.q (Q0.trans hq)).at3 HN.out hlt
        cases hA
        have HY := Lib.hid (HCY.out k)
        have HX := Lib.hid (HCN.out k)
        generalize el xs (k * 3) = ft at *
        generalize el xs (k * 3 + 1) = fx at *
        generalize el xs (k * 3 + 2) = fy at *
        by_cases hc1 : t < ft
        · by_cases hc2 : ft < e
          · have HK := Lib.hid (HY.out ⟨hc1, hc2⟩)
            go_wp2_with (at_builtin; refine appK elFix rfl _ _ rfl [ft, fx, fy] rfl (hown.q (by (repeat (first | assumption | exact Q.refl _ | refine Q.alloc ?_ _ | refine Q.drewN ?_ _ | refine Q.drew ?_)))) rfl (by simp) rfl _ _ rfl (by omega) (by first | omega | (simp; omega)) ?_; intro A' c' w' hown' hg' hgr')
            go_roundw
            case rel => exact ⟨k + 1, A', c', by omega, by go_num, by rw [HK.out.2], by rw [HK.out.2, HK.out.1]; exact hown', Q.mark (hq.trans (by (repeat (first | assumption | exact Q.refl _ | refine Q.alloc ?_ _ | refine Q.drewN ?_ _ | refine Q.drew ?_)))) (hown.q (by (repeat (first | assumption | exact Q.refl _ | refine Q.alloc ?_ _ | refine Q.drewN ?_ _ | refine Q.drew ?_)))) (Nat.le_refl _) hg'⟩
            case measure => simp [intOf]; omega
          · have HK := Lib.hid (HX.out (fun h => hc2 h.2))
            have hc3 : (decide (ft < e)) = false := by simpa using hc2
            go_wp2_with fail
            go_roundw
            case rel => exact ⟨k + 1, A1, c1, by omega, by go_num, by rw [HK.out.2], by rw [HK.out.2, HK.out.1]; exact hown.q (by (repeat (first | assumption | exact Q.refl _ | refine Q.alloc ?_ _ | refine Q.drewN ?_ _ | refine Q.drew ?_))), hq.trans (by (repeat (first | assumption | exact Q.refl _ | refine Q.alloc ?_ _ | refine Q.drewN ?_ _ | refine Q.drew ?_)))⟩
            case measure => simp [intOf]; omega
        · have HK := Lib.hid (HX.out (fun h => hc1 h.1))
          go_wp2_with fail
          go_roundw
          case rel => exact ⟨k + 1, A1, c1, by omega, by go_num, by rw [HK.out.2], by rw [HK.out.2, HK.out.1]; exact hown.q (by (repeat (first | assumption | exact Q.refl _ | refine Q.alloc ?_ _ | refine Q.drewN ?_ _ | refine Q.drew ?_))), hq.trans (by (repeat (first | assumption | exact Q.refl _ | refine Q.alloc ?_ _ | refine Q.drewN ?_ _ | refine Q.drew ?_)))⟩
          case measure => simp [intOf]; omega
      · obtain rfl : k = n := by omega
        have b9 := (B9.q hq).cell
        have R9 := R0.q hq
        have r9 := R9.lt
        have rf := R9.frozen
        have rc := R9.cell
        have hszC := Q0.size
        go_wp2_with (at_builtin; refine appK elFix rfl _ _ rfl [e, QX, QY] rfl (hown.q (by (repeat (first | assumption | exact Q.refl _ | refine Q.alloc ?_ _ | refine Q.drewN ?_ _ | refine Q.drew ?_)))) rfl (by simp) rfl _ _ rfl (by omega) (by omega) ?_; intro A' c' w' hown' hg' hgr'; have R10 := Blk.markO R9 hown (by decide) hg'; have r10 := R10.lt; have rf10 := R10.frozen; have rc10 := R10.cell)
        rw [← HL.out] at hown'
        have hq' := Q.mark hq hown (Nat.le_refl _) hg'
        have F := (R10.set_ 0 (.slice A' (cuN xs t e k + 1 + 1) c')).cell
        refine bodyPost_ret (v := .tuple #[.agg #[.slice A' (cuN xs t e k + 1 + 1) c'], .int .i64 0]) (by simp [results, Tryz.results55, go_sem, F]) rfl ⟨A', c', by rw [HCC.out], ?_, ?_⟩
        · rw [HCC.out]
          exact (hown'.setFar (Own.ne_blk hown' R10 (by decide)) 0 _).mono Q0.size
        · exact (Q0.trans hq').setCell (p := ⟨w.heap.size + 1, 0, none⟩) (Nat.le_add_right _ 1) _
set_option maxRecDepth 100000 in
set_option maxHeartbeats 8000000 in
theorem spec_CutTrack (A : Option Addr) (n cc : Nat) (xs : List Int) (t e : Int) (w : World) (ha : Rd w A xs) (hn : xs.length = n * 3) (hT : isTrk xs n = true) (hl : lastsB xs n t = true) (hl2 : lastsB xs n e = true) (hte : t < e) :
    Calls Tryz.prog 61 #[.agg #[.slice A n cc], .int .i64 t, .int .i64 e] w (CTr w (cuC xs n t e) (cuL xs n t e)) := by
  have hn24 := trk_n hT
  obtain ⟨hn2, hn40⟩ := hn24
  have KT0 := fun wv (h : Rd wv A xs) => spec_IsTrack A n cc xs wv h hn (by omega)
  rw [hT] at KT0
  have kl1 := fun wv (h : Rd wv A xs) => spec_l03Lasts A n cc xs t wv h hn hT
  rw [hl] at kl1
  have kl2 := fun wv (h : Rd wv A xs) => spec_l03Lasts A n cc xs e wv h hn hT
  rw [hl2] at kl2
  have kp1 := fun wv (h : Rd wv A xs) => spec_l03At A n cc xs t wv h hn hT hl
  have kp2 := fun wv (h : Rd wv A xs) => spec_l03At A n cc xs e wv h hn hT hl2
  have HH0 := Lib.hid (show cuH xs n t e 0 = [t, atX xs n t, atY xs n t] from rfl)
  have HL := Lib.hid (show cuL xs n t e = cuH xs n t e n ++ [e, atX xs n e, atY xs n e] from rfl)
  have HLC := Lib.hid (cuL_len xs n t e)
  have HCC := Lib.hid (show cuC xs n t e = cuN xs t e n + 1 + 1 from rfl)
  have HCY := Lib.hid (fun k (h : t < el xs (k * 3) ∧ el xs (k * 3) < e) => (show cuH xs n t e (k + 1) = cuH xs n t e k ++ [el xs (k * 3), el xs (k * 3 + 1), el xs (k * 3 + 2)] ∧ cuN xs t e (k + 1) = cuN xs t e k + 1 by unfold cuH; rw [cuM, cuN, if_pos h, if_pos h, List.append_assoc]; exact ⟨rfl, rfl⟩))
  have HCN := Lib.hid (fun k (h : ¬ (t < el xs (k * 3) ∧ el xs (k * 3) < e)) => (show cuH xs n t e (k + 1) = cuH xs n t e k ∧ cuN xs t e (k + 1) = cuN xs t e k by unfold cuH; rw [cuM, cuN, if_neg h, if_neg h]; exact ⟨rfl, rfl⟩))
  have HNle := Lib.hid (fun k => cuN_le xs t e k)
  obtain ⟨bl, o, rfl, _, _, _⟩ := ha.at3 hn (show 0 < n by omega)
  have KT := Lib.hid KT0
  have KL1 := Lib.hid kl1
  have KL2 := Lib.hid kl2
  have KP1 := Lib.hid kp1
  have KP2 := Lib.hid kp2
  have HN := Lib.hid hn
  have hnI : (n : Int) ≤ 40 := by omega
  clear hn KT0 kl1 kl2 kp1 kp2 hT hl hl2
  generalize atX xs n t = PX at *
  generalize atY xs n t = PY at *
  generalize atX xs n e = QX at *
  generalize atY xs n e = QY at *
  obtain ⟨W, hW⟩ : ∃ W, W = (w.alloc (.cells #[.slice (some ⟨bl, o, none⟩) n cc] 43)).alloc (.cells #[.slice none 0 0] 43) := ⟨_, rfl⟩
  have B0 : Blk W w.heap.size 43 #[.slice (some ⟨bl, o, none⟩) n cc] := by rw [hW]; exact (Blk.new _ _ _).alloc _
  have R0 : Blk W (w.heap.size + 1) 43 #[.slice none 0 0] := by rw [hW]; exact (by simpa using Blk.new (w.alloc (.cells #[.slice (some ⟨bl, o, none⟩) n cc] 43)) 43 #[.slice none 0 0])
  have Q0 : Q w W := by rw [hW]; (repeat (first | assumption | exact Q.refl _ | refine Q.alloc ?_ _ | refine Q.drewN ?_ _ | refine Q.drew ?_))
  have HW := Lib.hid hW
  clear hW
  go_enter Tryz.func61, Tryz.ntmps61
  go_wp2_with fail
  rw [← HW.out]
  refine (KT.out _ (ha.q Q0)).mono ?_
  rintro e1 w1 ⟨rfl, q1⟩
  replace B0 := B0.q q1
  replace R0 := R0.q q1
  replace Q0 := Q0.trans q1
  have c0 := B0.cell
  have l0 := B0.lt
  go_wp2_with fail
  refine (KL1.out _ (ha.q Q0)).mono ?_
  rintro e2 w2 ⟨rfl, q2⟩
  replace B0 := B0.q q2
  replace R0 := R0.q q2
  replace Q0 := Q0.trans q2
  clear c0 l0
  have c0 := B0.cell
  have l0 := B0.lt
  go_wp2_with fail
  refine (KL2.out _ (ha.q Q0)).mono ?_
  rintro e3 wo ⟨rfl, q3⟩
  replace B0 := B0.q q3
  replace R0 := R0.q q3
  replace Q0 := Q0.trans q3
  clear c0 l0 q1 q2 q3
  have hR := ha.q Q0
  go_upto_region 5 with (fail)
  go_cut [8, 9] from 12 (fun p q wc => PtsAt wo wc 25 (.int .i64 PX) (.int .i64 PY) (.int .i64 QX) (.int .i64 QY) p q)
  case first =>
    have c0 := B0.cell
    have l0 := B0.lt
    have hS : ∀ w', Q wo w' → (Q wo w' ∧ w'.cell? ⟨w.heap.size, 0, none⟩ = some (.slice (some ⟨bl, o, none⟩) n cc)) := fun w' q => ⟨q, (B0.q q).cell _⟩
    go_region_held3 (fun w' => Q wo w' ∧ w'.cell? ⟨w.heap.size, 0, none⟩ = some (.slice (some ⟨bl, o, none⟩) n cc)) (first | with_reducible exact hS _ QR | (with_reducible refine hS _ ?_; ((repeat (first | with_reducible assumption | with_reducible exact Q.refl _ | with_reducible refine Q.alloc ?_ _ | with_reducible refine Q.setCell ?_ (by (try simp only); first | with_reducible exact Nat.le_refl _ | with_reducible assumption | omega) _ | with_reducible refine Q.drew ?_)); done)) | (go_split_ands; first | with_reducible exact hS _ QR | (with_reducible refine hS _ ?_; ((repeat (first | with_reducible assumption | with_reducible exact Q.refl _ | with_reducible refine Q.alloc ?_ _ | with_reducible refine Q.setCell ?_ (by (try simp only); first | with_reducible exact Nat.le_refl _ | with_reducible assumption | omega) _ | with_reducible refine Q.drew ?_)); done)))) (first | (have q50 := q5; go_at_call 91; (first | (with_reducible refine Calls.mono (KP1.out _ ?hr) ?_; (case hr => (refine hR.q ?_; ((repeat (first | with_reducible assumption | with_reducible exact Q.refl _ | with_reducible refine Q.alloc ?_ _ | with_reducible refine Q.setCell ?_ (by (try simp only); first | with_reducible exact Nat.le_refl _ | with_reducible assumption | omega) _ | with_reducible refine Q.drew ?_)); done)))) | (with_reducible refine Calls.mono (KP2.out _ ?hr) ?_; (case hr => (refine hR.q ?_; ((repeat (first | with_reducible assumption | with_reducible exact Q.refl _ | with_reducible refine Q.alloc ?_ _ | with_reducible refine Q.setCell ?_ (by (try simp only); first | with_reducible exact Nat.le_refl _ | with_reducible assumption | omega) _ | with_reducible refine Q.drew ?_)); done))))); rintro e w6 ⟨rfl, q6⟩; have QR : Q wo w6 := Q.trans (by (repeat (first | with_reducible assumption | with_reducible exact Q.refl _ | with_reducible refine Q.alloc ?_ _ | with_reducible refine Q.setCell ?_ (by (try simp only); first | with_reducible exact Nat.le_refl _ | with_reducible assumption | omega) _ | with_reducible refine Q.drew ?_))) q6; have zr := QR.size; (first | (have X1 := Y1.q q6; have X1c := X1.cell; have X1f := X1.frozen; have X1l := X1.lt) | (have X1 := (Y1.alloc _).q q6; have X1c := X1.cell; have X1f := X1.frozen; have X1l := X1.lt) | (have X1 := ((Y1.alloc _).alloc _).q q6; have X1c := X1.cell; have X1f := X1.frozen; have X1l := X1.lt) | skip); (first | (have X2 := Y2.q q6; have X2c := X2.cell; have X2f := X2.frozen; have X2l := X2.lt) | (have X2 := (Y2.alloc _).q q6; have X2c := X2.cell; have X2f := X2.frozen; have X2l := X2.lt) | (have X2 := ((Y2.alloc _).alloc _).q q6; have X2c := X2.cell; have X2f := X2.frozen; have X2l := X2.lt) | skip); (first | (have X3 := q6.boxB2; have X40 := q6.boxB; have X3c := X3.cell; have X3f := X3.frozen; have X3l := X3.lt; simp only [World.size_alloc] at X40; have X4 := X40; have X4c := X4.cell; have X4f := X4.frozen; have X4l := X4.lt) | (have X3 := q6.boxB; have X3c := X3.cell; have X3f := X3.frozen; have X3l := X3.lt) | (have X3 := (Q.trans ((Q.refl _).drew) q6).boxB2; have X40 := (Q.trans ((Q.refl _).drew) q6).boxB; have X3c := X3.cell; have X3f := X3.frozen; have X3l := X3.lt; simp only [World.size_alloc] at X40; have X4 := X40; have X4c := X4.cell; have X4f := X4.frozen; have X4l := X4.lt) | (have X3 := (Q.trans ((Q.refl _).drew) q6).boxB; have X3c := X3.cell; have X3f := X3.frozen; have X3l := X3.lt) | skip)) | (go_at_call 91; (first | (with_reducible refine Calls.mono (KP1.out _ ?hr) ?_; (case hr => (refine hR.q ?_; ((repeat (first | with_reducible assumption | with_reducible exact Q.refl _ | with_reducible refine Q.alloc ?_ _ | with_reducible refine Q.setCell ?_ (by (try simp only); first | with_reducible exact Nat.le_refl _ | with_reducible assumption | omega) _ | with_reducible refine Q.drew ?_)); done)))) | (with_reducible refine Calls.mono (KP2.out _ ?hr) ?_; (case hr => (refine hR.q ?_; ((repeat (first | with_reducible assumption | with_reducible exact Q.refl _ | with_reducible refine Q.alloc ?_ _ | with_reducible refine Q.setCell ?_ (by (try simp only); first | with_reducible exact Nat.le_refl _ | with_reducible assumption | omega) _ | with_reducible refine Q.drew ?_)); done))))); rintro e w5 ⟨rfl, q5⟩; have QR : Q wo w5 := Q.trans (by (repeat (first | with_reducible assumption | with_reducible exact Q.refl _ | with_reducible refine Q.alloc ?_ _ | with_reducible refine Q.setCell ?_ (by (try simp only); first | with_reducible exact Nat.le_refl _ | with_reducible assumption | omega) _ | with_reducible refine Q.drew ?_))) q5; have zr := QR.size; (first | (have Y1 := q5.boxB2; have Y20 := q5.boxB; have Y1c := Y1.cell; have Y1f := Y1.frozen; have Y1l := Y1.lt; simp only [World.size_alloc] at Y20; have Y2 := Y20; have Y2c := Y2.cell; have Y2f := Y2.frozen; have Y2l := Y2.lt) | (have Y1 := q5.boxB; have Y1c := Y1.cell; have Y1f := Y1.frozen; have Y1l := Y1.lt) | (have Y1 := (Q.trans ((Q.refl _).drew) q5).boxB2; have Y20 := (Q.trans ((Q.refl _).drew) q5).boxB; have Y1c := Y1.cell; have Y1f := Y1.frozen; have Y1l := Y1.lt; simp only [World.size_alloc] at Y20; have Y2 := Y20; have Y2c := Y2.cell; have Y2f := Y2.frozen; have Y2l := Y2.lt) | (have Y1 := (Q.trans ((Q.refl _).drew) q5).boxB; have Y1c := Y1.cell; have Y1f := Y1.frozen; have Y1l := Y1.lt) | skip)))
    all_goals (go_wp2_with fail; go_meet)
    all_goals clear hS
    all_goals first | with_reducible exact pt_s0a QR | with_reducible exact pt_s0b QR | with_reducible exact pt_s1a X3 QR (by omega) | with_reducible exact pt_s1a X1 QR (by omega) | with_reducible exact pt_s1b X3 QR (by omega) | with_reducible exact pt_s1b X1 QR (by omega) | with_reducible exact pt_s2 X3 X4 QR (by omega) (by omega) (by omega) | with_reducible exact pt_s2 X4 X3 QR (by omega) (by omega) (by omega) | with_reducible exact pt_s2 X1 X3 QR (by omega) (by omega) (by omega) | with_reducible exact pt_s2 X3 X1 QR (by omega) (by omega) (by omega) | with_reducible exact pt_s2 X1 X2 QR (by omega) (by omega) (by omega) | with_reducible exact pt_s2 X2 X1 QR (by omega) (by omega) (by omega)
  case rest =>
    obtain ⟨b8, b9, rfl, rfl, B8, B9, QC⟩ := hcut
    replace B0 := B0.q QC
    replace R0 := R0.q QC
    replace Q0 := Q0.trans QC
    clear hR QC
    have d8 := B8.cell
    have QL : Q wc (wc.alloc (.cells #[.int .i64 t, .int .i64 PX, .int .i64 PY] 98)) := by (repeat (first | assumption | exact Q.refl _ | refine Q.alloc ?_ _ | refine Q.drewN ?_ _ | refine Q.drew ?_))
    have OL : Own (wc.alloc (.cells #[.int .i64 t, .int .i64 PX, .int .i64 PY] 98)) wc.heap.size 98 3 (.slice (some ⟨wc.heap.size, 0, none⟩) 1 1) (cuN xs t e 0 + 1) (cuH xs n t e 0) := by
      rw [HH0.out]
      exact Own.lit wc 98 3 1 [t, PX, PY] rfl (Nat.le_refl _) rfl (by decide)
    have c0 := (B0.q QL).cell
    have l0 := (B0.q QL).lt
    go_wp2_with fail
    clear c0 l0 d8
    go_loopw [10, 11] (fun v i wr => ∃ (k : Nat) (A1 : Option Addr) (c1 : Nat), k ≤ n ∧ i = .int .i64 k ∧ v = .slice A1 (cuN xs t e k + 1) c1 ∧ Own wr wc.heap.size 98 3 (.slice A1 (cuN xs t e k + 1) c1) (cuN xs t e k + 1) (cuH xs n t e k) ∧ Q wc wr) (fun _ i _ => n - (intOf i).toNat)
    case atStart => exact ⟨0, _, _, Nat.zero_le _, rfl, rfl, OL, QL⟩
    case round =>
      clear OL QL
      obtain ⟨k, A1, c1, hk, rfl, rfl, hown, hq⟩ := hrel
      have b0 := (B0.q hq).cell
      have l0 := (B0.q hq).lt
      have hsz := hq.size
      have hkN := HNle.out k
      by_cases hlt : k < n
      · have hltI : (k : Int) < (n : Int) := by omega
        obtain ⟨b1, o1, hA, g0, g1, g2⟩ := (ha.q (Q0.trans hq)).at3 HN.out hlt
        cases hA
        have HY := Lib.hid (HCY.out k)
        have HX := Lib.hid (HCN.out k)
        generalize el xs (k * 3) = ft at *
        generalize el xs (k * 3 + 1) = fx at *
        generalize el xs (k * 3 + 2) = fy at *
        by_cases hc1 : t < ft
        · by_cases hc2 : ft < e
          · have HK := Lib.hid (HY.out ⟨hc1, hc2⟩)
            go_wp2_with (at_builtin; refine appK elFix rfl _ _ rfl [ft, fx, fy] rfl (hown.q (by (repeat (first | assumption | exact Q.refl _ | refine Q.alloc ?_ _ | refine Q.drewN ?_ _ | refine Q.drew ?_)))) rfl (by simp) rfl _ _ rfl (by omega) (by first | omega | (simp; omega)) ?_; intro A' c' w' hown' hg' hgr')
            go_roundw
            case rel => exact ⟨k + 1, A', c', by omega, by go_num, by rw [HK.out.2], by rw [HK.out.2, HK.out.1]; exact hown', Q.mark (hq.trans (by (repeat (first | assumption | exact Q.refl _ | refine Q.alloc ?_ _ | refine Q.drewN ?_ _ | refine Q.drew ?_)))) (hown.q (by (repeat (first | assumption | exact Q.refl _ | refine Q.alloc ?_ _ | refine Q.drewN ?_ _ | refine Q.drew ?_)))) (Nat.le_refl _) hg'⟩
            case measure => simp [intOf]; omega
          · have HK := Lib.hid (HX.out (fun h => hc2 h.2))
            have hc3 : (decide (ft < e)) = false := by simpa using hc2
            go_wp2_with fail
            go_roundw
            case rel => exact ⟨k + 1, A1, c1, by omega, by go_num, by rw [HK.out.2], by rw [HK.out.2, HK.out.1]; exact hown.q (by (repeat (first | assumption | exact Q.refl _ | refine Q.alloc ?_ _ | refine Q.drewN ?_ _ | refine Q.drew ?_))), hq.trans (by (repeat (first | assumption | exact Q.refl _ | refine Q.alloc ?_ _ | refine Q.drewN ?_ _ | refine Q.drew ?_)))⟩
            case measure => simp [intOf]; omega
        · have HK := Lib.hid (HX.out (fun h => hc1 h.1))
          go_wp2_with fail
          go_roundw
          case rel => exact ⟨k + 1, A1, c1, by omega, by go_num, by rw [HK.out.2], by rw [HK.out.2, HK.out.1]; exact hown.q (by (repeat (first | assumption | exact Q.refl _ | refine Q.alloc ?_ _ | refine Q.drewN ?_ _ | refine Q.drew ?_))), hq.trans (by (repeat (first | assumption | exact Q.refl _ | refine Q.alloc ?_ _ | refine Q.drewN ?_ _ | refine Q.drew ?_)))⟩
          case measure => simp [intOf]; omega
      · obtain rfl : k = n := by omega
        have b9 := (B9.q hq).cell
        have R9 := R0.q hq
        have r9 := R9.lt
        have rf := R9.frozen
        have rc := R9.cell
        have hszC := Q0.size
        go_wp2_with (at_builtin; refine appK elFix rfl _ _ rfl [e, QX, QY] rfl (hown.q (by (repeat (first | assumption | exact Q.refl _ | refine Q.alloc ?_ _ | refine Q.drewN ?_ _ | refine Q.drew ?_)))) rfl (by simp) rfl _ _ rfl (by omega) (by omega) ?_; intro A' c' w' hown' hg' hgr'; have R10 := Blk.markO R9 hown (by decide) hg'; have r10 := R10.lt; have rf10 := R10.frozen; have rc10 := R10.cell)
        rw [← HL.out] at hown'
        have hq' := Q.mark hq hown (Nat.le_refl _) hg'
        have F := (R10.set_ 0 (.slice A' (cuN xs t e k + 1 + 1) c')).cell
        refine bodyPost_ret (v := .tuple #[.agg #[.slice A' (cuN xs t e k + 1 + 1) c'], .int .i64 0]) (by simp [results, Tryz.results61, go_sem, F]) rfl ⟨A', c', by rw [HCC.out], ?_, ?_⟩
        · rw [HCC.out]
          exact (hown'.setFar (Own.ne_blk hown' R10 (by decide)) 0 _).mono Q0.size
        · exact (Q0.trans hq').setCell (p := ⟨w.heap.size + 1, 0, none⟩) (Nat.le_add_right _ 1) _
end Go.Proofs.YteofhfefbphjdaaGreatDoor
