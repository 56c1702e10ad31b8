/- Plain: where the crossings of a track lie in time, and the finish of a boat. No condition. Walks: the finish of a boat, as the program and the reference find it. No condition. Walks: the finish of a boat, as the reference finds it. No condition. -/
import Derived.Test.YteofhfefbphjdaaGreatDoorMkT
import Derived.Test.YteofhfefbphjdaaGreatDoorMkQ
import Derived.Test.YteofhfefbphjdaaGreatDoorStT
import Derived.Test.YteofhfefbphjdaaGreatDoorStI
namespace Go.Proofs.YteofhfefbphjdaaGreatDoor
open Go.RowKit Go.WideShapes Go.ChangeShapes
theorem crL_ge {a b c d : Int} {xs : List Int} {n : Nat} (hT : isTrk xs n = true) (hl : lnB a b c d = true) : ∀ K, K < n → ∀ j, j * 5 < (crL a b c d xs K).length → el xs 0 ≤ el (crL a b c d xs K) (j * 5)
  | 0, _, j, hj => absurd hj (Nat.not_lt_zero _)
  | K + 1, hK, j, hj => by
    obtain ⟨m, hm, _⟩ := crL_len a b c d xs K
    by_cases h0 : wyK a b c d xs K = 0
    · rw [crL_no h0] at hj ⊢
      exact crL_ge hT hl K (by omega) j hj
    · rw [crL_yes h0] at hj ⊢
      by_cases hjm : j < m
      · rw [el_app_l (by omega)]
        exact crL_ge hT hl K (by omega) j (by omega)
      · rw [List.length_append, hm] at hj
        have h5 : (crK a b c d xs K).length = 5 := rfl
        obtain rfl : j = m := by omega
        have e0 := el_app_r (L := crL a b c d xs K) (E := crK a b c d xs K) 0
        rw [hm] at e0
        rw [show j * 5 = j * 5 + 0 from rfl, e0]
        have hb := tmK_bd hT hl hK h0
        have h00 := trk_le' hT (Nat.zero_le K) (show K < n by omega)
        rw [Nat.zero_mul] at h00
        have : el (crK a b c d xs K) 0 = tmK a b c d xs K := rfl
        omega
theorem cr_bd {a b c d : Int} {xs : List Int} {n : Nat} {wy fr : Int} (hT : isTrk xs n = true) (hl : lnB a b c d = true) (hV : 0 ≤ fcV a b c d xs n wy fr) :
    el xs 0 ≤ el (crL a b c d xs (n - 1)) ((fcV a b c d xs n wy fr).toNat * 5) ∧ el (crL a b c d xs (n - 1)) ((fcV a b c d xs n wy fr).toNat * 5) ≤ el xs ((n - 1) * 3) := by
  have hn := trk_n hT
  obtain ⟨m, hm, h1, _⟩ := crL_sorted hT hl (n - 1) (by omega)
  have e : fcV a b c d xs n wy fr = fcI (crL a b c d xs (n - 1)) wy fr m := by unfold fcV; rw [hm, Nat.mul_div_cancel _ (by decide)]
  rw [e] at hV ⊢
  rcases fcI_bd (crL a b c d xs (n - 1)) wy fr m with h | ⟨j, hj, h, _, _⟩
  · rw [h] at hV; exact absurd hV (by decide)
  · rw [h]
    have ej : ((j : Int)).toNat = j := by omega
    rw [ej]
    exact ⟨crL_ge hT hl (n - 1) (by omega) j (by omega), h1 j hj⟩
theorem tcT_bd {L ys : List Int} {m k : Nat} {fr : Int} (hT : isTrk ys m = true) (hl : lnB (el L (k * 4)) (el L (k * 4 + 1)) (el L (k * 4 + 2)) (el L (k * 4 + 3)) = true) (hV : 0 ≤ tcV L ys m k fr) : el ys 0 ≤ tcT L ys m k fr ∧ tcT L ys m k fr ≤ el ys ((m - 1) * 3) := cr_bd hT hl hV
theorem taF_bd {L ys : List Int} {m N : Nat} (hT : isTrk ys m = true) (hl : lnsOk L N) (hN : 1 ≤ N) (hok : taOk L ys m N = true) : 0 ≤ taF L ys m N ∧ taF L ys m N ≤ 1000000000 := by
  obtain ⟨k, rfl⟩ : ∃ k, N = k + 1 := ⟨N - 1, by omega⟩
  rw [taOk, Bool.and_eq_true, decide_eq_true_eq] at hok
  have hb := tcT_bd hT (hl k (by omega)) hok.2
  have hm := trk_n hT
  have t0 := trk_time hT (show 0 < m by omega)
  have t1 := trk_time hT (show m - 1 < m by omega)
  rw [Nat.zero_mul] at t0
  rw [taF]
  omega
/-- A start that counts lies within the track. -/
theorem st_from {a b c d : Int} {xs : List Int} {n : Nat} {t fl : Int} (hT : isTrk xs n = true) (hl : lnB a b c d = true) (h : (stA a b c d xs n t fl).1 = 0) : el xs 0 ≤ (stA a b c d xs n t fl).2.1 := by
  unfold stA stD at h ⊢
  by_cases h1 : hsI a b c d xs n t = true ∧ fl = 3
  · rw [if_pos h1] at h; exact absurd h (by decide)
  · rw [if_neg h1] at h ⊢
    by_cases h2 : hsI a b c d xs n t = true ∧ fl = 2
    · rw [if_pos h2] at h; exact absurd h (by decide)
    · rw [if_neg h2] at h ⊢
      by_cases h3 : stE a b c d xs n t = true ∧ fcV a b c d xs n (-1) t < 0
      · rw [if_pos h3] at h; exact absurd h (by decide)
      · rw [if_neg h3] at h ⊢
        split at h
        · exfalso
          revert h
          cases stE a b c d xs n t <;> decide
        · rename_i h4
          rw [if_neg h4]
          show el xs 0 ≤ stFr a b c d xs n t
          unfold stFr
          cases hE : stE a b c d xs n t
          · simp only [Bool.false_eq_true, if_false]
            exact Int.le_max_right _ _
          · simp only [if_true]
            rw [hE] at h3
            have h3' : ¬ fcV a b c d xs n (-1) t < 0 := fun hlt => h3 ⟨rfl, hlt⟩
            exact (cr_bd hT hl (by omega)).1
/-- The last time of a track. -/
def fnE (xs : List Int) (n : Nat) : Int := el xs ((n - 1) * 3)
/-- The finish by the lines crossed: its code and its time. -/
def fnP (L : List Int) (N : Nat) (ys : List Int) (m : Nat) (t : Int) : Int × Int := if taOk L ys m N = true ∧ t < taF L ys m N then (0, taF L ys m N - t) else (4, 0)
def fnV (a b c d : Int) (L : List Int) (N : Nat) (xs : List Int) (n : Nat) (t fl : Int) : Int × Int :=
  if (stA a b c d xs n t fl).1 = 0 then (if (stA a b c d xs n t fl).2.1 < fnE xs n then fnP L N (cuL xs n (stA a b c d xs n t fl).2.1 (fnE xs n)) (cuC xs n (stA a b c d xs n t fl).2.1 (fnE xs n)) t else (4, 0)) else ((stA a b c d xs n t fl).1, 0)
theorem fnV_no {a b c d : Int} {L : List Int} {N : Nat} {xs : List Int} {n : Nat} {t fl : Int} (h : (stA a b c d xs n t fl).1 ≠ 0) : fnV a b c d L N xs n t fl = ((stA a b c d xs n t fl).1, 0) := by unfold fnV; rw [if_neg h]
theorem fnV_late {a b c d : Int} {L : List Int} {N : Nat} {xs : List Int} {n : Nat} {t fl : Int} (h : (stA a b c d xs n t fl).1 = 0) (h2 : ¬ (stA a b c d xs n t fl).2.1 < fnE xs n) : fnV a b c d L N xs n t fl = (4, 0) := by unfold fnV; rw [if_pos h, if_neg h2]
theorem fnV_go {a b c d : Int} {L : List Int} {N : Nat} {xs : List Int} {n : Nat} {t fl : Int} (h : (stA a b c d xs n t fl).1 = 0) (h2 : (stA a b c d xs n t fl).2.1 < fnE xs n) : fnV a b c d L N xs n t fl = fnP L N (cuL xs n (stA a b c d xs n t fl).2.1 (fnE xs n)) (cuC xs n (stA a b c d xs n t fl).2.1 (fnE xs n)) t := by unfold fnV; rw [if_pos h, if_pos h2]
theorem fn_last {xs : List Int} {n : Nat} (hT : isTrk xs n = true) : lastsB xs n (fnE xs n) = true := by
  have hn := trk_n hT
  have h0 := trk_le' hT (Nat.zero_le (n - 1)) (show n - 1 < n by omega)
  rw [Nat.zero_mul] at h0
  unfold lastsB inR fnE
  rw [decide_eq_true_eq]
  exact ⟨h0, Int.le_refl _⟩
theorem fn_cut {xs : List Int} {n : Nat} {y : Int} (hy : el xs 0 ≤ y) (hlt : y < fnE xs n) : lastsB xs n y = true := by
  unfold lastsB inR
  rw [decide_eq_true_eq]
  unfold fnE at hlt
  omega
theorem Blk.set3 {w : World} {b : Nat} {T : TypeId} {x0 x1 x2 : Value} (h : Blk w b T #[x0, x1, x2]) (y0 y1 y2 : Value) : Blk (((w.setCell ⟨b, 0, none⟩ y0).setCell ⟨b, 1, none⟩ y1).setCell ⟨b, 2, none⟩ y2) b T #[y0, y1, y2] := ((h.set_ 0 y0).set_ 1 y1).set_ 2 y2
theorem Q.set3 {a w : World} {b : Nat} (h : Q a w) (hb : a.heap.size ≤ b) (y0 y1 y2 : Value) : Q a (((w.setCell ⟨b, 0, none⟩ y0).setCell ⟨b, 1, none⟩ y1).setCell ⟨b, 2, none⟩ y2) := ((h.setCell (p := ⟨b, 0, none⟩) hb y0).setCell (p := ⟨b, 1, none⟩) hb y1).setCell (p := ⟨b, 2, none⟩) hb y2
end Go.Proofs.YteofhfefbphjdaaGreatDoor
namespace Go.Proofs.YteofhfefbphjdaaGreatDoor
open Go.RowKit Go.WideShapes Go.ChangeShapes
set_option maxRecDepth 100000 in
set_option maxHeartbeats 8000000 in
theorem impl_finishOf (B : Option Addr) (N cb : Nat) (L : List Int) (A : Option Addr) (n cc : Nat) (xs : List Int) (t fl i : Int) (w : World) (hb : Rd w B L) (hL : L.length = N * 4) (hN : 1 ≤ N) (hN2 : N ≤ 1000) (hl : lnsOk L N) (ha : Rd w A xs) (hn : xs.length = n * 3) (hT : isTrk xs n = true) (ht : 0 ≤ t ∧ t ≤ 1000000000) :
    Calls Tryz.prog 23 #[.slice B N cb, .agg #[.slice A n cc], .int .i64 t, .int .i64 fl, .int .i64 i] w fun e w' => e = .returned (.agg #[.int .i64 i, .int .i64 (fnV (el L 0) (el L 1) (el L 2) (el L 3) L N xs n t fl).1, .int .i64 (fnV (el L 0) (el L 1) (el L 2) (el L 3) L N xs n t fl).2]) ∧ Q w w' := by
  have hn24 := trk_n hT
  obtain ⟨bt, ot, rfl, _, _, _⟩ := ha.at3 hn (show 0 < n by omega)
  obtain ⟨_, _, hA, e0, _, _⟩ := ha.at3 hn (show n - 1 < n by omega)
  cases hA
  obtain ⟨m1, rfl⟩ : ∃ m1, n = m1 + 1 := ⟨n - 1, by omega⟩
  rw [Nat.add_sub_cancel] at e0
  obtain ⟨bl, ol, rfl, g0, g1, g2, g3⟩ := hb.at4 hL (show 0 < N by omega)
  have hl0 := hl 0 (by omega)
  simp only [Nat.zero_mul, Nat.zero_add, Nat.add_zero] at g0 g1 g2 g3 hl0
  generalize el L 0 = a at *
  generalize el L 1 = b at *
  generalize el L 2 = c at *
  generalize el L 3 = d at *
  have KS0 := fun wv (h : Rd wv (some ⟨bt, ot, none⟩) xs) => impl_startOf a b c d (some ⟨bt, ot, none⟩) (m1 + 1) cc xs t fl wv h hn hT hl0 ht
  have hcr := fun (h : (stA a b c d xs (m1 + 1) t fl).1 = 0) => st_from hT hl0 h
  have hle := fn_last hT
  have kc := fun (y : Int) (hy : lastsB xs (m1 + 1) y = true) (hlt : y < fnE xs (m1 + 1)) wv (h : Rd wv (some ⟨bt, ot, none⟩) xs) => impl_CutTrack (some ⟨bt, ot, none⟩) (m1 + 1) cc xs y (fnE xs (m1 + 1)) wv h hn hT hy hle hlt
  have ht' := fun (y : Int) (hy : lastsB xs (m1 + 1) y = true) (hlt : y < fnE xs (m1 + 1)) => (show isTrk (cuL xs (m1 + 1) y (fnE xs (m1 + 1))) (cuC xs (m1 + 1) y (fnE xs (m1 + 1))) = true from cut_trk hT hy rfl hlt)
  have hv0 := fun (h : (stA a b c d xs (m1 + 1) t fl).1 ≠ 0) => (fnV_no (L := L) (N := N) h)
  have hv1 := fun (h : (stA a b c d xs (m1 + 1) t fl).1 = 0) => (fun h2 => fnV_late (L := L) (N := N) h h2)
  have hv2 := fun (h : (stA a b c d xs (m1 + 1) t fl).1 = 0) => (fun h2 => fnV_go (L := L) (N := N) h h2)
  have hcutb := fun (y : Int) (h1 : el xs 0 ≤ y) (h2 : y < fnE xs (m1 + 1)) => fn_cut (n := m1 + 1) h1 h2
  have KT := Lib.hid (fun (ys : List Int) (m : Nat) (hm : ys.length = m * 3) (hTy : isTrk ys m = true) (A' : Option Addr) (c' : Nat) wv (h1 : Rd wv (some ⟨bl, ol, none⟩) L) (h2 : Rd wv A' ys) => impl_timesAcross (some ⟨bl, ol, none⟩) N cb L A' m c' ys wv h1 hL hN hN2 hl h2 hm hTy)
  have HTB := Lib.hid (fun (ys : List Int) (m : Nat) (hTy : isTrk ys m = true) (hok : taOk L ys m N = true) => taF_bd hTy hl hN hok)
  obtain ⟨P, hP⟩ : ∃ P, P = stA a b c d xs (m1 + 1) t fl := ⟨_, rfl⟩
  rw [← hP] at KS0 hcr hv0 hv1 hv2
  generalize fnV a b c d L N xs (m1 + 1) t fl = FV at *
  obtain ⟨x, y, z, u⟩ := P
  simp only at hcr hv0 hv1 hv2
  unfold stVal at KS0
  simp only at KS0
  have KS := Lib.hid KS0
  obtain ⟨e, he⟩ : ∃ e, e = fnE xs (m1 + 1) := ⟨_, rfl⟩
  have e1 : w.cell? ⟨bt, ot + m1 * 3, none⟩ = some (.int .i64 e) := by rw [he]; unfold fnE; rw [Nat.add_sub_cancel]; exact e0
  rw [← he] at hle kc ht' hv1 hv2 hcutb
  have HV0 := Lib.hid hv0
  have HV1 := Lib.hid hv1
  have HV2 := Lib.hid hv2
  have HCR := Lib.hid hcr
  have HCB := Lib.hid hcutb
  have HT' := Lib.hid ht'
  have KC := Lib.hid kc
  have hm1I : (m1 : Int) ≤ 40 := by omega
  obtain ⟨W, hW⟩ : ∃ W, W = (w.alloc (.cells #[.slice (some ⟨bt, ot, none⟩) (m1 + 1) cc] 43)).alloc (.cells #[.int .i64 0, .int .i64 0, .int .i64 0] 38) := ⟨_, rfl⟩
  have B0 : Blk W w.heap.size 43 #[.slice (some ⟨bt, ot, none⟩) (m1 + 1) cc] := by rw [hW]; exact (Blk.new _ _ _).alloc _
  have R0 : Blk W (w.heap.size + 1) 38 #[.int .i64 0, .int .i64 0, .int .i64 0] := by rw [hW]; exact Blk.new1 _ _ _ _
  have Q0 : Q w W := by rw [hW]; (repeat (first | assumption | exact Q.refl _ | refine Q.alloc ?_ _ | refine Q.drewN ?_ _ | refine Q.drew ?_))
  have HW := Lib.hid hW
  have haW := ha.q Q0
  have hbW := hb.q Q0
  clear hW hn hT hl hL he e0 hP hcr hle kc ht' hv0 hv1 hv2 hcutb KS0 hl0
  have hN0I : (0 : Int) < (N : Int) := by omega
  have hN0N : 0 < N := by omega
  have hN0J : 1 ≤ N := by omega
  go_enter Tryz.func23, Tryz.ntmps23
  go_upto_region 1 with (fail)
  rw [← HW.out]
  go_cut [11] from 16 (fun v wc => ∃ bs, v = .pointer (some ⟨bs, 0, none⟩) ∧ Blk wc bs 49 #[.int .i64 x, .int .i64 y, .int .i64 z, .bool u] ∧ Q W wc)
  case first =>
    have hS : ∀ w', Q W w' → (Q W w' ∧ w'.cell? ⟨w.heap.size, 0, none⟩ = some (.slice (some ⟨bt, ot, none⟩) (m1 + 1) cc) ∧ w'.cell? ⟨bl, ol, none⟩ = some (.int .i64 a) ∧ w'.cell? ⟨bl, ol + 1, none⟩ = some (.int .i64 b) ∧ w'.cell? ⟨bl, ol + 2, none⟩ = some (.int .i64 c) ∧ w'.cell? ⟨bl, ol + 3, none⟩ = some (.int .i64 d)) := fun w' q => ⟨q, (B0.q q).cell 0, (Q0.trans q).cell g0, (Q0.trans q).cell g1, (Q0.trans q).cell g2, (Q0.trans q).cell g3⟩
    go_region_held3 (fun w' => Q W w' ∧ w'.cell? ⟨w.heap.size, 0, none⟩ = some (.slice (some ⟨bt, ot, none⟩) (m1 + 1) cc) ∧ w'.cell? ⟨bl, ol, none⟩ = some (.int .i64 a) ∧ w'.cell? ⟨bl, ol + 1, none⟩ = some (.int .i64 b) ∧ w'.cell? ⟨bl, ol + 2, none⟩ = some (.int .i64 c) ∧ w'.cell? ⟨bl, ol + 3, none⟩ = some (.int .i64 d)) (first | with_reducible exact hS _ QR | (with_reducible refine hS _ ?_; ((repeat (first | with_reducible assumption | with_reducible exact Q.refl _ | with_reducible refine Q.alloc ?_ _ | with_reducible refine Q.setCell ?_ (by (try simp only); first | with_reducible exact Nat.le_refl _ | with_reducible assumption | omega) _ | with_reducible refine Q.drew ?_)); done)) | (go_split_ands; first | with_reducible exact hS _ QR | (with_reducible refine hS _ ?_; ((repeat (first | with_reducible assumption | with_reducible exact Q.refl _ | with_reducible refine Q.alloc ?_ _ | with_reducible refine Q.setCell ?_ (by (try simp only); first | with_reducible exact Nat.le_refl _ | with_reducible assumption | omega) _ | with_reducible refine Q.drew ?_)); done)))) (first | (go_at_call 27; with_reducible refine Calls.mono (KS.out _ ?hr) ?_; (case hr => (refine haW.q ?_; ((repeat (first | with_reducible assumption | with_reducible exact Q.refl _ | with_reducible refine Q.alloc ?_ _ | with_reducible refine Q.setCell ?_ (by (try simp only); first | with_reducible exact Nat.le_refl _ | with_reducible assumption | omega) _ | with_reducible refine Q.drew ?_)); done))); rintro e5 w5 ⟨rfl, q5⟩; have QR : Q W w5 := Q.trans (by ((repeat (first | with_reducible assumption | with_reducible exact Q.refl _ | with_reducible refine Q.alloc ?_ _ | with_reducible refine Q.setCell ?_ (by (try simp only); first | with_reducible exact Nat.le_refl _ | with_reducible assumption | omega) _ | with_reducible refine Q.drew ?_)); done)) q5; have zR := QR.size; (first | (have BP : Blk w5 W.heap.size 49 #[.int .i64 0, .int .i64 0, .int .i64 0, .bool false] := ?hb; (case hb => (refine Blk.q ?_ q5; (repeat (first | exact Blk.new _ _ _ | exact Blk.drew (Blk.new _ _ _))); done))) | skip); (first | (have bpc := BP.cell; have bpf := BP.frozen; have bpl := BP.lt) | skip)))
    all_goals (go_wp2_with fail; go_meet)
    all_goals (first | (have PS := BP.set4R (.int .i64 x) (.int .i64 y) (.int .i64 z) (.bool u)) | skip)
    all_goals refine ⟨_, rfl, ?_, ?_⟩
    all_goals first
      | with_reducible exact Blk.new _ _ _
      | with_reducible exact PS
      | with_reducible exact QR.alloc _
      | with_reducible exact QR.set4 (Nat.le_refl _) _ _ _ _
  case rest =>
    obtain ⟨bs, rfl, BS, QC⟩ := hcut
    replace B0 := B0.q QC
    replace R0 := R0.q QC
    replace haW := haW.q QC
    replace hbW := hbW.q QC
    replace Q0 := Q0.trans QC
    clear QC KS
    have cS := BS.cell
    have c0 := B0.cell
    have c1 := Q0.cell e1
    have r0 := R0.lt
    have rf := R0.frozen
    have rc := R0.cell
    by_cases hx : x = 0
    · subst hx
      by_cases hy : y < e
      · have HF := Lib.hid (HV2.out rfl hy)
        have KCy := Lib.hid (KC.out y (HCB.out y (HCR.out rfl) hy) hy)
        have HTy := Lib.hid (HT'.out y (HCB.out y (HCR.out rfl) hy) hy)
        have HLy := Lib.hid (cuL_len xs (m1 + 1) y e)
        generalize cuL xs (m1 + 1) y e = ys at *
        generalize cuC xs (m1 + 1) y e = m at *
        go_wp2_with fail
        refine (KCy.out _ haW).mono ?_
        rintro e5 w5 ⟨A5, c5, rfl, o5, q5⟩
        have QA : Q wc (w5.alloc (.cells #[.slice A5 m c5] 43)) := q5.alloc _
        have rY := (o5.rd).q (show Q w5 (w5.alloc (.cells #[.slice A5 m c5] 43)) by (repeat (first | assumption | exact Q.refl _ | refine Q.alloc ?_ _ | refine Q.drewN ?_ _ | refine Q.drew ?_)))
        clear cS c0 c1 r0 rf rc
        go_wp2_with fail
        refine (KT.out ys m HLy.out HTy.out A5 c5 _ (hbW.q QA) rY).mono ?_
        rintro e6 w6 ⟨A6, k, c6, rfl, o6, q6, hkN, hok, hend⟩
        replace R0 := R0.q (QA.trans q6)
        replace Q0 := Q0.trans (QA.trans q6)
        have r0 := R0.lt
        have rf := R0.frozen
        have rc := R0.cell
        by_cases hk : k = N
        · subst hk
          obtain ⟨j, rfl⟩ : ∃ j, k = j + 1 := ⟨k - 1, by omega⟩
          obtain ⟨g6, rfl, _⟩ := o6.split (show 0 < j + 1 by omega)
          have x6 : w6.cell? ⟨g6, j, none⟩ = some (.int .i64 (taF L ys m (j + 1))) := by
            have := o6.cell (j := j) (by omega)
            rw [show (taL L ys m (j + 1)).getD j 0 = el (taL L ys m (j + 1)) j from rfl, taL_last] at this
            exact this
          have hbd := HTB.out ys m HTy.out hok
          have HP := Lib.hid (show fnP L (j + 1) ys m t = if taOk L ys m (j + 1) = true ∧ t < taF L ys m (j + 1) then (0, taF L ys m (j + 1) - t) else (4, 0) from rfl)
          generalize taF L ys m (j + 1) = T9 at *
          have hw9 : IntKind.i64.wrap (T9 - t) = T9 - t := by rw [IntKind.wrap_i64]; omega
          by_cases hgt : t < T9
          · have HG := Lib.hid (HF.out.trans (HP.out.trans (if_pos ⟨hok, hgt⟩)))
            clear hend hok
            go_wp2_with fail
            have F := (R0.set3 (.int .i64 i) (.int .i64 0) (.int .i64 (T9 - t))).cell
            rw [HG.out]
            exact bodyPost_ret (v := .agg #[.int .i64 i, .int .i64 0, .int .i64 (T9 - t)]) (by simp [results, Tryz.results23, go_sem, F]) rfl ⟨rfl, Q0.set3 (Nat.le_add_right _ 1) _ _ _⟩
          · have HG := Lib.hid (HF.out.trans (HP.out.trans (if_neg (fun h => hgt h.2))))
            have hgt' : decide (t < T9) = false := decide_eq_false hgt
            clear hend hok
            go_wp2_with fail
            have F := (R0.set3 (.int .i64 i) (.int .i64 4) (.int .i64 0)).cell
            rw [HG.out]
            exact bodyPost_ret (v := .agg #[.int .i64 i, .int .i64 4, .int .i64 0]) (by simp [results, Tryz.results23, go_sem, F]) rfl ⟨rfl, Q0.set3 (Nat.le_add_right _ 1) _ _ _⟩
        · have hno : taOk L ys m N = false := by
            have h1 := hend.resolve_left hk
            have := taOk_no h1 (N - (k + 1))
            rwa [show k + 1 + (N - (k + 1)) = N by omega] at this
          have HG := Lib.hid (HF.out.trans (show fnP L N ys m t = (4, 0) by unfold fnP; rw [if_neg (fun h => by rw [hno] at h; exact absurd h.1 (by decide))]))
          have hkI : ¬ ((k : Int) = (N : Int)) := by omega
          have hkb : ((k : Int) == (N : Int)) = false := by simpa using hkI
          clear hend hok hno hk
          go_wp2_with fail
          have F := (R0.set3 (.int .i64 i) (.int .i64 4) (.int .i64 0)).cell
          rw [HG.out]
          exact bodyPost_ret (v := .agg #[.int .i64 i, .int .i64 4, .int .i64 0]) (by simp [results, Tryz.results23, go_sem, F]) rfl ⟨rfl, Q0.set3 (Nat.le_add_right _ 1) _ _ _⟩
      · have HG := Lib.hid (HV1.out rfl hy)
        go_wp2_with fail
        have F := (R0.set3 (.int .i64 i) (.int .i64 4) (.int .i64 0)).cell
        rw [HG.out]
        exact bodyPost_ret (v := .agg #[.int .i64 i, .int .i64 4, .int .i64 0]) (by simp [results, Tryz.results23, go_sem, F]) rfl ⟨rfl, Q0.set3 (Nat.le_add_right _ 1) _ _ _⟩
    · have HG := Lib.hid (HV0.out hx)
      have hxb : (x == 0) = false := by simpa using hx
      go_wp2_with fail
      have F := (R0.set3 (.int .i64 i) (.int .i64 x) (.int .i64 0)).cell
      rw [HG.out]
      exact bodyPost_ret (v := .agg #[.int .i64 i, .int .i64 x, .int .i64 0]) (by simp [results, Tryz.results23, go_sem, F]) rfl ⟨rfl, Q0.set3 (Nat.le_add_right _ 1) _ _ _⟩
end Go.Proofs.YteofhfefbphjdaaGreatDoor
namespace Go.Proofs.YteofhfefbphjdaaGreatDoor
open Go.RowKit Go.WideShapes Go.ChangeShapes
theorem clTo_0 (a b c d : Int) (ms : List Mk) : ∀ K, el (clTo a b c d ms K) 0 = a ∧ el (clTo a b c d ms K) 1 = b ∧ el (clTo a b c d ms K) 2 = c ∧ el (clTo a b c d ms K) 3 = d
  | 0 => ⟨rfl, rfl, rfl, rfl⟩
  | K + 1 => by
    have hl := clTo_len a b c d ms K
    rw [clTo, elA_lt (by omega), elA_lt (by omega), elA_lt (by omega), elA_lt (by omega)]
    exact clTo_0 a b c d ms K
theorem clL_0 (a b c d p q r s : Int) (ms : List Mk) : el (clL a b c d p q r s ms) 0 = a ∧ el (clL a b c d p q r s ms) 1 = b ∧ el (clL a b c d p q r s ms) 2 = c ∧ el (clL a b c d p q r s ms) 3 = d := by
  have hl := clTo_len a b c d ms ms.length
  unfold clL
  rw [elA_lt (by omega), elA_lt (by omega), elA_lt (by omega), elA_lt (by omega)]
  exact clTo_0 a b c d ms ms.length
/-- The time at which all lines are crossed, and its code. -/
def ftV (L ys : List Int) (m N : Nat) : Int × Int := if taOk L ys m N = true then (taF L ys m N, 0) else (0, 4)
set_option maxHeartbeats 4000000 in
theorem spec_l06Code (a b c d p q r s : Int) (A0 : Option Addr) (n0 c0 : Nat) (ms : List Mk) (A : Option Addr) (m cc : Nat) (ys : List Int) (w : World) (hm0 : RdM w A0 ms) (hn0 : ms.length = n0) (hc : crsB a b c d p q r s ms = true) (hall : clAll a b c d ms n0 = true) (ha : Rd w A ys) (hm : ys.length = m * 3) (hT : isTrk ys m = true) :
    Calls Tryz.prog 92 #[.agg #[.int .i64 a, .int .i64 b, .int .i64 c, .int .i64 d, .int .i64 p, .int .i64 q, .int .i64 r, .int .i64 s, .slice A0 n0 c0], .agg #[.slice A m cc]] w fun e w' => e = .returned (.int .i64 0) ∧ Q w w' := by
  have kl : ∀ wv, RdM wv A0 ms → Calls Tryz.prog 39 #[.agg #[.int .i64 a, .int .i64 b, .int .i64 c, .int .i64 d, .int .i64 p, .int .i64 q, .int .i64 r, .int .i64 s, .slice A0 n0 c0]] wv (RSB wv 27 4 (n0 + 2) (clL a b c d p q r s ms) true) := fun wv h => by
    have := spec_l06Lines a b c d p q r s A0 n0 c0 ms wv h hn0 hc
    unfold CLs at this
    rw [hall] at this
    exact this
  have KL := Lib.hid kl
  have hlen8 : n0 ≤ 8 := by obtain ⟨_, _, h3, _⟩ := crs_yes hc; omega
  have hm40 := trk_n hT
  have kc := fun wv (h : RdM wv A0 ms) => spec_IsCourse a b c d p q r s A0 n0 c0 ms wv h hn0 (by omega)
  rw [hc] at kc
  have kt := fun wv (h : Rd wv A ys) => spec_IsTrack A m cc ys wv h hm (by omega)
  rw [hT] at kt
  have KC := Lib.hid kc
  have KT := Lib.hid kt
  clear kl kc kt hc hall hT
  generalize clL a b c d p q r s ms = L at *
  obtain ⟨W, hW⟩ : ∃ W, W = (w.alloc (.cells #[.int .i64 a, .int .i64 b, .int .i64 c, .int .i64 d, .int .i64 p, .int .i64 q, .int .i64 r, .int .i64 s, .slice A0 n0 c0] 30)).alloc (.cells #[.slice A m cc] 43) := ⟨_, rfl⟩
  have B0 : Blk W w.heap.size 30 #[.int .i64 a, .int .i64 b, .int .i64 c, .int .i64 d, .int .i64 p, .int .i64 q, .int .i64 r, .int .i64 s, .slice A0 n0 c0] := by rw [hW]; exact (Blk.new _ _ _).alloc _
  have B1 : Blk W (w.heap.size + 1) 43 #[.slice A m cc] := by rw [hW]; exact Blk.new1 _ _ _ _
  have Q0 : Q w W := by rw [hW]; (repeat (first | assumption | exact Q.refl _ | refine Q.alloc ?_ _ | refine Q.drewN ?_ _ | refine Q.drew ?_))
  have HW := Lib.hid hW
  clear hW
  go_enter Tryz.func92, Tryz.ntmps92
  go_wp2_with fail
  rw [← HW.out]
  refine (KC.out _ (hm0.q Q0)).mono ?_
  rintro e1 w1 ⟨rfl, q1⟩
  replace B0 := B0.q q1
  replace B1 := B1.q q1
  replace Q0 := Q0.trans q1
  have c0 := B0.cell
  have c1 := B1.cell
  have l0 := B0.lt
  have l1 := B1.lt
  go_wp2_with fail
  refine (KT.out _ (ha.q Q0)).mono ?_
  rintro e2 w2 ⟨rfl, q2⟩
  clear c0 c1 l0 l1
  replace B0 := B0.q q2
  replace Q0 := Q0.trans q2
  have c0 := B0.cell
  have l0 := B0.lt
  go_wp2_with fail
  refine (KL.out _ (hm0.q Q0)).mono ?_
  rintro e3 w3 ⟨A3, c3, rfl, o3, q3⟩
  go_wp2_with fail
  go_ret
  exact ⟨rfl, Q0.trans q3⟩
set_option maxHeartbeats 4000000 in
theorem spec_FinishTime (a b c d p q r s : Int) (A0 : Option Addr) (n0 c0 : Nat) (ms : List Mk) (A : Option Addr) (m cc : Nat) (ys : List Int) (w : World) (hm0 : RdM w A0 ms) (hn0 : ms.length = n0) (hc : crsB a b c d p q r s ms = true) (hall : clAll a b c d ms n0 = true) (ha : Rd w A ys) (hm : ys.length = m * 3) (hT : isTrk ys m = true) :
    Calls Tryz.prog 62 #[.agg #[.int .i64 a, .int .i64 b, .int .i64 c, .int .i64 d, .int .i64 p, .int .i64 q, .int .i64 r, .int .i64 s, .slice A0 n0 c0], .agg #[.slice A m cc]] w fun e w' => e = .returned (.tuple #[.int .i64 (ftV (clL a b c d p q r s ms) ys m (n0 + 2)).1, .int .i64 (ftV (clL a b c d p q r s ms) ys m (n0 + 2)).2]) ∧ Q w w' := by
  have KC := Lib.hid (fun wv (h : RdM wv A0 ms) (h2 : Rd wv A ys) => spec_l06Code a b c d p q r s A0 n0 c0 ms A m cc ys wv h hn0 hc hall h2 hm hT)
  have KT := Lib.hid (fun wv (h : RdM wv A0 ms) (h2 : Rd wv A ys) => spec_l06Times a b c d p q r s A0 n0 c0 ms A m cc ys wv h hn0 hc hall h2 hm hT)
  have hlen8 : n0 ≤ 8 := by obtain ⟨_, _, h3, _⟩ := crs_yes hc; omega
  clear hc hall hT
  generalize clL a b c d p q r s ms = L at *
  obtain ⟨W, hW⟩ : ∃ W, W = (w.alloc (.cells #[.int .i64 a, .int .i64 b, .int .i64 c, .int .i64 d, .int .i64 p, .int .i64 q, .int .i64 r, .int .i64 s, .slice A0 n0 c0] 30)).alloc (.cells #[.slice A m cc] 43) := ⟨_, rfl⟩
  have B0 : Blk W w.heap.size 30 #[.int .i64 a, .int .i64 b, .int .i64 c, .int .i64 d, .int .i64 p, .int .i64 q, .int .i64 r, .int .i64 s, .slice A0 n0 c0] := by rw [hW]; exact (Blk.new _ _ _).alloc _
  have B1 : Blk W (w.heap.size + 1) 43 #[.slice A m cc] := by rw [hW]; exact Blk.new1 _ _ _ _
  have Q0 : Q w W := by rw [hW]; (repeat (first | assumption | exact Q.refl _ | refine Q.alloc ?_ _ | refine Q.drewN ?_ _ | refine Q.drew ?_))
  have HW := Lib.hid hW
  clear hW
  go_enter Tryz.func62, Tryz.ntmps62
  go_wp2_with fail
  rw [← HW.out]
  refine (KC.out _ (hm0.q Q0) (ha.q Q0)).mono ?_
  rintro e1 w1 ⟨rfl, q1⟩
  replace B0 := B0.q q1
  replace B1 := B1.q q1
  replace Q0 := Q0.trans q1
  have c0 := B0.cell
  have c1 := B1.cell
  have l0 := B0.lt
  have l1 := B1.lt
  go_wp2_with fail
  refine (KT.out _ (hm0.q Q0) (ha.q Q0)).mono ?_
  rintro e6 w6 ⟨A6, k, c6, rfl, o6, q6, hkN, hok, hend⟩
  clear c0 c1 l0 l1
  replace B0 := B0.q q6
  replace Q0 := Q0.trans q6
  have c0 := B0.cell
  have l0 := B0.lt
  by_cases hk : k = n0 + 2
  · have HG := Lib.hid (show ftV L ys m (n0 + 2) = (taF L ys m (n0 + 2), 0) by unfold ftV; rw [← hk, if_pos hok])
    subst hk
    obtain ⟨g6, rfl, _⟩ := o6.split (show 0 < n0 + 2 by omega)
    have x6 : w6.cell? ⟨g6, n0 + 1, none⟩ = some (.int .i64 (taF L ys m (n0 + 2))) := by
      have := o6.cell (j := n0 + 1) (by omega)
      rw [show (taL L ys m (n0 + 2)).getD (n0 + 1) 0 = el (taL L ys m (n0 + 1 + 1)) (n0 + 1) from rfl, taL_last] at this
      exact this
    generalize taF L ys m (n0 + 2) = T9 at *
    have hn0I : (n0 : Int) ≤ 8 := by omega
    clear hend hok
    go_wp2_with fail
    go_ret2
    rw [HG.out]
    exact ⟨rfl, Q0⟩
  · have hno : taOk L ys m (n0 + 2) = false := by
      have h1 := hend.resolve_left hk
      have := taOk_no h1 (n0 + 2 - (k + 1))
      rwa [show k + 1 + (n0 + 2 - (k + 1)) = n0 + 2 by omega] at this
    have HG := Lib.hid (show ftV L ys m (n0 + 2) = (0, 4) by unfold ftV; rw [if_neg (fun h => by rw [hno] at h; exact absurd h (by decide))])
    have hkI : (k : Int) < (n0 : Int) + 2 := by omega
    have hn0I : (n0 : Int) ≤ 8 := by omega
    clear hend hok hno hk
    go_wp2_with fail
    go_ret2
    rw [HG.out]
    exact ⟨rfl, Q0⟩
set_option maxRecDepth 100000 in
set_option maxHeartbeats 8000000 in
theorem spec_l16Finish (a b c d p q r s : Int) (A0 : Option Addr) (n0 c0 : Nat) (ms : List Mk) (A : Option Addr) (n cc : Nat) (xs : List Int) (t fl : Int) (w : World) (hm0 : RdM w A0 ms) (hn0 : ms.length = n0) (hc : crsB a b c d p q r s ms = true) (hall : clAll a b c d ms n0 = true) (ha : Rd w A xs) (hn : xs.length = n * 3) (hT : isTrk xs n = true) (ht : 0 ≤ t ∧ t ≤ 1000000000) :
    Calls Tryz.prog 25 #[.agg #[.int .i64 a, .int .i64 b, .int .i64 c, .int .i64 d, .int .i64 p, .int .i64 q, .int .i64 r, .int .i64 s, .slice A0 n0 c0], .agg #[.slice A n cc], .int .i64 t, .int .i64 fl] w fun e w' => e = .returned (.agg #[.int .i64 0, .int .i64 (fnV a b c d (clL a b c d p q r s ms) (n0 + 2) xs n t fl).1, .int .i64 (fnV a b c d (clL a b c d p q r s ms) (n0 + 2) xs n t fl).2]) ∧ Q w w' := by
  have hn24 := trk_n hT
  obtain ⟨bt, ot, rfl, _, _, _⟩ := ha.at3 hn (show 0 < n by omega)
  obtain ⟨_, _, hA, e0, _, _⟩ := ha.at3 hn (show n - 1 < n by omega)
  cases hA
  obtain ⟨m1, rfl⟩ : ∃ m1, n = m1 + 1 := ⟨n - 1, by omega⟩
  rw [Nat.add_sub_cancel] at e0
  have hl := clL_ok hn0 hc hall
  have hl0 : lnB a b c d = true := (crs_yes hc).1
  have KS0 := fun wv (h : Rd wv (some ⟨bt, ot, none⟩) xs) => spec_Start a b c d (some ⟨bt, ot, none⟩) (m1 + 1) cc xs t fl wv h hn hT hl0 ht
  have hcr := fun (h : (stA a b c d xs (m1 + 1) t fl).1 = 0) => st_from hT hl0 h
  have hle := fn_last hT
  have kc := fun (y : Int) (hy : lastsB xs (m1 + 1) y = true) (hlt : y < fnE xs (m1 + 1)) wv (h : Rd wv (some ⟨bt, ot, none⟩) xs) => spec_CutTrack (some ⟨bt, ot, none⟩) (m1 + 1) cc xs y (fnE xs (m1 + 1)) wv h hn hT hy hle hlt
  have ht' := fun (y : Int) (hy : lastsB xs (m1 + 1) y = true) (hlt : y < fnE xs (m1 + 1)) => (show isTrk (cuL xs (m1 + 1) y (fnE xs (m1 + 1))) (cuC xs (m1 + 1) y (fnE xs (m1 + 1))) = true from cut_trk hT hy rfl hlt)
  have hv0 := fun (h : (stA a b c d xs (m1 + 1) t fl).1 ≠ 0) => (fnV_no (L := clL a b c d p q r s ms) (N := n0 + 2) h)
  have hv1 := fun (h : (stA a b c d xs (m1 + 1) t fl).1 = 0) => (fun h2 => fnV_late (L := clL a b c d p q r s ms) (N := n0 + 2) h h2)
  have hv2 := fun (h : (stA a b c d xs (m1 + 1) t fl).1 = 0) => (fun h2 => fnV_go (L := clL a b c d p q r s ms) (N := n0 + 2) h h2)
  have hcutb := fun (y : Int) (h1 : el xs 0 ≤ y) (h2 : y < fnE xs (m1 + 1)) => fn_cut (n := m1 + 1) h1 h2
  have KT := Lib.hid (fun (ys : List Int) (m : Nat) (hm : ys.length = m * 3) (hTy : isTrk ys m = true) (A' : Option Addr) (c' : Nat) wv (h1 : RdM wv A0 ms) (h2 : Rd wv A' ys) => spec_FinishTime a b c d p q r s A0 n0 c0 ms A' m c' ys wv h1 hn0 hc hall h2 hm hTy)
  have HTB := Lib.hid (fun (ys : List Int) (m : Nat) (hTy : isTrk ys m = true) (hok : taOk (clL a b c d p q r s ms) ys m (n0 + 2) = true) => taF_bd hTy hl (show 1 ≤ n0 + 2 by omega) hok)
  obtain ⟨P, hP⟩ : ∃ P, P = stA a b c d xs (m1 + 1) t fl := ⟨_, rfl⟩
  rw [← hP] at KS0 hcr hv0 hv1 hv2
  generalize fnV a b c d (clL a b c d p q r s ms) (n0 + 2) xs (m1 + 1) t fl = FV at *
  generalize clL a b c d p q r s ms = L at *
  obtain ⟨x, y, z, u⟩ := P
  simp only at hcr hv0 hv1 hv2
  unfold stVal at KS0
  simp only at KS0
  have KS := Lib.hid KS0
  obtain ⟨e, he⟩ : ∃ e, e = fnE xs (m1 + 1) := ⟨_, rfl⟩
  have e1 : w.cell? ⟨bt, ot + m1 * 3, none⟩ = some (.int .i64 e) := by rw [he]; unfold fnE; rw [Nat.add_sub_cancel]; exact e0
  rw [← he] at hle kc ht' hv1 hv2 hcutb
  have HV0 := Lib.hid hv0
  have HV1 := Lib.hid hv1
  have HV2 := Lib.hid hv2
  have HCR := Lib.hid hcr
  have HCB := Lib.hid hcutb
  have HT' := Lib.hid ht'
  have KC := Lib.hid kc
  have hm1I : (m1 : Int) ≤ 40 := by omega
  obtain ⟨W, hW⟩ : ∃ W, W = ((w.alloc (.cells #[.int .i64 a, .int .i64 b, .int .i64 c, .int .i64 d, .int .i64 p, .int .i64 q, .int .i64 r, .int .i64 s, .slice A0 n0 c0] 30)).alloc (.cells #[.slice (some ⟨bt, ot, none⟩) (m1 + 1) cc] 43)).alloc (.cells #[.int .i64 0, .int .i64 0, .int .i64 0] 38) := ⟨_, rfl⟩
  have B0 : Blk W w.heap.size 30 #[.int .i64 a, .int .i64 b, .int .i64 c, .int .i64 d, .int .i64 p, .int .i64 q, .int .i64 r, .int .i64 s, .slice A0 n0 c0] := by rw [hW]; exact ((Blk.new _ _ _).alloc _).alloc _
  have B1 : Blk W (w.heap.size + 1) 43 #[.slice (some ⟨bt, ot, none⟩) (m1 + 1) cc] := by rw [hW]; exact (Blk.new1 _ _ _ _).alloc _
  have R0 : Blk W (w.heap.size + 1 + 1) 38 #[.int .i64 0, .int .i64 0, .int .i64 0] := by rw [hW]; exact Blk.newZ (by simp)
  have Q0 : Q w W := by rw [hW]; (repeat (first | assumption | exact Q.refl _ | refine Q.alloc ?_ _ | refine Q.drewN ?_ _ | refine Q.drew ?_))
  have HW := Lib.hid hW
  clear hW hn hT hl he e0 hP hcr hle kc ht' hv0 hv1 hv2 hcutb KS0 hl0 hc hall
  go_enter Tryz.func25, Tryz.ntmps25
  go_wp2_with fail
  rw [← HW.out]
  refine (KS.out _ (ha.q Q0)).mono ?_
  rintro e5 wc ⟨rfl, QC⟩
  replace B0 := B0.q QC
  replace B1 := B1.q QC
  replace R0 := R0.q QC
  replace Q0 := Q0.trans QC
  clear QC KS
  have c0 := B0.cell
  have c2 := B1.cell
  have c1 := Q0.cell e1
  have lb := World.block_lt_of_cell? _ _ c1
  have r0 := R0.lt
  have l1 := B1.lt
  have l0 := B0.lt
  have rf := R0.frozen
  have rc := R0.cell
  have QS : Q wc (wc.alloc (.cells #[.int .i64 x, .int .i64 y, .int .i64 z, .bool u] 49)) := by (repeat (first | assumption | exact Q.refl _ | refine Q.alloc ?_ _ | refine Q.drewN ?_ _ | refine Q.drew ?_))
  by_cases hx : x = 0
  · subst hx
    by_cases hy : y < e
    · have HF := Lib.hid (HV2.out rfl hy)
      have KCy := Lib.hid (KC.out y (HCB.out y (HCR.out rfl) hy) hy)
      have HTy := Lib.hid (HT'.out y (HCB.out y (HCR.out rfl) hy) hy)
      have HLy := Lib.hid (cuL_len xs (m1 + 1) y e)
      have hyg : decide (y ≥ e) = false := decide_eq_false (by omega)
      have hyl : ¬ e ≤ y := by omega
      generalize cuL xs (m1 + 1) y e = ys at *
      generalize cuC xs (m1 + 1) y e = m at *
      go_wp2_with fail
      refine (KCy.out _ (ha.q (Q0.trans QS))).mono ?_
      rintro e5 w5 ⟨A5, c5, rfl, o5, q5⟩
      have QA : Q wc w5 := QS.trans q5
      have QT : Q w5 (w5.alloc (.cells #[.slice A5 m c5] 43)) := by (repeat (first | assumption | exact Q.refl _ | refine Q.alloc ?_ _ | refine Q.drewN ?_ _ | refine Q.drew ?_))
      have rY := (o5.rd).q QT
      clear c0 c1 c2 r0 rf rc l0 l1 lb
      replace B0 := B0.q QA
      replace R0 := R0.q QA
      replace Q0 := Q0.trans QA
      have c0 := B0.cell
      have l0 := B0.lt
      go_wp2_with fail
      refine (KT.out ys m HLy.out HTy.out A5 c5 _ (hm0.q (Q0.trans QT)) rY).mono ?_
      rintro e6 w6 ⟨rfl, q6⟩
      clear c0 l0
      replace R0 := R0.q (QT.trans q6)
      replace Q0 := Q0.trans (QT.trans q6)
      have r0 := R0.lt
      have rf := R0.frozen
      have rc := R0.cell
      have HP := Lib.hid (show fnP L (n0 + 2) ys m t = if taOk L ys m (n0 + 2) = true ∧ t < taF L ys m (n0 + 2) then (0, taF L ys m (n0 + 2) - t) else (4, 0) from rfl)
      have HFT := Lib.hid (show ftV L ys m (n0 + 2) = if taOk L ys m (n0 + 2) = true then (taF L ys m (n0 + 2), 0) else (0, 4) from rfl)
      have hbd := HTB.out ys m HTy.out
      cases hok : taOk L ys m (n0 + 2)
      · have HG := Lib.hid (HF.out.trans (HP.out.trans (if_neg (fun h => by rw [hok] at h; exact absurd h.1 (by decide)))))
        have e4 : ftV L ys m (n0 + 2) = (0, 4) := HFT.out.trans (if_neg (fun h => by rw [hok] at h; exact absurd h (by decide)))
        clear hbd hok
        rw [e4]
        go_wp2_with fail
        have F := ((R0.set3 (.int .i64 0) (.int .i64 4) (.int .i64 0))).cell
        rw [HG.out]
        exact bodyPost_ret (v := .agg #[.int .i64 0, .int .i64 4, .int .i64 0]) (by simp [results, Tryz.results25, go_sem, F]) rfl ⟨rfl, Q0.set3 (Nat.le_add_right _ 2) _ _ _⟩
      · have e4 : ftV L ys m (n0 + 2) = (taF L ys m (n0 + 2), 0) := HFT.out.trans (if_pos hok)
        replace hbd := hbd hok
        rw [e4]
        clear e4
        generalize taF L ys m (n0 + 2) = T9 at *
        have hw9 : IntKind.i64.wrap (T9 - t) = T9 - t := by rw [IntKind.wrap_i64]; omega
        by_cases hgt : t < T9
        · have HG := Lib.hid (HF.out.trans (HP.out.trans (if_pos ⟨hok, hgt⟩)))
          have hgt' : ¬ T9 ≤ t := by omega
          clear hok
          go_wp2_with fail
          have F := ((R0.set3 (.int .i64 0) (.int .i64 0) (.int .i64 (T9 - t)))).cell
          rw [HG.out]
          exact bodyPost_ret (v := .agg #[.int .i64 0, .int .i64 0, .int .i64 (T9 - t)]) (by simp [results, Tryz.results25, go_sem, F]) rfl ⟨rfl, Q0.set3 (Nat.le_add_right _ 2) _ _ _⟩
        · have HG := Lib.hid (HF.out.trans (HP.out.trans (if_neg (fun h => hgt h.2))))
          have hgt' : T9 ≤ t := by omega
          clear hok
          go_wp2_with fail
          have F := ((R0.set3 (.int .i64 0) (.int .i64 4) (.int .i64 0))).cell
          rw [HG.out]
          exact bodyPost_ret (v := .agg #[.int .i64 0, .int .i64 4, .int .i64 0]) (by simp [results, Tryz.results25, go_sem, F]) rfl ⟨rfl, Q0.set3 (Nat.le_add_right _ 2) _ _ _⟩
    · have HG := Lib.hid (HV1.out rfl (by omega))
      have hyl : e ≤ y := by omega
      go_wp2_with fail
      have F := ((R0.set3 (.int .i64 0) (.int .i64 4) (.int .i64 0)).alloc (.cells #[.int .i64 0, .int .i64 y, .int .i64 z, .bool u] 49)).cell
      rw [HG.out]
      exact bodyPost_ret (v := .agg #[.int .i64 0, .int .i64 4, .int .i64 0]) (by simp [results, Tryz.results25, go_sem, F]) rfl ⟨rfl, (Q0.set3 (Nat.le_add_right _ 2) _ _ _).alloc _⟩
  · have HG := Lib.hid (HV0.out hx)
    have hxb : (x == 0) = false := by simpa using hx
    go_wp2_with fail
    have F := ((R0.set3 (.int .i64 0) (.int .i64 x) (.int .i64 0)).alloc (.cells #[.int .i64 x, .int .i64 y, .int .i64 z, .bool u] 49)).cell
    rw [HG.out]
    exact bodyPost_ret (v := .agg #[.int .i64 0, .int .i64 x, .int .i64 0]) (by simp [results, Tryz.results25, go_sem, F]) rfl ⟨rfl, (Q0.set3 (Nat.le_add_right _ 2) _ _ _).alloc _⟩
end Go.Proofs.YteofhfefbphjdaaGreatDoor
