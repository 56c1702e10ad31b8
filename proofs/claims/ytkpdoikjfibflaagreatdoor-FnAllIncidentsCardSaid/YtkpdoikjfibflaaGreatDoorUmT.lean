/- Walks: the incidents of all pairs of tracks, as the program makes them. No condition. Walks: the incidents of all pairs of tracks, as the program makes them, for all arguments. No condition. Words: incidents of one pair are in order already (plain). No condition. -/
import Derived.Test.YtkpdoikjfibflaaGreatDoorUmO
import Derived.Deep.RegionHeld3
import Derived.Deep.CutBlock
namespace Go.Proofs.YtkpdoikjfibflaaGreatDoor
open Go.RowKit Go.WideShapes Go.ChangeShapes Go.Shelf
theorem bxWW (w : World) (wx wy a b d s : Int) : Blk ((w.alloc (.cells #[.int .i64 wx, .int .i64 wy] 25)).alloc (.cells #[.int .i64 a, .int .i64 b, .int .i64 d, .int .i64 s] 27)) w.heap.size 25 #[.int .i64 wx, .int .i64 wy] ∧ Blk ((w.alloc (.cells #[.int .i64 wx, .int .i64 wy] 25)).alloc (.cells #[.int .i64 a, .int .i64 b, .int .i64 d, .int .i64 s] 27)) (w.heap.size + 1) 27 #[.int .i64 a, .int .i64 b, .int .i64 d, .int .i64 s] :=
  ⟨(Blk.new _ _ _).alloc _, by simpa using Blk.new (w.alloc (.cells #[.int .i64 wx, .int .i64 wy] 25)) 27 #[.int .i64 a, .int .i64 b, .int .i64 d, .int .i64 s]⟩
theorem aiC_0 {wx wy a b d s : Int} {D : List (Nat × List Int)} (h : ¬ 16 < D.length) (h1 : wnB wx wy = true) (h2 : isWat a b d s = true) (h3 : allT D = true) : aiC wx wy a b d s D = (match aiTo wx wy a b d s D D.length D.length with | none => 3 | some _ => 0) := by
  unfold aiC; rw [if_neg h, if_pos ⟨h1, h2, h3⟩]; cases aiTo wx wy a b d s D D.length D.length <;> rfl
theorem aiC_1 {wx wy a b d s : Int} {D : List (Nat × List Int)} (h : ¬ 16 < D.length) (h1 : ¬ (wnB wx wy = true ∧ isWat a b d s = true ∧ allT D = true)) : aiC wx wy a b d s D = 1 ∧ aiL wx wy a b d s D = [] := by
  have e : aiC wx wy a b d s D = 1 := by unfold aiC; rw [if_neg h, if_neg h1]
  exact ⟨e, by unfold aiL; rw [e]; rfl⟩
theorem aiC_3 {wx wy a b d s : Int} {D : List (Nat × List Int)} (h : 16 < D.length) : aiC wx wy a b d s D = 3 ∧ aiL wx wy a b d s D = [] := by
  have e : aiC wx wy a b d s D = 3 := by unfold aiC; rw [if_pos h]
  exact ⟨e, by unfold aiL; rw [e]; rfl⟩
theorem aiC_n {wx wy a b d s : Int} {D : List (Nat × List Int)} (h : ¬ 16 < D.length) (h1 : wnB wx wy = true) (h2 : isWat a b d s = true) (h3 : allT D = true) (hn : aiTo wx wy a b d s D D.length D.length = none) : aiC wx wy a b d s D = 3 ∧ aiL wx wy a b d s D = [] := by
  have e : aiC wx wy a b d s D = 3 := by rw [aiC_0 h h1 h2 h3, hn]
  exact ⟨e, by unfold aiL; rw [e]; rfl⟩
theorem aiC_s {wx wy a b d s : Int} {D : List (Nat × List Int)} {X : List Int} (h : ¬ 16 < D.length) (h1 : wnB wx wy = true) (h2 : isWat a b d s = true) (h3 : allT D = true) (hn : aiTo wx wy a b d s D D.length D.length = some X) : aiC wx wy a b d s D = 0 ∧ aiL wx wy a b d s D = srtL X (X.length / 5) := by
  have e : aiC wx wy a b d s D = 0 := by rw [aiC_0 h h1 h2 h3, hn]
  exact ⟨e, by unfold aiL; rw [e, hn]; rfl⟩
theorem Own.some_ {w : World} {B : Nat} {e : TypeId} {k n c : Nat} {A : Option Addr} {xs : List Int} (h : Own w B e k (.slice A n c) n xs) (hA : A ≠ none) : ∃ g, A = some ⟨g, 0, none⟩ ∧ B ≤ g := by
  rcases h.2 with ⟨h', _⟩ | ⟨g, cap, cur, h', hg, _⟩
  · injection h' with h1 _ _
    exact absurd h1 hA
  · injection h' with h1 _ _
    exact ⟨g, h1, hg⟩
set_option maxRecDepth 100000 in
set_option maxHeartbeats 8000000 in
theorem impl_AllMain (wx wy a b d s : Int) (A : Option Addr) (n c : Nat) (D : List (Nat × List Int)) (w : World) (ha : RdD w A D) (hD : D.length = n) (hn2 : n ≤ 9223372036854775807) (h16 : n ≤ 16) (hwn : wnB wx wy = true) (hx : isWat a b d s = true) (hT : allT D = true) :
    Calls Tryz.prog 6 #[.agg #[.int .i64 wx, .int .i64 wy], .agg #[.int .i64 a, .int .i64 b, .int .i64 d, .int .i64 s], .slice A n c] w (RS w 42 5 ((aiL wx wy a b d s D).length / 5) (aiL wx wy a b d s D) (aiC wx wy a b d s D)) := by
  obtain ⟨hw1, hw2, hw3, hw4⟩ := isWat_all hx
  have k1 := fun wv => impl_IsWind wx wy wv
  rw [hwn] at k1
  have k2 := fun wv => impl_IsWatch a b d s wv
  rw [hx] at k2
  have k3 := fun wv (h : RdD wv A D) => impl_areD A n c D wv h hD hn2
  rw [hT] at k3
  have K1 := Lib.hid k1
  have K2 := Lib.hid k2
  have K3 := Lib.hid k3
  have hTT := fun k (hk : k < n) => allT_at hT (show k < D.length by omega)
  have KT := Lib.hid (fun (i k : Nat) (hi : i < n) (hk : k < n) (Bi Bk : Option Addr) (ci ck : Nat) wv (h : Rd wv Bi (dx D i)) (h' : Rd wv Bk (dx D k)) e1 e2 => (show Calls Tryz.prog 19 #[.agg #[.int .i64 a, .int .i64 b, .int .i64 d, .int .i64 s], .agg #[.slice Bi (dn D i) ci], .agg #[.slice Bk (dn D k) ck]] wv (CkPost s (ckTo (dx D i) (dn D i) (dx D k) (dn D k)) (ckFrom s (dx D i) (dx D k)) wv) from impl_times a b d s Bi (dn D i) ci (dx D i) Bk (dn D k) ck (dx D k) wv h h' e1 e2 (hTT i hi) (hTT k hk) hw4))
  have KI := Lib.hid (fun (i k : Nat) (hi : i < n) (hk : k < n) (AT : Option Addr) (N cT : Nat) (T : List Int) (Bi Bk : Option Addr) (ci ck : Nat) wv hL hN h401 (h : Rd wv Bi (dx D i)) e1 (h' : Rd wv Bk (dx D k)) e2 => impl_incidents wx wy a b d s AT N cT T Bi (dn D i) ci (dx D i) Bk (dn D k) ck (dx D k) i k wv (wnB_wnd hwn) hwn hx hL hN h401 h e1 (hTT i hi) h' e2 (hTT k hk))
  have HD := Lib.hid hD
  have HF := Lib.hid (⟨hwn, hx, hT, hw4.1⟩ : wnB wx wy = true ∧ isWat a b d s = true ∧ allT D = true ∧ 1 ≤ s)
  have hnI : (n : Int) ≤ 16 := by omega
  obtain ⟨B0, B1⟩ := bxWW w wx wy a b d s
  have Q0 : Q w ((w.alloc (.cells #[.int .i64 wx, .int .i64 wy] 25)).alloc (.cells #[.int .i64 a, .int .i64 b, .int .i64 d, .int .i64 s] 27)) := by (repeat (first | assumption | exact Q.refl _ | refine Q.alloc ?_ _ | refine Q.drewN ?_ _ | refine Q.drew ?_))
  clear k1 k2 k3 hTT hwn hx hT hw1 hw2 hw3 hw4 hD
  go_enter Tryz.func6, Tryz.ntmps6
  go_wp2_with fail
  refine (K1.out _).mono ?_
  rintro e1 w1 ⟨rfl, q1⟩
  replace B0 := B0.q q1
  replace B1 := B1.q q1
  replace Q0 := Q0.trans q1
  have c1' := B1.cell
  have l1' := B1.lt
  go_wp2_with fail
  refine (K2.out _).mono ?_
  rintro e2 w2 ⟨rfl, q2⟩
  replace B0 := B0.q q2
  replace B1 := B1.q q2
  replace Q0 := Q0.trans q2
  clear c1' l1' q1 q2
  go_wp2_with fail
  refine (K3.out _ (ha.q Q0)).mono ?_
  rintro e3 w3 ⟨rfl, q3⟩
  replace B0 := B0.q q3
  replace B1 := B1.q q3
  replace Q0 := Q0.trans q3
  clear q3 K1 K2 K3
  go_wp2_with fail
  go_loopw [8, 33] (fun v i wr => ∃ (k g m c1 : Nat) (L : List Int), k ≤ n ∧ i = .int .i64 k ∧ v = .slice (some ⟨g, 0, none⟩) m c1 ∧ Own wr w3.heap.size 42 5 (.slice (some ⟨g, 0, none⟩) m c1) m L ∧ Hid (aiTo wx wy a b d s D n k = some L) ∧ m ≤ 401 * (16 * k) ∧ Q w3 wr) (fun _ i _ => n - (intOf i).toNat)
  case atStart => exact ⟨0, w3.heap.size, 0, 0, [], by omega, rfl, rfl, Own.lit w3 42 5 0 [] rfl (Nat.le_refl _) (by simp) (by decide), Lib.hid rfl, by omega, by (repeat (first | assumption | exact Q.refl _ | refine Q.alloc ?_ _ | refine Q.drewN ?_ _ | refine Q.drew ?_))⟩
  case round =>
    obtain ⟨i, g, m, c1, L, hi, rfl, rfl, hown, HL, hm, hq⟩ := hrel
    obtain ⟨wo, rfl⟩ : ∃ wo, wo = wr := ⟨_, rfl⟩
    by_cases hlt : i < n
    · have hltI : (i : Int) < (n : Int) := by omega
      have hqw : Q w wo := Q0.trans hq
      obtain ⟨bl, o, Bi, ci, rfl, g00, hri0, hxi, _⟩ := ha.at_ HD.out hlt
      have g0 := hqw.cell g00
      have lbl := World.block_lt_of_cell? wo _ g0
      obtain ⟨wt, hwt⟩ : ∃ wt, wt = wo.alloc (.cells #[.slice Bi (dn D i) ci] 37) := ⟨_, rfl⟩
      have QT : Q wo wt := by rw [hwt]; exact (Q.refl _).alloc _
      have BT : Blk wt wo.heap.size 37 #[.slice Bi (dn D i) ci] := by rw [hwt]; exact Blk.new _ _ _
      have HWT := Lib.hid hwt
      clear hwt
      have hii : (0 : Int) ≤ (i : Int) := by omega
      go_wp2_with fail
      rw [← HWT.out]
      go_loopw [8, 11] (fun v kk wz => ∃ (j g m c1 : Nat) (M : List Int), i + 1 + j ≤ n ∧ kk = .int .i64 ((i : Int) + 1 + (j : Int)) ∧ v = .slice (some ⟨g, 0, none⟩) m c1 ∧ Own wz w3.heap.size 42 5 (.slice (some ⟨g, 0, none⟩) m c1) m (L ++ M) ∧ Hid (aiIn wx wy a b d s D i j = some M) ∧ m ≤ 401 * (16 * i + j) ∧ Q w3 wz ∧ Blk wz wo.heap.size 37 #[.slice Bi (dn D i) ci]) (fun _ kk _ => n - (intOf kk).toNat)
      case atStart => exact ⟨0, g, m, c1, [], by omega, by go_num, rfl, by rw [List.append_nil]; exact hown.q QT, Lib.hid rfl, by omega, hq.trans QT, BT⟩
      case round =>
        obtain ⟨j, g2, m2, c2, M, hj, rfl, rfl, hown2, HM, hm2, hq2, bt⟩ := hrel
        clear hown hm QT BT
        have hjI : (j : Int) ≤ 16 := by omega
        by_cases hlt2 : i + 1 + j < n
        · obtain ⟨k, hk⟩ : ∃ k, k = i + 1 + j := ⟨_, rfl⟩
          have hkE : (i : Int) + 1 + (j : Int) = (k : Int) := by omega
          have hkI : (k : Int) < (n : Int) := by omega
          have hkw : IntKind.i64.wrap (k : Int) = (k : Int) := by rw [IntKind.wrap_i64]; omega
          have hkn : k < n := by omega
          have hqw2 : Q w wr := Q0.trans hq2
          obtain ⟨_, _, Bk, ck, hAe, g10, hrk0, hxk, _⟩ := ha.at_ HD.out hkn
          cases hAe
          have g1 := hqw2.cell g10
          have b0 := B0.q hq2
          have b1 := B1.q hq2
          have hri := hri0.q hqw2
          have hrk := hrk0.q hqw2
          have KT1 := fun wv (h : Rd wv Bi (dx D i)) (h' : Rd wv Bk (dx D k)) => KT.out i k hlt hkn Bi Bk ci ck wv h h' hxi hxk
          have hS : ∀ w', Q w3 w' → Q w w' → Blk w' wo.heap.size 37 #[.slice Bi (dn D i) ci] → (Q w3 w' ∧ w'.cell? ⟨w.heap.size, 0, none⟩ = some (.int .i64 wx) ∧ w'.cell? ⟨w.heap.size, 1, none⟩ = some (.int .i64 wy) ∧ w'.cell? ⟨w.heap.size + 1, 0, none⟩ = some (.int .i64 a) ∧ w'.cell? ⟨w.heap.size + 1, 1, none⟩ = some (.int .i64 b) ∧ w'.cell? ⟨w.heap.size + 1, 2, none⟩ = some (.int .i64 d) ∧ w'.cell? ⟨w.heap.size + 1, 3, none⟩ = some (.int .i64 s) ∧ w'.cell? ⟨wo.heap.size, 0, none⟩ = some (.slice Bi (dn D i) ci) ∧ w'.cell? ⟨bl, o + k, none⟩ = some (.slice Bk (dn D k) ck)) := fun w' q qw bb => ⟨q, (B0.q q).cell 0, (B0.q q).cell 1, (B1.q q).cell 0, (B1.q q).cell 1, (B1.q q).cell 2, (B1.q q).cell 3, bb.cell 0, qw.cell g10⟩
          cases hTm : kTm s D i k with
          | none =>
            have K4 := Lib.hid (fun wv h h' => (KT1 wv h h').mono (fun e w' hp => (show e = .returned (.tuple #[.slice none 0 0, .bool false]) ∧ Q wv w' from by unfold CkPost at hp; rw [show ckGo s (ckTo (dx D i) (dn D i) (dx D k) (dn D k)) 401 (ckFrom s (dx D i) (dx D k)) = none from hTm] at hp; exact hp)))
            have HFA := Lib.hid (aiC_n (wx := wx) (wy := wy) (a := a) (b := b) (d := d) (s := s) (D := D) (by rw [HD.out]; omega) HF.out.1 HF.out.2.1 HF.out.2.2.1 (by rw [HD.out]; exact ai_fail (by rw [← hk]; exact hTm) (by omega)))
            clear KT1 hTm hk
            go_wp2_with fail
            go_region_held3 (fun w' => Q w3 w' ∧ w'.cell? ⟨w.heap.size, 0, none⟩ = some (.int .i64 wx) ∧ w'.cell? ⟨w.heap.size, 1, none⟩ = some (.int .i64 wy) ∧ w'.cell? ⟨w.heap.size + 1, 0, none⟩ = some (.int .i64 a) ∧ w'.cell? ⟨w.heap.size + 1, 1, none⟩ = some (.int .i64 b) ∧ w'.cell? ⟨w.heap.size + 1, 2, none⟩ = some (.int .i64 d) ∧ w'.cell? ⟨w.heap.size + 1, 3, none⟩ = some (.int .i64 s) ∧ w'.cell? ⟨wo.heap.size, 0, none⟩ = some (.slice Bi (dn D i) ci) ∧ w'.cell? ⟨bl, o + k, none⟩ = some (.slice Bk (dn D k) ck)) (first | exact hS _ (hq2.trans (by (repeat (first | with_reducible assumption | with_reducible exact Q.refl _ | with_reducible refine Q.alloc ?_ _ | with_reducible refine Q.drewN ?_ _ | with_reducible refine Q.drew ?_ | with_reducible refine Q.setCell ?_ (by first | with_reducible exact Nat.le_refl _ | (simp only; omega) | (simp; done) | (simp; omega)) _)))) (hqw2.trans (by (repeat (first | with_reducible assumption | with_reducible exact Q.refl _ | with_reducible refine Q.alloc ?_ _ | with_reducible refine Q.drewN ?_ _ | with_reducible refine Q.drew ?_ | with_reducible refine Q.setCell ?_ (by first | with_reducible exact Nat.le_refl _ | (simp only; omega) | (simp; done) | (simp; omega)) _)))) (bt.q (by (repeat (first | with_reducible assumption | with_reducible exact Q.refl _ | with_reducible refine Q.alloc ?_ _ | with_reducible refine Q.drewN ?_ _ | with_reducible refine Q.drew ?_ | with_reducible refine Q.setCell ?_ (by first | with_reducible exact Nat.le_refl _ | (simp only; omega) | (simp; done) | (simp; omega)) _)))) | (go_split_ands; exact hS _ (hq2.trans (by (repeat (first | with_reducible assumption | with_reducible exact Q.refl _ | with_reducible refine Q.alloc ?_ _ | with_reducible refine Q.drewN ?_ _ | with_reducible refine Q.drew ?_ | with_reducible refine Q.setCell ?_ (by first | with_reducible exact Nat.le_refl _ | (simp only; omega) | (simp; done) | (simp; omega)) _)))) (hqw2.trans (by (repeat (first | with_reducible assumption | with_reducible exact Q.refl _ | with_reducible refine Q.alloc ?_ _ | with_reducible refine Q.drewN ?_ _ | with_reducible refine Q.drew ?_ | with_reducible refine Q.setCell ?_ (by first | with_reducible exact Nat.le_refl _ | (simp only; omega) | (simp; done) | (simp; omega)) _)))) (bt.q (by (repeat (first | with_reducible assumption | with_reducible exact Q.refl _ | with_reducible refine Q.alloc ?_ _ | with_reducible refine Q.drewN ?_ _ | with_reducible refine Q.drew ?_ | with_reducible refine Q.setCell ?_ (by first | with_reducible exact Nat.le_refl _ | (simp only; omega) | (simp; done) | (simp; omega)) _)))))) (first | (go_at_call 19; refine (K4.out _ (hri.q (by (repeat (first | with_reducible assumption | with_reducible exact Q.refl _ | with_reducible refine Q.alloc ?_ _ | with_reducible refine Q.drewN ?_ _ | with_reducible refine Q.drew ?_ | with_reducible refine Q.setCell ?_ (by first | with_reducible exact Nat.le_refl _ | (simp only; omega) | (simp; done) | (simp; omega)) _)))) (hrk.q (by (repeat (first | with_reducible assumption | with_reducible exact Q.refl _ | with_reducible refine Q.alloc ?_ _ | with_reducible refine Q.drewN ?_ _ | with_reducible refine Q.drew ?_ | with_reducible refine Q.setCell ?_ (by first | with_reducible exact Nat.le_refl _ | (simp only; omega) | (simp; done) | (simp; omega)) _))))).mono ?_; rintro e5 w5 ⟨rfl, q5⟩; have QR : Q wr w5 := Q.trans (by (repeat (first | with_reducible assumption | with_reducible exact Q.refl _ | with_reducible refine Q.alloc ?_ _ | with_reducible refine Q.drewN ?_ _ | with_reducible refine Q.drew ?_ | with_reducible refine Q.setCell ?_ (by first | with_reducible exact Nat.le_refl _ | (simp only; omega) | (simp; done) | (simp; omega)) _))) q5))
            go_wp2_with fail
            go_ret2
            rw [HFA.out.1, HFA.out.2]
            exact RS.nil _ _ _ _ _ (hqw2.trans QR)
          | some T =>
            have K4 := Lib.hid (fun wv h h' => (KT1 wv h h').mono (fun e w' hp => (show ∃ A c, e = .returned (.tuple #[.slice A T.length c, .bool true]) ∧ Own w' wv.heap.size 2 1 (.slice A T.length c) T.length T ∧ Q wv w' from by unfold CkPost at hp; rw [show ckGo s (ckTo (dx D i) (dn D i) (dx D k) (dn D k)) 401 (ckFrom s (dx D i) (dx D k)) = some T from hTm] at hp; exact hp)))
            have hT401 := kTm_len hTm
            have HM2 := Lib.hid (aiIn_yes (wx := wx) (wy := wy) (a := a) (b := b) (d := d) HM.out (by rw [← hk]; exact hTm))
            rw [← hk] at HM2
            have KI1 := Lib.hid (fun (AT : Option Addr) (cT : Nat) wv hL h h' => (show Calls Tryz.prog 20 #[.agg #[.int .i64 wx, .int .i64 wy], .agg #[.int .i64 a, .int .i64 b, .int .i64 d, .int .i64 s], .slice AT T.length cT, .agg #[.slice Bi (dn D i) ci], .agg #[.slice Bk (dn D k) ck], .int .i64 (i : Nat), .int .i64 (k : Nat)] wv (RL wv 42 5 ((prL wx wy a b d D i k T).length / 5) (prL wx wy a b d D i k T)) from KI.out i k hlt hkn AT T.length cT T Bi Bk ci ck wv hL rfl hT401 h hxi h' hxk))
            obtain ⟨pc, hpc1, hpc2⟩ := prL_len wx wy a b d D i k T
            generalize prL wx wy a b d D i k T = P at *
            have hPN : P.length / 5 = pc := by omega
            rw [hPN] at KI1
            have HK := Lib.hid hk
            clear KT1 hTm hk hPN
            go_wp2_with fail
            go_region_held3 (fun w' => Q w3 w' ∧ w'.cell? ⟨w.heap.size, 0, none⟩ = some (.int .i64 wx) ∧ w'.cell? ⟨w.heap.size, 1, none⟩ = some (.int .i64 wy) ∧ w'.cell? ⟨w.heap.size + 1, 0, none⟩ = some (.int .i64 a) ∧ w'.cell? ⟨w.heap.size + 1, 1, none⟩ = some (.int .i64 b) ∧ w'.cell? ⟨w.heap.size + 1, 2, none⟩ = some (.int .i64 d) ∧ w'.cell? ⟨w.heap.size + 1, 3, none⟩ = some (.int .i64 s) ∧ w'.cell? ⟨wo.heap.size, 0, none⟩ = some (.slice Bi (dn D i) ci) ∧ w'.cell? ⟨bl, o + k, none⟩ = some (.slice Bk (dn D k) ck)) (first | exact hS _ (hq2.trans (by (repeat (first | with_reducible assumption | with_reducible exact Q.refl _ | with_reducible refine Q.alloc ?_ _ | with_reducible refine Q.drewN ?_ _ | with_reducible refine Q.drew ?_ | with_reducible refine Q.setCell ?_ (by first | with_reducible exact Nat.le_refl _ | (simp only; omega) | (simp; done) | (simp; omega)) _)))) (hqw2.trans (by (repeat (first | with_reducible assumption | with_reducible exact Q.refl _ | with_reducible refine Q.alloc ?_ _ | with_reducible refine Q.drewN ?_ _ | with_reducible refine Q.drew ?_ | with_reducible refine Q.setCell ?_ (by first | with_reducible exact Nat.le_refl _ | (simp only; omega) | (simp; done) | (simp; omega)) _)))) (bt.q (by (repeat (first | with_reducible assumption | with_reducible exact Q.refl _ | with_reducible refine Q.alloc ?_ _ | with_reducible refine Q.drewN ?_ _ | with_reducible refine Q.drew ?_ | with_reducible refine Q.setCell ?_ (by first | with_reducible exact Nat.le_refl _ | (simp only; omega) | (simp; done) | (simp; omega)) _)))) | (go_split_ands; exact hS _ (hq2.trans (by (repeat (first | with_reducible assumption | with_reducible exact Q.refl _ | with_reducible refine Q.alloc ?_ _ | with_reducible refine Q.drewN ?_ _ | with_reducible refine Q.drew ?_ | with_reducible refine Q.setCell ?_ (by first | with_reducible exact Nat.le_refl _ | (simp only; omega) | (simp; done) | (simp; omega)) _)))) (hqw2.trans (by (repeat (first | with_reducible assumption | with_reducible exact Q.refl _ | with_reducible refine Q.alloc ?_ _ | with_reducible refine Q.drewN ?_ _ | with_reducible refine Q.drew ?_ | with_reducible refine Q.setCell ?_ (by first | with_reducible exact Nat.le_refl _ | (simp only; omega) | (simp; done) | (simp; omega)) _)))) (bt.q (by (repeat (first | with_reducible assumption | with_reducible exact Q.refl _ | with_reducible refine Q.alloc ?_ _ | with_reducible refine Q.drewN ?_ _ | with_reducible refine Q.drew ?_ | with_reducible refine Q.setCell ?_ (by first | with_reducible exact Nat.le_refl _ | (simp only; omega) | (simp; done) | (simp; omega)) _)))))) (first | (go_at_call 19; refine (K4.out _ (hri.q (by (repeat (first | with_reducible assumption | with_reducible exact Q.refl _ | with_reducible refine Q.alloc ?_ _ | with_reducible refine Q.drewN ?_ _ | with_reducible refine Q.drew ?_ | with_reducible refine Q.setCell ?_ (by first | with_reducible exact Nat.le_refl _ | (simp only; omega) | (simp; done) | (simp; omega)) _)))) (hrk.q (by (repeat (first | with_reducible assumption | with_reducible exact Q.refl _ | with_reducible refine Q.alloc ?_ _ | with_reducible refine Q.drewN ?_ _ | with_reducible refine Q.drew ?_ | with_reducible refine Q.setCell ?_ (by first | with_reducible exact Nat.le_refl _ | (simp only; omega) | (simp; done) | (simp; omega)) _))))).mono ?_; rintro e5 w5 ⟨A5, c5, rfl, o5, q5⟩; have QR : Q wr w5 := Q.trans (by (repeat (first | with_reducible assumption | with_reducible exact Q.refl _ | with_reducible refine Q.alloc ?_ _ | with_reducible refine Q.drewN ?_ _ | with_reducible refine Q.drew ?_ | with_reducible refine Q.setCell ?_ (by first | with_reducible exact Nat.le_refl _ | (simp only; omega) | (simp; done) | (simp; omega)) _))) q5))
            have hq5 := hq2.trans QR
            have hqw5 := hqw2.trans QR
            have bt5 := bt.q QR
            have hown5 := hown2.q QR
            have hri5 := hri.q QR
            have hrk5 := hrk.q QR
            clear hri hrk hown2 hq2 hqw2 bt g1 K4
            go_wp2_with fail
            go_region_held3 (fun w' => Q w3 w' ∧ w'.cell? ⟨w.heap.size, 0, none⟩ = some (.int .i64 wx) ∧ w'.cell? ⟨w.heap.size, 1, none⟩ = some (.int .i64 wy) ∧ w'.cell? ⟨w.heap.size + 1, 0, none⟩ = some (.int .i64 a) ∧ w'.cell? ⟨w.heap.size + 1, 1, none⟩ = some (.int .i64 b) ∧ w'.cell? ⟨w.heap.size + 1, 2, none⟩ = some (.int .i64 d) ∧ w'.cell? ⟨w.heap.size + 1, 3, none⟩ = some (.int .i64 s) ∧ w'.cell? ⟨wo.heap.size, 0, none⟩ = some (.slice Bi (dn D i) ci) ∧ w'.cell? ⟨bl, o + k, none⟩ = some (.slice Bk (dn D k) ck)) (first | exact hS _ QR7 QW7 BT7 | exact hS _ (hq5.trans (by (repeat (first | with_reducible assumption | with_reducible exact Q.refl _ | with_reducible refine Q.alloc ?_ _ | with_reducible refine Q.drewN ?_ _ | with_reducible refine Q.drew ?_ | with_reducible refine Q.setCell ?_ (by first | with_reducible exact Nat.le_refl _ | (simp only; omega) | (simp; done) | (simp; omega)) _)))) (hqw5.trans (by (repeat (first | with_reducible assumption | with_reducible exact Q.refl _ | with_reducible refine Q.alloc ?_ _ | with_reducible refine Q.drewN ?_ _ | with_reducible refine Q.drew ?_ | with_reducible refine Q.setCell ?_ (by first | with_reducible exact Nat.le_refl _ | (simp only; omega) | (simp; done) | (simp; omega)) _)))) (bt5.q (by (repeat (first | with_reducible assumption | with_reducible exact Q.refl _ | with_reducible refine Q.alloc ?_ _ | with_reducible refine Q.drewN ?_ _ | with_reducible refine Q.drew ?_ | with_reducible refine Q.setCell ?_ (by first | with_reducible exact Nat.le_refl _ | (simp only; omega) | (simp; done) | (simp; omega)) _)))) | (go_split_ands; exact hS _ (hq5.trans (by (repeat (first | with_reducible assumption | with_reducible exact Q.refl _ | with_reducible refine Q.alloc ?_ _ | with_reducible refine Q.drewN ?_ _ | with_reducible refine Q.drew ?_ | with_reducible refine Q.setCell ?_ (by first | with_reducible exact Nat.le_refl _ | (simp only; omega) | (simp; done) | (simp; omega)) _)))) (hqw5.trans (by (repeat (first | with_reducible assumption | with_reducible exact Q.refl _ | with_reducible refine Q.alloc ?_ _ | with_reducible refine Q.drewN ?_ _ | with_reducible refine Q.drew ?_ | with_reducible refine Q.setCell ?_ (by first | with_reducible exact Nat.le_refl _ | (simp only; omega) | (simp; done) | (simp; omega)) _)))) (bt5.q (by (repeat (first | with_reducible assumption | with_reducible exact Q.refl _ | with_reducible refine Q.alloc ?_ _ | with_reducible refine Q.drewN ?_ _ | with_reducible refine Q.drew ?_ | with_reducible refine Q.setCell ?_ (by first | with_reducible exact Nat.le_refl _ | (simp only; omega) | (simp; done) | (simp; omega)) _)))))) (first | (go_at_call 20; refine (KI1.out A5 c5 _ ((o5.q (by (repeat (first | with_reducible assumption | with_reducible exact Q.refl _ | with_reducible refine Q.alloc ?_ _ | with_reducible refine Q.drewN ?_ _ | with_reducible refine Q.drew ?_ | with_reducible refine Q.setCell ?_ (by first | with_reducible exact Nat.le_refl _ | (simp only; omega) | (simp; done) | (simp; omega)) _)))).rd) (hri5.q (by (repeat (first | with_reducible assumption | with_reducible exact Q.refl _ | with_reducible refine Q.alloc ?_ _ | with_reducible refine Q.drewN ?_ _ | with_reducible refine Q.drew ?_ | with_reducible refine Q.setCell ?_ (by first | with_reducible exact Nat.le_refl _ | (simp only; omega) | (simp; done) | (simp; omega)) _)))) (hrk5.q (by (repeat (first | with_reducible assumption | with_reducible exact Q.refl _ | with_reducible refine Q.alloc ?_ _ | with_reducible refine Q.drewN ?_ _ | with_reducible refine Q.drew ?_ | with_reducible refine Q.setCell ?_ (by first | with_reducible exact Nat.le_refl _ | (simp only; omega) | (simp; done) | (simp; omega)) _))))).mono ?_; rintro e6 w6 ⟨A6, c6, rfl, o6, q6⟩; have QR6 : Q w5 w6 := Q.trans (by (repeat (first | with_reducible assumption | with_reducible exact Q.refl _ | with_reducible refine Q.alloc ?_ _ | with_reducible refine Q.drewN ?_ _ | with_reducible refine Q.drew ?_ | with_reducible refine Q.setCell ?_ (by first | with_reducible exact Nat.le_refl _ | (simp only; omega) | (simp; done) | (simp; omega)) _))) q6) | (refine step_appOwn elInc rfl _ _ rfl rfl (hown5.q QR6) rfl o6 (by omega) (hq5.trans QR6).size ?_; intro A7 c7 w7 hown7 hg7 hne7; have QR7 : Q w3 w7 := (hq5.trans QR6).mark (hown5.q QR6) (Nat.le_refl _) hg7; have QW7 : Q w w7 := Q0.trans QR7; have BT7 := (bt5.q QR6).markO (hown5.q QR6) (by decide) hg7))
            go_wp2_with fail
            go_roundw
            case rel =>
              obtain ⟨g7, rfl, _⟩ := hown7.some_ (hne7 (by simp))
              refine ⟨j + 1, g7, _, c7, M ++ P, by have := HK.out; omega, by go_num, rfl, ?_, HM2, by omega, QR7, BT7⟩
              rw [← List.append_assoc]
              exact hown7
            case measure => simp [intOf]; omega
        · have hltJ : ¬ (i : Int) + 1 + (j : Int) < (n : Int) := by omega
          have hjn : j = n - 1 - i := by omega
          have HL2 := Lib.hid (aiTo_yes HL.out (by rw [← hjn]; exact HM.out))
          clear hjn
          go_wp2_with fail
          go_roundw
          case rel => exact ⟨i + 1, g2, m2, c2, L ++ M, by omega, by go_num, rfl, hown2, HL2, by omega, hq2⟩
          case measure => simp [intOf]; omega
    · obtain rfl : i = n := by omega
      have hltI : ¬ (i : Int) < (i : Int) := by omega
      have HS := Lib.hid (aiC_s (wx := wx) (wy := wy) (a := a) (b := b) (d := d) (s := s) (D := D) (X := L) (by rw [HD.out]; omega) HF.out.1 HF.out.2.1 HF.out.2.2.1 (by rw [HD.out]; exact HL.out))
      have HP := Lib.hid (aiTo_PK (wx := wx) (wy := wy) (a := a) (b := b) (d := d) HF.out.2.2.2 HF.out.2.2.1 i L (by rw [HD.out]; omega) (by rw [HD.out]; exact HL.out))
      have hLl := hown.len
      have hmm : L.length / 5 = m := by omega
      rw [hmm] at HS
      have hsl := srtL_len L m
      have hkb := HP.out.kb
      rw [hmm] at hkb
      clear hmm
      go_wp2_with fail
      refine (run_SortStable w3.heap.size g m c1 L _ hown hkb (by omega)).mono ?_
      rintro e8 w8 ⟨rfl, o8, hg8⟩
      go_wp2_with fail
      go_ret2
      rw [HS.out.1, HS.out.2]
      exact RS.mk' (o8.mono Q0.size) (Q0.trans (hq.mark hown (Nat.le_refl _) hg8)) (by rw [hsl]; omega) (by decide)
end Go.Proofs.YtkpdoikjfibflaaGreatDoor
namespace Go.Proofs.YtkpdoikjfibflaaGreatDoor
open Go.RowKit Go.WideShapes Go.ChangeShapes Go.Shelf
set_option maxHeartbeats 1000000 in
theorem impl_AllIncidents (wx wy a b d s : Int) (A : Option Addr) (n c : Nat) (D : List (Nat × List Int)) (w : World) (ha : RdD w A D) (hD : D.length = n) (hn2 : n ≤ 9223372036854775807) :
    Calls Tryz.prog 6 #[.agg #[.int .i64 wx, .int .i64 wy], .agg #[.int .i64 a, .int .i64 b, .int .i64 d, .int .i64 s], .slice A n c] w (RS w 42 5 ((aiL wx wy a b d s D).length / 5) (aiL wx wy a b d s D) (aiC wx wy a b d s D)) := by
  by_cases h16 : n ≤ 16
  · by_cases hv : wnB wx wy = true ∧ isWat a b d s = true ∧ allT D = true
    · exact impl_AllMain wx wy a b d s A n c D w ha hD hn2 h16 hv.1 hv.2.1 hv.2.2
    · obtain ⟨e1, e2⟩ := aiC_1 (by omega) hv
      rw [e1, e2]
      clear e1 e2
      have k1 := fun wv => impl_IsWind wx wy wv
      have k2 := fun wv => impl_IsWatch a b d s wv
      have k3 := fun wv (h : RdD wv A D) => impl_areD A n c D wv h hD hn2
      obtain ⟨B0, B1⟩ := bxWW w wx wy a b d s
      have Q0 : Q w ((w.alloc (.cells #[.int .i64 wx, .int .i64 wy] 25)).alloc (.cells #[.int .i64 a, .int .i64 b, .int .i64 d, .int .i64 s] 27)) := by (repeat (first | assumption | exact Q.refl _ | refine Q.alloc ?_ _ | refine Q.drewN ?_ _ | refine Q.drew ?_))
      have hnI : (n : Int) ≤ 16 := by omega
      clear hD
      cases hw : wnB wx wy
      · rw [hw] at k1
        have K1 := Lib.hid k1
        clear k1 k2 k3 hv hw
        go_enter Tryz.func6, Tryz.ntmps6
        go_wp2_with fail
        refine (K1.out _).mono ?_
        rintro e w1 ⟨rfl, q1⟩
        go_wp2_with fail
        go_ret2
        exact RS.nil _ _ _ _ _ (Q0.trans q1)
      · rw [hw] at k1 hv
        have K1 := Lib.hid k1
        cases hx : isWat a b d s
        · rw [hx] at k2
          have K2 := Lib.hid k2
          clear k1 k2 k3 hv hw hx
          go_enter Tryz.func6, Tryz.ntmps6
          go_wp2_with fail
          refine (K1.out _).mono ?_
          rintro e w1 ⟨rfl, q1⟩
          replace B1 := B1.q q1
          replace Q0 := Q0.trans q1
          have c1' := B1.cell
          have l1' := B1.lt
          go_wp2_with fail
          refine (K2.out _).mono ?_
          rintro e w2 ⟨rfl, q2⟩
          go_wp2_with fail
          go_ret2
          exact RS.nil _ _ _ _ _ (Q0.trans q2)
        · rw [hx] at k2 hv
          have K2 := Lib.hid k2
          have hT : allT D = false := by
            cases h : allT D
            · rfl
            · exact absurd ⟨rfl, rfl, h⟩ hv
          rw [hT] at k3
          have K3 := Lib.hid k3
          clear k1 k2 k3 hv hw hx hT
          go_enter Tryz.func6, Tryz.ntmps6
          go_wp2_with fail
          refine (K1.out _).mono ?_
          rintro e w1 ⟨rfl, q1⟩
          replace B1 := B1.q q1
          replace Q0 := Q0.trans q1
          have c1' := B1.cell
          have l1' := B1.lt
          go_wp2_with fail
          refine (K2.out _).mono ?_
          rintro e w2 ⟨rfl, q2⟩
          replace Q0 := Q0.trans q2
          clear c1' l1'
          go_wp2_with fail
          refine (K3.out _ (ha.q Q0)).mono ?_
          rintro e w3 ⟨rfl, q3⟩
          go_wp2_with fail
          go_ret2
          exact RS.nil _ _ _ _ _ (Q0.trans q3)
  · obtain ⟨e1, e2⟩ := aiC_3 (wx := wx) (wy := wy) (a := a) (b := b) (d := d) (s := s) (D := D) (by omega)
    rw [e1, e2]
    have hnI : (16 : Int) < (n : Int) := by omega
    have Q0 : Q w ((w.alloc (.cells #[.int .i64 wx, .int .i64 wy] 25)).alloc (.cells #[.int .i64 a, .int .i64 b, .int .i64 d, .int .i64 s] 27)) := by (repeat (first | assumption | exact Q.refl _ | refine Q.alloc ?_ _ | refine Q.drewN ?_ _ | refine Q.drew ?_))
    clear e1 e2 hD ha
    go_enter Tryz.func6, Tryz.ntmps6
    go_wp2_with fail
    go_ret2
    exact RS.nil _ _ _ _ _ Q0
/-- Two tracks: what all pairs give is what the one pair gives. -/
theorem ai_two {wx wy a b d s : Int} {n m : Nat} {xs ys : List Int} : aiC wx wy a b d s [(n, xs), (m, ys)] = ioC wx wy a b d s xs n ys m := by
  have hT : allT [(n, xs), (m, ys)] = (isTrk xs n && isTrk ys m) := by simp [allT, List.range_succ, dn, dx]
  have e1 : kTm s [(n, xs), (m, ys)] 0 1 = ckGo s (ckTo xs n ys m) 401 (ckFrom s xs ys) := rfl
  have e2 : aiTo wx wy a b d s [(n, xs), (m, ys)] 2 2 = (ckGo s (ckTo xs n ys m) 401 (ckFrom s xs ys)).map (fun T => inL wx wy a b d xs n ys m 0 1 T) := by
    simp only [aiTo, aiIn, Nat.add_zero, Nat.zero_add, show 2 - 1 - 0 = 1 from rfl, show 2 - 1 - 1 = 0 from rfl, e1]
    cases ckGo s (ckTo xs n ys m) 401 (ckFrom s xs ys) with
    | none => rfl
    | some T => simp [prL, dx, dn]
  unfold aiC ioC
  rw [hT, if_neg (show ¬ 16 < [(n, xs), (m, ys)].length by simp)]
  show (if _ then (match aiTo wx wy a b d s [(n, xs), (m, ys)] 2 2 with | none => (3 : Int) | some _ => 0) else 1) = _
  rw [e2]
  cases hw : wnB wx wy
  · simp
  · cases hx : isWat a b d s
    · simp [ctimC, hx]
    · cases h1 : isTrk xs n
      · simp [ctimC, h1]
      · cases h2 : isTrk ys m
        · simp [ctimC, h2]
        · simp [ctimC, hx, h1, h2]
          cases ckGo s (ckTo xs n ys m) 401 (ckFrom s xs ys) <;> rfl
end Go.Proofs.YtkpdoikjfibflaaGreatDoor
namespace Go.Proofs.YtkpdoikjfibflaaGreatDoor
open Go.RowKit Go.WideShapes Go.ChangeShapes
theorem ckGo_up {s u : Int} (hs : 1 ≤ s) : ∀ (f : Nat) (t : Int) (L : List Int), ckGo s u f t = some L → ∀ i j, i < j → j < L.length → el L i ≤ el L j
  | 0, _, _, h => by cases h
  | f + 1, t, L, h => by
    unfold ckGo at h
    split at h
    · cases hg : ckGo s u f (t + s) with
      | none => rw [hg] at h; cases h
      | some M =>
        rw [hg] at h
        injection h with h
        subst h
        intro i j hij hj
        obtain ⟨j, rfl⟩ : ∃ e, j = e + 1 := ⟨j - 1, by omega⟩
        have hjM : j < M.length := by simpa using hj
        have ej : el (t :: M) (j + 1) = el M j := by simp [el]
        cases i with
        | zero =>
          have h1 := ckGo_in hs f _ M hg (el M j) (by rw [el_get hjM]; exact List.getElem_mem _)
          have e0 : el (t :: M) 0 = t := rfl
          rw [ej, e0]
          omega
        | succ i =>
          have ei : el (t :: M) (i + 1) = el M i := by simp [el]
          rw [ej, ei]
          exact ckGo_up hs f _ M hg i j (by omega) hjM
    · injection h with h
      subst h
      intro i j _ hj
      simp at hj
/-- Rows of five whose first numbers do not fall; each is one of the first k of T. -/
def NK (T : List Int) (k : Nat) (L : List Int) : Prop := ∃ c, L.length = c * 5 ∧ (∀ i j, i < j → j < c → el L (i * 5) ≤ el L (j * 5)) ∧ ∀ r, r < c → ∃ q, q < k ∧ el L (r * 5) = el T q
theorem icTo_NK {p : Int → Bool} {ev : Int → List Int} {T : List Int} (he : ∀ t, (ev t).length = 5) (hh : ∀ t, el (ev t) 0 = t) (hT : ∀ i j, i < j → j < T.length → el T i ≤ el T j) : ∀ k, k ≤ T.length → NK T k (icTo p ev T k)
  | 0, _ => ⟨0, rfl, fun i j _ h => by omega, fun r h => by omega⟩
  | k + 1, hk => by
    obtain ⟨c, h1, h2, h3⟩ := icTo_NK (p := p) he hh hT k (by omega)
    unfold icTo icK
    split
    · refine ⟨c + 1, by rw [List.length_append, h1, he]; omega, fun i j hij hj => ?_, fun r hr => ?_⟩
      · rw [el_app_lt (by omega)]
        by_cases hc : j < c
        · rw [el_app_lt (by omega)]; exact h2 i j hij hc
        · obtain rfl : j = c := by omega
          have := el_app_ge (L := icTo p ev T k) (E := ev (el T k)) (j := 0)
          rw [h1, Nat.add_zero] at this
          rw [this, hh]
          obtain ⟨q, hq, e⟩ := h3 i (by omega)
          rw [e]
          exact hT q k hq (by omega)
      · by_cases hc : r < c
        · obtain ⟨q, hq, e⟩ := h3 r hc
          exact ⟨q, by omega, by rw [el_app_lt (by omega)]; exact e⟩
        · obtain rfl : r = c := by omega
          have := el_app_ge (L := icTo p ev T k) (E := ev (el T k)) (j := 0)
          rw [h1, Nat.add_zero] at this
          exact ⟨k, by omega, by rw [this, hh]⟩
    · rw [List.append_nil]
      exact ⟨c, h1, h2, fun r hr => by obtain ⟨q, hq, e⟩ := h3 r hr; exact ⟨q, by omega, e⟩⟩
theorem srt_id {X : List Int} {n : Nat} (hl : X.length = n * 5) (h : ∀ i j, i < j → j < n → el X (i * 5) ≤ el X (j * 5)) : srtL X n = X := by
  have h1 : Srt (keyI X) id 0 n := fun i j _ hij hj => by
    have := h i j hij hj
    unfold Lt keyI
    simp only [id]
    omega
  rw [← srtL_of (Prm.refl 0 n) h1, ← flatP_id hl]
theorem ai_twoL {wx wy a b d s : Int} {n m : Nat} {xs ys : List Int} : aiL wx wy a b d s [(n, xs), (m, ys)] = ioL wx wy a b d s xs n ys m := by
  have e2 : aiTo wx wy a b d s [(n, xs), (m, ys)] 2 2 = (ckGo s (ckTo xs n ys m) 401 (ckFrom s xs ys)).map (fun T => inL wx wy a b d xs n ys m 0 1 T) := by
    have e1 : kTm s [(n, xs), (m, ys)] 0 1 = ckGo s (ckTo xs n ys m) 401 (ckFrom s xs ys) := rfl
    simp only [aiTo, aiIn, Nat.add_zero, Nat.zero_add, show 2 - 1 - 0 = 1 from rfl, show 2 - 1 - 1 = 0 from rfl, e1]
    cases ckGo s (ckTo xs n ys m) 401 (ckFrom s xs ys) with
    | none => rfl
    | some T => simp [prL, dx, dn]
  unfold aiL ioL
  rw [ai_two]
  show (if _ then (match aiTo wx wy a b d s [(n, xs), (m, ys)] 2 2 with | none => ([] : List Int) | some X => srtL X (X.length / 5)) else []) = _
  rw [e2]
  cases hw : wnB wx wy
  · simp [ioC, hw]
  · by_cases hC : ctimC a b d s xs n ys m = 0
    · obtain ⟨hx, h1, h2⟩ := ctim_yes hC
      obtain ⟨f1, f2⟩ := ctim_ok (d := d) hx h1 h2
      rw [if_pos (by unfold ioC; rw [hw]; exact hC), if_pos ⟨rfl, hC⟩, f2]
      rw [f1] at hC
      cases hg : ckGo s (ckTo xs n ys m) 401 (ckFrom s xs ys) with
      | none => rw [hg] at hC; cases hC
      | some T =>
        show srtL (inL wx wy a b d xs n ys m 0 1 T) ((inL wx wy a b d xs n ys m 0 1 T).length / 5) = inL wx wy a b d xs n ys m 0 1 T
        obtain ⟨c, g1, g2, _⟩ := icTo_NK (p := naR a d xs n ys m) (ev := evT wx wy a b xs n ys m 0 1) (fun _ => evR_len _ _ _ _) (fun _ => evR_head _ _ _ _) (ckGo_up (isWat_step hx).1 401 _ T hg) T.length (Nat.le_refl _)
        have g1' : (inL wx wy a b d xs n ys m 0 1 T).length = c * 5 := g1
        rw [show (inL wx wy a b d xs n ys m 0 1 T).length / 5 = c by rw [g1']; omega]
        exact srt_id g1 g2
    · rw [if_neg (by unfold ioC; rw [hw]; exact hC), if_neg (fun h => hC h.2)]
end Go.Proofs.YtkpdoikjfibflaaGreatDoor
namespace Go.Proofs.YtkpdoikjfibflaaGreatDoor
open Go.RowKit Go.WideShapes Go.ChangeShapes
theorem rdD_two {w : World} {A1 A2 : Option Addr} {n c1 m c2 : Nat} {xs ys : List Int} (T : TypeId) (ha : Rd w A1 xs) (hn : xs.length = n * 3) (hn2 : n ≤ 9223372036854775807) (hb : Rd w A2 ys) (hm : ys.length = m * 3) (hm2 : m ≤ 9223372036854775807) :
    RdD (w.alloc (.cells #[.slice A1 n c1, .slice A2 m c2] T)) (some ⟨w.heap.size, 0, none⟩) [(n, xs), (m, ys)] := by
  have q : Q w (w.alloc (.cells #[.slice A1 n c1, .slice A2 m c2] T)) := (Q.refl w).alloc _
  have B := Blk.new w T #[.slice A1 n c1, .slice A2 m c2]
  refine ⟨[⟨A1, n, c1, xs⟩, ⟨A2, m, c2, ys⟩], ⟨w.heap.size, 0, fun _ => rfl, fun j hj => ?_⟩, rfl⟩
  match j, hj with
  | 0, _ => exact ⟨B.cell 0, ha.q q, hn, hn2⟩
  | 1, _ => exact ⟨B.cell 1, hb.q q, hm, hm2⟩
set_option maxHeartbeats 1000000 in
theorem impl_IncidentsOf (wx wy a b d s : Int) (A1 : Option Addr) (n c1 : Nat) (xs : List Int) (A2 : Option Addr) (m c2 : Nat) (ys : List Int) (w : World) (ha : Rd w A1 xs) (hn : xs.length = n * 3) (hn2 : n ≤ 9223372036854775807) (hb : Rd w A2 ys) (hm : ys.length = m * 3) (hm2 : m ≤ 9223372036854775807) :
    Calls Tryz.prog 8 #[.agg #[.int .i64 wx, .int .i64 wy], .agg #[.int .i64 a, .int .i64 b, .int .i64 d, .int .i64 s], .agg #[.slice A1 n c1], .agg #[.slice A2 m c2]] w (RS w 42 5 ((ioL wx wy a b d s xs n ys m).length / 5) (ioL wx wy a b d s xs n ys m) (ioC wx wy a b d s xs n ys m)) := by
  have Q0 : Q w ((((w.alloc (.cells #[.int .i64 wx, .int .i64 wy] 25)).alloc (.cells #[.int .i64 a, .int .i64 b, .int .i64 d, .int .i64 s] 27)).alloc (.cells #[.slice A1 n c1] 37)).alloc (.cells #[.slice A2 m c2] 37)) := by (repeat (first | assumption | exact Q.refl _ | refine Q.alloc ?_ _ | refine Q.drewN ?_ _ | refine Q.drew ?_))
  have K := Lib.hid (fun (c : Nat) (A : Option Addr) wv h => impl_AllIncidents wx wy a b d s A 2 c [(n, xs), (m, ys)] wv h rfl (by decide))
  rw [ai_two, ai_twoL] at K
  obtain ⟨k, _, hk⟩ := ioL_len wx wy a b d s xs n ys m
  generalize ioL wx wy a b d s xs n ys m = L at *
  generalize ioC wx wy a b d s xs n ys m = C at *
  have hr := rdD_two (c1 := c1) (c2 := c2) 37 (ha.q Q0) hn hn2 (hb.q Q0) hm hm2
  simp only [World.size_alloc] at hr
  have HR := Lib.hid hr
  clear hr
  have Q1 := Q0.alloc (.cells #[.slice A1 n c1, .slice A2 m c2] 37)
  have HK := Lib.hid hk
  clear hn hm hk ha hb hn2 hm2
  go_enter Tryz.func8, Tryz.ntmps8
  go_wp2_with fail
  refine (K.out _ _ _ HR.out).mono ?_
  rintro e w1 ⟨A, cc, rfl, ho, q1⟩
  go_wp2_with fail
  go_ret2
  exact RS.mk' (ho.mono Q1.size) (Q1.trans q1) (by rw [HK.out]; omega) (by decide)
end Go.Proofs.YtkpdoikjfibflaaGreatDoor
