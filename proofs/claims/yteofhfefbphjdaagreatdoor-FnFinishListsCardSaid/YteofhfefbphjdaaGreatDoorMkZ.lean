/- Walks: the finishes of several boats, as the program and the reference find them. No condition. Walks: the finishes of several boats, as the reference finds them; the finish of one boat. No condition. Walks: the finish of one boat, as the program's and the reference's FinishOf return it. No condition. -/
import Derived.Test.YteofhfefbphjdaaGreatDoorMkW
import Derived.Test.YteofhfefbphjdaaGreatDoorEqFinish
import Derived.Test.YteofhfefbphjdaaGreatDoorEboatsS
namespace Go.Proofs.YteofhfefbphjdaaGreatDoor
open Go.RowKit Go.WideShapes Go.ChangeShapes
theorem elFinish : EltT 34 38 3 := EltT.mk infoFinish Tryz.underlying34 (by decide) rfl (by decide)
/-- The code for a course, tracks, a time and a flag (up to sixteen tracks). -/
def fsK (a b c d p q r s : Int) (ms : List Mk) (D : List (Nat × List Int)) (t fl : Int) : Int :=
  if crsB a b c d p q r s ms = true then (if allB D = true then (if inR t 0 1000000000 = true ∧ inR fl 0 3 = true then (if clAll a b c d ms ms.length = true then 0 else 5) else 2) else 1) else 1
def fsC (a b c d p q r s : Int) (ms : List Mk) (D : List (Nat × List Int)) (t fl : Int) : Int := if 16 < D.length then 3 else fsK a b c d p q r s ms D t fl
def fsTo (a b c d : Int) (L : List Int) (N : Nat) (t fl : Int) (D : List (Nat × List Int)) : Nat → List Int
  | 0 => []
  | k + 1 => fsTo a b c d L N t fl D k ++ [(k : Int), (fnV a b c d L N (dx D k) (dn D k) t fl).1, (fnV a b c d L N (dx D k) (dn D k) t fl).2]
theorem fsTo_len (a b c d : Int) (L : List Int) (N : Nat) (t fl : Int) (D : List (Nat × List Int)) : ∀ k, (fsTo a b c d L N t fl D k).length = k * 3
  | 0 => rfl
  | k + 1 => by rw [fsTo, List.length_append, fsTo_len a b c d L N t fl D k]; simp; omega
def fsN (a b c d p q r s : Int) (ms : List Mk) (D : List (Nat × List Int)) (t fl : Int) : Nat := if fsC a b c d p q r s ms D t fl = 0 then D.length else 0
def fsL (a b c d p q r s : Int) (ms : List Mk) (D : List (Nat × List Int)) (t fl : Int) : List Int := if fsC a b c d p q r s ms D t fl = 0 then fsTo a b c d (clL a b c d p q r s ms) (ms.length + 2) t fl D D.length else []
theorem fsK_0 {a b c d p q r s : Int} {ms : List Mk} {D : List (Nat × List Int)} {t fl : Int} (h : fsK a b c d p q r s ms D t fl = 0) : crsB a b c d p q r s ms = true ∧ allB D = true ∧ (0 ≤ t ∧ t ≤ 1000000000) ∧ inR fl 0 3 = true ∧ clAll a b c d ms ms.length = true := by
  unfold fsK at h
  split at h
  · rename_i h1
    split at h
    · rename_i h2
      split at h
      · rename_i h3
        split at h
        · rename_i h4
          have h5 := h3.1
          unfold inR at h5
          exact ⟨h1, h2, of_decide_eq_true h5, h3.2, h4⟩
        · cases h
      · cases h
    · cases h
  · cases h
theorem fsN_le (a b c d p q r s : Int) (ms : List Mk) (D : List (Nat × List Int)) (t fl : Int) : fsN a b c d p q r s ms D t fl ≤ 16 := by
  unfold fsN
  split
  · rename_i h
    unfold fsC at h
    split at h
    · cases h
    · omega
  · exact Nat.zero_le _
/-- The code that the program's start asks for. -/
theorem impl_startCF (a b c d : Int) (A : Option Addr) (m cc : Nat) (D : List (Nat × List Int)) (t fl : Int) (w : World) (ha : RdD w A D) (hm : D.length = m) (hm2 : m ≤ 16) (hl : lnB a b c d = true) :
    Calls Tryz.prog 21 #[.agg #[.int .i64 a, .int .i64 b, .int .i64 c, .int .i64 d], .slice A m cc, .int .i64 t, .int .i64 fl] w fun e w' => e = .returned (.int .i64 (if allB D = true then (if inR t 0 1000000000 = true ∧ inR fl 0 3 = true then 0 else 2) else 1)) ∧ Q w w' := by
  obtain ⟨ts, h1, rfl⟩ := ha
  have := impl_startCode a b c d A m cc ts t fl w h1 (by simpa using hm) (by omega)
  rwa [show scC a b c d ts t fl = (if allB (ts.map Tk.dat) = true then (if inR t 0 1000000000 = true ∧ inR fl 0 3 = true then 0 else 2) else 1) by unfold scC; rw [all_dat]; simp only [hl, true_and]] at this
set_option maxRecDepth 100000 in
set_option maxHeartbeats 8000000 in
theorem impl_FinishesOf (a b c d p q r s : Int) (A0 : Option Addr) (n0 c0 : Nat) (ms : List Mk) (A : Option Addr) (n cc : Nat) (D : List (Nat × List Int)) (t fl : Int) (w : World) (hm0 : RdM w A0 ms) (hn0 : ms.length = n0) (hcap : n0 ≤ c0) (hn02 : n0 ≤ 9223372036854775807) (ha : RdD w A D) (hD : D.length = n) (hn2 : n ≤ 9223372036854775807) :
    Calls Tryz.prog 7 #[.agg #[.int .i64 a, .int .i64 b, .int .i64 c, .int .i64 d, .int .i64 p, .int .i64 q, .int .i64 r, .int .i64 s, .slice A0 n0 c0], .slice A n cc, .int .i64 t, .int .i64 fl] w fun e w' => RS w 38 3 (fsN a b c d p q r s ms D t fl) (fsL a b c d p q r s ms D t fl) (fsC a b c d p q r s ms D t fl) e w' := by
  obtain ⟨CO, hCO⟩ : ∃ R, R = fun e w' => RS w 38 3 (fsN a b c d p q r s ms D t fl) (fsL a b c d p q r s ms D t fl) (fsC a b c d p q r s ms D t fl) e w' := ⟨_, rfl⟩
  rw [← hCO]
  have HCO := Lib.hid hCO
  clear hCO
  have k1 := fun wv (h : RdM wv A0 ms) => impl_IsCourse a b c d p q r s A0 n0 c0 ms wv h hn0 hn02 hcap
  have B0 := Blk.new w 30 #[.int .i64 a, .int .i64 b, .int .i64 c, .int .i64 d, .int .i64 p, .int .i64 q, .int .i64 r, .int .i64 s, .slice A0 n0 c0]
  have Q0 : Q w (w.alloc (.cells #[.int .i64 a, .int .i64 b, .int .i64 c, .int .i64 d, .int .i64 p, .int .i64 q, .int .i64 r, .int .i64 s, .slice A0 n0 c0] 30)) := by (repeat (first | assumption | exact Q.refl _ | refine Q.alloc ?_ _ | refine Q.drewN ?_ _ | refine Q.drew ?_))
  by_cases h16 : n ≤ 16
  · have h16I : ¬ ((16 : Int) < (n : Int)) := by omega
    cases hcr : crsB a b c d p q r s ms
    · have HC := Lib.hid (show fsC a b c d p q r s ms D t fl = 1 by unfold fsC fsK; rw [if_neg (by omega), hcr]; rfl)
      have HN := Lib.hid (show fsN a b c d p q r s ms D t fl = 0 by unfold fsN; rw [HC.out]; rfl)
      have HL := Lib.hid (show fsL a b c d p q r s ms D t fl = [] by unfold fsL; rw [HC.out]; rfl)
      rw [hcr] at k1
      have K1 := Lib.hid k1
      clear k1 hcr
      go_enter Tryz.func7, Tryz.ntmps7
      go_wp2_with fail
      refine (K1.out _ (hm0.q Q0)).mono ?_
      rintro e1 w1 ⟨rfl, q1⟩
      replace B0 := B0.q q1
      replace Q0 := Q0.trans q1
      have c1 := B0.cell
      have l1 := B0.lt
      go_wp2_with fail
      rw [HCO.out]
      show RS _ _ _ _ _ _ _ _
      rw [HN.out, HL.out, HC.out]
      exact RS.nil _ _ _ _ _ Q0
    · rw [hcr] at k1
      have K1 := Lib.hid k1
      have hln := (crs_yes hcr).1
      have k2 := fun wv (h : RdD wv A D) => impl_startCF a b c d A n cc D t fl wv h hD h16 hln
      obtain ⟨C2, hC2⟩ : ∃ C2 : Int, C2 = (if allB D = true then (if inR t 0 1000000000 = true ∧ inR fl 0 3 = true then 0 else 2) else 1) := ⟨_, rfl⟩
      rw [← hC2] at k2
      have K2 := Lib.hid k2
      clear k1 k2
      by_cases h2 : C2 = 0
      · subst h2
        have hall : allB D = true ∧ (inR t 0 1000000000 = true ∧ inR fl 0 3 = true) := by
          split at hC2
          · rename_i h3
            split at hC2
            · rename_i h4
              exact ⟨h3, h4⟩
            · cases hC2
          · cases hC2
        have ht := hall.2.1
        unfold inR at ht
        replace ht := of_decide_eq_true ht
        have k3 := fun wv (h : RdM wv A0 ms) => impl_courseLines a b c d p q r s A0 n0 c0 ms wv h hn0 hcr hcap
        unfold CLi at k3
        cases hcl : clAll a b c d ms n0
        · have HC := Lib.hid (show fsC a b c d p q r s ms D t fl = 5 by unfold fsC fsK; rw [if_neg (by omega), if_pos hcr, if_pos hall.1, if_pos hall.2, hn0, hcl]; rfl)
          have HN := Lib.hid (show fsN a b c d p q r s ms D t fl = 0 by unfold fsN; rw [HC.out]; rfl)
          have HL := Lib.hid (show fsL a b c d p q r s ms D t fl = [] by unfold fsL; rw [HC.out]; rfl)
          rw [hcl] at k3
          have K3 := Lib.hid k3
          clear k3 hcl hcr hall hln hC2
          go_enter Tryz.func7, Tryz.ntmps7
          go_wp2_with fail
          refine (K1.out _ (hm0.q Q0)).mono ?_
          rintro e1 w1 ⟨rfl, q1⟩
          replace B0 := B0.q q1
          replace Q0 := Q0.trans q1
          have c1 := B0.cell
          have l1 := B0.lt
          go_wp2_with fail
          refine (K2.out _ (ha.q Q0)).mono ?_
          rintro e2 w2 ⟨rfl, q2⟩
          clear c1 l1
          replace B0 := B0.q q2
          replace Q0 := Q0.trans q2
          have c1 := B0.cell
          have l1 := B0.lt
          go_wp2_with fail
          refine (K3.out _ (hm0.q Q0)).mono ?_
          rintro e3 w3 ⟨A3, c3, rfl, o3, q3⟩
          replace Q0 := Q0.trans q3
          go_wp2_with fail
          rw [HCO.out]
          show RS _ _ _ _ _ _ _ _
          rw [HN.out, HL.out, HC.out]
          exact RS.nil _ _ _ _ _ Q0
        · have HC := Lib.hid (show fsC a b c d p q r s ms D t fl = 0 by unfold fsC fsK; rw [if_neg (by omega), if_pos hcr, if_pos hall.1, if_pos hall.2, hn0, if_pos hcl])
          have HN := Lib.hid (show fsN a b c d p q r s ms D t fl = n by unfold fsN; rw [HC.out, if_pos rfl, hD])
          have HL := Lib.hid (show fsL a b c d p q r s ms D t fl = fsTo a b c d (clL a b c d p q r s ms) (n0 + 2) t fl D n by unfold fsL; rw [HC.out, if_pos rfl, hn0, hD])
          replace k3 : ∀ wv, RdM wv A0 ms → Calls Tryz.prog 22 #[.agg #[.int .i64 a, .int .i64 b, .int .i64 c, .int .i64 d, .int .i64 p, .int .i64 q, .int .i64 r, .int .i64 s, .slice A0 n0 c0]] wv (RS wv 27 4 (n0 + 2) (clL a b c d p q r s ms) 0) := fun wv h => by
            have := k3 wv h
            rw [hcl] at this
            exact this
          have K3 := Lib.hid k3
          have hlen8 : n0 ≤ 8 := by obtain ⟨_, _, h3, _⟩ := crs_yes hcr; omega
          have hlo := clL_ok hn0 hcr hcl
          have hLn : (clL a b c d p q r s ms).length = (n0 + 2) * 4 := by rw [clL_len, hn0]
          obtain ⟨z0, z1, z2, z3⟩ := clL_0 a b c d p q r s ms
          generalize clL a b c d p q r s ms = L at *
          have kf := fun k (hk : k < n) wv (BL : Option Addr) (cL : Nat) (h0 : Rd wv BL L) (B : Option Addr) (c1 : Nat) (h : Rd wv B (dx D k)) (hx : (dx D k).length = dn D k * 3) => impl_finishOf BL (n0 + 2) cL L B (dn D k) c1 (dx D k) t fl (k : Int) wv h0 hLn (by omega) (by omega) hlo h hx (allB_at hall.1 (by omega)) ht
          rw [z0, z1, z2, z3] at kf
          have KF := Lib.hid kf
          have HFS := Lib.hid (fun k => (show fsTo a b c d L (n0 + 2) t fl D (k + 1) = fsTo a b c d L (n0 + 2) t fl D k ++ [(k : Int), (fnV a b c d L (n0 + 2) (dx D k) (dn D k) t fl).1, (fnV a b c d L (n0 + 2) (dx D k) (dn D k) t fl).2] from rfl))
          have HD := Lib.hid hD
          clear k3 kf hcl hcr hall hln hC2 z0 z1 z2 z3 hlo hLn hD
          go_enter Tryz.func7, Tryz.ntmps7
          go_wp2_with fail
          refine (K1.out _ (hm0.q Q0)).mono ?_
          rintro e1 w1 ⟨rfl, q1⟩
          replace B0 := B0.q q1
          replace Q0 := Q0.trans q1
          have c1 := B0.cell
          have l1 := B0.lt
          go_wp2_with fail
          refine (K2.out _ (ha.q Q0)).mono ?_
          rintro e2 w2 ⟨rfl, q2⟩
          clear c1 l1
          replace B0 := B0.q q2
          replace Q0 := Q0.trans q2
          have c1 := B0.cell
          have l1 := B0.lt
          go_wp2_with fail
          refine (K3.out _ (hm0.q Q0)).mono ?_
          rintro e3 w3 ⟨A3, c3, rfl, o3, q3⟩
          replace Q0 := Q0.trans q3
          clear c1 l1
          have hL3 := o3.rd
          have fL3 := o3.from
          go_wp2_with fail
          go_loopw [13, 41] (fun v i wr => ∃ (k : Nat) (A1 : Option Addr) (d1 : Nat), k ≤ n ∧ i = .int .i64 k ∧ v = .slice A1 k d1 ∧ Own wr w3.heap.size 38 3 (.slice A1 k d1) k (fsTo a b c d L (n0 + 2) t fl D k) ∧ Q w3 wr) (fun _ i _ => n - (intOf i).toNat)
          case atStart => exact ⟨0, _, _, Nat.zero_le _, rfl, rfl, Own.lit w3 38 3 0 [] rfl (Nat.le_refl _) rfl (by decide), by (repeat (first | assumption | exact Q.refl _ | refine Q.alloc ?_ _ | refine Q.drewN ?_ _ | refine Q.drew ?_))⟩
          case round =>
            obtain ⟨k, A1, d1, hk, rfl, rfl, hown, hq⟩ := hrel
            have hqw : Q w wr := Q0.trans hq
            have hsz := hq.size
            by_cases hlt : k < n
            · have hltI : (k : Int) < (n : Int) := by omega
              obtain ⟨bl, o, B, cb, rfl, g0, hr, hx, _⟩ := (ha.q hqw).at_ HD.out hlt
              have KK := fun wv (h0 : Rd wv A3 L) (h : Rd wv B (dx D k)) => KF.out k hlt wv A3 c3 h0 B cb h hx
              have HE := Lib.hid (HFS.out k)
              generalize fnV a b c d L (n0 + 2) (dx D k) (dn D k) t fl = FV at *
              obtain ⟨f1, f2⟩ := FV
              simp only at KK HE
              obtain ⟨mm, hme⟩ : ∃ mm, mm = dn D k := ⟨_, rfl⟩
              rw [← hme] at g0 KK
              obtain ⟨ys, hye⟩ : ∃ ys, ys = dx D k := ⟨_, rfl⟩
              rw [← hye] at hr KK
              have KK := Lib.hid KK
              have QT : Q wr (wr.alloc (.cells #[.slice B mm cb] 43)) := by (repeat (first | assumption | exact Q.refl _ | refine Q.alloc ?_ _ | refine Q.drewN ?_ _ | refine Q.drew ?_))
              clear hme hye hx
              go_wp2_with fail
              refine (KK.out _ (hL3.q (hq.trans QT)) (hr.q QT)).mono ?_
              rintro e5 w5 ⟨rfl, q5⟩
              have Q5 : Q wr w5 := QT.trans q5
              have hs5 := Q5.size
              go_wp2_with (at_builtin; refine appK elFinish rfl _ _ rfl [(k : Int), f1, f2] rfl (hown.q Q5) rfl (by simp) rfl _ _ rfl (by omega) (by omega) ?_; intro A' c' w' hown' hg' hgr')
              go_roundw
              case rel => exact ⟨k + 1, A', c', by omega, by go_num, rfl, by rw [HE.out]; exact hown', Q.mark (hq.trans Q5) (hown.q Q5) (Nat.le_refl _) hg'⟩
              case measure => simp [intOf]; omega
            · obtain rfl : k = n := by omega
              go_wp2_with fail
              rw [HCO.out]
              show RS _ _ _ _ _ _ _ _
              rw [HN.out, HL.out, HC.out]
              exact ⟨_, _, rfl, hown.mono Q0.size, hqw⟩
      · have HC := Lib.hid (show fsC a b c d p q r s ms D t fl = C2 by
          unfold fsC fsK
          rw [if_neg (by omega), if_pos hcr, hC2]
          split
          · rename_i h3
            split
            · rename_i h4
              exact absurd (hC2.trans (by rw [if_pos h3, if_pos h4])) h2
            · rfl
          · rfl)
        have HN := Lib.hid (show fsN a b c d p q r s ms D t fl = 0 by unfold fsN; rw [HC.out, if_neg h2])
        have HL := Lib.hid (show fsL a b c d p q r s ms D t fl = [] by unfold fsL; rw [HC.out, if_neg h2])
        have hb : (C2 != 0) = true := by simpa using h2
        clear hC2 hcr hln h2
        go_enter Tryz.func7, Tryz.ntmps7
        go_wp2_with fail
        refine (K1.out _ (hm0.q Q0)).mono ?_
        rintro e1 w1 ⟨rfl, q1⟩
        replace B0 := B0.q q1
        replace Q0 := Q0.trans q1
        have c1 := B0.cell
        have l1 := B0.lt
        go_wp2_with fail
        refine (K2.out _ (ha.q Q0)).mono ?_
        rintro e2 w2 ⟨rfl, q2⟩
        clear c1 l1
        replace B0 := B0.q q2
        replace Q0 := Q0.trans q2
        have c1 := B0.cell
        have l1 := B0.lt
        go_wp2_with fail
        rw [HCO.out]
        show RS _ _ _ _ _ _ _ _
        rw [HN.out, HL.out, HC.out]
        exact RS.nil _ _ _ _ _ Q0
  · have h16I : (16 : Int) < (n : Int) := by omega
    have HC := Lib.hid (show fsC a b c d p q r s ms D t fl = 3 by unfold fsC; rw [if_pos (by omega)])
    have HN := Lib.hid (show fsN a b c d p q r s ms D t fl = 0 by unfold fsN; rw [HC.out]; rfl)
    have HL := Lib.hid (show fsL a b c d p q r s ms D t fl = [] by unfold fsL; rw [HC.out]; rfl)
    go_enter Tryz.func7, Tryz.ntmps7
    go_wp2_with fail
    rw [HCO.out]
    show RS _ _ _ _ _ _ _ _
    rw [HN.out, HL.out, HC.out]
    exact RS.nil _ _ _ _ _ Q0
end Go.Proofs.YteofhfefbphjdaaGreatDoor
namespace Go.Proofs.YteofhfefbphjdaaGreatDoor
open Go.RowKit Go.WideShapes Go.ChangeShapes
theorem fl_in (n : Int) (w : World) : Calls Tryz.prog 59 #[.int .i64 n] w fun e w' => e = .returned (.bool (inR n 0 3)) ∧ w = w' := by
  have K := Lib.hid (fun wv => spec_inR n 0 3 wv)
  generalize inR n 0 3 = B at *
  go_enter Tryz.func59, Tryz.ntmps59
  go_wp2_with (go_at_call 58; refine (K.out _).mono ?_; rintro e w' ⟨rfl, rfl⟩)
  go_ret
  exact ⟨rfl, rfl⟩
set_option maxRecDepth 100000 in
set_option maxHeartbeats 8000000 in
theorem spec_l16Code (a b c d p q r s : Int) (A0 : Option Addr) (n0 c0 : Nat) (ms : List Mk) (A : Option Addr) (n cc : Nat) (D : List (Nat × List Int)) (t fl : Int) (w : World) (hm0 : RdM w A0 ms) (hn0 : ms.length = n0) (hn02 : n0 ≤ 9223372036854775807) (ha : RdD w A D) (hD : D.length = n) (hn2 : n ≤ 9223372036854775807) :
    Calls Tryz.prog 24 #[.agg #[.int .i64 a, .int .i64 b, .int .i64 c, .int .i64 d, .int .i64 p, .int .i64 q, .int .i64 r, .int .i64 s, .slice A0 n0 c0], .slice A n cc, .int .i64 t, .int .i64 fl] w fun e w' => e = .returned (.int .i64 (fsK a b c d p q r s ms D t fl)) ∧ Q w w' := by
  have HS := Lib.hid (show fsK a b c d p q r s ms D t fl = if crsB a b c d p q r s ms = true then (if allB D = true then (if inR t 0 1000000000 = true ∧ inR fl 0 3 = true then (if clAll a b c d ms n0 = true then 0 else 5) else 2) else 1) else 1 by unfold fsK; rw [hn0])
  have HD := Lib.hid hD
  obtain ⟨R, hR⟩ : ∃ R, R = fsK a b c d p q r s ms D t fl := ⟨_, rfl⟩
  rw [← hR] at HS ⊢
  clear hR
  have k1 := fun wv (h : RdM wv A0 ms) => spec_IsCourse a b c d p q r s A0 n0 c0 ms wv h hn0 hn02
  have B0 := Blk.new w 30 #[.int .i64 a, .int .i64 b, .int .i64 c, .int .i64 d, .int .i64 p, .int .i64 q, .int .i64 r, .int .i64 s, .slice A0 n0 c0]
  have Q0 : Q w (w.alloc (.cells #[.int .i64 a, .int .i64 b, .int .i64 c, .int .i64 d, .int .i64 p, .int .i64 q, .int .i64 r, .int .i64 s, .slice A0 n0 c0] 30)) := by (repeat (first | assumption | exact Q.refl _ | refine Q.alloc ?_ _ | refine Q.drewN ?_ _ | refine Q.drew ?_))
  cases hcr : crsB a b c d p q r s ms
  · have HC := Lib.hid (show R = 1 by rw [HS.out, hcr]; rfl)
    rw [hcr] at k1
    have K1 := Lib.hid k1
    clear k1 hcr HS
    go_enter Tryz.func24, Tryz.ntmps24
    go_wp2_with fail
    refine (K1.out _ (hm0.q Q0)).mono ?_
    rintro e1 w1 ⟨rfl, q1⟩
    go_wp2_with fail
    go_ret
    exact ⟨ret_int HC.out.symm, Q0.trans q1⟩
  · rw [hcr] at k1
    have K1 := Lib.hid k1
    have k4 := (fun wv => spec_inR t 0 1000000000 wv)
    obtain ⟨p4, hp4⟩ : ∃ p, p = inR t 0 1000000000 := ⟨_, rfl⟩
    rw [← hp4] at k4 HS
    have k5 := (fun wv => fl_in fl wv)
    obtain ⟨p5, hp5⟩ : ∃ p, p = inR fl 0 3 := ⟨_, rfl⟩
    rw [← hp5] at k5 HS
    have k6 := fun wv (h : RdM wv A0 ms) => spec_l06Lines a b c d p q r s A0 n0 c0 ms wv h hn0 hcr
    unfold CLs at k6
    obtain ⟨p6, hp6⟩ : ∃ p, p = clAll a b c d ms n0 := ⟨_, rfl⟩
    rw [← hp6] at k6 HS
    have HR0 := Lib.hid (show allB D = false → R = 1 from fun h => by rw [HS.out, if_pos hcr, h]; rfl)
    have HR1 := Lib.hid (show allB D = true → R = if p4 = true ∧ p5 = true then (if p6 = true then 0 else 5) else 2 from fun h => by rw [HS.out, if_pos hcr, if_pos h])
    have K4 := Lib.hid k4
    have K5 := Lib.hid k5
    have K6 := Lib.hid k6
    clear k1 k4 k5 k6 hcr HS hp4 hp5 hp6 hD
    go_enter Tryz.func24, Tryz.ntmps24
    go_wp2_with fail
    refine (K1.out _ (hm0.q Q0)).mono ?_
    rintro e1 w1 ⟨rfl, q1⟩
    replace B0 := B0.q q1
    replace Q0 := Q0.trans q1
    clear q1
    go_wp2_with fail
    go_loopw [9] (fun i wr => ∃ k : Nat, k ≤ n ∧ i = .int .i64 k ∧ Hid (allB (D.take k) = true) ∧ Q w1 wr) (fun i _ => n - (intOf i).toNat)
    case atStart => exact ⟨0, Nat.zero_le _, rfl, Lib.hid rfl, Q.refl _⟩
    case round =>
      obtain ⟨k, hk, rfl, HT, hq⟩ := hrel
      have hqw := Q0.trans hq
      by_cases hlt : k < n
      · have hltI : (k : Int) < (n : Int) := by omega
        obtain ⟨bl, o, B, cb, rfl, g0, hr, hx, hm⟩ := (ha.q hqw).at_ HD.out hlt
        have k2 := (fun wv (h : Rd wv B (dx D k)) => spec_IsTrack B (dn D k) cb (dx D k) wv h hx hm)
        obtain ⟨E, hE⟩ : ∃ E, E = isTrk (dx D k) (dn D k) := ⟨_, rfl⟩
        rw [← hE] at k2
        have HE := Lib.hid hE
        obtain ⟨mm, hme⟩ : ∃ mm, mm = dn D k := ⟨_, rfl⟩
        rw [← hme] at g0 k2 hm
        obtain ⟨ys, hye⟩ : ∃ ys, ys = dx D k := ⟨_, rfl⟩
        rw [← hye] at hr k2
        have K2 := Lib.hid k2
        clear hE hme hye hx k2
        cases E
        · go_wp2_with fail
          refine (K2.out _ hr).mono ?_
          rintro e w2 ⟨rfl, q2⟩
          go_wp2_with fail
          go_ret
          exact ⟨ret_int (HR0.out (allB_no (by rw [HD.out]; exact hlt) HE.out.symm)).symm, hqw.trans q2⟩
        · go_wp2_with fail
          refine (K2.out _ hr).mono ?_
          rintro e w2 ⟨rfl, q2⟩
          go_wp2_with fail
          go_roundw
          case rel => exact ⟨k + 1, by omega, by go_num, Lib.hid (by rw [allB_take (by rw [HD.out]; exact hlt), HT.out, ← HE.out]; rfl), hq.trans q2⟩
          case measure => simp [intOf]; omega
      · obtain rfl : k = n := by omega
        have HR := Lib.hid (HR1.out (by have := HT.out; rwa [List.take_of_length_le (by have := HD.out; omega)] at this))
        have b0 := (B0.q hq).cell
        have l0 := (B0.q hq).lt
        cases p4
        · have HF := Lib.hid (show R = 2 by rw [HR.out]; simp)
          clear HR
          go_wp2_with fail
          refine (K4.out _).mono ?_
          rintro e2 _ ⟨rfl, rfl⟩
          go_wp2_with fail
          go_ret
          exact ⟨ret_int HF.out.symm, hqw⟩
        · cases p5
          · have HF := Lib.hid (show R = 2 by rw [HR.out]; simp)
            clear HR
            go_wp2_with fail
            refine (K4.out _).mono ?_
            rintro e2 _ ⟨rfl, rfl⟩
            go_wp2_with fail
            refine (K5.out _).mono ?_
            rintro e3 _ ⟨rfl, rfl⟩
            go_wp2_with fail
            go_ret
            exact ⟨ret_int HF.out.symm, hqw⟩
          · cases p6
            · have HF := Lib.hid (show R = 5 by rw [HR.out]; simp)
              clear HR
              go_wp2_with fail
              refine (K4.out _).mono ?_
              rintro e2 _ ⟨rfl, rfl⟩
              go_wp2_with fail
              refine (K5.out _).mono ?_
              rintro e3 _ ⟨rfl, rfl⟩
              go_wp2_with fail
              refine (K6.out _ (hm0.q hqw)).mono ?_
              rintro e4 w4 ⟨A4, c4, rfl, o4, q4⟩
              go_wp2_with fail
              go_ret
              exact ⟨ret_int HF.out.symm, hqw.trans q4⟩
            · have HF := Lib.hid (show R = 0 by rw [HR.out]; simp)
              clear HR
              go_wp2_with fail
              refine (K4.out _).mono ?_
              rintro e2 _ ⟨rfl, rfl⟩
              go_wp2_with fail
              refine (K5.out _).mono ?_
              rintro e3 _ ⟨rfl, rfl⟩
              go_wp2_with fail
              refine (K6.out _ (hm0.q hqw)).mono ?_
              rintro e4 w4 ⟨A4, c4, rfl, o4, q4⟩
              go_wp2_with fail
              go_ret
              exact ⟨ret_int HF.out.symm, hqw.trans q4⟩
set_option maxRecDepth 100000 in
set_option maxHeartbeats 8000000 in
theorem spec_FinishesOf (a b c d p q r s : Int) (A0 : Option Addr) (n0 c0 : Nat) (ms : List Mk) (A : Option Addr) (n cc : Nat) (D : List (Nat × List Int)) (t fl : Int) (w : World) (hm0 : RdM w A0 ms) (hn0 : ms.length = n0) (hn02 : n0 ≤ 9223372036854775807) (ha : RdD w A D) (hD : D.length = n) (hn2 : n ≤ 9223372036854775807) :
    Calls Tryz.prog 8 #[.agg #[.int .i64 a, .int .i64 b, .int .i64 c, .int .i64 d, .int .i64 p, .int .i64 q, .int .i64 r, .int .i64 s, .slice A0 n0 c0], .slice A n cc, .int .i64 t, .int .i64 fl] w fun e w' => RS w 38 3 (fsN a b c d p q r s ms D t fl) (fsL a b c d p q r s ms D t fl) (fsC a b c d p q r s ms D t fl) e w' := by
  obtain ⟨CO, hCO⟩ : ∃ R, R = fun e w' => RS w 38 3 (fsN a b c d p q r s ms D t fl) (fsL a b c d p q r s ms D t fl) (fsC a b c d p q r s ms D t fl) e w' := ⟨_, rfl⟩
  rw [← hCO]
  have HCO := Lib.hid hCO
  clear hCO
  have k1 := fun wv (h : RdM wv A0 ms) (h2 : RdD wv A D) => spec_l16Code a b c d p q r s A0 n0 c0 ms A n cc D t fl wv h hn0 hn02 h2 hD hn2
  have B0 := Blk.new w 30 #[.int .i64 a, .int .i64 b, .int .i64 c, .int .i64 d, .int .i64 p, .int .i64 q, .int .i64 r, .int .i64 s, .slice A0 n0 c0]
  have Q0 : Q w (w.alloc (.cells #[.int .i64 a, .int .i64 b, .int .i64 c, .int .i64 d, .int .i64 p, .int .i64 q, .int .i64 r, .int .i64 s, .slice A0 n0 c0] 30)) := by (repeat (first | assumption | exact Q.refl _ | refine Q.alloc ?_ _ | refine Q.drewN ?_ _ | refine Q.drew ?_))
  by_cases h16 : n ≤ 16
  · have h16I : ¬ ((16 : Int) < (n : Int)) := by omega
    have hCK : fsC a b c d p q r s ms D t fl = fsK a b c d p q r s ms D t fl := by unfold fsC; rw [if_neg (by omega)]
    by_cases h0 : fsK a b c d p q r s ms D t fl = 0
    · obtain ⟨hcr, hall, ht, hfl, hcl⟩ := fsK_0 h0
      rw [hn0] at hcl
      have HC := Lib.hid (hCK.trans h0)
      have HN := Lib.hid (show fsN a b c d p q r s ms D t fl = n by unfold fsN; rw [HC.out, if_pos rfl, hD])
      have HL := Lib.hid (show fsL a b c d p q r s ms D t fl = fsTo a b c d (clL a b c d p q r s ms) (n0 + 2) t fl D n by unfold fsL; rw [HC.out, if_pos rfl, hn0, hD])
      rw [h0] at k1
      have K1 := Lib.hid k1
      have kf := fun k (hk : k < n) wv (h0 : RdM wv A0 ms) (B : Option Addr) (c1 : Nat) (h : Rd wv B (dx D k)) (hx : (dx D k).length = dn D k * 3) => spec_l16Finish a b c d p q r s A0 n0 c0 ms B (dn D k) c1 (dx D k) t fl wv h0 hn0 hcr hcl h hx (allB_at hall (by omega)) ht
      generalize clL a b c d p q r s ms = L at *
      have KF := Lib.hid kf
      have HFS := Lib.hid (fun k => (show fsTo a b c d L (n0 + 2) t fl D (k + 1) = fsTo a b c d L (n0 + 2) t fl D k ++ [(k : Int), (fnV a b c d L (n0 + 2) (dx D k) (dn D k) t fl).1, (fnV a b c d L (n0 + 2) (dx D k) (dn D k) t fl).2] from rfl))
      have HD := Lib.hid hD
      clear k1 kf hcl hcr hall hfl h0 hCK hD
      go_enter Tryz.func8, Tryz.ntmps8
      go_wp2_with fail
      refine (K1.out _ (hm0.q Q0) (ha.q Q0)).mono ?_
      rintro e1 w1 ⟨rfl, q1⟩
      replace B0 := B0.q q1
      replace Q0 := Q0.trans q1
      clear q1
      go_wp2_with fail
      go_loopw [11, 12] (fun v i wr => ∃ (k : Nat) (A1 : Option Addr) (d1 : Nat), k ≤ n ∧ i = .int .i64 k ∧ v = .slice A1 k d1 ∧ Own wr w1.heap.size 38 3 (.slice A1 k d1) k (fsTo a b c d L (n0 + 2) t fl D k) ∧ Q w1 wr) (fun _ i _ => n - (intOf i).toNat)
      case atStart => exact ⟨0, _, _, Nat.zero_le _, rfl, rfl, Own.lit w1 38 3 0 [] rfl (Nat.le_refl _) rfl (by decide), by (repeat (first | assumption | exact Q.refl _ | refine Q.alloc ?_ _ | refine Q.drewN ?_ _ | refine Q.drew ?_))⟩
      case round =>
        obtain ⟨k, A1, d1, hk, rfl, rfl, hown, hq⟩ := hrel
        have hqw : Q w wr := Q0.trans hq
        have hsz := hq.size
        by_cases hlt : k < n
        · have hltI : (k : Int) < (n : Int) := by omega
          have hk0I : (0 : Int) ≤ (k : Int) := by omega
          obtain ⟨bl, o, B, cb, rfl, g0, hr, hx, _⟩ := (ha.q hqw).at_ HD.out hlt
          have hm0r := hm0.q hqw
          have KK := fun wv (h0 : RdM wv A0 ms) (h : Rd wv B (dx D k)) => KF.out k hlt wv h0 B cb h hx
          have HE := Lib.hid (HFS.out k)
          generalize fnV a b c d L (n0 + 2) (dx D k) (dn D k) t fl = FV at *
          obtain ⟨f1, f2⟩ := FV
          simp only at KK HE
          obtain ⟨mm, hme⟩ : ∃ mm, mm = dn D k := ⟨_, rfl⟩
          rw [← hme] at g0 KK
          obtain ⟨ys, hye⟩ : ∃ ys, ys = dx D k := ⟨_, rfl⟩
          rw [← hye] at hr KK
          have KK := Lib.hid KK
          have B0r := B0.q hq
          clear hme hye hx
          go_upto_region 10 with (fail)
          go_cut [13] from 32 to 45 (fun v wc => ∃ bx, v = .pointer (some ⟨bx, 0, none⟩) ∧ wr.heap.size ≤ bx ∧ Blk wc bx 38 #[.int .i64 0, .int .i64 f1, .int .i64 f2] ∧ Q wr wc)
          case first =>
            have hS : ∀ w', Q wr w' → (Q wr w' ∧ w'.cell? ⟨w.heap.size, 0, none⟩ = some (.int .i64 a) ∧ w'.cell? ⟨w.heap.size, 1, none⟩ = some (.int .i64 b) ∧ w'.cell? ⟨w.heap.size, 2, none⟩ = some (.int .i64 c) ∧ w'.cell? ⟨w.heap.size, 3, none⟩ = some (.int .i64 d) ∧ w'.cell? ⟨w.heap.size, 4, none⟩ = some (.int .i64 p) ∧ w'.cell? ⟨w.heap.size, 5, none⟩ = some (.int .i64 q) ∧ w'.cell? ⟨w.heap.size, 6, none⟩ = some (.int .i64 r) ∧ w'.cell? ⟨w.heap.size, 7, none⟩ = some (.int .i64 s) ∧ w'.cell? ⟨w.heap.size, 8, none⟩ = some (.slice A0 n0 c0) ∧ w'.cell? ⟨bl, o + k, none⟩ = some (.slice B mm cb)) := fun w' q => ⟨q, (B0r.q q).cell 0, (B0r.q q).cell 1, (B0r.q q).cell 2, (B0r.q q).cell 3, (B0r.q q).cell 4, (B0r.q q).cell 5, (B0r.q q).cell 6, (B0r.q q).cell 7, (B0r.q q).cell 8, q.cell g0⟩
            go_region_held3 (fun w' => Q wr w' ∧ w'.cell? ⟨w.heap.size, 0, none⟩ = some (.int .i64 a) ∧ w'.cell? ⟨w.heap.size, 1, none⟩ = some (.int .i64 b) ∧ w'.cell? ⟨w.heap.size, 2, none⟩ = some (.int .i64 c) ∧ w'.cell? ⟨w.heap.size, 3, none⟩ = some (.int .i64 d) ∧ w'.cell? ⟨w.heap.size, 4, none⟩ = some (.int .i64 p) ∧ w'.cell? ⟨w.heap.size, 5, none⟩ = some (.int .i64 q) ∧ w'.cell? ⟨w.heap.size, 6, none⟩ = some (.int .i64 r) ∧ w'.cell? ⟨w.heap.size, 7, none⟩ = some (.int .i64 s) ∧ w'.cell? ⟨w.heap.size, 8, none⟩ = some (.slice A0 n0 c0) ∧ w'.cell? ⟨bl, o + k, none⟩ = some (.slice B mm cb)) (first | with_reducible exact hS _ QR | (with_reducible refine hS _ ?_; ((repeat (first | with_reducible assumption | with_reducible exact Q.refl _ | with_reducible refine Q.alloc ?_ _ | with_reducible refine Q.setCell ?_ (by (try simp only); first | with_reducible exact Nat.le_refl _ | with_reducible assumption | omega) _ | with_reducible refine Q.drew ?_)); done)) | (go_split_ands; first | with_reducible exact hS _ QR | (with_reducible refine hS _ ?_; ((repeat (first | with_reducible assumption | with_reducible exact Q.refl _ | with_reducible refine Q.alloc ?_ _ | with_reducible refine Q.setCell ?_ (by (try simp only); first | with_reducible exact Nat.le_refl _ | with_reducible assumption | omega) _ | with_reducible refine Q.drew ?_)); done)))) (first | (go_at_call 25; with_reducible refine Calls.mono (KK.out _ ?h1 ?h2) ?_; (case h1 => (refine hm0r.q ?_; ((repeat (first | with_reducible assumption | with_reducible exact Q.refl _ | with_reducible refine Q.alloc ?_ _ | with_reducible refine Q.setCell ?_ (by (try simp only); first | with_reducible exact Nat.le_refl _ | with_reducible assumption | omega) _ | with_reducible refine Q.drew ?_)); done))); (case h2 => (refine hr.q ?_; ((repeat (first | with_reducible assumption | with_reducible exact Q.refl _ | with_reducible refine Q.alloc ?_ _ | with_reducible refine Q.setCell ?_ (by (try simp only); first | with_reducible exact Nat.le_refl _ | with_reducible assumption | omega) _ | with_reducible refine Q.drew ?_)); done))); rintro e5 w5 ⟨rfl, q5⟩; have QR : Q wr w5 := Q.trans (by ((repeat (first | with_reducible assumption | with_reducible exact Q.refl _ | with_reducible refine Q.alloc ?_ _ | with_reducible refine Q.setCell ?_ (by (try simp only); first | with_reducible exact Nat.le_refl _ | with_reducible assumption | omega) _ | with_reducible refine Q.drew ?_)); done)) q5; have zR := QR.size; (first | (have BP : Blk w5 wr.heap.size 38 #[.int .i64 0, .int .i64 0, .int .i64 0] := ?hb; (case hb => (refine Blk.q ?_ q5; (repeat (first | exact Blk.new _ _ _ | exact Blk.drew (Blk.new _ _ _))); done))) | skip); (first | (have bpc := BP.cell; have bpf := BP.frozen; have bpl := BP.lt) | skip)))
            all_goals (go_wp2_with fail; go_meet)
            all_goals (first | (have PS := BP.set3 (.int .i64 0) (.int .i64 f1) (.int .i64 f2)) | skip)
            all_goals refine ⟨_, rfl, ?_, ?_, ?_⟩
            all_goals first
              | with_reducible exact Nat.le_refl _
              | with_reducible exact zR
              | with_reducible exact Blk.new _ _ _
              | with_reducible exact PS
              | with_reducible exact QR.alloc _
              | with_reducible exact QR.set3 (Nat.le_refl _) _ _ _
          case rest =>
            obtain ⟨bx, rfl, hbx, BX, QX⟩ := hcut
            have hszX := QX.size
            have BY := BX.set_ 0 (.int .i64 (k : Int))
            have cX := BX.cell
            have fX := BX.frozen
            have lX := BX.lt
            have QY : Q wr (wc.setCell ⟨bx, 0, none⟩ (.int .i64 (k : Int))) := QX.setCell (p := ⟨bx, 0, none⟩) hbx _
            go_wp2_with (at_builtin; refine appK elFinish rfl _ _ rfl [(k : Int), f1, f2] rfl (hown.q QY) rfl (by simp) rfl _ _ rfl (by omega) (by first | omega | (simp; omega)) ?_; intro A' c' w' hown' hg' hgr')
            go_roundw
            case rel => exact ⟨k + 1, A', c', by omega, by go_num, rfl, by rw [HE.out]; exact hown', Q.mark (hq.trans QY) (hown.q QY) (Nat.le_refl _) hg'⟩
            case measure => simp [intOf]; omega
        · obtain rfl : k = n := by omega
          go_wp2_with fail
          rw [HCO.out]
          show RS _ _ _ _ _ _ _ _
          rw [HN.out, HL.out, HC.out]
          exact ⟨_, _, rfl, hown.mono Q0.size, hqw⟩
    · have HC := Lib.hid hCK
      have HN := Lib.hid (show fsN a b c d p q r s ms D t fl = 0 by unfold fsN; rw [hCK, if_neg h0])
      have HL := Lib.hid (show fsL a b c d p q r s ms D t fl = [] by unfold fsL; rw [hCK, if_neg h0])
      generalize fsK a b c d p q r s ms D t fl = C2 at *
      have hb : (C2 != 0) = true := by simpa using h0
      have K1 := Lib.hid k1
      clear k1 hCK h0
      go_enter Tryz.func8, Tryz.ntmps8
      go_wp2_with fail
      refine (K1.out _ (hm0.q Q0) (ha.q Q0)).mono ?_
      rintro e1 w1 ⟨rfl, q1⟩
      replace Q0 := Q0.trans q1
      go_wp2_with fail
      rw [HCO.out]
      show RS _ _ _ _ _ _ _ _
      rw [HN.out, HL.out, HC.out]
      exact RS.nil _ _ _ _ _ Q0
  · have h16I : (16 : Int) < (n : Int) := by omega
    have HC := Lib.hid (show fsC a b c d p q r s ms D t fl = 3 by unfold fsC; rw [if_pos (by omega)])
    have HN := Lib.hid (show fsN a b c d p q r s ms D t fl = 0 by unfold fsN; rw [HC.out]; rfl)
    have HL := Lib.hid (show fsL a b c d p q r s ms D t fl = [] by unfold fsL; rw [HC.out]; rfl)
    go_enter Tryz.func8, Tryz.ntmps8
    go_wp2_with fail
    rw [HCO.out]
    show RS _ _ _ _ _ _ _ _
    rw [HN.out, HL.out, HC.out]
    exact RS.nil _ _ _ _ _ Q0
end Go.Proofs.YteofhfefbphjdaaGreatDoor
namespace Go.Proofs.YteofhfefbphjdaaGreatDoor
open Go.RowKit Go.WideShapes Go.ChangeShapes
/-- The code and the finish of one boat. -/
def ffK (a b c d p q r s : Int) (ms : List Mk) (xs : List Int) (n : Nat) (t fl : Int) : Int := fsK a b c d p q r s ms [(n, xs)] t fl
def ffV (a b c d p q r s : Int) (ms : List Mk) (xs : List Int) (n : Nat) (t fl : Int) : Int × Int × Int := if ffK a b c d p q r s ms xs n t fl = 0 then (0, (fnV a b c d (clL a b c d p q r s ms) (ms.length + 2) xs n t fl).1, (fnV a b c d (clL a b c d p q r s ms) (ms.length + 2) xs n t fl).2) else (0, 0, 0)
theorem fsC_one (a b c d p q r s : Int) (ms : List Mk) (xs : List Int) (n : Nat) (t fl : Int) : fsC a b c d p q r s ms [(n, xs)] t fl = ffK a b c d p q r s ms xs n t fl := if_neg (show ¬ 16 < 1 by decide)
theorem rdD_one {w : World} {A : Option Addr} {n cc : Nat} {xs : List Int} (ha : Rd w A xs) (hn : xs.length = n * 3) (hn2 : n ≤ 9223372036854775807) : RdD (w.alloc (.cells #[.slice A n cc] 43)) (some ⟨w.heap.size, 0, none⟩) [(n, xs)] := ⟨_, rdT_one 43 (cc := cc) ha hn hn2, rfl⟩
set_option maxRecDepth 100000 in
set_option maxHeartbeats 8000000 in
theorem impl_FinishOf (a b c d p q r s : Int) (A0 : Option Addr) (n0 c0 : Nat) (ms : List Mk) (A : Option Addr) (n cc : Nat) (xs : List Int) (t fl : Int) (w : World) (hm0 : RdM w A0 ms) (hn0 : ms.length = n0) (hcap : n0 ≤ c0) (hn02 : n0 ≤ 9223372036854775807) (ha : Rd w A xs) (hn : xs.length = n * 3) (hn2 : n ≤ 9223372036854775807) :
    Calls Tryz.prog 9 #[.agg #[.int .i64 a, .int .i64 b, .int .i64 c, .int .i64 d, .int .i64 p, .int .i64 q, .int .i64 r, .int .i64 s, .slice A0 n0 c0], .agg #[.slice A n cc], .int .i64 t, .int .i64 fl] w fun e w' => e = .returned (.tuple #[.agg #[.int .i64 (ffV a b c d p q r s ms xs n t fl).1, .int .i64 (ffV a b c d p q r s ms xs n t fl).2.1, .int .i64 (ffV a b c d p q r s ms xs n t fl).2.2], .int .i64 (ffK a b c d p q r s ms xs n t fl)]) ∧ Q w w' := by
  have K1 : ∀ (wv : World) (H : Nat), wv.heap.size = H → RdM wv A0 ms → Rd wv A xs → Calls Tryz.prog 7 #[.agg #[.int .i64 a, .int .i64 b, .int .i64 c, .int .i64 d, .int .i64 p, .int .i64 q, .int .i64 r, .int .i64 s, .slice A0 n0 c0], .slice (some ⟨H, 0, none⟩) 1 1, .int .i64 t, .int .i64 fl] (wv.alloc (.cells #[.slice A n cc] 43)) fun e w' => RS (wv.alloc (.cells #[.slice A n cc] 43)) 38 3 (fsN a b c d p q r s ms [(n, xs)] t fl) (fsL a b c d p q r s ms [(n, xs)] t fl) (ffK a b c d p q r s ms xs n t fl) e w' := fun wv H hH h1 h2 => by
    subst hH
    have := impl_FinishesOf a b c d p q r s A0 n0 c0 ms _ 1 1 [(n, xs)] t fl _ (h1.q ((Q.refl wv).alloc (.cells #[.slice A n cc] 43))) hn0 hcap hn02 (rdD_one (cc := cc) h2 hn hn2) rfl (by decide)
    rwa [show fsC a b c d p q r s ms [(n, xs)] t fl = ffK a b c d p q r s ms xs n t fl from fsC_one ..] at this
  have hFF := (show ffV a b c d p q r s ms xs n t fl = if ffK a b c d p q r s ms xs n t fl = 0 then (0, (fnV a b c d (clL a b c d p q r s ms) (n0 + 2) xs n t fl).1, (fnV a b c d (clL a b c d p q r s ms) (n0 + 2) xs n t fl).2) else (0, 0, 0) by unfold ffV; rw [hn0])
  obtain ⟨W, hW⟩ : ∃ W, W = ((w.alloc (.cells #[.int .i64 a, .int .i64 b, .int .i64 c, .int .i64 d, .int .i64 p, .int .i64 q, .int .i64 r, .int .i64 s, .slice A0 n0 c0] 30)).alloc (.cells #[.slice A n cc] 43)).alloc (.cells #[.int .i64 0, .int .i64 0, .int .i64 0] 38) := ⟨_, rfl⟩
  have B0 : Blk W w.heap.size 30 #[.int .i64 a, .int .i64 b, .int .i64 c, .int .i64 d, .int .i64 p, .int .i64 q, .int .i64 r, .int .i64 s, .slice A0 n0 c0] := by rw [hW]; exact ((Blk.new _ _ _).alloc _).alloc _
  have B1 : Blk W (w.heap.size + 1) 43 #[.slice A n cc] := by rw [hW]; exact (Blk.new1 _ _ _ _).alloc _
  have R0 : Blk W (w.heap.size + 1 + 1) 38 #[.int .i64 0, .int .i64 0, .int .i64 0] := by rw [hW]; exact Blk.newZ (by simp)
  have Q0 : Q w W := by rw [hW]; (repeat (first | assumption | exact Q.refl _ | refine Q.alloc ?_ _ | refine Q.drewN ?_ _ | refine Q.drew ?_))
  have zW : W.heap.size = w.heap.size + 1 + 1 + 1 := by rw [hW]; simp
  have HW := Lib.hid hW
  have QT : Q W (W.alloc (.cells #[.slice A n cc] 43)) := by (repeat (first | assumption | exact Q.refl _ | refine Q.alloc ?_ _ | refine Q.drewN ?_ _ | refine Q.drew ?_))
  clear hW
  by_cases h0 : ffK a b c d p q r s ms xs n t fl = 0
  · have hC : fsC a b c d p q r s ms [(n, xs)] t fl = 0 := by rw [← h0]; exact fsC_one ..
    have e1 : fsN a b c d p q r s ms [(n, xs)] t fl = 1 := by unfold fsN; rw [hC, if_pos rfl]; rfl
    have e2 : fsL a b c d p q r s ms [(n, xs)] t fl = [0, (fnV a b c d (clL a b c d p q r s ms) (n0 + 2) xs n t fl).1, (fnV a b c d (clL a b c d p q r s ms) (n0 + 2) xs n t fl).2] := by unfold fsL; rw [hC, if_pos rfl, hn0]; rfl
    rw [h0] at hFF K1 ⊢
    rw [if_pos rfl] at hFF
    rw [e1, e2] at K1
    generalize fnV a b c d (clL a b c d p q r s ms) (n0 + 2) xs n t fl = FV at *
    obtain ⟨f1, f2⟩ := FV
    simp only at hFF K1
    have HV := Lib.hid hFF
    have K1 := Lib.hid K1
    clear hFF e1 e2 hC h0
    go_enter Tryz.func9, Tryz.ntmps9
    go_wp2_with fail
    rw [← HW.out]
    rw [← zW]
    refine (K1.out _ _ rfl (hm0.q Q0) (ha.q Q0)).mono ?_
    rintro e1 w1 ⟨A1, c1, rfl, o1, q1⟩
    replace R0 := R0.q (QT.trans q1)
    replace Q0 := Q0.trans (QT.trans q1)
    have r0 := R0.lt
    have rf := R0.frozen
    have rc := R0.cell
    obtain ⟨g1, rfl, _⟩ := o1.split (show 0 < 1 by decide)
    have x0 : w1.cell? ⟨g1, 0, none⟩ = some (.int .i64 0) := o1.cell (j := 0) (by decide)
    have x1 : w1.cell? ⟨g1, 1, none⟩ = some (.int .i64 f1) := o1.cell (j := 1) (by decide)
    have x2 : w1.cell? ⟨g1, 2, none⟩ = some (.int .i64 f2) := o1.cell (j := 2) (by decide)
    go_wp2_with fail
    have F := (R0.set3 (.int .i64 0) (.int .i64 f1) (.int .i64 f2)).cell
    rw [HV.out]
    exact bodyPost_ret (v := .tuple #[.agg #[.int .i64 0, .int .i64 f1, .int .i64 f2], .int .i64 0]) (by simp [results, Tryz.results9, go_sem, F]) rfl ⟨rfl, Q0.set3 (Nat.le_add_right _ 2) _ _ _⟩
  · have e1 : fsN a b c d p q r s ms [(n, xs)] t fl = 0 := by unfold fsN; rw [show fsC a b c d p q r s ms [(n, xs)] t fl = ffK a b c d p q r s ms xs n t fl from fsC_one .., if_neg h0]
    have e2 : fsL a b c d p q r s ms [(n, xs)] t fl = [] := by unfold fsL; rw [show fsC a b c d p q r s ms [(n, xs)] t fl = ffK a b c d p q r s ms xs n t fl from fsC_one .., if_neg h0]
    rw [if_neg h0] at hFF
    rw [e1, e2] at K1
    have HV := Lib.hid hFF
    have hb : (ffK a b c d p q r s ms xs n t fl != 0) = true := by simpa using h0
    generalize ffK a b c d p q r s ms xs n t fl = C at *
    have K1 := Lib.hid K1
    clear hFF e1 e2 h0
    go_enter Tryz.func9, Tryz.ntmps9
    go_wp2_with fail
    rw [← HW.out]
    rw [← zW]
    refine (K1.out _ _ rfl (hm0.q Q0) (ha.q Q0)).mono ?_
    rintro e1 w1 ⟨A1, c1, rfl, o1, q1⟩
    replace R0 := R0.q (QT.trans q1)
    replace Q0 := Q0.trans (QT.trans q1)
    have r0 := R0.lt
    have rf := R0.frozen
    have rc := R0.cell
    go_wp2_with fail
    have F := (R0.set3 (.int .i64 0) (.int .i64 0) (.int .i64 0)).cell
    rw [HV.out]
    exact bodyPost_ret (v := .tuple #[.agg #[.int .i64 0, .int .i64 0, .int .i64 0], .int .i64 C]) (by simp [results, Tryz.results9, go_sem, F]) rfl ⟨rfl, Q0.set3 (Nat.le_add_right _ 2) _ _ _⟩
set_option maxRecDepth 100000 in
set_option maxHeartbeats 8000000 in
theorem spec_FinishOf (a b c d p q r s : Int) (A0 : Option Addr) (n0 c0 : Nat) (ms : List Mk) (A : Option Addr) (n cc : Nat) (xs : List Int) (t fl : Int) (w : World) (hm0 : RdM w A0 ms) (hn0 : ms.length = n0) (hn02 : n0 ≤ 9223372036854775807) (ha : Rd w A xs) (hn : xs.length = n * 3) (hn2 : n ≤ 9223372036854775807) :
    Calls Tryz.prog 12 #[.agg #[.int .i64 a, .int .i64 b, .int .i64 c, .int .i64 d, .int .i64 p, .int .i64 q, .int .i64 r, .int .i64 s, .slice A0 n0 c0], .agg #[.slice A n cc], .int .i64 t, .int .i64 fl] w fun e w' => e = .returned (.tuple #[.agg #[.int .i64 (ffV a b c d p q r s ms xs n t fl).1, .int .i64 (ffV a b c d p q r s ms xs n t fl).2.1, .int .i64 (ffV a b c d p q r s ms xs n t fl).2.2], .int .i64 (ffK a b c d p q r s ms xs n t fl)]) ∧ Q w w' := by
  have K1 : ∀ (wv : World) (H : Nat), wv.heap.size = H → RdM wv A0 ms → Rd wv A xs → Calls Tryz.prog 24 #[.agg #[.int .i64 a, .int .i64 b, .int .i64 c, .int .i64 d, .int .i64 p, .int .i64 q, .int .i64 r, .int .i64 s, .slice A0 n0 c0], .slice (some ⟨H, 0, none⟩) 1 1, .int .i64 t, .int .i64 fl] (wv.alloc (.cells #[.slice A n cc] 43)) fun e w' => e = .returned (.int .i64 (ffK a b c d p q r s ms xs n t fl)) ∧ Q (wv.alloc (.cells #[.slice A n cc] 43)) w' := fun wv H hH h1 h2 => by
    subst hH
    exact spec_l16Code a b c d p q r s A0 n0 c0 ms _ 1 1 [(n, xs)] t fl _ (h1.q ((Q.refl wv).alloc (.cells #[.slice A n cc] 43))) hn0 hn02 (rdD_one (cc := cc) h2 hn hn2) rfl (by decide)
  have hFF := (show ffV a b c d p q r s ms xs n t fl = if ffK a b c d p q r s ms xs n t fl = 0 then (0, (fnV a b c d (clL a b c d p q r s ms) (n0 + 2) xs n t fl).1, (fnV a b c d (clL a b c d p q r s ms) (n0 + 2) xs n t fl).2) else (0, 0, 0) by unfold ffV; rw [hn0])
  obtain ⟨W, hW⟩ : ∃ W, W = ((w.alloc (.cells #[.int .i64 a, .int .i64 b, .int .i64 c, .int .i64 d, .int .i64 p, .int .i64 q, .int .i64 r, .int .i64 s, .slice A0 n0 c0] 30)).alloc (.cells #[.slice A n cc] 43)).alloc (.cells #[.int .i64 0, .int .i64 0, .int .i64 0] 38) := ⟨_, rfl⟩
  have B0 : Blk W w.heap.size 30 #[.int .i64 a, .int .i64 b, .int .i64 c, .int .i64 d, .int .i64 p, .int .i64 q, .int .i64 r, .int .i64 s, .slice A0 n0 c0] := by rw [hW]; exact ((Blk.new _ _ _).alloc _).alloc _
  have B1 : Blk W (w.heap.size + 1) 43 #[.slice A n cc] := by rw [hW]; exact (Blk.new1 _ _ _ _).alloc _
  have R0 : Blk W (w.heap.size + 1 + 1) 38 #[.int .i64 0, .int .i64 0, .int .i64 0] := by rw [hW]; exact Blk.newZ (by simp)
  have Q0 : Q w W := by rw [hW]; (repeat (first | assumption | exact Q.refl _ | refine Q.alloc ?_ _ | refine Q.drewN ?_ _ | refine Q.drew ?_))
  have zW : W.heap.size = w.heap.size + 1 + 1 + 1 := by rw [hW]; simp
  have HW := Lib.hid hW
  have QT : Q W (W.alloc (.cells #[.slice A n cc] 43)) := by (repeat (first | assumption | exact Q.refl _ | refine Q.alloc ?_ _ | refine Q.drewN ?_ _ | refine Q.drew ?_))
  clear hW
  by_cases h0 : ffK a b c d p q r s ms xs n t fl = 0
  · obtain ⟨hcr, hall, ht, _, hcl⟩ := fsK_0 h0
    rw [hn0] at hcl
    have hT : isTrk xs n = true := allB_at hall (k := 0) (show 0 < 1 by decide)
    have K2 := fun wv (h1 : RdM wv A0 ms) (h2 : Rd wv A xs) => spec_l16Finish a b c d p q r s A0 n0 c0 ms A n cc xs t fl wv h1 hn0 hcr hcl h2 hn hT ht
    rw [h0] at hFF K1 ⊢
    rw [if_pos rfl] at hFF
    generalize fnV a b c d (clL a b c d p q r s ms) (n0 + 2) xs n t fl = FV at *
    obtain ⟨f1, f2⟩ := FV
    simp only at hFF K2
    have HV := Lib.hid hFF
    have K1 := Lib.hid K1
    have K2 := Lib.hid K2
    clear hFF h0 hcr hall ht hcl hT
    go_enter Tryz.func12, Tryz.ntmps12
    go_wp2_with fail
    rw [← HW.out]
    rw [← zW]
    refine (K1.out _ _ rfl (hm0.q Q0) (ha.q Q0)).mono ?_
    rintro e1 w1 ⟨rfl, q1⟩
    replace R0 := R0.q (QT.trans q1)
    replace B0 := B0.q (QT.trans q1)
    replace B1 := B1.q (QT.trans q1)
    replace Q0 := Q0.trans (QT.trans q1)
    have r0 := R0.lt
    have rf := R0.frozen
    have rc := R0.cell
    have b0 := B0.cell
    have b1 := B1.cell
    have l0 := B0.lt
    have l1 := B1.lt
    go_wp2_with fail
    refine (K2.out _ (hm0.q Q0) (ha.q Q0)).mono ?_
    rintro e2 w2 ⟨rfl, q2⟩
    clear r0 rf rc b0 b1 l0 l1
    replace R0 := R0.q q2
    replace Q0 := Q0.trans q2
    have r0 := R0.lt
    have rf := R0.frozen
    have rc := R0.cell
    go_wp2_with fail
    have F := (R0.set3 (.int .i64 0) (.int .i64 f1) (.int .i64 f2)).cell
    rw [HV.out]
    exact bodyPost_ret (v := .tuple #[.agg #[.int .i64 0, .int .i64 f1, .int .i64 f2], .int .i64 0]) (by simp [results, Tryz.results12, go_sem, F]) rfl ⟨rfl, Q0.set3 (Nat.le_add_right _ 2) _ _ _⟩
  · rw [if_neg h0] at hFF
    have HV := Lib.hid hFF
    have hb : (ffK a b c d p q r s ms xs n t fl != 0) = true := by simpa using h0
    generalize ffK a b c d p q r s ms xs n t fl = C at *
    have K1 := Lib.hid K1
    clear hFF h0
    go_enter Tryz.func12, Tryz.ntmps12
    go_wp2_with fail
    rw [← HW.out]
    rw [← zW]
    refine (K1.out _ _ rfl (hm0.q Q0) (ha.q Q0)).mono ?_
    rintro e1 w1 ⟨rfl, q1⟩
    replace R0 := R0.q (QT.trans q1)
    replace B0 := B0.q (QT.trans q1)
    replace B1 := B1.q (QT.trans q1)
    replace Q0 := Q0.trans (QT.trans q1)
    have r0 := R0.lt
    have rf := R0.frozen
    have rc := R0.cell
    have b0 := B0.cell
    have b1 := B1.cell
    have l0 := B0.lt
    have l1 := B1.lt
    go_wp2_with fail
    have F := (R0.set3 (.int .i64 0) (.int .i64 0) (.int .i64 0)).cell
    rw [HV.out]
    exact bodyPost_ret (v := .tuple #[.agg #[.int .i64 0, .int .i64 0, .int .i64 0], .int .i64 C]) (by simp [results, Tryz.results12, go_sem, F]) rfl ⟨rfl, Q0.set3 (Nat.le_add_right _ 2) _ _ _⟩
end Go.Proofs.YteofhfefbphjdaaGreatDoor
