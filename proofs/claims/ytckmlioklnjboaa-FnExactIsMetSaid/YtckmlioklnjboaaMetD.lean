/- Walks: whether a demand is as described, and whether it is met, as the program and the reference decide it. No condition. -/
import Derived.Test.YtckmlioklnjboaaMet
import Derived.Test.YtckmlioklnjboaaTail
namespace Go.Proofs.Ytckmlioklnjboaa
open Go.RowKit Go.WideShapes Go.ChangeShapes
theorem dmAt_mk {L : List Int} {k : Nat} (h : -8 ≤ el L k ∧ el L k ≤ 8) (h0 : el L k ≠ 0) (h1 : hasTo L k (el L k) = false) (h2 : hasTo L k (-(el L k)) = false) : dmAt L k = true := by
  simp [dmAt, inR, h, h0, h1, h2]
set_option maxHeartbeats 1000000 in
theorem impl_isDemand (A : Option Addr) (n c : Nat) (L : List Int) (o : Int) (w : World) (ha : Rd w A L) (hn : L.length = n) (hc : n ≤ c) (hn2 : n ≤ 9223372036854775807) :
    Calls Try.prog 55 #[.agg #[.slice A n c, .int .i64 o]] w fun e w' => e = .returned (.bool (demB L n o)) ∧ Q w w' := by
  have HN := Lib.hid hn
  clear hn
  have Q1 : Q w (w.alloc (.cells #[.slice A n c, .int .i64 o] 74)) := (Q.refl w).alloc _
  have B := Blk.new w 74 #[.slice A n c, .int .i64 o]
  go_enter Try.func55, Try.ntmps55
  go_wp2_with fail
  go_loop [8] (fun i => ∃ k : Nat, k ≤ n ∧ i = .int .i64 k ∧ Hid (dmTo L k = true)) (fun i => n - (intOf i).toNat)
  case atStart => exact ⟨0, Nat.zero_le _, rfl, Lib.hid rfl⟩
  case round =>
    obtain ⟨k, hk, rfl, HT⟩ := hrel
    have cB := B.cell
    by_cases hlt : k < n
    · have hltI : (k : Int) < (n : Int) := by omega
      have hkc : k ≤ c := by omega
      obtain ⟨bl, o1, rfl, g0⟩ := (ha.q Q1).at1 HN.out hlt
      have KH := Lib.hid (fun (m : Nat) (v : Int) (hm : m ≤ n) => has_any (some ⟨bl, o1, none⟩) m c L v _ (ha.q Q1) (by rw [HN.out]; exact hm) (by omega))
      by_cases hP : 1 ≤ el L k ∧ el L k ≤ 8 ∨ -8 ≤ el L k ∧ el L k ≤ -1
      · have hb : -8 ≤ el L k ∧ el L k ≤ 8 := by omega
        have h0 : el L k ≠ 0 := by omega
        cases hx1 : hasTo L k (el L k)
        · cases hx2 : hasTo L k (-(el L k))
          · have HS : Hid (dmTo L (k + 1) = true) := Lib.hid (by rw [dmTo_succ, HT.out, dmAt_mk hb h0 hx1 hx2]; rfl)
            clear h0
            by_cases h1 : 1 ≤ el L k
            · have e1 : inR (el L k) 1 8 = true := inR_yes ⟨h1, hb.2⟩
              clear hP
              go_wp2_with (first | (go_at_call 54; refine (impl_inR _ _ _ _).mono ?_; rintro e w' ⟨rfl, rfl⟩) | (go_at_call 77; refine (KH.out k _ hk).mono ?_; rintro e w' ⟨rfl, rfl⟩))
              go_round
              case rel => exact ⟨k + 1, by omega, by go_num, HS⟩
              case measure => simp [intOf]; omega
            · have e1 : inR (el L k) 1 8 = false := inR_no (by omega)
              have e2 : inR (el L k) (-8) (-1) = true := inR_yes (by omega)
              clear hP
              go_wp2_with (first | (go_at_call 54; refine (impl_inR _ _ _ _).mono ?_; rintro e w' ⟨rfl, rfl⟩) | (go_at_call 77; refine (KH.out k _ hk).mono ?_; rintro e w' ⟨rfl, rfl⟩))
              go_round
              case rel => exact ⟨k + 1, by omega, by go_num, HS⟩
              case measure => simp [intOf]; omega
          · have HF := Lib.hid (dmTo_no hlt (show dmAt L k = false by simp [dmAt, hx2]))
            clear h0
            by_cases h1 : 1 ≤ el L k
            · have e1 : inR (el L k) 1 8 = true := inR_yes ⟨h1, hb.2⟩
              clear hP
              go_wp2_with (first | (go_at_call 54; refine (impl_inR _ _ _ _).mono ?_; rintro e w' ⟨rfl, rfl⟩) | (go_at_call 77; refine (KH.out k _ hk).mono ?_; rintro e w' ⟨rfl, rfl⟩))
              go_ret
              exact ⟨ret_bool (by unfold demB; rw [HF.out]; rfl), Q1⟩
            · have e1 : inR (el L k) 1 8 = false := inR_no (by omega)
              have e2 : inR (el L k) (-8) (-1) = true := inR_yes (by omega)
              clear hP
              go_wp2_with (first | (go_at_call 54; refine (impl_inR _ _ _ _).mono ?_; rintro e w' ⟨rfl, rfl⟩) | (go_at_call 77; refine (KH.out k _ hk).mono ?_; rintro e w' ⟨rfl, rfl⟩))
              go_ret
              exact ⟨ret_bool (by unfold demB; rw [HF.out]; rfl), Q1⟩
        · have HF := Lib.hid (dmTo_no hlt (show dmAt L k = false by simp [dmAt, hx1]))
          clear h0
          by_cases h1 : 1 ≤ el L k
          · have e1 : inR (el L k) 1 8 = true := inR_yes ⟨h1, hb.2⟩
            clear hP
            go_wp2_with (first | (go_at_call 54; refine (impl_inR _ _ _ _).mono ?_; rintro e w' ⟨rfl, rfl⟩) | (go_at_call 77; refine (KH.out k _ hk).mono ?_; rintro e w' ⟨rfl, rfl⟩))
            go_ret
            exact ⟨ret_bool (by unfold demB; rw [HF.out]; rfl), Q1⟩
          · have e1 : inR (el L k) 1 8 = false := inR_no (by omega)
            have e2 : inR (el L k) (-8) (-1) = true := inR_yes (by omega)
            clear hP
            go_wp2_with (first | (go_at_call 54; refine (impl_inR _ _ _ _).mono ?_; rintro e w' ⟨rfl, rfl⟩) | (go_at_call 77; refine (KH.out k _ hk).mono ?_; rintro e w' ⟨rfl, rfl⟩))
            go_ret
            exact ⟨ret_bool (by unfold demB; rw [HF.out]; rfl), Q1⟩
      · have HF := Lib.hid (dmTo_no hlt (show dmAt L k = false by
          cases hd : dmAt L k
          · rfl
          · have := dmAt_yes hd; omega))
        have e1 : inR (el L k) 1 8 = false := inR_no (by omega)
        have e2 : inR (el L k) (-8) (-1) = false := inR_no (by omega)
        clear hP
        go_wp2_with (go_at_call 54; refine (impl_inR _ _ _ _).mono ?_; rintro e w' ⟨rfl, rfl⟩)
        go_ret
        exact ⟨ret_bool (by unfold demB; rw [HF.out]; rfl), Q1⟩
    · obtain rfl : k = n := by omega
      go_wp2_with (go_at_call 78; refine (impl_isOutcome _ _).mono ?_; rintro e w' ⟨rfl, rfl⟩)
      go_ret
      exact ⟨ret_bool (by unfold demB; rw [HT.out]; rfl), Q1⟩
end Go.Proofs.Ytckmlioklnjboaa
