/- Walks: a stable sort of incidents by their times. No condition. -/
import Derived.Test.YtkpdoikjfibflaaGreatSoD
namespace Go.Proofs.YtkpdoikjfibflaaGreat
open Go.RowKit Go.WideShapes Go.ChangeShapes Go.Shelf
set_option maxRecDepth 100000 in
set_option maxHeartbeats 4000000 in
theorem run_stable (B g N c : Nat) (X : List Int) (w : World) (h : SO w B g N c X id) (hK : KB X N) (hN : N ≤ 1000000000) :
    Calls Tryz.prog 76 #[.slice (some ⟨g, 0, none⟩) N c, .int .i64 N, .func (.func 55) #[] #[]] w fun e w' => e = .returned (.tuple #[]) ∧ ∃ f', Prm 0 N f' ∧ Srt (keyI X) f' 0 N ∧ SO w' B g N c X f' ∧ w.grownBy w' (some g) := by
  have HK := Lib.hid hK
  have HN := Lib.hid hN
  have hNI : (N : Int) ≤ 1000000000 := by omega
  clear hK hN
  go_enter Tryz.func76, Tryz.ntmps76
  go_wp2_with fail
  go_loopw [7, 8] (fun s7 s8 wr => ∃ (A a : Nat) (f1 : Nat → Nat), s7 = .int .i64 (a : Nat) ∧ s8 = .int .i64 ((a : Int) + 20) ∧ a ≤ N ∧ Hid (a = A * 20) ∧ Hid (BlkR (keyI X) N 20 A f1) ∧ SO wr B g N c X f1 ∧ w.grownBy wr (some g)) (fun s7 _ _ => N + 1 - (intOf s7).toNat)
  case atStart => exact ⟨0, 0, id, rfl, rfl, by omega, Lib.hid (by omega), Lib.hid (BlkR.start _ _ _), h, grown_refl _ _⟩
  case round =>
    obtain ⟨A, a, f1, rfl, rfl, haN, HA, HB, h1, hg⟩ := hrel
    clear h
    have haI : (a : Int) ≤ 1000000000 := by omega
    by_cases hlt : a + 20 ≤ N
    · have hltI : (a : Int) + 20 ≤ (N : Int) := by omega
      have K := Lib.hid (run_insertion B g N c X f1 a (a + 20))
      have hI := Lib.hid (show Inc f1 a (a + 20) by rw [HA.out]; exact HB.out.inc)
      go_wp2_with fail
      refine (K.out _ h1 HK.out HN.out (by omega) hlt hI.out).mono ?_
      rintro e w2 ⟨rfl, f2, hs, h2, hg2⟩
      have HB2 : Hid (BlkR (keyI X) N 20 (A + 1) f2) := Lib.hid (HB.out.next (by have := HA.out; omega) (by have e := HA.out; rw [show A * 20 = a from e.symm, show (A + 1) * 20 = a + 20 by omega]; exact hs))
      go_wp2_with fail
      go_roundw
      case rel => exact ⟨A + 1, a + 20, f2, by go_num, by go_num, hlt, Lib.hid (by have := HA.out; omega), HB2, h2, grown_two hg hg2⟩
      case measure => simp [intOf]; omega
    · have hltI : ¬ (a : Int) + 20 ≤ (N : Int) := by omega
      have K := Lib.hid (run_insertion B g N c X f1 a N)
      have hI := Lib.hid (show Inc f1 a N by rw [HA.out]; exact HB.out.inc)
      go_wp2_with fail
      refine (K.out _ h1 HK.out HN.out haN (Nat.le_refl _) hI.out).mono ?_
      rintro e w2 ⟨rfl, f2, hs, h2, hg2⟩
      have HAll : Hid (AllR (keyI X) N 20 f2) := Lib.hid (HB.out.all (by have := HA.out; omega) (by have := HA.out; omega) (by rw [← HA.out]; exact hs))
      have hg3 := grown_two hg hg2
      clear h1 hg hg2 hs HB hI K HA
      go_wp2_with fail
      go_loopw [6, 7, 8, 9] (fun s6 _ _ _ wr => ∃ (s : Nat) (f3 : Nat → Nat), s6 = .int .i64 (s : Nat) ∧ 20 ≤ s ∧ s ≤ 2000000000 ∧ Hid (AllR (keyI X) N s f3) ∧ SO wr B g N c X f3 ∧ w.grownBy wr (some g)) (fun s6 _ _ _ _ => N - (intOf s6).toNat)
      case atStart => exact ⟨20, f2, rfl, by omega, by omega, HAll, h2, hg3⟩
      case round =>
        obtain ⟨s, f3, rfl, hs20, hs2, HL, h4, hg4⟩ := hrel
        clear h2 hg3 HAll
        have hsI : (s : Int) ≤ 2000000000 := by omega
        have hs0 : (20 : Int) ≤ (s : Int) := by omega
        by_cases hsN : s < N
        · have hsNI : (s : Int) < (N : Int) := by omega
          obtain ⟨t, ht⟩ : ∃ t, t = 2 * s := ⟨_, rfl⟩
          have htE : 2 * (s : Int) = (t : Int) := by omega
          have htE2 : (s : Int) * 2 = (t : Int) := by omega
          have htI : (t : Int) ≤ 2000000000 := by omega
          have HT := Lib.hid ht
          clear ht
          go_wp2_with fail
          go_loopw [7, 8] (fun s7 s8 wr => ∃ (A a : Nat) (f5 : Nat → Nat), s7 = .int .i64 (a : Nat) ∧ s8 = .int .i64 ((a : Int) + (t : Int)) ∧ a ≤ N ∧ Hid (a = A * (2 * s)) ∧ Hid (MgR (keyI X) N s A f5) ∧ SO wr B g N c X f5 ∧ w.grownBy wr (some g)) (fun s7 _ _ => N + 1 - (intOf s7).toNat)
          case atStart => exact ⟨0, 0, f3, rfl, by go_num, by omega, Lib.hid (by omega), Lib.hid HL.out.mg, h4, hg4⟩
          case round =>
            obtain ⟨A, a, f5, rfl, rfl, haN, HA, HM, h5, hg5⟩ := hrel
            clear h4 hg4
            have haI : (a : Int) ≤ 1000000000 := by omega
            by_cases hlt : a + t ≤ N
            · have hltI : (a : Int) + (t : Int) ≤ (N : Int) := by omega
              have ht := HT.out
              have K := Lib.hid (run_symMerge B g N c X HK.out HN.out (a + t - a) a (a + s) (a + t) f5)
              have HP := Lib.hid (show Srt (keyI X) f5 a (a + s) ∧ Srt (keyI X) f5 (a + s) (a + t) ∧ Low f5 a (a + s) (a + t) from by
                have h := HM.out.pre (v := a + t) (by omega) (by rw [← HA.out]; omega) (by rw [← HA.out, Nat.min_eq_left (by omega)]; omega)
                rw [← HA.out] at h
                exact ⟨h.1, h.2.1, h.2.2.1⟩)
              have hsp : 0 < s := by omega
              have hst : s < t := by omega
              clear ht
              go_wp2_with fail
              refine (K.out _ (Nat.le_refl _) h5 (by omega) (by omega) hlt HP.out.1 HP.out.2.1 HP.out.2.2).mono ?_
              rintro e w6 ⟨rfl, f6, hs6, h6, hg6⟩
              have HM2 : Hid (MgR (keyI X) N s (A + 1) f6) := Lib.hid (HM.out.next hsp (by rw [← HA.out]; have := HT.out; omega) (by rw [← HA.out, show a + s + s = a + t by have := HT.out; omega]; exact hs6))
              go_wp2_with fail
              go_roundw
              case rel => exact ⟨A + 1, a + t, f6, by go_num, by go_num, hlt, Lib.hid (by rw [Nat.succ_mul, ← HA.out, ← HT.out]), HM2, h6, grown_two hg5 hg6⟩
              case measure => simp [intOf]; omega
            · have hltI : ¬ (a : Int) + (t : Int) ≤ (N : Int) := by omega
              have ht := HT.out
              have hsp : 0 < s := by omega
              by_cases hm : a + s < N
              · have hmI : (a : Int) + (s : Int) < (N : Int) := by omega
                have K := Lib.hid (run_symMerge B g N c X HK.out HN.out (N - a) a (a + s) N f5)
                have HP := Lib.hid (show Srt (keyI X) f5 a (a + s) ∧ Srt (keyI X) f5 (a + s) N ∧ Low f5 a (a + s) N from by
                  have h := HM.out.pre (v := N) (by omega) (by rw [← HA.out]; omega) (by rw [← HA.out, Nat.min_eq_right (by omega)])
                  rw [← HA.out] at h
                  exact ⟨h.1, h.2.1, h.2.2.1⟩)
                have hE1 : N < a + s + s := by omega
                clear ht
                go_wp2_with fail
                refine (K.out _ (Nat.le_refl _) h5 (by omega) hm (Nat.le_refl _) HP.out.1 HP.out.2.1 HP.out.2.2).mono ?_
                rintro e w6 ⟨rfl, f6, hs6, h6, hg6⟩
                have HM2 : Hid (AllR (keyI X) N t f6) := Lib.hid (by rw [HT.out]; exact HM.out.end_ hsp (by rw [← HA.out]; exact hE1) (by rw [← HA.out]; exact hm) (by rw [← HA.out]; exact hs6))
                go_wp2_with fail
                go_roundw
                case rel => exact ⟨t, f6, by go_num, by have := HT.out; omega, by have := HT.out; omega, HM2, h6, grown_two hg5 hg6⟩
                case measure => have := HT.out; simp [intOf]; omega
              · have hmI : ¬ (a : Int) + (s : Int) < (N : Int) := by omega
                have HM2 : Hid (AllR (keyI X) N t f5) := Lib.hid (by rw [HT.out]; exact HM.out.end0 (by rw [← HA.out]; omega))
                clear ht
                go_wp2_with fail
                go_roundw
                case rel => exact ⟨t, f5, by go_num, by have := HT.out; omega, by have := HT.out; omega, HM2, h5, hg5⟩
                case measure => have := HT.out; simp [intOf]; omega
        · have hsNI : ¬ (s : Int) < (N : Int) := by omega
          have HD := Lib.hid (HL.out.done (by omega))
          go_wp2_with fail
          go_end0
          exact ⟨rfl, f3, HD.out.1, HD.out.2, h4, hg4⟩
theorem run_SortStable (B g N c : Nat) (X : List Int) (w : World) (h : Own w B 55 5 (.slice (some ⟨g, 0, none⟩) N c) N X) (hK : KB X N) (hN : N ≤ 1000000000) :
    Calls Tryz.prog 54 #[.slice (some ⟨g, 0, none⟩) N c, .func (.func 55) #[] #[]] w fun e w' => e = .returned (.tuple #[]) ∧ Own w' B 55 5 (.slice (some ⟨g, 0, none⟩) N c) N (srtL X N) ∧ w.grownBy w' (some g) := by
  have hl : X.length = N * 5 := h.len
  have h0 : SO w B g N c X id := ⟨by rw [← flatP_id hl]; exact h, fun j hj => hj⟩
  have K := Lib.hid (run_stable B g N c X w h0 hK hN)
  go_enter Tryz.func54, Tryz.ntmps54
  go_wp2_with fail
  refine K.out.mono ?_
  rintro e w2 ⟨rfl, f, hp, hs, h2, hg⟩
  go_wp2_with fail
  go_end0
  refine ⟨rfl, ?_, hg⟩
  rw [← srtL_of hp hs]
  exact h2.own
end Go.Proofs.YtkpdoikjfibflaaGreat
