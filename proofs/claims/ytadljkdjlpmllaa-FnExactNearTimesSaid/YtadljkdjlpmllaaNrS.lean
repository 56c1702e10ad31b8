/- Walks: slices.DeleteFunc of whole numbers with a function that makes blocks of its own. No condition. -/
import Derived.Test.YtadljkdjlpmllaaNrR
namespace Go.Proofs.Ytadljkdjlpmllaa
open Go.RowKit Go.WideShapes Go.ChangeShapes
set_option maxHeartbeats 1000000 in
theorem run_DeleteFunc (fn : Nat) (lb : Array Value) (p : Int → Bool) (C : World → Prop) (A : Option Addr) (hC : ∀ g, A = some ⟨g, 0, none⟩ → Stays C g) (hC0 : ∀ w w', C w → Q w w' → C w') (ef : ∀ args w, (callFunc fn args).run Try.prog w = .ok (.enter fn args) w)
    (K : ∀ w t, C w → Calls Try.prog fn (#[.int .i64 t] ++ lb) w fun e w' => e = .returned (.bool (!p t)) ∧ Q w w')
    (n c B : Nat) (L : List Int) (w0 w : World) (ho : Own w B 2 1 (.slice A n c) n L) (hn2 : n ≤ 9223372036854775807) (hB : w0.heap.size ≤ B) (hq0 : Q w0 w) (hc : C w) :
    Calls Try.prog 19 #[.slice A n c, .func (.func fn) #[] lb] w (DfR p L B w0) := by
  have hL : L.length = n := by have := ho.len; omega
  have hcap := ho.cap
  have KI0 := Lib.hid (run_IndexFunc fn lb p C hC0 ef K A n c L w ho.rd hL hn2 hc)
  have KK := Lib.hid K
  have HL := Lib.hid hL
  have HO := Lib.hid ho
  have HC0 := Lib.hid hC0
  have HC := Lib.hid hC
  clear K hL ho hC hC0
  go_enter Try.func19, Try.ntmps19
  go_wp2_with fail
  refine KI0.out.mono ?_
  rintro e w1 ⟨q1, ⟨k, hk, rfl, hp, hall⟩ | ⟨rfl, hall⟩⟩
  · obtain ⟨g, rfl, hg⟩ := HO.out.split (by omega)
    have hI := KI.start (p := p) (L := L) (by rw [HL.out]; exact hk) hp hall
    have HI := Lib.hid hI
    have hkne : ((k : Int) == -1) = false := beq_eq_false_iff_ne.2 (by omega)
    clear hp hall hI
    have HS := Lib.hid (HC.out g rfl)
    have hgw : g < w1.heap.size := Nat.lt_of_lt_of_le ((HO.out.from _ rfl).2) q1.size
    go_wp2_with fail
    go_loopw [5, 6, 7] (fun s5 s6 _ wr => ∃ (i j : Nat) (M : List Int), s5 = .int .i64 i ∧ s6 = .int .i64 j ∧ j ≤ n ∧ i < j ∧ Hid (KI p L M i j) ∧ Own wr B 2 1 (.slice (some ⟨g, 0, none⟩) n c) n M ∧ Q w0 wr ∧ C wr) (fun _ s6 _ _ => n - (intOf s6).toNat)
    case atStart => exact ⟨k, k + 1, L, rfl, by go_num, by omega, by omega, HI, HO.out.q q1, hq0.trans q1, HC0.out _ _ hc q1⟩
    case round =>
      obtain ⟨i, j, M, rfl, rfl, hj, hij, HK, hM, hqr, hcr⟩ := hrel
      by_cases hlt : j < n
      · have hltI : (j : Int) < (n : Int) := by omega
        have hiI : (i : Int) < (n : Int) := by omega
        have g0 : wr.cell? ⟨g, j, none⟩ = some (.int .i64 (el L j)) := by
          have h1 := hM.cell (j := j) (by omega)
          rw [← HK.out.high j (Nat.le_refl j)]
          exact h1
        have i0 := hM.cell (j := i) (by omega)
        have fz := hM.frozen
        obtain ⟨u, hu⟩ : ∃ u, u = el L j := ⟨_, rfl⟩
        rw [← hu] at g0
        have HU := Lib.hid hu
        have HM := Lib.hid hM
        clear hu hM
        generalize M.getD i 0 = old at i0
        have k1 := KK.out wr u hcr
        cases hp : p u
        · rw [hp] at k1
          have HP := Lib.hid hp
          clear hp
          go_wp2_with (go_at_fn fn; refine k1.mono ?_; rintro e w2 ⟨rfl, q2⟩)
          go_roundw
          case rel => exact ⟨i, j + 1, M, rfl, by go_num, by omega, by omega, Lib.hid (HK.out.skip (by rw [HL.out]; exact hlt) (by rw [← HU.out]; exact HP.out)), HM.out.q q2, hqr.trans q2, HC0.out _ _ hcr q2⟩
          case measure => simp [intOf]; omega
        · rw [hp] at k1
          have HP := Lib.hid hp
          clear hp
          go_wp2_with (go_at_fn fn; refine k1.mono ?_; rintro e w2 ⟨rfl, q2⟩; have i2 := q2.cell i0; have f2 := (HM.out.q q2).frozen)
          go_roundw
          case rel =>
            refine ⟨i + 1, j + 1, M.set i u, by go_num, by go_num, by omega, by omega, Lib.hid ?_, (HM.out.q q2).stored i u, (hqr.trans q2).setCell (p := ⟨g, i, none⟩) (by simp only; omega) _, HS.out.set _ _ _ (HC0.out _ _ hcr q2)⟩
            rw [HU.out]
            exact HK.out.keep (by rw [HL.out]; exact hlt) (by rw [← HU.out]; exact HP.out)
          case measure => simp [intOf]; omega
      · obtain rfl : j = n := by omega
        have hcl : ∀ ty, (Builtin.clear_ #[28] ty #[.slice (some ⟨g, i, none⟩) (j - i) (c - i)]).run Try.prog wr = .ok (.tuple #[]) (wr.setCells g i (List.replicate (j - i) (.int .i64 0))) :=
          fun ty => Lib.run_clear_slice wr _ _ ty _ Try.underlying28 (fun w => by kernel_rfl) rfl rfl g i _ _ (by omega) (fun t ht => by rw [hM.cell (j := i + t) (by omega)]; rfl) (fun t _ => hM.frozen _)
        have hii : (i : Int) ≤ (j : Int) := by omega
        have hic : (i : Int) ≤ (c : Int) := by omega
        have HM := Lib.hid hM
        clear hM
        go_wp2_with fail
        go_ret
        obtain ⟨M', h1, h2⟩ := Own.setCells 0 (j - i) i _ _ HM.out
        have h3 := h1.cut (i := i) (by omega)
        rw [h2] at h3
        have hI := HK.out
        rw [← HL.out] at hI
        rw [hI.done] at h3
        exact ⟨_, _, _, rfl, h3, Q.setCells (by omega) _ _ _ hqr⟩
  · have HA := Lib.hid hall
    clear hall
    go_wp2_with fail
    go_ret
    refine ⟨A, n, c, rfl, ?_, hq0.trans q1⟩
    rw [KI.all (by rw [HL.out]; exact HA.out)]
    exact HO.out.q q1
end Go.Proofs.Ytadljkdjlpmllaa
