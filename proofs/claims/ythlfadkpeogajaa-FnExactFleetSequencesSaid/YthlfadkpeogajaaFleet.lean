/- Walks: the sequences of several fleets, as the program and the reference return them, for all arguments. No condition. -/
import Derived.Test.YthlfadkpeogajaaSqs
namespace Go.Proofs.Ythlfadkpeogajaa
open Go.RowKit Go.WideShapes Go.ChangeShapes
def fsL (W : Int) (j : Nat) : List Int := seqL (W + 300000 * (j : Int))
def fsOk (F W : Int) : Prop := (1 ≤ F ∧ F ≤ 8) ∧ 0 ≤ W ∧ W ≤ 1000000000 - 300000 * F
instance (F W : Int) : Decidable (fsOk F W) := by unfold fsOk; infer_instance
def fsC (F W : Int) : Int := if fsOk F W then 0 else 2
def fsN (F W : Int) : Nat := if fsOk F W then F.toNat else 0
theorem fs_no {F W : Int} (h : ¬ fsOk F W) : fsC F W = 2 ∧ fsN F W = 0 := by simp [fsC, fsN, h]
theorem fs_ok {F W : Int} (h : fsOk F W) : fsC F W = 0 ∧ fsN F W = F.toNat := by simp [fsC, fsN, h]
/-- What both return: so many sequences of the call's own, and a code. -/
def FSP (F W : Int) (w : World) (e : Ending) (w' : World) : Prop :=
  ∃ A c ts, e = .returned (.tuple #[.slice A (fsN F W) c, .int .i64 (fsC F W)]) ∧ OwnS w' w.heap.size w'.heap.size A (fsN F W) c ts (fsL W) ∧ Q w w'
theorem OwnS.nil {w : World} {B U : Nat} {L : Nat → List Int} : OwnS w B U none 0 0 [] L :=
  ⟨rfl, ⟨by simp, .inl ⟨rfl, rfl⟩⟩, fun j h => absurd h (by simp), List.Pairwise.nil, fun a ha => by cases ha⟩
theorem FSP.no {F W : Int} {w w' : World} (h : ¬ fsOk F W) (hq : Q w w') : FSP F W w (.returned (.tuple #[.slice none 0 0, .int .i64 2])) w' := by
  obtain ⟨h1, h2⟩ := fs_no h
  refine ⟨none, 0, [], ?_, ?_, hq⟩
  · rw [h1, h2]
  · rw [h2]; exact OwnS.nil
theorem FSP.ok {F W : Int} {w w' : World} {A : Option Addr} {n c U : Nat} {ts : List (Option Addr × Nat)} (h : fsOk F W) (hn : F = (n : Int)) (o : OwnS w' w.heap.size U A n c ts (fsL W)) (hU : U ≤ w'.heap.size) (hq : Q w w') : FSP F W w (.returned (.tuple #[.slice A n c, .int .i64 0])) w' := by
  obtain ⟨h1, h2⟩ := fs_ok h
  have e : fsN F W = n := by rw [h2]; omega
  refine ⟨A, c, ts, ?_, ?_, hq⟩
  · rw [h1, e]
  · rw [e]; exact o.up hU
theorem infoSigS : (Try.prog.info? 105).map (fun i => (i.zero, i.size, i.bytes)) = some (some (.slice none 0 0), 1, 24) := by kernel_rfl
set_option maxHeartbeats 4000000 in
theorem impl_FleetSequences (F W : Int) (w : World) : Calls Try.prog 46 #[.int .i64 F, .int .i64 W] w (FSP F W w) := by
  obtain ⟨i0, hi, hz0, hz1, hz2⟩ := info_parts infoSigS
  by_cases hF : 1 ≤ F ∧ F ≤ 8
  · obtain ⟨f, rfl⟩ := Int.eq_ofNat_of_zero_le (show 0 ≤ F by omega)
    go_enter Try.func46, Try.ntmps46
    go_wp2_with (go_at_call 60; refine (impl_in _ _ _ _).mono ?_; rintro e w' ⟨rfl, rfl⟩)
    go_loopw [6, 1, 14] (fun v x i wr => ∃ (k c U : Nat) (A : Option Addr) (ts : List (Option Addr × Nat)), k ≤ f ∧ i = .int .i64 k ∧ x = .int .i64 (W + 300000 * (k : Int)) ∧ v = .slice A k c ∧ OwnS wr w.heap.size U A k c ts (fsL W) ∧ U ≤ wr.heap.size ∧ (0 < k → 0 ≤ W ∧ W + 300000 * (k : Int) ≤ 1000000000) ∧ Q w wr) (fun _ _ i _ => f - (intOf i).toNat)
    case atStart => exact ⟨0, 0, w.heap.size + 1, some ⟨w.heap.size, 0, none⟩, [], by omega, rfl, by simp, rfl, OwnS.new w (Nat.le_refl _) _, by simp, fun h => absurd h (by omega), by (repeat (first | assumption | exact Q.refl _ | refine Q.alloc ?_ _ | refine Q.drewN ?_ _ | refine Q.drew ?_))⟩
    case round =>
      obtain ⟨k, c, U, A, ts, hk, rfl, rfl, rfl, ho, hU, hW, hq⟩ := hrel
      by_cases hlt : k < f
      · have hltI : (k : Int) < (f : Int) := by omega
        by_cases hw : 0 ≤ W + 300000 * (k : Int) ∧ W + 300000 * (k : Int) ≤ 999700000
        · have k1 := fun wv => impl_SequenceFor (W + 300000 * (k : Int)) wv
          rw [show seqN (W + 300000 * (k : Int)) = 4 by simp [seqN, hw], show seqR (W + 300000 * (k : Int)) = fsL W k by simp [seqR, hw, fsL], show seqC (W + 300000 * (k : Int)) = 0 by simp [seqC, hw]] at k1
          have K1 := Lib.hid k1
          have HL := Lib.hid (show fsL W k = fsL W k from rfl)
          have hW0 : 0 ≤ W := by
            rcases Nat.eq_zero_or_pos k with h | h
            · subst h; omega
            · exact (hW h).1
          clear k1 hW
          generalize hx : fsL W k = xs at K1
          have HX := Lib.hid hx
          clear hx
          go_wp2_with (go_at_call 84; refine (K1.out _).mono ?_; rintro e w1 ⟨A1, c1, rfl, o1, q1⟩; refine Hid.out ?_)
          refine Lib.hid ?_
          have ho1 := ho.q q1
          have z1 := q1.size
          have HP := Lib.hid (fun (w' : World) (A' : Option Addr) (c' : Nat) h1 h2 h3 => ho1.push (w' := w') (A' := A') (c' := c') (show U ≤ w1.heap.size by omega) (o1.mono (show w.heap.size ≤ wr.heap.size from hq.size)) (fun a ha => by have := (o1.from a ha).1; omega) HX.out h1 h2 h3)
          have hrow := ho1.2.1
          have hB : w.heap.size ≤ w1.heap.size := by have := hq.size; omega
          have HR := Lib.hid hrow
          clear hrow ho ho1 o1
          go_wp2_with (at_builtin; refine wpList_append_flat w1 rfl _ _ 66 rfl w.heap.size 105 i0 (.slice none 0 0) 1 24 Try.underlying66 hi hz0 hz1 hz2 rfl (by decide) (by decide) A k c _ [.slice A1 4 c1] rfl HR.out rfl rfl (by intro u hu; simp at hu; subst hu; rfl) _ _ rfl (by omega) hB ?_; intro A' c' w' hown' hg' hgr')
          have hp := HP.out w' A' c' hown' hg' hgr'
          go_roundw
          case rel => exact ⟨k + 1, c', w'.heap.size, A', _, by omega, by go_num, by go_num, rfl, hp, Nat.le_refl _, fun _ => ⟨hW0, by omega⟩, (hq.trans q1).grown hg' (fun b hb => by
            rcases A with _ | a
            · cases hb
            · simp only [Option.map_some, Option.some.injEq] at hb
              have := World.ownsRow.lt HR.out _ rfl
              omega)⟩
          case measure => simp [intOf]; omega
        · have k1 := fun wv => impl_SequenceFor (W + 300000 * (k : Int)) wv
          rw [show seqN (W + 300000 * (k : Int)) = 0 by simp [seqN, hw], show seqR (W + 300000 * (k : Int)) = [] by simp [seqR, hw], show seqC (W + 300000 * (k : Int)) = 2 by simp [seqC, hw]] at k1
          have K1 := Lib.hid k1
          have hno : ¬ fsOk (f : Int) W := by unfold fsOk; omega
          have HN := Lib.hid hno
          clear k1 hw hno
          go_wp2_with (go_at_call 84; refine (K1.out _).mono ?_; rintro e w1 ⟨A1, c1, rfl, o1, q1⟩)
          go_ret2
          exact FSP.no HN.out (hq.trans q1)
      · obtain rfl : k = f := by omega
        have HN := Lib.hid (show fsOk (k : Int) W by unfold fsOk; have := hW (by omega); omega)
        go_wp2_with fail
        go_ret2
        exact FSP.ok HN.out rfl ho hU hq
  · have HN := Lib.hid (show ¬ fsOk F W by unfold fsOk; omega)
    go_enter Try.func46, Try.ntmps46
    go_wp2_with (go_at_call 60; refine (impl_in _ _ _ _).mono ?_; rintro e w' ⟨rfl, rfl⟩)
    go_ret2
    exact FSP.no HN.out (Q.refl _)
set_option maxHeartbeats 4000000 in
theorem spec_FleetSequences (F W : Int) (w : World) : Calls Try.prog 45 #[.int .i64 F, .int .i64 W] w (FSP F W w) := by
  obtain ⟨i0, hi, hz0, hz1, hz2⟩ := info_parts infoSigS
  by_cases hF : fsOk F W
  · have HF := Lib.hid hF
    obtain ⟨⟨hF1, hF2⟩, hW1, hW2⟩ := hF
    obtain ⟨f, rfl⟩ := Int.eq_ofNat_of_zero_le (show 0 ≤ F by omega)
    have hm : 5 * (f : Int) * 60000 = 300000 * (f : Int) := by omega
    go_enter Try.func45, Try.ntmps45
    go_wp2_with (go_at_call 64; refine (spec_in _ _ _ _).mono ?_; rintro e w' ⟨rfl, rfl⟩)
    go_loopw [6, 7] (fun v i wr => ∃ (k c U : Nat) (A : Option Addr) (ts : List (Option Addr × Nat)), k ≤ f ∧ i = .int .i64 k ∧ v = .slice A k c ∧ OwnS wr w.heap.size U A k c ts (fsL W) ∧ U ≤ wr.heap.size ∧ Q w wr) (fun _ i _ => f - (intOf i).toNat)
    case atStart => exact ⟨0, 0, w.heap.size + 1, some ⟨w.heap.size, 0, none⟩, [], by omega, rfl, rfl, OwnS.new w (Nat.le_refl _) _, by simp, by (repeat (first | assumption | exact Q.refl _ | refine Q.alloc ?_ _ | refine Q.drewN ?_ _ | refine Q.drew ?_))⟩
    case round =>
      obtain ⟨k, c, U, A, ts, hk, rfl, rfl, ho, hU, hq⟩ := hrel
      by_cases hlt : k < f
      · have hltI : (k : Int) < (f : Int) := by omega
        have k1 := fun wv => spec_l13Sequence (W + 5 * (k : Int) * 60000) wv (by omega)
        rw [show seqL (W + 5 * (k : Int) * 60000) = fsL W k from congrArg seqL (show W + 5 * (k : Int) * 60000 = W + 300000 * (k : Int) by omega)] at k1
        have K1 := Lib.hid k1
        clear k1
        generalize hx : fsL W k = xs at K1
        have HX := Lib.hid hx
        clear hx
        go_wp2_with (go_at_call 83; refine (K1.out _).mono ?_; rintro e w1 ⟨A1, c1, rfl, o1, q1⟩; refine Hid.out ?_)
        refine Lib.hid ?_
        have ho1 := ho.q q1
        have z1 := q1.size
        have HP := Lib.hid (fun (w' : World) (A' : Option Addr) (c' : Nat) h1 h2 h3 => ho1.push (w' := w') (A' := A') (c' := c') (show U ≤ w1.heap.size by omega) (o1.mono (show w.heap.size ≤ wr.heap.size from hq.size)) (fun a ha => by have := (o1.from a ha).1; omega) HX.out h1 h2 h3)
        have hrow := ho1.2.1
        have hB : w.heap.size ≤ w1.heap.size := by have := hq.size; omega
        have HR := Lib.hid hrow
        clear hrow ho ho1 o1
        go_wp2_with (at_builtin; refine wpList_append_flat w1 rfl _ _ 66 rfl w.heap.size 105 i0 (.slice none 0 0) 1 24 Try.underlying66 hi hz0 hz1 hz2 rfl (by decide) (by decide) A k c _ [.slice A1 4 c1] rfl HR.out rfl rfl (by intro u hu; simp at hu; subst hu; rfl) _ _ rfl (by omega) hB ?_; intro A' c' w' hown' hg' hgr')
        have hp := HP.out w' A' c' hown' hg' hgr'
        go_roundw
        case rel => exact ⟨k + 1, c', w'.heap.size, A', _, by omega, by go_num, rfl, hp, Nat.le_refl _, (hq.trans q1).grown hg' (fun b hb => by
            rcases A with _ | a
            · cases hb
            · simp only [Option.map_some, Option.some.injEq] at hb
              have := World.ownsRow.lt HR.out _ rfl
              omega)⟩
        case measure => simp [intOf]; omega
      · obtain rfl : k = f := by omega
        go_wp2_with fail
        go_ret2
        exact FSP.ok HF.out rfl ho hU hq
  · have HN := Lib.hid hF
    by_cases hF1 : 1 ≤ F ∧ F ≤ 8
    · obtain ⟨f, rfl⟩ := Int.eq_ofNat_of_zero_le (show 0 ≤ F by omega)
      have hW : decide (0 ≤ W ∧ W ≤ 1000000000 - 5 * (f : Int) * 60000) = false := decide_eq_false (by unfold fsOk at hF; omega)
      clear hF
      go_enter Try.func45, Try.ntmps45
      go_wp2_with (go_at_call 64; refine (spec_in _ _ _ _).mono ?_; rintro e w' ⟨rfl, rfl⟩)
      all_goals go_ret2
      all_goals exact FSP.no HN.out (Q.refl _)
    · clear hF
      go_enter Try.func45, Try.ntmps45
      go_wp2_with (go_at_call 64; refine (spec_in _ _ _ _).mono ?_; rintro e w' ⟨rfl, rfl⟩)
      go_ret2
      exact FSP.no HN.out (Q.refl _)
set_option maxRecDepth 100000 in
set_option maxHeartbeats 4000000 in
theorem law_FnExactFleetSequences (F : Int) (_ : -9223372036854775808 ≤ F ∧ F ≤ 9223372036854775807) (W : Int) (_ : -9223372036854775808 ≤ W ∧ W ≤ 9223372036854775807) (w : World) :
    Calls Try.prog 9 #[.int .i64 F, .int .i64 W] w fun e w' => e = .returned (.bool true) ∧ Below w.heap.size w w' := by
  have k0 := spec_FleetSequences F W
  have k1 := impl_FleetSequences F W
  unfold FSP at k0 k1
  have hn : fsN F W ≤ 8 := by
    by_cases h : fsOk F W
    · rw [(fs_ok h).2]; have := h.1; omega
    · rw [(fs_no h).2]; omega
  generalize fsN F W = n at *
  generalize fsC F W = C at *
  generalize fsL W = L at *
  have K0 := Lib.hid k0
  have K1 := Lib.hid k1
  clear k0 k1
  go_enter Try.func9, Try.ntmps9
  go_wp2_with fail
  refine (K0.out _).mono ?_
  rintro e w1 ⟨A0, c0, t0, rfl, o0, q1⟩
  go_wp2_with fail
  refine (K1.out _).mono ?_
  rintro e w2 ⟨A1, c1, t1, rfl, o1, q2⟩
  have r0 := o0.rd
  have Q2 := q1.trans q2
  go_wp2_with fail
  refine (eqSignalSS_same A1 A0 n c1 c0 L _ o1.rd (r0.q q2) (by omega)).mono ?_
  rintro e w3 ⟨rfl, q3⟩
  go_wp2_with fail
  refine (markSignalSS_any A1 n c1 _ _ t1 L 1 _ (o1.q q3) (by omega) (by omega) (by omega)).mono ?_
  rintro e w4 ⟨rfl, m4, g4⟩
  have r4 : RdS w4 A0 n L := r0.markD (q2.trans q3) (Nat.le_refl _) g4
  have Q4 : Q w w4 := (Q2.trans q3).markD q1.size g4
  go_wp2_with fail
  refine (heldSignalSS_any A1 n c1 1 _ m4 (by omega) (by omega) (by omega)).mono ?_
  rintro e w5 ⟨rfl, q5⟩
  go_wp2_with fail
  refine (K1.out _).mono ?_
  rintro e w6 ⟨A2, c2, t2, rfl, o6, q6⟩
  go_wp2_with fail
  refine (eqSignalSS_same A2 A0 n c2 c0 L _ o6.rd ((r4.q q5).q q6) (by omega)).mono ?_
  rintro e w7 ⟨rfl, q7⟩
  go_wp2_with fail
  refine (heldSignalSS_any A1 n c1 1 _ (((m4.q q5).q q6).q q7) (by omega) (by omega) (by omega)).mono ?_
  rintro e w8 ⟨rfl, q8⟩
  go_wp2_with fail
  go_ret
  exact ⟨rfl, ((((Q4.trans q5).trans q6).trans q7).trans q8)⟩
end Go.Proofs.Ythlfadkpeogajaa
