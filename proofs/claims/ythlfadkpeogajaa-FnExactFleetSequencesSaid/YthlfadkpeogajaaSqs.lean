/- Words and walks: slices of sequences of four signals each (equal, marked, held, appended to). No condition. -/
import Derived.Test.YthlfadkpeogajaaSeq
import Derived.Test.YthlfadkpeogajaaK
import Derived.Test.YthlfadkpeogajaaTail
namespace Go.Proofs.Ythlfadkpeogajaa
open Go.RowKit Go.WideShapes Go.ChangeShapes
/-- m sequences of four signals; sequence j reads as L j. -/
def RdS (w : World) (A : Option Addr) (m : Nat) (L : Nat → List Int) : Prop :=
  ∃ b o, (0 < m → A = some ⟨b, o, none⟩) ∧ ∀ j, j < m → ∃ B c, w.cell? ⟨b, o + j, none⟩ = some (.slice B 4 c) ∧ Rd w B (L j) ∧ (L j).length = 8
theorem RdS.q {w w' : World} {A : Option Addr} {m : Nat} {L : Nat → List Int} (h : RdS w A m L) (hq : Q w w') : RdS w' A m L := by
  obtain ⟨b, o, hA, hc⟩ := h
  refine ⟨b, o, hA, fun j hj => ?_⟩
  obtain ⟨B, c, h1, h2, h3⟩ := hc j hj
  exact ⟨B, c, hq.cell h1, h2.q hq, h3⟩
theorem RdS.at_ {w : World} {A : Option Addr} {m k : Nat} {L : Nat → List Int} (h : RdS w A m L) (hk : k < m) :
    ∃ b o B c, A = some ⟨b, o, none⟩ ∧ w.cell? ⟨b, o + k, none⟩ = some (.slice B 4 c) ∧ Rd w B (L k) ∧ (L k).length = 4 * 2 := by
  obtain ⟨b, o, hA, hc⟩ := h
  obtain ⟨B, c, h1, h2, h3⟩ := hc k hk
  exact ⟨b, o, B, c, hA (by omega), h1, h2, h3⟩
theorem RdS.cong {w : World} {A : Option Addr} {m : Nat} {L L' : Nat → List Int} (h : RdS w A m L) (hL : ∀ j, j < m → L j = L' j) : RdS w A m L' := by
  obtain ⟨b, o, hA, hc⟩ := h
  refine ⟨b, o, hA, fun j hj => ?_⟩
  obtain ⟨B, c, h1, h2, h3⟩ := hc j hj
  rw [hL j hj] at h2 h3
  exact ⟨B, c, h1, h2, h3⟩
def sqV (t : Option Addr × Nat) : Value := .slice t.1 4 t.2
/-- The same, made by this call: in blocks from B to U, apart from one another. -/
def OwnS (w : World) (B U : Nat) (A : Option Addr) (n c : Nat) (ts : List (Option Addr × Nat)) (L : Nat → List Int) : Prop :=
  ts.length = n ∧ w.ownsRow B 105 1 (.slice A n c) n (ts.map sqV) ∧
    (∀ j (h : j < ts.length), Own w B 122 2 (.slice ts[j].1 4 ts[j].2) 4 (L j) ∧ (∀ a, ts[j].1 = some a → B ≤ a.block ∧ a.block < U ∧ ∀ r, A = some r → a.block ≠ r.block)) ∧
    ts.Pairwise (fun s t => Far s.1 t.1) ∧ (∀ a, A = some a → B ≤ a.block ∧ a.block < U)
theorem ownsRow_q {w w' : World} {B : Nat} {e : TypeId} {k : Nat} {v : Value} {n : Nat} {xs : List Value} (h : w.ownsRow B e k v n xs) (hq : Q w w') : w'.ownsRow B e k v n xs :=
  World.ownsRow.kept (row := none) h ⟨hq.os, hq.tape, hq.output, hq.size, fun i hi _ => hq.block i hi⟩ (by
    cases hv : v.ownBlock with
    | none => exact .inl rfl
    | some _ => exact .inr (by simp))
theorem ownsRow_row {w : World} {B : Nat} {e : TypeId} {A : Option Addr} {n c : Nat} {xs : List Value} (h : w.ownsRow B e 1 (.slice A n c) n xs) (hn : 0 < n) : ∃ g, A = some ⟨g, 0, none⟩ ∧ ∀ j, j < n → w.cell? ⟨g, j, none⟩ = xs[j]? := by
  rcases h.2 with ⟨h', h0⟩ | ⟨g, cap, cur, h', hg, _⟩
  · omega
  · injection h' with h1 _ _
    subst h1
    exact ⟨g, rfl, fun j hj => World.ownsRow.cellAt h j (by omega)⟩
theorem OwnS.q {w w' : World} {B U : Nat} {A : Option Addr} {n c : Nat} {ts : List (Option Addr × Nat)} {L : Nat → List Int} (h : OwnS w B U A n c ts L) (hq : Q w w') : OwnS w' B U A n c ts L := by
  obtain ⟨h1, h2, h3, h4, h5⟩ := h
  exact ⟨h1, ownsRow_q h2 hq, fun j hj => ⟨(h3 j hj).1.q hq, (h3 j hj).2⟩, h4, h5⟩
theorem OwnS.rd {w : World} {B U : Nat} {A : Option Addr} {n c : Nat} {ts : List (Option Addr × Nat)} {L : Nat → List Int} (h : OwnS w B U A n c ts L) : RdS w A n L := by
  obtain ⟨h1, h2, h3, h4, h5⟩ := h
  rcases Nat.eq_zero_or_pos n with hn | hn
  · exact ⟨0, 0, fun h => by omega, fun j hj => by omega⟩
  · obtain ⟨g, rfl, hc⟩ := ownsRow_row h2 hn
    refine ⟨g, 0, fun _ => rfl, fun j hj => ?_⟩
    have hj' : j < ts.length := by omega
    refine ⟨ts[j].1, ts[j].2, ?_, (h3 j hj').1.rd, (h3 j hj').1.len⟩
    rw [Nat.zero_add, hc j hj, List.getElem?_map, List.getElem?_eq_getElem hj']
    rfl
theorem OwnS.from {w : World} {B U : Nat} {A : Option Addr} {n c : Nat} {ts : List (Option Addr × Nat)} {L : Nat → List Int} (h : OwnS w B U A n c ts L) : ∀ a, A = some a → B ≤ a.block ∧ a.block < U := h.2.2.2.2
theorem OwnS.up {w : World} {B U U' : Nat} {A : Option Addr} {n c : Nat} {ts : List (Option Addr × Nat)} {L : Nat → List Int} (h : OwnS w B U A n c ts L) (hU : U ≤ U') : OwnS w B U' A n c ts L := by
  obtain ⟨h1, h2, h3, h4, h5⟩ := h
  exact ⟨h1, h2, fun j hj => ⟨(h3 j hj).1, fun a ha => ⟨((h3 j hj).2 a ha).1, by have := ((h3 j hj).2 a ha).2.1; omega, ((h3 j hj).2 a ha).2.2⟩⟩, h4, fun a ha => ⟨(h5 a ha).1, by have := (h5 a ha).2; omega⟩⟩
/-- What was made in the blocks from B to U is written; all else stands. -/
structure GrD (B U : Nat) (w w' : World) : Prop where
  os : w'.os = w.os
  tape : w'.tape = w.tape
  output : w'.output = w.output
  size : w.heap.size ≤ w'.heap.size
  block : ∀ i, i < w.heap.size → (i < B ∨ U ≤ i) → w'.heap[i]? = w.heap[i]?
theorem GrD.refl (B U : Nat) (w : World) : GrD B U w w := ⟨rfl, rfl, rfl, Nat.le_refl _, fun _ _ _ => rfl⟩
theorem GrD.grown {B U : Nat} {a w w' : World} {row : Option Nat} (h : GrD B U a w) (hg : w.grownBy w' row) (hr : ∀ k, row = some k → B ≤ k ∧ k < U) : GrD B U a w' :=
  ⟨hg.os.trans h.os, hg.tape.trans h.tape, hg.output.trans h.output, Nat.le_trans h.size hg.size, fun i hi hB => (hg.block i (Nat.lt_of_lt_of_le hi h.size) (fun e => by have := hr i e.symm; omega)).trans (h.block i hi hB)⟩
theorem Q.markD {a w w' : World} {B U : Nat} (h : Q a w) (hB : a.heap.size ≤ B) (hg : GrD B U w w') : Q a w' :=
  ⟨hg.os.trans h.os, hg.tape.trans h.tape, hg.output.trans h.output, Nat.le_trans h.size hg.size, fun i hi => (hg.block i (Nat.lt_of_lt_of_le hi h.size) (.inl (Nat.lt_of_lt_of_le hi hB))).trans (h.block i hi)⟩
theorem RdS.markD {w0 w w' : World} {A : Option Addr} {m : Nat} {L : Nat → List Int} {B U : Nat} (h0 : RdS w0 A m L) (hq : Q w0 w) (hB : w0.heap.size ≤ B) (hg : GrD B U w w') : RdS w' A m L :=
  h0.q (hq.markD hB hg)
set_option maxHeartbeats 1000000 in
theorem eqSignalSS_same (A B : Option Addr) (n c d : Nat) (L : Nat → List Int) (w : World) (ha : RdS w A n L) (hb : RdS w B n L) (hn : n ≤ 9223372036854775807) :
    Calls Try.prog 47 #[.slice A n c, .slice B n d] w fun e w' => e = .returned (.bool true) ∧ Q w w' := by
  go_enter Try.func47, Try.ntmps47
  go_wp2_with fail
  go_loopw [5] (fun i wr => ∃ k : Nat, k ≤ n ∧ i = .int .i64 k ∧ Q w wr) (fun i _ => n - (intOf i).toNat)
  case atStart => exact ⟨0, by omega, rfl, Q.refl _⟩
  case round =>
    obtain ⟨k, hk, rfl, hq⟩ := hrel
    by_cases hlt : k < n
    · have hltI : (k : Int) < (n : Int) := by omega
      obtain ⟨b1, o1, A1, c1, rfl, g0, hr, hx⟩ := (ha.q hq).at_ hlt
      obtain ⟨b2, o2, A2, c2, rfl, k0, hr2, _⟩ := (hb.q hq).at_ hlt
      have l0 := later_cell g0
      have l1 := later_cell k0
      have HX := Lib.hid hx
      clear hx g0 k0
      go_wp2_with fail
      refine wp_region_later_lit (by kernel_rfl) (by kernel_rfl) ?_
      repeat (any_goals (first | go_big_quiet_step ((go_at_call 85; exact later_call (eqSignalS_same _ _ _ _ _ _ _ (hr.q (Later.q _)) (hr2.q (Later.q _)) HX.out (by decide)))) | quiet_step ((go_at_call 85; exact later_call (eqSignalS_same _ _ _ _ _ _ _ (hr.q (Later.q _)) (hr2.q (Later.q _)) HX.out (by decide)))) | (refine wpQuiet_step (fun K hK => ?_); go_simp; split <;> (refine hK _ ?_; clear hK K))))
      all_goals (refine wpQuiet_nil ?_; rintro _ ⟨⟨w2, q2⟩, rfl⟩; try dsimp only)
      all_goals go_wp2_with fail
      go_roundw
      case rel => exact ⟨k + 1, by omega, by go_num, hq.trans q2⟩
      case measure => simp [intOf]; omega
    · obtain rfl : k = n := by omega
      go_wp2_with fail
      go_ret
      exact ⟨rfl, hq⟩
set_option maxHeartbeats 1000000 in
theorem heldSignalSS_any (A : Option Addr) (n c : Nat) (q : Int) (w : World) (ha : RdS w A n (fun j => seqI (q + 8 * j) 8)) (hq0 : 0 ≤ q) (hq1 : q ≤ 100) (hn : n ≤ 1048576) :
    Calls Try.prog 49 #[.slice A n c, .int .i64 q] w fun e w' => e = .returned (.int .i64 (q + 8 * n)) ∧ Q w w' := by
  go_enter Try.func49, Try.ntmps49
  go_wp2_with fail
  go_loopw [1, 5] (fun v i wr => ∃ k : Nat, k ≤ n ∧ i = .int .i64 k ∧ v = .int .i64 (q + 8 * k) ∧ Q w wr) (fun _ i _ => n - (intOf i).toNat)
  case atStart => exact ⟨0, by omega, rfl, by go_num, Q.refl _⟩
  case round =>
    obtain ⟨k, hk, rfl, rfl, hq⟩ := hrel
    by_cases hlt : k < n
    · have hltI : (k : Int) < (n : Int) := by omega
      obtain ⟨b1, o1, A1, c1, rfl, g0, hr, hx⟩ := (ha.q hq).at_ hlt
      have K0 := Lib.hid (heldSignalS_any A1 4 c1 (q + 8 * k) wr hr (by omega) (by omega))
      clear hr hx
      go_wp2_with (go_at_call 87; refine K0.out.mono ?_; rintro e w1 ⟨rfl, q1⟩)
      go_roundw
      case rel => exact ⟨k + 1, by omega, by go_num, by go_num, hq.trans q1⟩
      case measure => simp [intOf]; omega
    · obtain rfl : k = n := by omega
      go_wp2_with fail
      go_ret
      exact ⟨rfl, hq⟩
def mkL (q : Int) (k : Nat) (L : Nat → List Int) (j : Nat) : List Int := if j < k then seqI (q + 8 * j) 8 else L j
theorem OwnS.step {w w1 : World} {B U : Nat} {A : Option Addr} {n c k : Nat} {ts : List (Option Addr × Nat)} {q : Int} {L : Nat → List Int} (h : OwnS w B U A n c ts (mkL q k L)) (hk : k < ts.length)
    (o1 : Own w1 B 122 2 (.slice ts[k].1 4 ts[k].2) 4 (seqI (q + 8 * k) 8)) (hg : w.grownBy w1 (ts[k].1.map (·.block))) : OwnS w1 B U A n c ts (mkL q (k + 1) L) := by
  obtain ⟨h1, h2, h3, h4, h5⟩ := h
  have hpw := List.pairwise_iff_getElem.1 h4
  refine ⟨h1, ?_, fun j hj => ⟨?_, (h3 j hj).2⟩, h4, h5⟩
  · refine World.ownsRow.kept h2 hg ?_
    rcases hA : ts[k].1 with _ | a
    · rcases A with _ | r
      · exact .inl rfl
      · exact .inr (by simp [Value.ownBlock])
    · rcases A with _ | r
      · exact .inl rfl
      · refine .inr ?_
        have := ((h3 k hk).2 a hA).2.2 r rfl
        simp only [Value.ownBlock, Option.map_some]
        intro e
        injection e with e
        exact this e.symm
  · rcases Nat.lt_trichotomy j k with hjk | hjk | hjk
    · have e : mkL q (k + 1) L j = mkL q k L j := by unfold mkL; rw [if_pos (by omega), if_pos hjk]
      rw [e]
      exact Own.far (h3 j hj).1 hg (hpw j k hj hk hjk)
    · subst hjk
      have e : mkL q (j + 1) L j = seqI (q + 8 * j) 8 := by unfold mkL; rw [if_pos (by omega)]
      rw [e]
      exact o1
    · have e : mkL q (k + 1) L j = mkL q k L j := by unfold mkL; rw [if_neg (by omega), if_neg (by omega)]
      rw [e]
      exact Own.far (h3 j hj).1 hg (hpw k j hk hj hjk).symm
set_option maxRecDepth 100000 in
set_option maxHeartbeats 1000000 in
theorem markSignalSS_any (A : Option Addr) (n c B U : Nat) (ts : List (Option Addr × Nat)) (L : Nat → List Int) (q : Int) (w : World) (ho : OwnS w B U A n c ts L) (hq0 : 0 ≤ q) (hq1 : q ≤ 100) (hn : n ≤ 1048576) :
    Calls Try.prog 48 #[.slice A n c, .int .i64 q] w fun e w' => e = .returned (.int .i64 (q + 8 * n)) ∧ RdS w' A n (fun j => seqI (q + 8 * j) 8) ∧ GrD B U w w' := by
  have hl := ho.1
  have H0 := Lib.hid (show OwnS w B U A n c ts (mkL q 0 L) from by
    have e : mkL q 0 L = L := by funext j; unfold mkL; rw [if_neg (by omega)]
    rw [e]; exact ho)
  have HL := Lib.hid hl
  clear ho hl
  go_enter Try.func48, Try.ntmps48
  go_wp2_with fail
  go_loopw [1, 5] (fun v i wr => ∃ k : Nat, k ≤ n ∧ i = .int .i64 k ∧ v = .int .i64 (q + 8 * k) ∧ Hid (OwnS wr B U A n c ts (mkL q k L)) ∧ GrD B U w wr) (fun _ i _ => n - (intOf i).toNat)
  case atStart => exact ⟨0, by omega, rfl, by go_num, H0, GrD.refl _ _ _⟩
  case round =>
    clear H0
    obtain ⟨k, hk, rfl, rfl, HO, hg⟩ := hrel
    by_cases hlt : k < n
    · have hltI : (k : Int) < (n : Int) := by omega
      have hkl : k < ts.length := by rw [HL.out]; exact hlt
      obtain ⟨g, rfl, hc⟩ := ownsRow_row HO.out.2.1 (by omega)
      obtain ⟨A1, c1, hA1⟩ : ∃ A1 c1, ts[k] = (A1, c1) := ⟨_, _, rfl⟩
      have g0 := hc k hlt
      rw [List.getElem?_map, List.getElem?_eq_getElem hkl, hA1] at g0
      have g0 : wr.cell? ⟨g, k, none⟩ = some (.slice A1 4 c1) := g0
      have HS := Lib.hid (fun (w1 : World) (o1 : Own w1 B 122 2 (.slice A1 4 c1) 4 (seqI (q + 8 * (k : Int)) 8)) (hg1 : wr.grownBy w1 (A1.map (·.block))) => HO.out.step (w1 := w1) hkl (by rw [hA1]; exact o1) (by rw [hA1]; exact hg1))
      have hF := (HO.out.2.2.1 k hkl).2
      have oT := (HO.out.2.2.1 k hkl).1
      rw [hA1] at hF oT
      have HF := Lib.hid hF
      have K0 := Lib.hid (markSignalS_any A1 4 c1 B _ (q + 8 * (k : Int)) wr oT (by omega) (by omega))
      clear hc HO hF oT hA1
      go_wp2_with (go_at_call 86; refine K0.out.mono ?_; rintro e w1 ⟨rfl, o1, g1⟩)
      go_roundw
      case rel => exact ⟨k + 1, by omega, by go_num, by go_num, Lib.hid (HS.out _ o1 g1), hg.grown g1 (fun b hb => by
        rcases A1 with _ | a
        · cases hb
        · simp only [Option.map_some, Option.some.injEq] at hb
          have := HF.out a rfl
          omega)⟩
      case measure => simp [intOf]; omega
    · obtain rfl : k = n := by omega
      go_wp2_with fail
      go_ret
      refine ⟨rfl, HO.out.rd.cong (fun j hj => by unfold mkL; rw [if_pos hj]), hg⟩
/-- One sequence more. -/
theorem OwnS.push {w w' : World} {B : Nat} {A A' : Option Addr} {n c c' : Nat} {ts : List (Option Addr × Nat)} {L : Nat → List Int} {A1 : Option Addr} {c1 : Nat} {xs : List Int} {H : Nat} (h : OwnS w B H A n c ts L) (hH : H ≤ w.heap.size)
    (o1 : Own w B 122 2 (.slice A1 4 c1) 4 xs) (hf : ∀ a, A1 = some a → H ≤ a.block) (hL : L n = xs)
    (hr : w'.ownsRow B 105 1 (.slice A' (n + 1) c') (n + 1) (ts.map sqV ++ [.slice A1 4 c1])) (hg : w.grownBy w' (A.map (·.block))) (hgr : Grew w A A') : OwnS w' B w'.heap.size A' (n + 1) c' (ts ++ [(A1, c1)]) L := by
  obtain ⟨h1, h2, h3, h4, h5⟩ := h
  have hz := hg.size
  have f1 := o1.from
  have fr : ∀ a, A' = some a → B ≤ a.block ∧ a.block < w'.heap.size := fun a ha => by subst ha; exact World.ownsRow.lt hr _ rfl
  have hA' : ∀ r, A' = some r → (A.map (·.block) = some r.block ∨ w.heap.size ≤ r.block) := by
    intro r hr
    rcases hgr with hg2 | ⟨g, hg2, hlt⟩
    · left; rw [← hg2, hr]; rfl
    · right; rw [hr] at hg2; simp only [Option.map_some, Option.some.injEq] at hg2; omega
  have hne : ∀ (X : Option Addr), (∀ a, X = some a → a.block < w.heap.size ∧ ∀ r, A = some r → a.block ≠ r.block) → ∀ a, X = some a → ∀ r, A' = some r → a.block ≠ r.block := by
    intro X hX a ha r hr
    have := hX a ha
    rcases hA' r hr with h | h
    · rcases A with _ | b
      · cases h
      · simp only [Option.map_some, Option.some.injEq] at h
        have := this.2 b rfl
        omega
    · omega
  have hfarA : ∀ (X : Option Addr), (∀ a, X = some a → a.block < w.heap.size ∧ ∀ r, A = some r → a.block ≠ r.block) → Far X A := fun X hX a b ha hb => (hX a ha).2 b hb
  have hX1 : ∀ a, A1 = some a → a.block < w.heap.size ∧ ∀ r, A = some r → a.block ≠ r.block := fun a ha => ⟨(f1 a ha).2, fun r hr => by have := hf a ha; have := (h5 r hr).2; omega⟩
  refine ⟨by simp [h1], by rw [List.map_append]; exact hr, fun j hj => ?_, ?_, fr⟩
  · rcases Nat.lt_or_ge j ts.length with hlt | hge
    · have h6 := h3 j hlt
      rw [List.getElem_append_left hlt]
      have hX : ∀ a, ts[j].1 = some a → a.block < w.heap.size ∧ ∀ r, A = some r → a.block ≠ r.block := fun a ha => ⟨by have := (h6.2 a ha).2.1; omega, (h6.2 a ha).2.2⟩
      exact ⟨Own.far h6.1 hg (hfarA _ hX), fun a ha => ⟨(h6.2 a ha).1, by have := (hX a ha).1; omega, hne _ hX a ha⟩⟩
    · have e : j = ts.length := by simp at hj; omega
      subst e
      rw [List.getElem_append_right (Nat.le_refl _)]
      simp only [Nat.sub_self, List.getElem_cons_zero]
      rw [show L ts.length = xs by rw [h1]; exact hL]
      exact ⟨Own.far o1 hg (hfarA _ hX1), fun a ha => ⟨(f1 a ha).1, by have := (f1 a ha).2; omega, hne _ hX1 a ha⟩⟩
  · rw [List.pairwise_append]
    refine ⟨h4, List.pairwise_singleton _ _, fun s hs t ht a b ha hb => ?_⟩
    obtain rfl := List.mem_singleton.1 ht
    obtain ⟨j, hj, rfl⟩ := List.mem_iff_getElem.1 hs
    have h6 := ((h3 j hj).2 a ha).2.1
    have h7 := hf b hb
    omega
theorem OwnS.new (w : World) {B : Nat} (hB : B ≤ w.heap.size) (L : Nat → List Int) : OwnS (w.alloc (.cells #[] 105)) B (w.heap.size + 1) (some ⟨w.heap.size, 0, none⟩) 0 0 [] L := by
  refine ⟨rfl, ?_, fun j h => absurd h (by simp), List.Pairwise.nil, fun a ha => by injection ha with ha; subst ha; exact ⟨hB, by simp⟩⟩
  have := World.ownsRow_lit (base := B) (e := 105) (size := 1) w #[] 0 hB (by decide) rfl
  simpa using this
end Go.Proofs.Ythlfadkpeogajaa
