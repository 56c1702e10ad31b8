/- Words and walks: slices of tracks (measured, copied, equal, marked), for all arguments. No condition. Walks: the copy of a slice of tracks, for all arguments. No condition. -/
import Derived.Test.YtomgdgdcpgeilaaGreatDoorEarly
namespace Go.Proofs.YtomgdgdcpgeilaaGreatDoor
open Go.RowKit Go.WideShapes Go.ChangeShapes
def Tk.dat (T : Tk) : Nat × List Int := (T.n, T.xs)
def Tk.val (T : Tk) : Value := .slice T.A T.n T.c
/-- A slice of tracks, by the numbers of each. -/
def RdD (w : World) (A : Option Addr) (D : List (Nat × List Int)) : Prop := ∃ ts, RdT w A ts ∧ ts.map Tk.dat = D
theorem RdD.q {w w' : World} {A : Option Addr} {D : List (Nat × List Int)} (h : RdD w A D) (hq : Q w w') : RdD w' A D := by
  obtain ⟨ts, h1, h2⟩ := h
  exact ⟨ts, h1.q hq, h2⟩
def dn (D : List (Nat × List Int)) (k : Nat) : Nat := (D.getD k (0, [])).1
def dx (D : List (Nat × List Int)) (k : Nat) : List Int := (D.getD k (0, [])).2
theorem RdD.at_ {w : World} {A : Option Addr} {D : List (Nat × List Int)} {n k : Nat} (h : RdD w A D) (hD : D.length = n) (hk : k < n) :
    ∃ b o B c, A = some ⟨b, o, none⟩ ∧ w.cell? ⟨b, o + k, none⟩ = some (.slice B (dn D k) c) ∧ Rd w B (dx D k) ∧ (dx D k).length = dn D k * 3 ∧ dn D k ≤ 9223372036854775807 := by
  obtain ⟨ts, h1, rfl⟩ := h
  obtain ⟨b, o, T, hA, hT, hc, hok⟩ := h1.at_ (by simpa using hD) hk
  refine ⟨b, o, T.A, T.c, hA, ?_⟩
  have hd : (ts.map Tk.dat).getD k (0, []) = T.dat := by rw [List.getD_eq_getElem?_getD, List.getElem?_map, hT]; rfl
  unfold dn dx
  rw [hd]
  exact ⟨hc, hok.1, hok.2.1, hok.2.2⟩
def tot (D : List (Nat × List Int)) : Nat := (D.map (·.1)).sum
theorem tot_take {D : List (Nat × List Int)} {k : Nat} (hk : k < D.length) : tot (D.take (k + 1)) = tot (D.take k) + dn D k := by
  unfold tot dn
  rw [List.take_add_one, List.getElem?_eq_getElem hk, List.map_append, List.sum_append, List.getD_eq_getElem?_getD, List.getElem?_eq_getElem hk]
  simp
theorem tot_le (D : List (Nat × List Int)) (k : Nat) : tot (D.take k) ≤ tot D := by
  have h : tot D = tot (D.take k) + tot (D.drop k) := by
    unfold tot
    rw [← List.sum_append, ← List.map_append, List.take_append_drop]
  omega
set_option maxHeartbeats 1000000 in
theorem szTrackS_any (A : Option Addr) (n c : Nat) (D : List (Nat × List Int)) (l : Int) (w : World) (ha : RdD w A D) (hD : D.length = n) (h0 : 0 ≤ l) (h1 : l ≤ 1048576) (hn : n ≤ 9223372036854775807) :
    Calls Tryz.prog 20 #[.slice A n c, .int .i64 l] w fun r w' => r = .returned (.int .i64 (if ((n + tot D : Nat) : Int) ≤ l then l - (n + tot D : Nat) else -1)) ∧ Q w w' := by
  have HD := Lib.hid hD
  clear hD
  by_cases hnl : (n : Int) ≤ l
  · obtain ⟨R, hR⟩ : ∃ R, R = (if ((n + tot D : Nat) : Int) ≤ l then l - (n + tot D : Nat) else -1) := ⟨_, rfl⟩
    rw [← hR]
    have HR := Lib.hid hR
    clear hR
    go_enter Tryz.func20, Tryz.ntmps20
    go_wp2_with fail
    go_loopw [1, 5] (fun v i wr => ∃ (k : Nat) (l1 : Int), k ≤ n ∧ i = .int .i64 k ∧ v = .int .i64 l1 ∧ Hid (l1 = l - n - (tot (D.take k) : Nat)) ∧ 0 ≤ l1 ∧ l1 ≤ 1048576 ∧ Q w wr) (fun _ i _ => n - (intOf i).toNat)
    case atStart => exact ⟨0, l - n, by omega, rfl, rfl, Lib.hid (by simp [tot]), by omega, by omega, Q.refl _⟩
    case round =>
      obtain ⟨k, l1, hk, rfl, rfl, HL, hl0, hl1, hq⟩ := hrel
      by_cases hlt : k < n
      · have hltI : (k : Int) < (n : Int) := by omega
        obtain ⟨b, o, B, cc, rfl, g0, hr, hx, hm⟩ := (ha.q hq).at_ HD.out hlt
        have k0 := szTrack_any B (dn D k) cc l1
        have HT := Lib.hid (tot_take (D := D) (k := k) (by rw [HD.out]; exact hlt))
        have HU := Lib.hid (tot_le D (k + 1))
        obtain ⟨m, hme⟩ : ∃ m, m = dn D k := ⟨_, rfl⟩
        rw [← hme] at g0 k0 HT hm
        clear hme hr hx
        by_cases hml : (m : Int) ≤ l1
        · rw [if_pos hml] at k0
          have K0 := Lib.hid k0
          clear k0
          have hlo : ¬ l1 - (m : Int) < 0 := by omega
          go_wp2_with (go_at_call 8; refine (K0.out _ hl0 hl1 hm).mono ?_; rintro e w1 ⟨rfl, q1⟩)
          go_roundw
          case rel => exact ⟨k + 1, l1 - m, by omega, by go_num, by go_num, Lib.hid (by have := HL.out; have := HT.out; omega), by omega, by omega, hq.trans q1⟩
          case measure => simp [intOf]; omega
        · rw [if_neg hml] at k0
          have K0 := Lib.hid k0
          clear k0
          go_wp2_with (go_at_call 8; refine (K0.out _ hl0 hl1 hm).mono ?_; rintro e w1 ⟨rfl, q1⟩)
          go_ret
          exact ⟨ret_int (by rw [HR.out, if_neg (by have := HL.out; have := HT.out; have := HU.out; omega)]), hq.trans q1⟩
      · obtain rfl : k = n := by omega
        go_wp2_with fail
        go_ret
        exact ⟨ret_int (by rw [HR.out]; have := HL.out; rw [List.take_of_length_le (by rw [HD.out]; omega)] at this; rw [if_pos (by omega)]; omega), hq⟩
  · rw [if_neg (by omega)]
    go_enter Tryz.func20, Tryz.ntmps20
    go_wp2_with fail
    go_ret
    exact ⟨rfl, Q.refl _⟩
set_option maxHeartbeats 1000000 in
theorem eqTrackS_same (A B : Option Addr) (n c d : Nat) (D : List (Nat × List Int)) (w : World) (ha : RdD w A D) (hb : RdD w B D) (hD : D.length = n) (hn : n ≤ 9223372036854775807) :
    Calls Tryz.prog 25 #[.slice A n c, .slice B n d] w fun e w' => e = .returned (.bool true) ∧ Q w w' := by
  have HD := Lib.hid hD
  clear hD
  go_enter Tryz.func25, Tryz.ntmps25
  go_wp2_with fail
  go_loopw [5] (fun i wr => ∃ k : Nat, k ≤ n ∧ i = .int .i64 k ∧ Q w wr) (fun i _ => n - (intOf i).toNat)
  case atStart => exact ⟨0, by omega, rfl, Q.refl _⟩
  case round =>
    obtain ⟨k, hk, rfl, hq⟩ := hrel
    by_cases hlt : k < n
    · have hltI : (k : Int) < (n : Int) := by omega
      obtain ⟨b1, o1, A1, c1, rfl, g0, hr, hx, hm⟩ := (ha.q hq).at_ HD.out hlt
      obtain ⟨b2, o2, A2, c2, rfl, k0, hr2, _, _⟩ := (hb.q hq).at_ HD.out hlt
      have l0 := later_cell g0
      have l1 := later_cell k0
      have HX := Lib.hid hx
      clear hx
      obtain ⟨m, hme⟩ : ∃ m, m = dn D k := ⟨_, rfl⟩
      rw [← hme] at l0 l1 HX hm
      clear hme g0 k0
      go_wp2_with fail
      refine wp_region_later_lit (by kernel_rfl) (by kernel_rfl) ?_
      repeat (any_goals (first | go_big_quiet_step ((go_at_call 15; exact later_call (eqTrack_same _ _ _ _ _ _ _ (hr.q (Later.q _)) (hr2.q (Later.q _)) HX.out hm))) | quiet_step ((go_at_call 15; exact later_call (eqTrack_same _ _ _ _ _ _ _ (hr.q (Later.q _)) (hr2.q (Later.q _)) HX.out hm))) | (refine wpQuiet_step (fun K hK => ?_); go_simp; split <;> (refine hK _ ?_; clear hK K))))
      all_goals (refine wpQuiet_nil ?_; rintro _ ⟨⟨w2, q2⟩, rfl⟩; try dsimp only)
      all_goals go_wp2_with fail
      go_roundw
      case rel => exact ⟨k + 1, by omega, by go_num, hq.trans q2⟩
      case measure => simp [intOf]; omega
    · obtain rfl : k = n := by omega
      go_wp2_with fail
      go_ret
      exact ⟨rfl, hq⟩
/-! ### What a call that copies tracks owns -/
def OwnD (w : World) (B U : Nat) (A : Option Addr) (n c : Nat) (D : List (Nat × List Int)) : Prop :=
  ∃ ts : List Tk, ts.map Tk.dat = D ∧ w.ownsRow B 47 1 (.slice A n c) n (ts.map Tk.val) ∧
    (∀ T ∈ ts, Own w B 114 3 (.slice T.A T.n T.c) T.n T.xs ∧ (∀ a, T.A = some a → B ≤ a.block ∧ a.block < U ∧ ∀ r, A = some r → a.block ≠ r.block) ∧ T.n ≤ 1048576) ∧
    ts.Pairwise (fun S T => Far S.A T.A) ∧ (∀ a, A = some a → B ≤ a.block ∧ a.block < U)
theorem ownsRow_q {w w' : World} {B : Nat} {e : TypeId} {k : Nat} {v : Value} {n : Nat} {xs : List Value} (h : w.ownsRow B e k v n xs) (hq : Q w w') : w'.ownsRow B e k v n xs :=
  World.ownsRow.kept (row := none) h ⟨hq.os, hq.tape, hq.output, hq.size, fun i hi _ => hq.block i hi⟩ (by
    cases hv : v.ownBlock with
    | none => exact .inl rfl
    | some _ => exact .inr (by simp))
theorem OwnD.q {w w' : World} {B U : Nat} {A : Option Addr} {n c : Nat} {D : List (Nat × List Int)} (h : OwnD w B U A n c D) (hq : Q w w') : OwnD w' B U A n c D := by
  obtain ⟨ts, h1, h2, h3, h4, h5⟩ := h
  exact ⟨ts, h1, ownsRow_q h2 hq, fun T hT => ⟨(h3 T hT).1.q hq, (h3 T hT).2⟩, h4, h5⟩
theorem OwnD.from {w : World} {B U : Nat} {A : Option Addr} {n c : Nat} {D : List (Nat × List Int)} (h : OwnD w B U A n c D) : ∀ a, A = some a → B ≤ a.block ∧ a.block < U := h.choose_spec.2.2.2.2
theorem ownsRow_row {w : World} {B : Nat} {e : TypeId} {A : Option Addr} {n c : Nat} {xs : List Value} (h : w.ownsRow B e 1 (.slice A n c) n xs) (hn : 0 < n) : ∃ g, A = some ⟨g, 0, none⟩ ∧ ∀ j, j < n → w.cell? ⟨g, j, none⟩ = xs[j]? := by
  rcases h.2 with ⟨h', h0⟩ | ⟨g, cap, cur, h', hg, _⟩
  · omega
  · injection h' with h1 _ _
    subst h1
    exact ⟨g, rfl, fun j hj => World.ownsRow.cellAt h j (by omega)⟩
theorem OwnD.rd {w : World} {B U : Nat} {A : Option Addr} {n c : Nat} {D : List (Nat × List Int)} (h : OwnD w B U A n c D) : RdD w A D := by
  obtain ⟨ts, h1, h2, h3, h4, h5⟩ := h
  refine ⟨ts, ?_, h1⟩
  have hl : ts.length = n := by simpa using h2.1
  rcases Nat.eq_zero_or_pos n with hn | hn
  · exact ⟨0, 0, fun h => by omega, fun j hj => by omega⟩
  · obtain ⟨g, rfl, hc⟩ := ownsRow_row h2 hn
    refine ⟨g, 0, fun _ => rfl, fun j hj => ⟨?_, (h3 _ (List.getElem_mem hj)).1.rd, (h3 _ (List.getElem_mem hj)).1.len, by have := (h3 _ (List.getElem_mem hj)).2.2; omega⟩⟩
    rw [Nat.zero_add, hc j (by omega), List.getElem?_map, List.getElem?_eq_getElem hj]
    rfl
/-- What was made in the blocks from B to U is written; all else stands. -/
structure GrD (B U : Nat) (w w' : World) : Prop where
  os : w'.os = w.os
  tape : w'.tape = w.tape
  output : w'.output = w.output
  size : w.heap.size ≤ w'.heap.size
  block : ∀ i, i < w.heap.size → (i < B ∨ U ≤ i) → w'.heap[i]? = w.heap[i]?
theorem GrD.refl (B U : Nat) (w : World) : GrD B U w w := ⟨rfl, rfl, rfl, Nat.le_refl _, fun _ _ _ => rfl⟩
theorem GrD.grown {B U : Nat} {a w w' : World} {row : Option Nat} (h : GrD B U a w) (hg : w.grownBy w' row) (hr : ∀ k, row = some k → B ≤ k ∧ k < U) : GrD B U a w' :=
  ⟨hg.os.trans h.os, hg.tape.trans h.tape, hg.output.trans h.output, Nat.le_trans h.size hg.size, fun i hi hB => (hg.block i (Nat.lt_of_lt_of_le hi h.size) (fun e => by have := hr i e.symm; omega)).trans (h.block i hi hB)⟩
theorem Q.markD {a w w' : World} {B U : Nat} (h : Q a w) (hB : a.heap.size ≤ B) (hg : GrD B U w w') : Q a w' :=
  ⟨hg.os.trans h.os, hg.tape.trans h.tape, hg.output.trans h.output, Nat.le_trans h.size hg.size, fun i hi => (hg.block i (Nat.lt_of_lt_of_le hi h.size) (.inl (Nat.lt_of_lt_of_le hi hB))).trans (h.block i hi)⟩
theorem Blk.markD {w w' : World} {g : Nat} {t : TypeId} {cs : Array Value} {B U : Nat} (h : Blk w g t cs) (hB : g < B ∨ U ≤ g) (hg : GrD B U w w') : Blk w' g t cs := (hg.block g h.lt hB).trans h
theorem Own.markD {w w' : World} {B U C k n c : Nat} {e : TypeId} {A : Option Addr} {xs : List Int} (h : Own w C e k (.slice A n c) n xs) (hf : ∀ a, A = some a → a.block < B ∨ U ≤ a.block) (hg : GrD B U w w') : Own w' C e k (.slice A n c) n xs := by
  refine ⟨h.1, ?_⟩
  rcases h.2 with h2 | ⟨g, cap, cur, h1, h3, h4, h5⟩
  · exact .inl h2
  · refine .inr ⟨g, cap, cur, h1, h3, ?_, h5⟩
    injection h1 with h1 _ _
    rw [← h4]
    refine hg.block g ?_ (hf _ h1)
    rcases Nat.lt_or_ge g w.heap.size with hlt | hge
    · exact hlt
    · rw [Array.getElem?_eq_none hge] at h4; cases h4
theorem cell_below {w w' : World} {i o : Nat} (h : w'.heap[i]? = w.heap[i]?) : w'.cell? ⟨i, o, none⟩ = w.cell? ⟨i, o, none⟩ := by
  simp [World.cell?, h]
theorem Rd.markD {w0 w w' : World} {A : Option Addr} {xs : List Int} {B U : Nat} (h0 : Rd w0 A xs) (h : Rd w A xs) (hB : w0.heap.size ≤ B) (hs : w0.heap.size ≤ w.heap.size) (hg : GrD B U w w') : Rd w' A xs := by
  by_cases hx : xs.length = 0
  · have : xs = [] := List.eq_nil_of_length_eq_zero hx
    subst this
    exact Rd.nil _ _
  · obtain ⟨b, o, hA, hc⟩ := h0
    obtain ⟨b', o', hA', hc'⟩ := h
    have h1 := World.block_lt_of_cell? w0 _ (hc 0 (by omega))
    have e := (hA (by omega)).symm.trans (hA' (by omega))
    simp only [Option.some.injEq, Addr.mk.injEq, and_true] at e
    obtain ⟨rfl, rfl⟩ := e
    refine ⟨b, o, hA, fun j hj => ?_⟩
    rw [cell_below (hg.block b (by simp only at h1; omega) (.inl (by simp only at h1; omega)))]
    exact hc' j hj
theorem RdD.markD {w0 w w' : World} {A : Option Addr} {D : List (Nat × List Int)} {B U : Nat} (h0 : RdD w0 A D) (hq : Q w0 w) (hB : w0.heap.size ≤ B) (hg : GrD B U w w') : RdD w' A D :=
  h0.q (hq.markD hB hg)
set_option maxHeartbeats 1000000 in
theorem markTrackS_any (A : Option Addr) (n c B U : Nat) (D : List (Nat × List Int)) (q : Int) (w : World) (ho : OwnD w B U A n c D) (hq0 : 0 ≤ q) (hn : q + tot D * 3 ≤ 1152921504606846976) (hn2 : n ≤ 9223372036854775807) :
    Calls Tryz.prog 27 #[.slice A n c, .int .i64 q] w fun e w' => e = .returned (.int .i64 (q + tot D * 3)) ∧ GrD B U w w' := by
  obtain ⟨ts, hts, h2, h3, h4, h5⟩ := ho
  have hl : ts.length = n := by simpa using h2.1
  have hD : D.length = n := by rw [← hts]; simpa using hl
  have HD := Lib.hid hD
  have HL := Lib.hid hl
  have HT := Lib.hid hts
  clear hD hl hts
  go_enter Tryz.func27, Tryz.ntmps27
  go_wp2_with fail
  go_loopw [1, 5] (fun v i wr => ∃ (k : Nat) (q1 : Int), k ≤ n ∧ i = .int .i64 k ∧ v = .int .i64 q1 ∧ Hid (q1 = q + (tot (D.take k) : Nat) * 3) ∧ wr.ownsRow B 47 1 (.slice A n c) n (ts.map Tk.val) ∧ (∀ T ∈ ts.drop k, Own wr B 114 3 (.slice T.A T.n T.c) T.n T.xs) ∧ GrD B U w wr) (fun _ i _ => n - (intOf i).toNat)
  case atStart => exact ⟨0, q, by omega, rfl, rfl, Lib.hid (by simp [tot]), h2, fun T hT => (h3 T (by simpa using hT)).1, GrD.refl _ _ _⟩
  case round =>
    clear h2
    obtain ⟨k, q1, hk, rfl, rfl, HQ, h2, hown, hg⟩ := hrel
    by_cases hlt : k < n
    · have hltI : (k : Int) < (n : Int) := by omega
      obtain ⟨g, rfl, hc⟩ := ownsRow_row h2 (by omega)
      have hkl : k < ts.length := by rw [HL.out]; exact hlt
      obtain ⟨T, hT⟩ : ∃ T, T = ts[k] := ⟨_, rfl⟩
      have hTk : ts[k]? = some T := by rw [List.getElem?_eq_getElem hkl, hT]
      have hTm : T ∈ ts := List.mem_of_getElem? hTk
      have hdr : ts.drop k = T :: ts.drop (k + 1) := by rw [hT]; exact List.drop_eq_getElem_cons hkl
      have g0 := hc k hlt
      rw [List.getElem?_map, hTk] at g0
      have g0 : wr.cell? ⟨g, k, none⟩ = some (.slice T.A T.n T.c) := g0
      have oT := hown T (by rw [hdr]; exact List.mem_cons_self ..)
      have HT1 := Lib.hid (tot_take (D := D) (k := k) (by rw [HD.out]; exact hlt))
      have HU := Lib.hid (tot_le D (k + 1))
      have hdn : dn D k = T.n := by
        unfold dn
        rw [← HT.out, List.getD_eq_getElem?_getD, List.getElem?_map, hTk]
        rfl
      rw [hdn] at HT1
      have hf := (h3 T hTm).2.1
      have hpw : ∀ S ∈ ts.drop (k + 1), Far T.A S.A := by
        have := h4.drop (i := k)
        rw [hdr] at this
        exact (List.pairwise_cons.1 this).1
      have K0 := Lib.hid (markFixS_any T.A T.n T.c B T.xs q1 wr oT (by have := HQ.out; omega) (by have := HQ.out; have := HT1.out; have := HU.out; omega))
      have HS := Lib.hid hpw
      have HR := Lib.hid hdr
      have HF := Lib.hid hf
      have HO := Lib.hid hown
      clear hpw hdr hf hown hc hdn hTm hTk hT oT hkl
      go_wp2_with (go_at_call 53; refine K0.out.mono ?_; rintro e w1 ⟨rfl, o1, g1⟩)
      go_roundw
      case rel =>
        refine ⟨k + 1, _, by omega, by go_num, rfl, Lib.hid (by have := HQ.out; have := HT1.out; omega), ?_, ?_, ?_⟩
        · refine World.ownsRow.kept h2 g1 ?_
          rcases hTA : T.A with _ | a
          · exact .inr (by simp [Value.ownBlock])
          · refine .inr ?_
            have := (HF.out a hTA).2.2 _ rfl
            simp only [Value.ownBlock, Option.map_some]
            intro e
            injection e with e
            exact this e.symm
        · intro S hS
          exact Own.far (HO.out S (by rw [HR.out]; exact List.mem_cons_of_mem _ hS)) g1 (HS.out S hS).symm
        · refine hg.grown g1 fun b hb => ?_
          rcases hTA : T.A with _ | a
          · rw [hTA] at hb; cases hb
          · rw [hTA] at hb
            simp only [Option.map_some, Option.some.injEq] at hb
            have := HF.out a hTA
            omega
      case measure => simp [intOf]; omega
    · obtain rfl : k = n := by omega
      go_wp2_with fail
      go_ret
      exact ⟨ret_int (by have := HQ.out; rw [List.take_of_length_le (by rw [HD.out]; omega)] at this; omega), hg⟩
end Go.Proofs.YtomgdgdcpgeilaaGreatDoor
namespace Go.Proofs.YtomgdgdcpgeilaaGreatDoor
open Go.RowKit Go.WideShapes Go.ChangeShapes Go.Deep
theorem made_one (v : Value) (N : Nat) : (madeCells #[v] N).toList = List.replicate N v := by
  apply List.ext_getElem
  · simp [madeCells]
  · intro i h1 h2
    simp [madeCells, Nat.mod_one]
/-- k tracks of n are copied. -/
def MkD9 (w wr : World) (n k : Nat) (D : List (Nat × List Int)) : Prop :=
  ∃ ts : List Tk, ts.length = k ∧ ts.map Tk.dat = D.take k ∧ wr.ownsRow w.heap.size 47 1 (.slice (some ⟨w.heap.size, 0, none⟩) n n) n (ts.map Tk.val ++ List.replicate (n - k) (.slice none 0 0)) ∧
    (∀ T ∈ ts, Own wr w.heap.size 114 3 (.slice T.A T.n T.c) T.n T.xs ∧ (∀ a, T.A = some a → w.heap.size < a.block) ∧ T.n ≤ 1048576) ∧
    ts.Pairwise (fun S T => Far S.A T.A)
theorem MkD9.q {w wr w' : World} {n k : Nat} {D : List (Nat × List Int)} (h : MkD9 w wr n k D) (hq : Q wr w') : MkD9 w w' n k D := by
  obtain ⟨ts, h0, h1, h2, h3, h4⟩ := h
  exact ⟨ts, h0, h1, ownsRow_q h2 hq, fun T hT => ⟨(h3 T hT).1.q hq, (h3 T hT).2⟩, h4⟩
theorem MkD9.frozen {w wr : World} {n k : Nat} {D : List (Nat × List Int)} (h : MkD9 w wr n k D) (j : Nat) : wr.frozen? ⟨w.heap.size, j, none⟩ = false := by
  obtain ⟨ts, h0, h1, h2, h3, h4⟩ := h
  exact World.ownsRow.frozenAt h2 j
theorem MkD9.cell {w wr : World} {n k : Nat} {D : List (Nat × List Int)} (h : MkD9 w wr n k D) (hk : k < n) : wr.cell? ⟨w.heap.size, k, none⟩ = some (.slice none 0 0) := by
  obtain ⟨ts, h0, h1, h2, h3, h4⟩ := h
  subst h0
  rw [World.ownsRow.cellAt h2 ts.length (by omega), List.getElem?_append_right (by simp), List.length_map, Nat.sub_self, List.getElem?_replicate, if_pos (by omega)]
theorem MkD9.step {w wr w1 : World} {n k c : Nat} {A : Option Addr} {D : List (Nat × List Int)} (h : MkD9 w wr n k D) (hD : D.length = n) (hk : k < n) (hq : Q wr w1)
    (ho : Own w1 wr.heap.size 114 3 (.slice A (dn D k) c) (dn D k) (dx D k)) (hn : dn D k ≤ 1048576) (hw : w.heap.size < wr.heap.size) : MkD9 w (w1.setCell ⟨w.heap.size, k, none⟩ (.slice A (dn D k) c)) n (k + 1) D := by
  obtain ⟨ts, h0, h1, h2, h3, h4⟩ := h
  have hf := ho.from
  have hst := (World.ownsRow.stored (ownsRow_q h2 hq) k (.slice A (dn D k) c)).1
  refine ⟨ts ++ [⟨A, dn D k, c, dx D k⟩], by simp [h0], ?_, ?_, ?_, ?_⟩
  · rw [List.map_append, h1, List.take_succ_eq_append_getElem (show k < D.length by omega)]
    congr 1
    simp [Tk.dat, dn, dx, List.getD_eq_getElem?_getD, List.getElem?_eq_getElem (show k < D.length by omega)]
  · have e : (ts.map Tk.val ++ List.replicate (n - k) (Value.slice none 0 0)).set k (.slice A (dn D k) c) = (ts ++ [(⟨A, dn D k, c, dx D k⟩ : Tk)]).map Tk.val ++ List.replicate (n - (k + 1)) (.slice none 0 0) := by
      rw [List.set_append_right (h := by simp [h0]), show n - k = (n - (k + 1)) + 1 by omega, List.replicate_succ]
      simp [h0, Tk.val]
    rw [← e]
    exact hst
  · intro T hT
    rcases List.mem_append.1 hT with hT | hT
    · have h5 := h3 T hT
      exact ⟨Own.setFar (h5.1.q hq) (fun a ha => by have := h5.2.1 a ha; omega) _ _, h5.2⟩
    · obtain rfl := List.mem_singleton.1 hT
      exact ⟨Own.setFar (ho.mono (Nat.le_of_lt hw)) (fun a ha => by have := hf a ha; omega) _ _, fun a ha => by have := hf a ha; omega, hn⟩
  · rw [List.pairwise_append]
    refine ⟨h4, List.pairwise_singleton _ _, fun S hS T hT a b ha hb => ?_⟩
    obtain rfl := List.mem_singleton.1 hT
    have h5 := (h3 S hS).1.from a ha
    have h6 := hf b hb
    omega
theorem MkD9.done {w wr : World} {n : Nat} {D : List (Nat × List Int)} (h : MkD9 w wr n n D) (hD : D.length = n) (hw : w.heap.size < wr.heap.size) : OwnD wr w.heap.size wr.heap.size (some ⟨w.heap.size, 0, none⟩) n n D := by
  obtain ⟨ts, h0, h1, h2, h3, h4⟩ := h
  refine ⟨ts, by rw [h1, List.take_of_length_le (by omega)], by simpa using h2, fun T hT => ?_, h4, fun a ha => by injection ha with ha; subst ha; exact ⟨Nat.le_refl _, hw⟩⟩
  have h5 := h3 T hT
  refine ⟨h5.1, fun a ha => ⟨(h5.1.from a ha).1, (h5.1.from a ha).2, fun r hr => ?_⟩, h5.2.2⟩
  injection hr with hr
  subst hr
  have := h5.2.1 a ha
  simp only
  omega
theorem infoTrack : (Tryz.prog.info? 47).map (fun i => (i.zero, i.size, i.bytes)) = some (some (.agg #[.slice none 0 0]), 1, 24) := by kernel_rfl
theorem dn_tot {D : List (Nat × List Int)} {k : Nat} (hk : k < D.length) : dn D k ≤ tot D := by
  have h1 := tot_take hk
  have h2 := tot_le D (k + 1)
  omega
set_option maxHeartbeats 1000000 in
theorem toTrackS_any (A : Option Addr) (n c : Nat) (D : List (Nat × List Int)) (w : World) (ha : RdD w A D) (hD : D.length = n) (hn2 : n ≤ 1048576) (ht : tot D ≤ 1048576) :
    Calls Tryz.prog 22 #[.slice A n c] w fun e w' => ∃ A' c', e = .returned (.slice A' n c') ∧ OwnD w' w.heap.size w'.heap.size A' n c' D ∧ Q w w' := by
  obtain ⟨i0, hi, hz0, hz1, hz2⟩ := info_parts infoTrack
  have HD := Lib.hid hD
  clear hD
  go_enter Tryz.func22, Tryz.ntmps22
  go_wp2_with (at_make; refine wpList_make_full _ rfl _ _ 67 rfl w.heap.size 47 i0 (.agg #[.slice none 0 0]) 1 Tryz.underlying67 hi hz0 hz1 .i64 .i64 n n n rfl rfl rfl rfl (by rw [hz2]; omega) (by unfold maxLen; omega) (Nat.le_refl _) ?_; intro w1 hown hgrow)
  rw [show (madeCells (Value.agg #[.slice none 0 0]).cells (n * 1)).toList = _ from made_one _ _, Nat.mul_one] at hown
  have hq0 : Q w w1 := (Q.refl w).grown hgrow (by simp)
  have hw1 := (World.ownsRow.lt hown _ rfl).2
  have HM : MkD9 w w1 n 0 D := ⟨[], rfl, by simp, by simpa using hown, fun T hT => by simp at hT, List.Pairwise.nil⟩
  clear hgrow hi hz0 hz1 hz2 hown
  go_loopw [4] (fun i wr => ∃ k : Nat, k ≤ n ∧ i = .int .i64 k ∧ MkD9 w wr n k D ∧ Q w wr ∧ w.heap.size < wr.heap.size) (fun i _ => n - (intOf i).toNat)
  case atStart => exact ⟨0, by omega, rfl, HM, hq0, hw1⟩
  case round =>
    clear HM hq0 hw1
    obtain ⟨k, hk, rfl, HM, hq, hw⟩ := hrel
    by_cases hlt : k < n
    · have hltI : (k : Int) < (n : Int) := by omega
      obtain ⟨b, o, B, cc, rfl, g0, hr, hx, _⟩ := (ha.q hq).at_ HD.out hlt
      have hm : dn D k ≤ 1048576 := by have := dn_tot (D := D) (k := k) (by rw [HD.out]; exact hlt); omega
      have HX := Lib.hid hx
      have K0 := Lib.hid (fun wv (h : Rd wv B (dx D k)) => toTrack_any B (dn D k) cc (dx D k) wv h HX.out hm)
      have HS := Lib.hid (fun w1 (c : Nat) (A : Option Addr) (hq : Q wr w1) (ho : Own w1 wr.heap.size 114 3 (.slice A (dn D k) c) (dn D k) (dx D k)) => HM.step HD.out hlt hq ho hm hw)
      have HF := Lib.hid (fun w1 (hq : Q wr w1) => (HM.q hq).cell hlt)
      have HG := Lib.hid (fun w1 (hq : Q wr w1) => (HM.q hq).frozen k)
      obtain ⟨m, hme⟩ : ∃ m, m = dn D k := ⟨_, rfl⟩
      obtain ⟨xs, hxe⟩ : ∃ xs, xs = dx D k := ⟨_, rfl⟩
      rw [← hme] at g0 K0 HS hm
      rw [← hxe] at K0 HS hr
      clear hme hxe hx HX HM
      go_wp2_with (go_at_call 11; refine (K0.out _ hr).mono ?_; rintro e w2 ⟨A1, c1, rfl, o1, q1⟩; have c2 := HF.out _ q1; have f2 := HG.out _ q1)
      have s1 := q1.size
      go_roundw
      case rel => exact ⟨k + 1, by omega, by go_num, HS.out _ _ _ q1 o1, (hq.trans q1).setCell (Nat.le_refl _) _, by simp; omega⟩
      case measure => simp [intOf]; omega
    · obtain rfl : k = n := by omega
      go_wp2_with fail
      go_ret
      exact ⟨_, _, rfl, HM.done HD.out hw, hq⟩
set_option maxRecDepth 100000 in
/-- An argument that is a slice of tracks. -/
theorem open_tracks {H : Type} {enc : TypeId × Value → H} {w : World} {base : Nat} {spare : Nat → Bool} {held : Bool} {r : Reach} {b0 : Nat} {v : Value} {d : DataW H} {p : List MemPlace}
    (hv : Value.okWide Tryz.prog w r b0 62 v) (h : DataW.Trod enc Tryz.prog w base spare held 62 v d p) :
    ∃ A len cap D, v = .slice A len cap ∧ D.length = len ∧ RdD w A D ∧ len ≤ cap ∧ cap ≤ maxLen := by
  obtain ⟨A, len, cap, rfl⟩ := okWide_slice Tryz.underlying62 hv
  obtain ⟨fuel, hf⟩ := h
  rcases open_slice Tryz.underlying62 hf with ⟨hcs, _⟩ | ⟨a, len', cap', m, n, Dd, Pl, hcs, hb, hl, hm, hmm, hx, hi⟩
  · simp [Value.cells] at hcs
    obtain ⟨rfl, rfl, rfl⟩ := hcs
    exact ⟨none, 0, 0, [], rfl, rfl, ⟨[], ⟨0, 0, fun h => absurd h (by simp), fun j hj => absurd hj (by simp)⟩, rfl⟩, Nat.le_refl _, Nat.zero_le _⟩
  · simp [Value.cells] at hcs
    obtain ⟨rfl, rfl, rfl⟩ := hcs
    have hlm : len ≤ m := by rw [hmm]; split <;> omega
    have hC : Tryz.prog.cellsOf 31 = 1 := by kernel_rfl
    have hX : ∀ i, i < len → ∃ T : Tk, w.cell? (a.add i) = some (.slice T.A T.n T.c) ∧ T.ok w := by
      intro i hil
      obtain ⟨cs', hc, ht'⟩ := hi i (by omega)
      rw [hC] at hc
      obtain ⟨_, hcl, hat⟩ := World.cells?_some hc
      have h1 := hat 0 (by omega)
      obtain ⟨xs, n1, _, hx1, _, hlen, hg⟩ := DataW.trod_struct Tryz.underlying31 ht'
      have h0 := hg 0 _ rfl
      cases hx0 : xs[0]? with
      | none => simp at hx0; simp [hx0] at hlen
      | some y =>
        rw [hx0] at h0
        obtain ⟨A, l0, c0, ys, hc0, hl0, hr0, _, hb1, hb2⟩ := open_rows0 Tryz.underlying29 flatFix (by kernel_rfl) (by decide) h0
        have h24 : Tryz.prog.cellsOf 29 = 1 := by kernel_rfl
        match cs', hcl with
        | [c], _ =>
          have hc' : c = .slice A l0 c0 := by simpa [h24] using hc0
          subst hc'
          refine ⟨⟨A, l0, c0, ys⟩, ?_, hr0, hl0, by simp only; unfold maxLen at hb2; omega⟩
          have e0 : (a.add (i * 1)).add 0 = a.add i := by simp [Addr.add]
          rw [e0] at h1
          simpa using h1
    obtain ⟨X, hX⟩ : ∃ X : Nat → Tk, ∀ i, i < len → w.cell? (a.add i) = some (.slice (X i).A (X i).n (X i).c) ∧ (X i).ok w := by
      refine ⟨fun i => if h : i < len then (hX i h).choose else ⟨none, 0, 0, []⟩, fun i hil => ?_⟩
      simp only [dif_pos hil]
      exact (hX i hil).choose_spec
    refine ⟨some a, len, cap, ((List.range len).map X).map Tk.dat, rfl, by simp, ⟨(List.range len).map X, ?_, rfl⟩, hl, hm⟩
    rcases Nat.eq_zero_or_pos len with rfl | hpos
    · exact ⟨0, 0, fun h => absurd h (by simp), fun j hj => absurd hj (by simp)⟩
    · obtain ⟨b, off, spot⟩ := a
      have hspot : spot = none := by simpa [Addr.add] using World.cell?_spot ((hX 0 hpos).1)
      subst hspot
      refine ⟨b, off, fun _ => rfl, fun j hj => ?_⟩
      have hj : j < len := by simpa using hj
      have := hX j hj
      rw [Go.WideShapes.add_plain] at this
      simpa using this
end Go.Proofs.YtomgdgdcpgeilaaGreatDoor
