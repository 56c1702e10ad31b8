/- Words and walks: slices of tracks (measured, copied, equal, marked), for all arguments. No condition. Walks: the copy of a slice of tracks, for all arguments. No condition. -/
import Derived.Test.YteofhfefbphjdaaGreatDoorEarly
namespace Go.Proofs.YteofhfefbphjdaaGreatDoor
open Go.RowKit Go.WideShapes Go.ChangeShapes
def Tk.dat (T : Tk) : Nat × List Int := (T.n, T.xs)
def Tk.val (T : Tk) : Value := .slice T.A T.n T.c
/-- A slice of tracks, by the numbers of each. -/
def RdD (w : World) (A : Option Addr) (D : List (Nat × List Int)) : Prop := ∃ ts, RdT w A ts ∧ ts.map Tk.dat = D
theorem RdD.q {w w' : World} {A : Option Addr} {D : List (Nat × List Int)} (h : RdD w A D) (hq : Q w w') : RdD w' A D := by
  obtain ⟨ts, h1, h2⟩ := h
  exact ⟨ts, h1.q hq, h2⟩
def dn (D : List (Nat × List Int)) (k : Nat) : Nat := (D.getD k (0, [])).1
def dx (D : List (Nat × List Int)) (k : Nat) : List Int := (D.getD k (0, [])).2
theorem RdD.at_ {w : World} {A : Option Addr} {D : List (Nat × List Int)} {n k : Nat} (h : RdD w A D) (hD : D.length = n) (hk : k < n) :
    ∃ b o B c, A = some ⟨b, o, none⟩ ∧ w.cell? ⟨b, o + k, none⟩ = some (.slice B (dn D k) c) ∧ Rd w B (dx D k) ∧ (dx D k).length = dn D k * 3 ∧ dn D k ≤ 9223372036854775807 := by
  obtain ⟨ts, h1, rfl⟩ := h
  obtain ⟨b, o, T, hA, hT, hc, hok⟩ := h1.at_ (by simpa using hD) hk
  refine ⟨b, o, T.A, T.c, hA, ?_⟩
  have hd : (ts.map Tk.dat).getD k (0, []) = T.dat := by rw [List.getD_eq_getElem?_getD, List.getElem?_map, hT]; rfl
  unfold dn dx
  rw [hd]
  exact ⟨hc, hok.1, hok.2.1, hok.2.2⟩
def tot (D : List (Nat × List Int)) : Nat := (D.map (·.1)).sum
theorem tot_take {D : List (Nat × List Int)} {k : Nat} (hk : k < D.length) : tot (D.take (k + 1)) = tot (D.take k) + dn D k := by
  unfold tot dn
  rw [List.take_add_one, List.getElem?_eq_getElem hk, List.map_append, List.sum_append, List.getD_eq_getElem?_getD, List.getElem?_eq_getElem hk]
  simp
theorem tot_le (D : List (Nat × List Int)) (k : Nat) : tot (D.take k) ≤ tot D := by
  have h : tot D = tot (D.take k) + tot (D.drop k) := by
    unfold tot
    rw [← List.sum_append, ← List.map_append, List.take_append_drop]
  omega
/-! ### What a call that copies tracks owns -/
def OwnD (w : World) (B U : Nat) (A : Option Addr) (n c : Nat) (D : List (Nat × List Int)) : Prop :=
  ∃ ts : List Tk, ts.map Tk.dat = D ∧ w.ownsRow B 43 1 (.slice A n c) n (ts.map Tk.val) ∧
    (∀ T ∈ ts, Own w B 98 3 (.slice T.A T.n T.c) T.n T.xs ∧ (∀ a, T.A = some a → B ≤ a.block ∧ a.block < U ∧ ∀ r, A = some r → a.block ≠ r.block) ∧ T.n ≤ 1048576) ∧
    ts.Pairwise (fun S T => Far S.A T.A) ∧ (∀ a, A = some a → B ≤ a.block ∧ a.block < U)
theorem ownsRow_q {w w' : World} {B : Nat} {e : TypeId} {k : Nat} {v : Value} {n : Nat} {xs : List Value} (h : w.ownsRow B e k v n xs) (hq : Q w w') : w'.ownsRow B e k v n xs :=
  World.ownsRow.kept (row := none) h ⟨hq.os, hq.tape, hq.output, hq.size, fun i hi _ => hq.block i hi⟩ (by
    cases hv : v.ownBlock with
    | none => exact .inl rfl
    | some _ => exact .inr (by simp))
theorem OwnD.q {w w' : World} {B U : Nat} {A : Option Addr} {n c : Nat} {D : List (Nat × List Int)} (h : OwnD w B U A n c D) (hq : Q w w') : OwnD w' B U A n c D := by
  obtain ⟨ts, h1, h2, h3, h4, h5⟩ := h
  exact ⟨ts, h1, ownsRow_q h2 hq, fun T hT => ⟨(h3 T hT).1.q hq, (h3 T hT).2⟩, h4, h5⟩
theorem OwnD.from {w : World} {B U : Nat} {A : Option Addr} {n c : Nat} {D : List (Nat × List Int)} (h : OwnD w B U A n c D) : ∀ a, A = some a → B ≤ a.block ∧ a.block < U := h.choose_spec.2.2.2.2
theorem ownsRow_row {w : World} {B : Nat} {e : TypeId} {A : Option Addr} {n c : Nat} {xs : List Value} (h : w.ownsRow B e 1 (.slice A n c) n xs) (hn : 0 < n) : ∃ g, A = some ⟨g, 0, none⟩ ∧ ∀ j, j < n → w.cell? ⟨g, j, none⟩ = xs[j]? := by
  rcases h.2 with ⟨h', h0⟩ | ⟨g, cap, cur, h', hg, _⟩
  · omega
  · injection h' with h1 _ _
    subst h1
    exact ⟨g, rfl, fun j hj => World.ownsRow.cellAt h j (by omega)⟩
theorem OwnD.rd {w : World} {B U : Nat} {A : Option Addr} {n c : Nat} {D : List (Nat × List Int)} (h : OwnD w B U A n c D) : RdD w A D := by
  obtain ⟨ts, h1, h2, h3, h4, h5⟩ := h
  refine ⟨ts, ?_, h1⟩
  have hl : ts.length = n := by simpa using h2.1
  rcases Nat.eq_zero_or_pos n with hn | hn
  · exact ⟨0, 0, fun h => by omega, fun j hj => by omega⟩
  · obtain ⟨g, rfl, hc⟩ := ownsRow_row h2 hn
    refine ⟨g, 0, fun _ => rfl, fun j hj => ⟨?_, (h3 _ (List.getElem_mem hj)).1.rd, (h3 _ (List.getElem_mem hj)).1.len, by have := (h3 _ (List.getElem_mem hj)).2.2; omega⟩⟩
    rw [Nat.zero_add, hc j (by omega), List.getElem?_map, List.getElem?_eq_getElem hj]
    rfl
/-- What was made in the blocks from B to U is written; all else stands. -/
structure GrD (B U : Nat) (w w' : World) : Prop where
  os : w'.os = w.os
  tape : w'.tape = w.tape
  output : w'.output = w.output
  size : w.heap.size ≤ w'.heap.size
  block : ∀ i, i < w.heap.size → (i < B ∨ U ≤ i) → w'.heap[i]? = w.heap[i]?
theorem GrD.refl (B U : Nat) (w : World) : GrD B U w w := ⟨rfl, rfl, rfl, Nat.le_refl _, fun _ _ _ => rfl⟩
theorem GrD.grown {B U : Nat} {a w w' : World} {row : Option Nat} (h : GrD B U a w) (hg : w.grownBy w' row) (hr : ∀ k, row = some k → B ≤ k ∧ k < U) : GrD B U a w' :=
  ⟨hg.os.trans h.os, hg.tape.trans h.tape, hg.output.trans h.output, Nat.le_trans h.size hg.size, fun i hi hB => (hg.block i (Nat.lt_of_lt_of_le hi h.size) (fun e => by have := hr i e.symm; omega)).trans (h.block i hi hB)⟩
theorem Q.markD {a w w' : World} {B U : Nat} (h : Q a w) (hB : a.heap.size ≤ B) (hg : GrD B U w w') : Q a w' :=
  ⟨hg.os.trans h.os, hg.tape.trans h.tape, hg.output.trans h.output, Nat.le_trans h.size hg.size, fun i hi => (hg.block i (Nat.lt_of_lt_of_le hi h.size) (.inl (Nat.lt_of_lt_of_le hi hB))).trans (h.block i hi)⟩
theorem Blk.markD {w w' : World} {g : Nat} {t : TypeId} {cs : Array Value} {B U : Nat} (h : Blk w g t cs) (hB : g < B ∨ U ≤ g) (hg : GrD B U w w') : Blk w' g t cs := (hg.block g h.lt hB).trans h
theorem Own.markD {w w' : World} {B U C k n c : Nat} {e : TypeId} {A : Option Addr} {xs : List Int} (h : Own w C e k (.slice A n c) n xs) (hf : ∀ a, A = some a → a.block < B ∨ U ≤ a.block) (hg : GrD B U w w') : Own w' C e k (.slice A n c) n xs := by
  refine ⟨h.1, ?_⟩
  rcases h.2 with h2 | ⟨g, cap, cur, h1, h3, h4, h5⟩
  · exact .inl h2
  · refine .inr ⟨g, cap, cur, h1, h3, ?_, h5⟩
    injection h1 with h1 _ _
    rw [← h4]
    refine hg.block g ?_ (hf _ h1)
    rcases Nat.lt_or_ge g w.heap.size with hlt | hge
    · exact hlt
    · rw [Array.getElem?_eq_none hge] at h4; cases h4
theorem cell_below {w w' : World} {i o : Nat} (h : w'.heap[i]? = w.heap[i]?) : w'.cell? ⟨i, o, none⟩ = w.cell? ⟨i, o, none⟩ := by
  simp [World.cell?, h]
theorem Rd.markD {w0 w w' : World} {A : Option Addr} {xs : List Int} {B U : Nat} (h0 : Rd w0 A xs) (h : Rd w A xs) (hB : w0.heap.size ≤ B) (hs : w0.heap.size ≤ w.heap.size) (hg : GrD B U w w') : Rd w' A xs := by
  by_cases hx : xs.length = 0
  · have : xs = [] := List.eq_nil_of_length_eq_zero hx
    subst this
    exact Rd.nil _ _
  · obtain ⟨b, o, hA, hc⟩ := h0
    obtain ⟨b', o', hA', hc'⟩ := h
    have h1 := World.block_lt_of_cell? w0 _ (hc 0 (by omega))
    have e := (hA (by omega)).symm.trans (hA' (by omega))
    simp only [Option.some.injEq, Addr.mk.injEq, and_true] at e
    obtain ⟨rfl, rfl⟩ := e
    refine ⟨b, o, hA, fun j hj => ?_⟩
    rw [cell_below (hg.block b (by simp only at h1; omega) (.inl (by simp only at h1; omega)))]
    exact hc' j hj
theorem RdD.markD {w0 w w' : World} {A : Option Addr} {D : List (Nat × List Int)} {B U : Nat} (h0 : RdD w0 A D) (hq : Q w0 w) (hB : w0.heap.size ≤ B) (hg : GrD B U w w') : RdD w' A D :=
  h0.q (hq.markD hB hg)
end Go.Proofs.YteofhfefbphjdaaGreatDoor
namespace Go.Proofs.YteofhfefbphjdaaGreatDoor
open Go.RowKit Go.WideShapes Go.ChangeShapes Go.Deep
theorem made_one (v : Value) (N : Nat) : (madeCells #[v] N).toList = List.replicate N v := by
  apply List.ext_getElem
  · simp [madeCells]
  · intro i h1 h2
    simp [madeCells, Nat.mod_one]
/-- k tracks of n are copied. -/
def MkD9 (w wr : World) (n k : Nat) (D : List (Nat × List Int)) : Prop :=
  ∃ ts : List Tk, ts.length = k ∧ ts.map Tk.dat = D.take k ∧ wr.ownsRow w.heap.size 43 1 (.slice (some ⟨w.heap.size, 0, none⟩) n n) n (ts.map Tk.val ++ List.replicate (n - k) (.slice none 0 0)) ∧
    (∀ T ∈ ts, Own wr w.heap.size 98 3 (.slice T.A T.n T.c) T.n T.xs ∧ (∀ a, T.A = some a → w.heap.size < a.block) ∧ T.n ≤ 1048576) ∧
    ts.Pairwise (fun S T => Far S.A T.A)
theorem MkD9.q {w wr w' : World} {n k : Nat} {D : List (Nat × List Int)} (h : MkD9 w wr n k D) (hq : Q wr w') : MkD9 w w' n k D := by
  obtain ⟨ts, h0, h1, h2, h3, h4⟩ := h
  exact ⟨ts, h0, h1, ownsRow_q h2 hq, fun T hT => ⟨(h3 T hT).1.q hq, (h3 T hT).2⟩, h4⟩
theorem MkD9.frozen {w wr : World} {n k : Nat} {D : List (Nat × List Int)} (h : MkD9 w wr n k D) (j : Nat) : wr.frozen? ⟨w.heap.size, j, none⟩ = false := by
  obtain ⟨ts, h0, h1, h2, h3, h4⟩ := h
  exact World.ownsRow.frozenAt h2 j
theorem MkD9.cell {w wr : World} {n k : Nat} {D : List (Nat × List Int)} (h : MkD9 w wr n k D) (hk : k < n) : wr.cell? ⟨w.heap.size, k, none⟩ = some (.slice none 0 0) := by
  obtain ⟨ts, h0, h1, h2, h3, h4⟩ := h
  subst h0
  rw [World.ownsRow.cellAt h2 ts.length (by omega), List.getElem?_append_right (by simp), List.length_map, Nat.sub_self, List.getElem?_replicate, if_pos (by omega)]
theorem MkD9.step {w wr w1 : World} {n k c : Nat} {A : Option Addr} {D : List (Nat × List Int)} (h : MkD9 w wr n k D) (hD : D.length = n) (hk : k < n) (hq : Q wr w1)
    (ho : Own w1 wr.heap.size 98 3 (.slice A (dn D k) c) (dn D k) (dx D k)) (hn : dn D k ≤ 1048576) (hw : w.heap.size < wr.heap.size) : MkD9 w (w1.setCell ⟨w.heap.size, k, none⟩ (.slice A (dn D k) c)) n (k + 1) D := by
  obtain ⟨ts, h0, h1, h2, h3, h4⟩ := h
  have hf := ho.from
  have hst := (World.ownsRow.stored (ownsRow_q h2 hq) k (.slice A (dn D k) c)).1
  refine ⟨ts ++ [⟨A, dn D k, c, dx D k⟩], by simp [h0], ?_, ?_, ?_, ?_⟩
  · rw [List.map_append, h1, List.take_succ_eq_append_getElem (show k < D.length by omega)]
    congr 1
    simp [Tk.dat, dn, dx, List.getD_eq_getElem?_getD, List.getElem?_eq_getElem (show k < D.length by omega)]
  · have e : (ts.map Tk.val ++ List.replicate (n - k) (Value.slice none 0 0)).set k (.slice A (dn D k) c) = (ts ++ [(⟨A, dn D k, c, dx D k⟩ : Tk)]).map Tk.val ++ List.replicate (n - (k + 1)) (.slice none 0 0) := by
      rw [List.set_append_right (h := by simp [h0]), show n - k = (n - (k + 1)) + 1 by omega, List.replicate_succ]
      simp [h0, Tk.val]
    rw [← e]
    exact hst
  · intro T hT
    rcases List.mem_append.1 hT with hT | hT
    · have h5 := h3 T hT
      exact ⟨Own.setFar (h5.1.q hq) (fun a ha => by have := h5.2.1 a ha; omega) _ _, h5.2⟩
    · obtain rfl := List.mem_singleton.1 hT
      exact ⟨Own.setFar (ho.mono (Nat.le_of_lt hw)) (fun a ha => by have := hf a ha; omega) _ _, fun a ha => by have := hf a ha; omega, hn⟩
  · rw [List.pairwise_append]
    refine ⟨h4, List.pairwise_singleton _ _, fun S hS T hT a b ha hb => ?_⟩
    obtain rfl := List.mem_singleton.1 hT
    have h5 := (h3 S hS).1.from a ha
    have h6 := hf b hb
    omega
theorem MkD9.done {w wr : World} {n : Nat} {D : List (Nat × List Int)} (h : MkD9 w wr n n D) (hD : D.length = n) (hw : w.heap.size < wr.heap.size) : OwnD wr w.heap.size wr.heap.size (some ⟨w.heap.size, 0, none⟩) n n D := by
  obtain ⟨ts, h0, h1, h2, h3, h4⟩ := h
  refine ⟨ts, by rw [h1, List.take_of_length_le (by omega)], by simpa using h2, fun T hT => ?_, h4, fun a ha => by injection ha with ha; subst ha; exact ⟨Nat.le_refl _, hw⟩⟩
  have h5 := h3 T hT
  refine ⟨h5.1, fun a ha => ⟨(h5.1.from a ha).1, (h5.1.from a ha).2, fun r hr => ?_⟩, h5.2.2⟩
  injection hr with hr
  subst hr
  have := h5.2.1 a ha
  simp only
  omega
theorem infoTrack : (Tryz.prog.info? 43).map (fun i => (i.zero, i.size, i.bytes)) = some (some (.agg #[.slice none 0 0]), 1, 24) := by kernel_rfl
theorem dn_tot {D : List (Nat × List Int)} {k : Nat} (hk : k < D.length) : dn D k ≤ tot D := by
  have h1 := tot_take hk
  have h2 := tot_le D (k + 1)
  omega
end Go.Proofs.YteofhfefbphjdaaGreatDoor
