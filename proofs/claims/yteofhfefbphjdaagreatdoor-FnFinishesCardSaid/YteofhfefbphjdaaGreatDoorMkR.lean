/- Walks: courses and their marks in the laws (measured, copied, equal), for all arguments. No condition. -/
import Derived.Test.YteofhfefbphjdaaGreatDoorMkB
import Derived.Test.YteofhfefbphjdaaGreatDoorEarlyL
import Derived.Test.YteofhfefbphjdaaGreatDoorTdsT
namespace Go.Proofs.YteofhfefbphjdaaGreatDoor
open Go.RowKit Go.WideShapes Go.ChangeShapes
/-- The letters of the names of marks. -/
def tmN (ms : List Mk) : Nat := (ms.map fun m => m.nm.size).sum
theorem tmN_take {ms : List Mk} {k : Nat} (hk : k < ms.length) : tmN (ms.take (k + 1)) = tmN (ms.take k) + (mx ms k).nm.size := by
  unfold tmN mx
  rw [List.take_add_one, List.getElem?_eq_getElem hk, List.map_append, List.sum_append, List.getD_eq_getElem?_getD, List.getElem?_eq_getElem hk]
  simp
theorem tmN_le (ms : List Mk) (k : Nat) : tmN (ms.take k) ≤ tmN ms := by
  have h : tmN ms = tmN (ms.take k) + tmN (ms.drop k) := by
    unfold tmN
    rw [← List.sum_append, ← List.map_append, List.take_append_drop]
  omega
theorem infoMark : (Tryz.prog.info? 85).map (fun i => (i.zero, i.size, i.bytes)) = some (some (.agg #[.string ByteArray.empty, .int .i64 0, .int .i64 0, .int .i64 0, .int .i64 0]), 5, 48) := by kernel_rfl
/-- k marks of n are copied. -/
def MkC9 (w wr : World) (n k : Nat) (ms : List Mk) : Prop :=
  ∃ vs : List Value, wr.ownsRow w.heap.size 85 5 (.slice (some ⟨w.heap.size, 0, none⟩) n n) n vs ∧ vs.length = n * 5 ∧
    ∀ j, j < k → vs[j * 5]? = some (.string (mx ms j).nm) ∧ vs[j * 5 + 1]? = some (.int .i64 (mx ms j).x) ∧ vs[j * 5 + 2]? = some (.int .i64 (mx ms j).y) ∧ vs[j * 5 + 3]? = some (.int .i64 (mx ms j).sd) ∧ vs[j * 5 + 4]? = some (.int .i64 (mx ms j).zn)
theorem MkC9.q {w wr w' : World} {n k : Nat} {ms : List Mk} (h : MkC9 w wr n k ms) (hq : Q wr w') : MkC9 w w' n k ms := by
  obtain ⟨vs, h0, h1, h2⟩ := h
  exact ⟨vs, ownsRow_q h0 hq, h1, h2⟩
theorem MkC9.frozen {w wr : World} {n k : Nat} {ms : List Mk} (h : MkC9 w wr n k ms) (j : Nat) : wr.frozen? ⟨w.heap.size, j, none⟩ = false := by
  obtain ⟨vs, h0, h1, h2⟩ := h
  exact World.ownsRow.frozenAt h0 j
theorem MkC9.cell {w wr : World} {n k : Nat} {ms : List Mk} (h : MkC9 w wr n k ms) (i : Nat) (hi : i < n * 5) : ∃ u, wr.cell? ⟨w.heap.size, i, none⟩ = some u := by
  obtain ⟨vs, h0, h1, h2⟩ := h
  exact ⟨vs[i]'(by omega), by rw [World.ownsRow.cellAt h0 i hi, List.getElem?_eq_getElem]⟩
theorem set_far {vs : List Value} {i j : Nat} {u : Value} (h : i ≠ j) : (vs.set i u)[j]? = vs[j]? := List.getElem?_set_ne h
theorem set_at {vs : List Value} {i : Nat} {u : Value} (h : i < vs.length) : (vs.set i u)[i]? = some u := by rw [List.getElem?_set_self h]
theorem MkC9.step {w wr : World} {n k : Nat} {ms : List Mk} (h : MkC9 w wr n k ms) (hk : k < n) : MkC9 w (((((wr.setCell ⟨w.heap.size, k * 5, none⟩ (.string (mx ms k).nm)).setCell ⟨w.heap.size, k * 5 + 1, none⟩ (.int .i64 (mx ms k).x)).setCell ⟨w.heap.size, k * 5 + 2, none⟩ (.int .i64 (mx ms k).y)).setCell ⟨w.heap.size, k * 5 + 3, none⟩ (.int .i64 (mx ms k).sd)).setCell ⟨w.heap.size, k * 5 + 4, none⟩ (.int .i64 (mx ms k).zn)) n (k + 1) ms := by
  obtain ⟨vs, h0, h1, h2⟩ := h
  have s0 := (World.ownsRow.stored h0 (k * 5) (.string (mx ms k).nm)).1
  have s1 := (World.ownsRow.stored s0 (k * 5 + 1) (.int .i64 (mx ms k).x)).1
  have s2 := (World.ownsRow.stored s1 (k * 5 + 2) (.int .i64 (mx ms k).y)).1
  have s3 := (World.ownsRow.stored s2 (k * 5 + 3) (.int .i64 (mx ms k).sd)).1
  have s4 := (World.ownsRow.stored s3 (k * 5 + 4) (.int .i64 (mx ms k).zn)).1
  refine ⟨_, s4, by simpa using h1, fun j hj => ?_⟩
  by_cases hjk : j = k
  · subst hjk
    refine ⟨?_, ?_, ?_, ?_, ?_⟩
    · rw [set_far (by omega), set_far (by omega), set_far (by omega), set_far (by omega), set_at (by first | omega | (simp only [List.length_set]; omega))]
    · rw [set_far (by omega), set_far (by omega), set_far (by omega), set_at (by first | omega | (simp only [List.length_set]; omega))]
    · rw [set_far (by omega), set_far (by omega), set_at (by first | omega | (simp only [List.length_set]; omega))]
    · rw [set_far (by omega), set_at (by first | omega | (simp only [List.length_set]; omega))]
    · rw [set_at (by first | omega | (simp only [List.length_set]; omega))]
  · obtain ⟨a0, a1, a2, a3, a4⟩ := h2 j (by omega)
    refine ⟨?_, ?_, ?_, ?_, ?_⟩ <;> rw [set_far (by omega), set_far (by omega), set_far (by omega), set_far (by omega), set_far (by omega)] <;> assumption
theorem MkC9.done {w wr : World} {n : Nat} {ms : List Mk} (h : MkC9 w wr n n ms) (hD : ms.length = n) (hs : ∀ k, k < n → (mx ms k).nm.size ≤ maxLen) : RdM wr (some ⟨w.heap.size, 0, none⟩) ms := by
  obtain ⟨vs, h0, h1, h2⟩ := h
  refine ⟨w.heap.size, 0, fun _ => rfl, fun k hk => ⟨?_, hs k (by omega)⟩⟩
  obtain ⟨a0, a1, a2, a3, a4⟩ := h2 k (by omega)
  simp only [Nat.zero_add]
  exact ⟨(World.ownsRow.cellAt h0 _ (by omega)).trans a0, (World.ownsRow.cellAt h0 _ (by omega)).trans a1, (World.ownsRow.cellAt h0 _ (by omega)).trans a2, (World.ownsRow.cellAt h0 _ (by omega)).trans a3, (World.ownsRow.cellAt h0 _ (by omega)).trans a4⟩
theorem RdM.szs {w : World} {A : Option Addr} {ms : List Mk} {n : Nat} (h : RdM w A ms) (hD : ms.length = n) : ∀ k, k < n → (mx ms k).nm.size ≤ maxLen := fun k hk => by
  obtain ⟨_, _, _, _, _, _, _, _, hs⟩ := h.at_ hD hk
  exact hs
/-- A row of marks of one's own, in a block from B to U. -/
def OwM (w : World) (B U : Nat) (A : Option Addr) (n : Nat) (ms : List Mk) : Prop := ∃ (g : Nat) (vs : Array Value), A = some ⟨g, 0, none⟩ ∧ B ≤ g ∧ g < U ∧ Blk w g 85 vs ∧ vs.size = n * 5 ∧ RdM w A ms
theorem OwM.rd {w : World} {B U : Nat} {A : Option Addr} {n : Nat} {ms : List Mk} (h : OwM w B U A n ms) : RdM w A ms := by
  obtain ⟨_, _, _, _, _, _, _, h⟩ := h
  exact h
theorem OwM.from {w : World} {B U : Nat} {A : Option Addr} {n : Nat} {ms : List Mk} (h : OwM w B U A n ms) : ∀ a, A = some a → B ≤ a.block ∧ a.block < U := by
  obtain ⟨g, vs, rfl, h1, h2, _, _, _⟩ := h
  intro a ha
  injection ha with ha
  subst ha
  exact ⟨h1, h2⟩
theorem OwM.q {w w' : World} {B U : Nat} {A : Option Addr} {n : Nat} {ms : List Mk} (h : OwM w B U A n ms) (hq : Q w w') : OwM w' B U A n ms := by
  obtain ⟨g, vs, h0, h1, h2, h3, h4, h5⟩ := h
  exact ⟨g, vs, h0, h1, h2, h3.q hq, h4, h5.q hq⟩
theorem OwM.mono {w : World} {B U B' U' : Nat} {A : Option Addr} {n : Nat} {ms : List Mk} (h : OwM w B U A n ms) (hB : B' ≤ B) (hU : U ≤ U') : OwM w B' U' A n ms := by
  obtain ⟨g, vs, h0, h1, h2, h3, h4, h5⟩ := h
  exact ⟨g, vs, h0, Nat.le_trans hB h1, Nat.lt_of_lt_of_le h2 hU, h3, h4, h5⟩
theorem MkC9.own {w wr : World} {n : Nat} {ms : List Mk} (h : MkC9 w wr n n ms) (hD : ms.length = n) (hs : ∀ k, k < n → (mx ms k).nm.size ≤ maxLen) : OwM wr w.heap.size wr.heap.size (some ⟨w.heap.size, 0, none⟩) n ms := by
  have hr := h.done hD hs
  obtain ⟨vs, h0, h1, h2⟩ := h
  rcases h0.2 with ⟨h', _⟩ | ⟨g', cap', cur, h', hb, hg, hnc, hcm, hcs, htake⟩
  · simp at h'
  · simp only [Value.slice.injEq, Option.some.injEq, Addr.mk.injEq, and_true, true_and] at h'
    obtain ⟨rfl, rfl⟩ := h'
    exact ⟨_, cur, rfl, Nat.le_refl _, Blk.lt hg, hg, hcs, hr⟩
def Mk.v (m : Mk) : Value := .agg #[.string m.nm, .int .i64 m.x, .int .i64 m.y, .int .i64 m.sd, .int .i64 m.zn]
theorem RdM.far {w : World} {g : Nat} {ms : List Mk} (h : RdM w (some ⟨g, 0, none⟩) ms) {p : Addr} (hp : g ≠ p.block) (u : Value) : RdM (w.setCell p u) (some ⟨g, 0, none⟩) ms := by
  obtain ⟨b, o, hA, hc⟩ := h
  refine ⟨b, o, hA, fun k hk => ?_⟩
  have e := hA (by omega)
  injection e with e
  injection e with e1 e2
  have hne : ∀ j, p ≠ ⟨b, j, none⟩ := fun j e => hp (by rw [e]; exact e1)
  obtain ⟨⟨h0, h1, h2, h3, h4⟩, h5⟩ := hc k hk
  exact ⟨⟨(show (w.setCell p u).cell? _ = w.cell? _ by first | exact World.cell?_setCell_other _ _ (hne _) | exact World.cell?_setCell_other _ _ _ (hne _) | exact World.cell?_setCell_other _ _ _ _ (hne _)).trans h0, (show (w.setCell p u).cell? _ = w.cell? _ by first | exact World.cell?_setCell_other _ _ (hne _) | exact World.cell?_setCell_other _ _ _ (hne _) | exact World.cell?_setCell_other _ _ _ _ (hne _)).trans h1, (show (w.setCell p u).cell? _ = w.cell? _ by first | exact World.cell?_setCell_other _ _ (hne _) | exact World.cell?_setCell_other _ _ _ (hne _) | exact World.cell?_setCell_other _ _ _ _ (hne _)).trans h2, (show (w.setCell p u).cell? _ = w.cell? _ by first | exact World.cell?_setCell_other _ _ (hne _) | exact World.cell?_setCell_other _ _ _ (hne _) | exact World.cell?_setCell_other _ _ _ _ (hne _)).trans h3, (show (w.setCell p u).cell? _ = w.cell? _ by first | exact World.cell?_setCell_other _ _ (hne _) | exact World.cell?_setCell_other _ _ _ (hne _) | exact World.cell?_setCell_other _ _ _ _ (hne _)).trans h4⟩, h5⟩
theorem OwM.far {w : World} {B U g : Nat} {n : Nat} {ms : List Mk} (h : OwM w B U (some ⟨g, 0, none⟩) n ms) {p : Addr} (hp : g ≠ p.block) (u : Value) : OwM (w.setCell p u) B U (some ⟨g, 0, none⟩) n ms := by
  obtain ⟨g', vs, h0, h1, h2, h3, h4, h5⟩ := h
  injection h0 with h0
  injection h0 with h0 _
  subst h0
  exact ⟨_, vs, rfl, h1, h2, h3.far hp u, h4, h5.far hp u⟩
end Go.Proofs.YteofhfefbphjdaaGreatDoor
