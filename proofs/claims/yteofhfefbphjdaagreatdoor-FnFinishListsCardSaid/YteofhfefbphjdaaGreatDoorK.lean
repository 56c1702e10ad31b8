/- Words for slices of numbers, and of structs of numbers: what a slice reads as, what a call owns; how an argument opens. No condition. Walks: the laws' own functions on slices of int64 (equal, mark, held), for all slices. No condition. append of one element to a slice of the call's own, with the place where the new slice lies. No condition. The contracts of the two functions that ask whether a number lies between two others. A region that draws its order: reads of old memory and calls that only make new blocks, then a tail in one forced order (a store, an append): one walk serves every order. Turned from the library's theorem for a tail behind still operations. No condition. Words for short walks: the elements of a slice by name, how rows of a call's own stand beside marks on other rows. No condition. Walks: division rounded down and rounded up, as the program and the reference do it, for positive divisors. -/
import Derived.Test.YteofhfefbphjdaaGreatDoorBase
import Derived.Laws.OwnMore
import Derived.Outline
import Derived.Maps.AppendAt
import Derived.StillTail
namespace Go.Proofs.YteofhfefbphjdaaGreatDoor
open Go.RowKit Go.WideShapes Go.ChangeShapes Go.Deep

/-- The cells from address A on hold the numbers xs. -/
def Rd (w : World) (A : Option Addr) (xs : List Int) : Prop := ∃ b o, (0 < xs.length → A = some ⟨b, o, none⟩) ∧ ∀ j, j < xs.length → w.cell? ⟨b, o + j, none⟩ = some (.int .i64 (xs.getD j 0))
theorem Rd.nil (w : World) (A : Option Addr) : Rd w A [] := ⟨0, 0, fun h => absurd h (by simp), fun j h => absurd h (by simp)⟩
theorem Rd.keep {w w' : World} {A : Option Addr} {xs : List Int} (h : Rd w A xs) (hk : ∀ p : Addr, A.map (·.block) = some p.block → p.block < w.heap.size → w'.cell? p = w.cell? p) : Rd w' A xs := by
  obtain ⟨b, o, hA, hc⟩ := h
  refine ⟨b, o, hA, fun j hj => ?_⟩
  have h1 := hc j hj
  rw [hk ⟨b, o + j, none⟩ (by rw [hA (by omega)]; rfl) (World.block_lt_of_cell? w _ h1)]
  exact h1
theorem Rd.q {w w' : World} {A : Option Addr} {xs : List Int} (h : Rd w A xs) (hq : Q w w') : Rd w' A xs := h.keep fun _ _ hp => Below.cell hq hp
theorem Rd.below {B : Nat} {w w' : World} {A : Option Addr} {xs : List Int} (h : Rd w A xs) (hq : Below B w w') (hB : ∀ a, A = some a → a.block < B) : Rd w' A xs := by
  refine h.keep fun p hp _ => Below.cell hq ?_
  rcases A with _ | a
  · cases hp
  · simp at hp; rw [← hp]; exact hB a rfl
theorem Rd.grown {w w' : World} {A : Option Addr} {xs : List Int} {row : Option Nat} (h : Rd w A xs) (hg : w.grownBy w' row) (hr : ∀ a, A = some a → some a.block ≠ row) : Rd w' A xs := by
  refine h.keep fun p hp hlt => World.cell?_of_block (hg.block p.block hlt ?_)
  rcases A with _ | a
  · cases hp
  · simp at hp; rw [← hp]; exact hr a rfl
theorem Q.cell {w w' : World} (hq : Q w w') {p : Addr} {v : Value} (h : w.cell? p = some v) : w'.cell? p = some v := (hq.below.cell (World.block_lt_of_cell? w _ h)).trans h
/-- Numbers from k on. -/
def seqI (k : Int) (n : Nat) : List Int := (List.range n).map fun (i : Nat) => k + (i : Int)
theorem seqI_len (k : Int) (n : Nat) : (seqI k n).length = n := by simp [seqI]
theorem seqI_get (k : Int) {n i : Nat} (h : i < n) : (seqI k n).getD i 0 = k + i := by
  unfold seqI
  rw [List.getD_eq_getElem?_getD, List.getElem?_map, List.getElem?_range h]
  rfl
/-- What a call owns: it starts the rows of a block of its own, or is nil. -/
def Own (w : World) (B : Nat) (e : TypeId) (k : Nat) (v : Value) (n : Nat) (xs : List Int) : Prop := w.ownsRow B e k v n (xs.map (Value.int .i64))
theorem Own.form {w : World} {B : Nat} {e : TypeId} {k : Nat} {v : Value} {n : Nat} {xs : List Int} (h : Own w B e k v n xs) :
    xs.length = n * k ∧ ∃ A c, v = .slice A n c ∧ Rd w A xs ∧ (∀ a, A = some a → B ≤ a.block ∧ a.block < w.heap.size) := by
  have hl : xs.length = n * k := by simpa using h.1
  refine ⟨hl, ?_⟩
  rcases h.2 with ⟨rfl, rfl⟩ | ⟨g, cap, cur, rfl, hg, hh, hn, hcm, hcs, hx⟩
  · exact ⟨none, 0, rfl, by have : xs = [] := List.eq_nil_of_length_eq_zero (by simpa using hl); subst this; exact Rd.nil _ _, fun a h => by cases h⟩
  · refine ⟨_, cap, rfl, ⟨g, 0, fun _ => rfl, fun j hj => ?_⟩, fun a ha => ?_⟩
    · have := h.cellAt j (by omega)
      rw [Nat.zero_add, this, List.getElem?_map, List.getD_eq_getElem?_getD, List.getElem?_eq_getElem hj]
      rfl
    · injection ha with ha
      subst ha
      refine ⟨hg, ?_⟩
      rcases Nat.lt_or_ge g w.heap.size with hlt | hge
      · exact hlt
      · rw [Array.getElem?_eq_none hge] at hh; cases hh
theorem Own.q {w w' : World} {B : Nat} {e : TypeId} {k : Nat} {v : Value} {n : Nat} {xs : List Int} (h : Own w B e k v n xs) (hq : Q w w') : Own w' B e k v n xs :=
  World.ownsRow.kept (row := none) h ⟨hq.os, hq.tape, hq.output, hq.size, fun i hi _ => hq.block i hi⟩ (by
    cases hv : v.ownBlock with
    | none => exact .inl rfl
    | some _ => exact .inr (by simp))
theorem Own.mono {w : World} {B B' : Nat} {e : TypeId} {k : Nat} {v : Value} {n : Nat} {xs : List Int} (h : Own w B e k v n xs) (hB : B' ≤ B) : Own w B' e k v n xs := by
  refine ⟨h.1, ?_⟩
  rcases h.2 with h2 | ⟨g, cap, cur, h1, hg, h3⟩
  · exact .inl h2
  · exact .inr ⟨g, cap, cur, h1, Nat.le_trans hB hg, h3⟩

/-- Nil, or a row of a block: for a store. -/
theorem Own.split {w : World} {B : Nat} {e : TypeId} {k n c : Nat} {A : Option Addr} {xs : List Int} (h : Own w B e k (.slice A n c) n xs) (hn : 0 < n) : ∃ g, A = some ⟨g, 0, none⟩ ∧ B ≤ g := by
  rcases h.2 with ⟨h', h0⟩ | ⟨g, cap, cur, h', hg, _⟩
  · omega
  · injection h' with h1 _ _
    exact ⟨g, h1, hg⟩
theorem Own.cell {w : World} {B : Nat} {e : TypeId} {k n c g : Nat} {xs : List Int} (h : Own w B e k (.slice (some ⟨g, 0, none⟩) n c) n xs) {j : Nat} (hj : j < n * k) : w.cell? ⟨g, j, none⟩ = some (.int .i64 (xs.getD j 0)) := by
  have hl : xs.length = n * k := by simpa using h.1
  rw [World.ownsRow.cellAt h j hj, List.getElem?_map, List.getD_eq_getElem?_getD, List.getElem?_eq_getElem (by omega)]
  rfl
theorem Own.frozen {w : World} {B : Nat} {e : TypeId} {k n c g : Nat} {xs : List Int} (h : Own w B e k (.slice (some ⟨g, 0, none⟩) n c) n xs) (j : Nat) : w.frozen? ⟨g, j, none⟩ = false := World.ownsRow.frozenAt h j
theorem Own.stored {w : World} {B : Nat} {e : TypeId} {k n c g : Nat} {xs : List Int} (h : Own w B e k (.slice (some ⟨g, 0, none⟩) n c) n xs) (j : Nat) (u : Int) : Own (w.setCell ⟨g, j, none⟩ (.int .i64 u)) B e k (.slice (some ⟨g, 0, none⟩) n c) n (xs.set j u) := by
  have := (World.ownsRow.stored h j (.int .i64 u)).1
  unfold Own
  rw [List.map_set]
  exact this
theorem grown_set {a w : World} {g : Nat} (h : a.grownBy w (some g)) (j : Nat) (u : Value) : a.grownBy (w.setCell ⟨g, j, none⟩ u) (some g) :=
  ⟨h.os, h.tape, h.output, by simpa [World.setCell] using h.size, fun i hi hne => (Below.heap_setCell w ⟨g, j, none⟩ u i (by rintro rfl; exact hne rfl)).trans (h.block i hi hne)⟩
theorem grown_refl (w : World) (row : Option Nat) : w.grownBy w row := ⟨rfl, rfl, rfl, Nat.le_refl _, fun _ _ _ => rfl⟩
theorem grown_drewN {a w : World} {row : Option Nat} (h : a.grownBy w row) (n : Nat) : a.grownBy (w.drewN n) row := ⟨h.os, h.tape, h.output, h.size, h.block⟩
theorem grown_q {a w w' : World} {row : Option Nat} (h : a.grownBy w row) (hq : Q w w') : a.grownBy w' row :=
  ⟨hq.os.trans h.os, hq.tape.trans h.tape, hq.output.trans h.output, Nat.le_trans h.size hq.size, fun i hi hne => (hq.block i (Nat.lt_of_lt_of_le hi h.size)).trans (h.block i hi hne)⟩
theorem Own.drewN {w : World} {B : Nat} {e : TypeId} {k : Nat} {v : Value} {n : Nat} {xs : List Int} (h : Own w B e k v n xs) (m : Nat) : Own (w.drewN m) B e k v n xs := h
theorem seq_set {q : Int} {k : Nat} {xs : List Int} (hk : k < xs.length) : (seqI q k ++ xs.drop k).set k (q + k) = seqI q (k + 1) ++ xs.drop (k + 1) := by
  have h1 : (seqI q k).length = k := seqI_len q k
  rw [List.set_append_right (h := by omega), h1, Nat.sub_self, List.drop_eq_getElem_cons hk]
  simp only [List.set_cons_zero, seqI, List.range_succ, List.map_append, List.map_cons, List.map_nil, List.append_assoc, List.cons_append, List.nil_append]
theorem seq_done {q : Int} {n : Nat} {xs : List Int} (hn : xs.length = n) : seqI q n ++ xs.drop n = seqI q n := by rw [List.drop_of_length_le (by omega), List.append_nil]
/-- A slice of n elements of its own, and a code. -/
def RS (w : World) (T : TypeId) (k n : Nat) (xs : List Int) (code : Int) (e : Ending) (w' : World) : Prop :=
  ∃ A c, e = .returned (.tuple #[.slice A n c, .int .i64 code]) ∧ Own w' w.heap.size T k (.slice A n c) n xs ∧ Q w w'
theorem RS.nil (w w' : World) (T : TypeId) (k : Nat) (code : Int) (hq : Q w w') : RS w T k 0 [] code (.returned (.tuple #[.slice none 0 0, .int .i64 code])) w' := ⟨none, 0, rfl, ⟨by simp, .inl ⟨rfl, rfl⟩⟩, hq⟩
theorem Own.lit {W : World} {B : Nat} (w : World) (T : TypeId) (k n : Nat) (xs : List Int) (hw : W = w.alloc (.cells (xs.map (Value.int .i64)).toArray T)) (hB : B ≤ w.heap.size) (hl : xs.length = n * k) (hn : n ≤ maxLen) :
    Own W B T k (.slice (some ⟨w.heap.size, 0, none⟩) n n) n xs := by
  subst hw
  have := World.ownsRow_lit (base := B) (e := T) (size := k) w (xs.map (Value.int .i64)).toArray n hB hn (by simpa using hl)
  unfold Own
  simpa using this
theorem Own.rd {w : World} {B : Nat} {e : TypeId} {k n c : Nat} {A : Option Addr} {xs : List Int} (h : Own w B e k (.slice A n c) n xs) : Rd w A xs := by
  obtain ⟨_, A', c', he, hr, _⟩ := h.form
  injection he with h1 _ _
  rw [h1]
  exact hr
theorem Own.from {w : World} {B : Nat} {e : TypeId} {k n c : Nat} {A : Option Addr} {xs : List Int} (h : Own w B e k (.slice A n c) n xs) : ∀ a, A = some a → B ≤ a.block ∧ a.block < w.heap.size := by
  obtain ⟨_, A', c', he, _, hr⟩ := h.form
  injection he with h1 _ _
  rw [h1]
  exact hr
/-- What one call made reads on while what a later call made is written. -/
theorem Rd.mark {a w w' : World} {e : TypeId} {k n c : Nat} {A A' : Option Addr} {xs ys : List Int} (h : Rd w A xs) (hA : ∀ p, A = some p → p.block < a.heap.size) (ho : Own w a.heap.size e k (.slice A' n c) n ys) (hg : w.grownBy w' (A'.map (·.block))) : Rd w' A xs := by
  refine h.grown hg fun p hp he => ?_
  rcases A' with _ | b
  · cases he
  · have h1 := ho.from b rfl
    have h2 := hA p hp
    simp only [Option.map_some, Option.some.injEq] at he
    omega
theorem Q.mark {a w w' : World} {B : Nat} {e : TypeId} {k n c : Nat} {A' : Option Addr} {ys : List Int} (h : Q a w) (ho : Own w B e k (.slice A' n c) n ys) (hB : a.heap.size ≤ B) (hg : w.grownBy w' (A'.map (·.block))) : Q a w' := by
  refine h.grown hg fun b he => ?_
  rcases A' with _ | p
  · cases he
  · have h1 := ho.from p rfl
    simp only [Option.map_some, Option.some.injEq] at he
    omega
theorem made_ints {z : Array Value} {k : Nat} (hz : z = (List.replicate k (Value.int .i64 0)).toArray) (hk : 0 < k) (N : Nat) : (madeCells z N).toList = (List.replicate N (0 : Int)).map (Value.int .i64) := by
  subst hz
  apply List.ext_getElem
  · simp [madeCells]
  · intro i h1 h2
    have hm : i % k < k := Nat.mod_lt _ hk
    simp [madeCells, hm]
theorem take_set {xs zs : List Int} {m : Nat} (hm : m < xs.length) (hz : zs.length = xs.length) : (xs.take m ++ zs.drop m).set m (xs.getD m 0) = xs.take (m + 1) ++ zs.drop (m + 1) := by
  have h1 : (xs.take m).length = m := by rw [List.length_take]; omega
  rw [List.set_append_right (h := by omega), h1, Nat.sub_self, List.drop_eq_getElem_cons (by omega), List.take_succ_eq_append_getElem hm]
  simp only [List.set_cons_zero, List.getD_eq_getElem?_getD, List.getElem?_eq_getElem hm, Option.getD_some, List.append_assoc, List.cons_append, List.nil_append]
theorem take_done {xs zs : List Int} {m : Nat} (hm : xs.length = m) (hz : zs.length = m) : xs.take m ++ zs.drop m = xs := by
  rw [List.take_of_length_le (by omega), List.drop_of_length_le (by omega), List.append_nil]
theorem Q.own_set {a w : World} {B : Nat} {e : TypeId} {k n c g : Nat} {xs : List Int} (h : Q a w) (ho : Own w B e k (.slice (some ⟨g, 0, none⟩) n c) n xs) (hB : a.heap.size ≤ B) (j : Nat) (u : Value) : Q a (w.setCell ⟨g, j, none⟩ u) :=
  h.setCell (p := ⟨g, j, none⟩) (Nat.le_trans hB (ho.from _ rfl).1) u
theorem grown_trans2 {a w w' : World} {row : Option Nat} (h : Q a w) (hg : w.grownBy w' row) : a.grownBy w' row :=
  ⟨hg.os.trans h.os, hg.tape.trans h.tape, hg.output.trans h.output, Nat.le_trans h.size hg.size, fun i hi hne => (hg.block i (Nat.lt_of_lt_of_le hi h.size) hne).trans (h.block i hi)⟩
/-- append of one element (a number, a struct of numbers) to a slice of the call's own. -/
theorem wpList_append_one {P : Program} (wr : World) {ops : Array Oper} {rest : List Oper} {o : Oper} {a : Act} {R : Exit → Act → World → Prop} (hgd : o.guard = none) (s x : Operand) (t : TypeId)
    (ho : o.op = .call { callee := .builtin .append, args := #[s, x], argTypes := #[t, t] })
    (B : Nat) (e : TypeId) (i : TypeInfo) (z : Value) (k bytes : Nat) (ht : P.underlying t = some (.slice e)) (hi : P.info? e = some i) (hz : i.zero = some z)
    (hsize : i.size = k) (hby : i.bytes = bytes) (hzs : z.cells.size = k) (hk : 0 < k) (hbb : bytes ≤ 65536)
    (A : Option Addr) (n c : Nat) (xs ys : List Int) (hs : a.eval s = .slice A n c) (hown : Own wr B e k (.slice A n c) n xs)
    (hx : a.eval x = .slice (some ⟨wr.heap.size, 0, none⟩) 1 1) (hl : ys.length = k) (cs : Array Value) (T' : TypeId) (hcs : cs = (ys.map (Value.int .i64)).toArray)
    (hn : n ≤ 1073741823) (hB : B ≤ wr.heap.size)
    (h : ∀ A' c' w', Own w' B e k (.slice A' (n + 1) c') (n + 1) (xs ++ ys) → wr.grownBy w' (A.map (·.block)) → wpList P ops R rest (a.put o.dst (.slice A' (n + 1) c')) w') :
    wpList P ops R (o :: rest) a (wr.alloc (.cells cs T')) := by
  subst hcs
  have hown' : (wr.alloc (.cells (ys.map (Value.int .i64)).toArray T')).ownsRow B e k (.slice A n c) n (xs.map (Value.int .i64)) := World.ownsRow.alloc hown _
  have hblk := Blk.new wr T' (ys.map (Value.int .i64)).toArray
  refine wpList_append_own _ hgd s x t ho B e i z k bytes ht hi hz hsize hby hzs hk (.slice A n c) n _ hs hown' ⟨wr.heap.size, 0, none⟩ 1 1 (ys.map (Value.int .i64)) hx (by simpa using hl) ?_ ?_ (by unfold maxLen; omega) ?_ (by simp; omega) ?_
  · intro j u hu
    rw [Go.WideShapes.add_plain, Nat.zero_add, hblk.cell]
    simpa using hu
  · intro u hu
    obtain ⟨y, _, rfl⟩ := List.mem_map.1 hu
    rfl
  · have : (n + 1) * bytes ≤ 1073741824 * 65536 := Nat.mul_le_mul (by omega) hbb
    omega
  · intro v' w' ho' hg' _
    rw [← List.map_append] at ho'
    have hO : Own w' B e k v' (n + 1) (xs ++ ys) := ho'
    obtain ⟨_, A', c', rfl, _, _⟩ := hO.form
    refine h A' c' w' hO ?_
    have hg2 : wr.grownBy w' (Value.slice A n c).ownBlock := grown_trans2 ((Q.refl wr).alloc _) hg'
    cases A <;> exact hg2
theorem flat_index {X : Nat → List Int} {k n j : Nat} (hj : j < n * k) : ((List.range (n * k)).map fun i => (X (i / k)).getD (i % k) 0).getD j 0 = (X (j / k)).getD (j % k) 0 := by
  rw [List.getD_eq_getElem?_getD, List.getElem?_map, List.getElem?_range hj]
  rfl

/-- An argument that is a slice of numbers or of structs of numbers (k numbers an element). -/
theorem open_rows {P : Program} {H : Type} {enc : TypeId × Value → H} {w : World} {base : Nat} {spare : Nat → Bool} {held : Bool} {r : Reach} {b0 : Nat} {t e : TypeId} {k : Nat} {v : Value} {d : DataW H} {p : List MemPlace}
    (ht : P.underlying t = some (.slice e)) (hF : FlatE P e k) (hC : P.cellsOf e = k) (hk : 0 < k) (hv : Value.okWide P w r b0 t v) (h : DataW.Trod enc P w base spare held t v d p) :
    ∃ A len cap xs, v = .slice A len cap ∧ xs.length = len * k ∧ Rd w A xs ∧ (∀ y ∈ xs, -9223372036854775808 ≤ y ∧ y ≤ 9223372036854775807) ∧ len ≤ cap ∧ cap ≤ maxLen := by
  obtain ⟨A, len, cap, rfl⟩ := okWide_slice ht hv
  obtain ⟨fuel, hf⟩ := h
  rcases open_slice ht hf with ⟨hcs, _⟩ | ⟨a, len', cap', m, n, D, Pl, hcs, hb, hl, hm, hmm, hx, hi⟩
  · simp [Value.cells] at hcs
    obtain ⟨rfl, rfl, rfl⟩ := hcs
    exact ⟨none, 0, 0, [], rfl, by simp, Rd.nil _ _, (fun y hy => by cases hy), Nat.le_refl _, Nat.zero_le _⟩
  · simp [Value.cells] at hcs
    obtain ⟨rfl, rfl, rfl⟩ := hcs
    have hlm : len ≤ m := by rw [hmm]; split <;> omega
    have hX : ∀ i, i < len → ∃ xs : List Int, xs.length = k ∧ (∀ y ∈ xs, -9223372036854775808 ≤ y ∧ y ≤ 9223372036854775807) ∧ ∀ q, q < k → w.cell? ((a.add (i * k)).add q) = some (.int .i64 (xs.getD q 0)) := by
      intro i hil
      obtain ⟨cs', hc, ht'⟩ := hi i (by omega)
      rw [hC] at hc
      obtain ⟨xs, rfl, hxl, hxb⟩ := hF _ _ _ _ _ _ _ _ ht'
      obtain ⟨_, hcl, hat⟩ := World.cells?_some hc
      refine ⟨xs, hxl, hxb, fun q hq => ?_⟩
      rw [hat q hq, List.getElem?_map, List.getD_eq_getElem?_getD, List.getElem?_eq_getElem (by omega)]
      rfl
    obtain ⟨X, hX⟩ : ∃ X : Nat → List Int, ∀ i, i < len → (X i).length = k ∧ (∀ y ∈ X i, -9223372036854775808 ≤ y ∧ y ≤ 9223372036854775807) ∧ ∀ q, q < k → w.cell? ((a.add (i * k)).add q) = some (.int .i64 ((X i).getD q 0)) := by
      refine ⟨fun i => if h : i < len then (hX i h).choose else [], fun i hil => ?_⟩
      simp only [dif_pos hil]
      exact (hX i hil).choose_spec
    have hdiv : ∀ j, j < len * k → j / k < len := fun j hj => Nat.div_lt_of_lt_mul (by rw [Nat.mul_comm]; exact hj)
    refine ⟨some a, len, cap, (List.range (len * k)).map fun i => (X (i / k)).getD (i % k) 0, rfl, by simp, ?_, ?_, hl, hm⟩
    · rcases Nat.eq_zero_or_pos len with rfl | hpos
      · simp only [Nat.zero_mul, List.range_zero, List.map_nil]; exact Rd.nil _ _
      · obtain ⟨b, off, spot⟩ := a
        have hspot : spot = none := by simpa [Addr.add] using World.cell?_spot ((hX 0 hpos).2.2 0 hk)
        subst hspot
        refine ⟨b, off, fun _ => rfl, fun j hj => ?_⟩
        have hj : j < len * k := by simpa using hj
        rw [flat_index hj]
        have := (hX (j / k) (hdiv j hj)).2.2 (j % k) (Nat.mod_lt _ hk)
        rw [Go.WideShapes.add_plain, Go.WideShapes.add_plain, Nat.add_assoc] at this
        rw [← this]
        have hdm : j / k * k + j % k = j := by rw [Nat.mul_comm]; exact Nat.div_add_mod j k
        rw [hdm]
    · intro y hy
      obtain ⟨j, hj, rfl⟩ := List.mem_map.1 hy
      have hj : j < len * k := by simpa using hj
      have h1 := hX (j / k) (hdiv j hj)
      refine h1.2.1 _ ?_
      rw [List.getD_eq_getElem?_getD, List.getElem?_eq_getElem (by rw [h1.1]; exact Nat.mod_lt _ hk)]
      exact List.getElem_mem _
end Go.Proofs.YteofhfefbphjdaaGreatDoor
namespace Go.Proofs.YteofhfefbphjdaaGreatDoor
open Go.RowKit Go.WideShapes Go.ChangeShapes

theorem take_eq_step {xs ys : List Int} {k : Nat} (hx : k < xs.length) (hy : k < ys.length) (h : xs.take k = ys.take k) (he : xs.getD k 0 = ys.getD k 0) : xs.take (k + 1) = ys.take (k + 1) := by
  rw [List.take_succ_eq_append_getElem hx, List.take_succ_eq_append_getElem hy, h]
  simp only [List.getD_eq_getElem?_getD, List.getElem?_eq_getElem hx, List.getElem?_eq_getElem hy, Option.getD_some] at he
  rw [he]
theorem ne_of_getD {xs ys : List Int} {k : Nat} (he : xs.getD k 0 ≠ ys.getD k 0) : xs ≠ ys := fun e => he (by rw [e])

theorem infoInt64 : (Tryz.prog.info? 2).map (fun i => (i.zero, i.size, i.bytes)) = some (some (.int .i64 0), 1, 8) := by kernel_rfl
end Go.Proofs.YteofhfefbphjdaaGreatDoor
namespace Go.Proofs.YteofhfefbphjdaaGreatDoor
open Go.RowKit Go.WideShapes Go.ChangeShapes
/-- Two addresses are not in one block. -/
def Far (A A' : Option Addr) : Prop := ∀ a b, A = some a → A' = some b → a.block ≠ b.block
theorem Far.symm {A A' : Option Addr} (h : Far A A') : Far A' A := fun a b ha hb => (h b a hb ha).symm
/-- Where an append leaves its slice: in the old row, or in a block that was just made. -/
def Grew (wr : World) (A A' : Option Addr) : Prop := A'.map (·.block) = A.map (·.block) ∨ ∃ g, A'.map (·.block) = some g ∧ wr.heap.size ≤ g
theorem Far.grew {wr : World} {A A' X : Option Addr} (h : Far X A) (hg : Grew wr A A') (hX : ∀ a, X = some a → a.block < wr.heap.size) : Far X A' := by
  intro a b ha hb
  rcases hg with hg | ⟨g, hg, hlt⟩
  · rw [hb] at hg
    rcases A with _ | c
    · simp at hg
    · have := h a c ha rfl
      simp only [Option.map_some, Option.some.injEq] at hg
      rw [hg]; exact this
  · rw [hb] at hg
    simp only [Option.map_some, Option.some.injEq] at hg
    have := hX a ha
    omega
theorem Rd.far {w w' : World} {A A' : Option Addr} {xs : List Int} (h : Rd w A xs) (hg : w.grownBy w' (A'.map (·.block))) (hf : Far A A') : Rd w' A xs := by
  refine h.grown hg fun a ha he => ?_
  rcases A' with _ | b
  · cases he
  · simp only [Option.map_some, Option.some.injEq] at he
    exact hf a b ha rfl he
theorem Own.far {w w' : World} {B : Nat} {e : TypeId} {k n c : Nat} {A A' : Option Addr} {xs : List Int} (h : Own w B e k (.slice A n c) n xs) (hg : w.grownBy w' (A'.map (·.block))) (hf : Far A A') : Own w' B e k (.slice A n c) n xs := by
  refine World.ownsRow.kept h hg ?_
  rcases A with _ | a
  · exact .inl rfl
  · rcases A' with _ | b
    · exact .inr (by simp [Value.ownBlock])
    · refine .inr ?_
      have := hf a b rfl rfl
      simp only [Value.ownBlock, Option.map_some]
      intro he
      injection he with he
      exact this he
theorem Q.lt {w w' : World} {A : Option Addr} (hq : Q w w') (h : ∀ a, A = some a → a.block < w.heap.size) : ∀ a, A = some a → a.block < w'.heap.size := fun a ha => Nat.lt_of_lt_of_le (h a ha) hq.size
theorem run_append_flat {P : Program} (wr : World) (t ty e : TypeId) (B : Nat) (i : TypeInfo) (z : Value) (k bytes : Nat) (ht : P.underlying t = some (.slice e)) (hi : P.info? e = some i) (hz : i.zero = some z)
    (hsize : i.size = k) (hby : i.bytes = bytes) (hzs : z.cells.size = k) (hk : 0 < k) (hbb : bytes ≤ 65536)
    (A : Option Addr) (n c : Nat) (xs ys : List Value) (hown : wr.ownsRow B e k (.slice A n c) n xs) (hl : ys.length = k) (h1 : ∀ u ∈ ys, u.oneCell' = true) (T' : TypeId)
    (hn : n ≤ 1073741823) (hB : B ≤ wr.heap.size) :
    ∃ A' c' w', (Builtin.append_ #[t, t] ty #[.slice A n c, .slice (some ⟨wr.heap.size, 0, none⟩) 1 1]).run P (wr.alloc (.cells ys.toArray T')) = .ok (.slice A' (n + 1) c') w' ∧
      w'.ownsRow B e k (.slice A' (n + 1) c') (n + 1) (xs ++ ys) ∧ wr.grownBy w' (A.map (·.block)) ∧ Grew wr A A' := by
  have hblk := Blk.new wr T' ys.toArray
  obtain ⟨v', w', hrun, ho, hg, _, hat⟩ := run_append_own_at (P := P) (wr.alloc (.cells ys.toArray T')) B t ty e i z k bytes ht hi hz hsize hby hzs hk (.slice A n c) n xs (World.ownsRow.alloc hown _)
    ⟨wr.heap.size, 0, none⟩ 1 1 ys (by simpa using hl) (by
      intro j u hu
      rw [Go.WideShapes.add_plain, Nat.zero_add, hblk.cell]
      simpa using hu) h1 (by unfold maxLen; omega) (by
      have : (n + 1) * bytes ≤ 1073741824 * 65536 := Nat.mul_le_mul (by omega) hbb
      omega) (by simp; omega)
  have hform : ∃ A' c', v' = .slice A' (n + 1) c' := by
    rcases ho.2 with ⟨_, h0⟩ | ⟨g, cap, cur, h', _⟩
    · omega
    · exact ⟨_, _, h'⟩
  obtain ⟨A', c', rfl⟩ := hform
  have hg2 : wr.grownBy w' (Value.slice A n c).ownBlock := grown_trans2 ((Q.refl wr).alloc _) hg
  refine ⟨A', c', w', hrun, ho, by cases A <;> exact hg2, ?_⟩
  rcases hat with h | h
  · left
    cases A <;> cases A' <;> exact h
  · right
    exact ⟨_, by cases A' <;> exact h, by simp⟩
/-- append of one element whose cells are ys. -/
theorem wpList_append_flat {P : Program} (wr : World) {ops : Array Oper} {rest : List Oper} {o : Oper} {a : Act} {R : Exit → Act → World → Prop} (hgd : o.guard = none) (s x : Operand) (t : TypeId)
    (ho : o.op = .call { callee := .builtin .append, args := #[s, x], argTypes := #[t, t] })
    (B : Nat) (e : TypeId) (i : TypeInfo) (z : Value) (k bytes : Nat) (ht : P.underlying t = some (.slice e)) (hi : P.info? e = some i) (hz : i.zero = some z)
    (hsize : i.size = k) (hby : i.bytes = bytes) (hzs : z.cells.size = k) (hk : 0 < k) (hbb : bytes ≤ 65536)
    (A : Option Addr) (n c : Nat) (xs ys : List Value) (hs : a.eval s = .slice A n c) (hown : wr.ownsRow B e k (.slice A n c) n xs)
    (hx : a.eval x = .slice (some ⟨wr.heap.size, 0, none⟩) 1 1) (hl : ys.length = k) (h1 : ∀ u ∈ ys, u.oneCell' = true) (cs : Array Value) (T' : TypeId) (hcs : cs = ys.toArray)
    (hn : n ≤ 1073741823) (hB : B ≤ wr.heap.size)
    (h : ∀ A' c' w', w'.ownsRow B e k (.slice A' (n + 1) c') (n + 1) (xs ++ ys) → wr.grownBy w' (A.map (·.block)) → Grew wr A A' → wpList P ops R rest (a.put o.dst (.slice A' (n + 1) c')) w') :
    wpList P ops R (o :: rest) a (wr.alloc (.cells cs T')) := by
  subst hcs
  obtain ⟨A', c', w', hrun, h2, h3, h4⟩ := run_append_flat (P := P) wr t o.type e B i z k bytes ht hi hz hsize hby hzs hk hbb A n c xs ys hown hl h1 T' hn hB
  refine wpList_plain hgd fun K hK => ?_
  unfold Oper.wp execOp
  simp only [ho, resolve, invoke, builtin, Sem.run_bind, Sem.run_pure, Result.andThen_ok, List.map_toArray, List.map_cons, List.map_nil, hs, hx, hrun]
  exact hK _ _ (h A' c' w' h2 h3 h4)
theorem ints_one (ys : List Int) : ∀ u ∈ ys.map (Value.int .i64), u.oneCell' = true := by
  intro u hu
  obtain ⟨y, _, rfl⟩ := List.mem_map.1 hu
  rfl
end Go.Proofs.YteofhfefbphjdaaGreatDoor
namespace Go.Proofs.YteofhfefbphjdaaGreatDoor
open Go.RowKit Go.WideShapes Go.ChangeShapes
theorem spec_in (n lo hi : Int) (w : World) : Calls Tryz.prog 58 #[.int .i64 n, .int .i64 lo, .int .i64 hi] w fun e w' => e = .returned (.bool (decide (lo ≤ n ∧ n ≤ hi))) ∧ w = w' := by
  by_cases h : lo ≤ n <;> by_cases h2 : n ≤ hi
  all_goals
    go_enter Tryz.func58, Tryz.ntmps58
    go_wp2
    go_ret
    exact ⟨by simp [h, h2], rfl⟩
theorem impl_in (n lo hi : Int) (w : World) : Calls Tryz.prog 29 #[.int .i64 n, .int .i64 lo, .int .i64 hi] w fun e w' => e = .returned (.bool (decide (lo ≤ n ∧ n ≤ hi))) ∧ w = w' := by
  by_cases h : lo ≤ n <;> by_cases h2 : n ≤ hi
  all_goals
    go_enter Tryz.func29, Tryz.ntmps29
    go_wp2
    go_ret
    exact ⟨by simp [h, h2], rfl⟩
theorem spec_in' (n lo hi : Int) (w : World) : Calls Tryz.prog 58 #[.int .i64 n, .int .i64 lo, .int .i64 hi] w fun e w' => e = .returned (.bool (decide (lo ≤ n ∧ n ≤ hi))) ∧ w' = w := (spec_in n lo hi w).mono fun _ _ h => ⟨h.1, h.2.symm⟩
theorem impl_in' (n lo hi : Int) (w : World) : Calls Tryz.prog 29 #[.int .i64 n, .int .i64 lo, .int .i64 hi] w fun e w' => e = .returned (.bool (decide (lo ≤ n ∧ n ≤ hi))) ∧ w' = w := (impl_in n lo hi w).mono fun _ _ h => ⟨h.1, h.2.symm⟩
end Go.Proofs.YteofhfefbphjdaaGreatDoor
namespace Go.Proofs.YteofhfefbphjdaaGreatDoor
open Go.RowKit
section
variable {P : Program} {ops : Array Oper} {md : Region.Mode} {C : World → Prop}
def wpAnyLQ (P : Program) (md : Region.Mode) (ops : Array Oper) (C : World → Prop) (n : Nat) (L : Array Bool → Act → Prop) : Nat → Array Bool → Act → Prop
  | 0, listed, a => L listed a
  | f + 1, listed, a =>
    Region.ready md ops listed ≠ [] ∧ ∀ i ∈ Region.ready md ops listed, i < n ∧ qOp P ops C i (wpAnyLQ P md ops C n L f (listed.setIfInBounds i true)) a
theorem wpAny_of_headQ {n g : Nat} {L : Array Bool → Act → Prop} {Q' : Exit → Act → World → Prop} (hL : ∀ listed a w, C w → L listed a → wpAny P md ops Q' g listed a w) :
    ∀ (f : Nat) (listed : Array Bool) (a : Act) (w : World), C w → wpAnyLQ P md ops C n L f listed a → wpAny P md ops Q' (f + g) listed a w
  | 0, listed, a, w, hw, h => by rw [Nat.zero_add]; exact hL _ _ _ hw h
  | f + 1, listed, a, w, hw, h => by
    rw [show f + 1 + g = (f + g) + 1 by omega]
    exact ⟨fun h0 => absurd h0 h.1, fun i hi => wpOp_of_qOp hw (fun a' w' hw' h' => wpAny_of_headQ hL f _ a' w' hw' h') (h.2 i hi).2⟩
theorem wpAnyLQ_first {n i : Nat} {oi : Oper} {v : Value} {L : Array Bool → Act → Prop} (hi : ops[i]? = some oi) (hsel : ∀ (j : Nat) (o : Oper) cs b, ops[j]? = some o → o.op ≠ .select cs b)
    (hs : Region.sinkB md ops n = true) (hc : Region.chainB md ops n = true) (hn : n < ops.size) (hin : i < n)
    (hdone : ∀ listed a, L listed a → ∀ j ∈ Region.ready md ops listed, n ≤ j) :
    ∀ (f : Nat) (listed : Array Bool) (a : Act), HeadInv md ops n listed →
      (∀ j oj, ops[j]? = some oj → j ≠ i → listed.getD j true = false → (∀ e ∈ oj.after, Region.binds md e = true → e.on ≠ i) → oi.apart ops oj = true) →
      i ∈ Region.ready md ops listed → YieldsIn P ops C oi v a →
      wpAnyLQ P md ops C n L f (listed.setIfInBounds i true) (a.put oi.dst v) → wpAnyLQ P md ops C n L (f + 1) listed a := by
  intro f
  induction f with
  | zero =>
    intro listed a inv _ hr hy H
    have hun := (mem_ready.1 hr).1
    refine ⟨fun h => (by rw [h] at hr; cases hr), fun j hj => ?_⟩
    have hjn : j < n := by
      rcases Nat.lt_or_ge j n with h | h
      · exact h
      · exact absurd hj (tail_waits hs hc hn inv _ i rfl hin hun j h)
    refine ⟨hjn, ?_⟩
    by_cases hji : j = i
    · subst hji; exact hy.qOp hi H
    · have := hdone _ _ H j (ready_mono hj hji)
      omega
  | succ f ih =>
    intro listed a inv hfree hr hy H
    have hun := (mem_ready.1 hr).1
    refine ⟨fun h => (by rw [h] at hr; cases hr), fun j hj => ?_⟩
    have hjn : j < n := by
      rcases Nat.lt_or_ge j n with h | h
      · exact h
      · exact absurd hj (tail_waits hs hc hn inv _ i rfl hin hun j h)
    refine ⟨hjn, ?_⟩
    by_cases hji : j = i
    · subst hji; exact hy.qOp hi H
    · have h1 := (H.2 j (ready_mono hj hji)).2
      obtain ⟨hjun, oj, hoj, hall⟩ := mem_ready.1 hj
      have hnot : ∀ e ∈ oj.after, Region.binds md e = true → e.on ≠ i := fun e he hb heq => by
        have h1 := hall e he hb
        rw [heq, getD_both hun] at h1
        cases h1
      have h2 := qOp_put hoj (hfree j oj hoj hji hjun hnot) (fun cs b => hsel i oi cs b hi) (fun cs b => hsel j oj cs b hoj) hy h1
      have hfree' : ∀ k ok, ops[k]? = some ok → k ≠ i → (listed.setIfInBounds j true).getD k true = false →
          (∀ e ∈ ok.after, Region.binds md e = true → e.on ≠ i) → oi.apart ops ok = true := fun k ok hk hki hun hno => by
        refine hfree k ok hk hki ?_ hno
        by_cases hjk : j = k
        · subst hjk; exact hjun
        · rw [getD_set_ne true hjk] at hun; exact hun
      refine qOp_mono (fun a' h3 => ih (listed.setIfInBounds j true) a' (inv.set hj hjn) hfree' (ready_mono hr (Ne.symm hji)) h3.1 ?_) h2
      rw [Array.setIfInBounds_comm _ _ hji]
      exact h3.2
theorem wpAnyLQ_lex {n g : Nat} {Lq : Act → Prop} (hsel : Region.noSelect ops = true) (hs : Region.sinkB md ops n = true) (hc : Region.chainB md ops n = true) (hn : n < ops.size) :
    ∀ (l : List Oper) (k : Nat) (listed : Array Bool) (a : Act), (∀ j, j < l.length → l[j]? = ops[k + j]?) → k + l.length = n → HeadInv md ops n listed →
    Region.lexHead md ops g l.length k listed = true → wpQuiet P ops C Lq l a →
    wpAnyLQ P md ops C n (fun listed' a' => Region.seqB md ops g n listed' = true ∧ Lq a') l.length listed a
  | [], k, listed, a, _, hk, _, hB, h => by
    have : k = n := by simpa using hk
    subst this
    exact ⟨by simpa [Region.lexHead] using hB, h⟩
  | o :: l, k, listed, a, hl, hk, inv, hB, h => by
    have h0 : ops[k]? = some o := by simpa using (hl 0 (by simp)).symm
    simp only [List.length_cons, Region.lexHead, Bool.and_eq_true] at hB
    obtain ⟨⟨hr, hf⟩, hB'⟩ := hB
    have hkn : k < n := by simp only [List.length_cons] at hk; omega
    have hr' : k ∈ Region.ready md ops listed := by simpa using hr
    have hst : qOp P ops C k (wpQuiet P ops C Lq l) a := by unfold qOp; simp only [h0]; exact h
    obtain ⟨v, hy, hK⟩ := yieldsIn_of_qOp h0 hst
    exact wpAnyLQ_first h0 (Region.noSelect_spec hsel) hs hc hn hkn (fun listed' a' hL => seqB_ready hL.1) l.length listed a inv (Region.free_spec h0 hf) hr' hy
      (wpAnyLQ_lex hsel hs hc hn l (k + 1) _ _ (fun j hj => by have := hl (j + 1) (by simp; omega); simpa [Nat.add_assoc, Nat.add_comm 1 j] using this) (by simp only [List.length_cons] at hk; omega) (inv.set hr' hkn) hB' hK)
theorem wp_region_quiet_tail {id : Nat} {Q : Exit → Act → World → Prop} {a : Act} {w : World} {l : List Oper} (n : Nat) (hm : P.follows .mixedOrders = true) (hB : Region.lexTailB .any l.toArray n = true) (hC : C { w with drawn := w.drawn + 1 })
    (h : wpQuiet P l.toArray C (fun a' => ∀ w', C w' → wpList P l.toArray Q (l.drop n) a' w') (l.take n) a) : (Code.region id l.toArray true).wp P Q a w := by
  simp only [Region.lexTailB, Bool.and_eq_true, decide_eq_true_eq] at hB
  obtain ⟨⟨⟨⟨hsel, hn⟩, hs⟩, hc⟩, hlex⟩ := hB
  have hn' : n < l.length := by simpa using hn
  have htl : (l.take n).length = n := by simp; omega
  have hdl : (l.drop n).length = l.toArray.size - n := by simp
  have inv0 : HeadInv .any l.toArray n (Array.replicate l.toArray.size false) :=
    ⟨by simp, fun j oj _ hl => (by rw [getD_replicate_false] at hl; cases hl), fun t _ ht => getD_in (by simpa using ht) (getD_replicate_false _ _)⟩
  have H := wpAnyLQ_lex (md := .any) (g := l.toArray.size - n) hsel hs hc hn (l.take n) 0 _ a (fun j hj => by
    have hj' : j < n := by rw [htl] at hj; exact hj
    simp [hj']) (by simpa using htl) inv0 (by rw [htl]; exact hlex) h
  refine wp_region_any hm ?_
  have := wpAny_of_headQ (Q' := Q) (g := l.toArray.size - n) (fun listed a' w' hw' hL => by
    have := wpAny_of_seq (md := .any) (Q' := Q) (l.drop n) n listed a' w' (fun j => by simp [List.getElem?_drop]) (by rw [hdl]; exact hL.1) (hL.2 w' hw')
    rwa [hdl] at this) _ _ _ _ hC H
  rw [htl, show n + (l.toArray.size - n) = l.toArray.size by omega] at this
  exact this
theorem wp_region_later_tail {id : Nat} {R : Exit → Act → World → Prop} {a : Act} {w : World} {l : List Oper} (n : Nat) (hm : P.follows .mixedOrders = true) (hB : Region.lexTailB .any l.toArray n = true)
    (h : wpQuiet P l.toArray (fun w' => ∃ u : Later w, w' = u.val) (fun a' => ∀ w', (∃ u : Later w, w' = u.val) → wpList P l.toArray R (l.drop n) a' w') (l.take n) a) : (Code.region id l.toArray true).wp P R a w :=
  wp_region_quiet_tail (C := fun w' => ∃ u : Later w, w' = u.val) n hm hB ⟨⟨w.drew, (Q.refl w).drew⟩, rfl⟩ h
end
end Go.Proofs.YteofhfefbphjdaaGreatDoor
namespace Go.Proofs.YteofhfefbphjdaaGreatDoor
open Go.RowKit Go.WideShapes Go.ChangeShapes
/-- From lo to hi, under a name. -/
def inR (n lo hi : Int) : Bool := decide (lo ≤ n ∧ n ≤ hi)
theorem spec_inR (n lo hi : Int) (w : World) : Calls Tryz.prog 58 #[.int .i64 n, .int .i64 lo, .int .i64 hi] w fun e w' => e = .returned (.bool (inR n lo hi)) ∧ w = w' := spec_in n lo hi w
theorem impl_inR (n lo hi : Int) (w : World) : Calls Tryz.prog 29 #[.int .i64 n, .int .i64 lo, .int .i64 hi] w fun e w' => e = .returned (.bool (inR n lo hi)) ∧ w = w' := impl_in n lo hi w
theorem inR_yes {n lo hi : Int} (h : lo ≤ n ∧ n ≤ hi) : inR n lo hi = true := by simp [inR, h]
theorem inR_no {n lo hi : Int} (h : ¬ (lo ≤ n ∧ n ≤ hi)) : inR n lo hi = false := by unfold inR; exact decide_eq_false h
/-- Element j of a flat list. -/
def el (xs : List Int) (j : Nat) : Int := xs.getD j 0
theorem el_eq (xs : List Int) (j : Nat) : xs.getD j 0 = el xs j := rfl
theorem Rd.at1 {w : World} {A : Option Addr} {xs : List Int} {n k : Nat} (h : Rd w A xs) (hn : xs.length = n) (hk : k < n) :
    ∃ b o, A = some ⟨b, o, none⟩ ∧ w.cell? ⟨b, o + k, none⟩ = some (.int .i64 (el xs k)) := by
  obtain ⟨b, o, hA, hc⟩ := h
  exact ⟨b, o, hA (by omega), hc k (by omega)⟩
theorem Rd.at2 {w : World} {A : Option Addr} {xs : List Int} {n k : Nat} (h : Rd w A xs) (hn : xs.length = n * 2) (hk : k < n) :
    ∃ b o, A = some ⟨b, o, none⟩ ∧ w.cell? ⟨b, o + k * 2, none⟩ = some (.int .i64 (el xs (k * 2))) ∧ w.cell? ⟨b, o + k * 2 + 1, none⟩ = some (.int .i64 (el xs (k * 2 + 1))) := by
  obtain ⟨b, o, hA, hc⟩ := h
  exact ⟨b, o, hA (by omega), hc _ (by omega), by rw [Nat.add_assoc]; exact hc _ (by omega)⟩
theorem Rd.at3 {w : World} {A : Option Addr} {xs : List Int} {n k : Nat} (h : Rd w A xs) (hn : xs.length = n * 3) (hk : k < n) :
    ∃ b o, A = some ⟨b, o, none⟩ ∧ w.cell? ⟨b, o + k * 3, none⟩ = some (.int .i64 (el xs (k * 3))) ∧ w.cell? ⟨b, o + k * 3 + 1, none⟩ = some (.int .i64 (el xs (k * 3 + 1))) ∧ w.cell? ⟨b, o + k * 3 + 2, none⟩ = some (.int .i64 (el xs (k * 3 + 2))) := by
  obtain ⟨b, o, hA, hc⟩ := h
  exact ⟨b, o, hA (by omega), hc _ (by omega), by rw [Nat.add_assoc]; exact hc _ (by omega), by rw [Nat.add_assoc]; exact hc _ (by omega)⟩
theorem Rd.at3p {w : World} {A : Option Addr} {xs : List Int} {k : Nat} (h : Rd w A xs) (hk : k * 3 + 2 < xs.length) :
    ∃ b o, A = some ⟨b, o, none⟩ ∧ w.cell? ⟨b, o + k * 3, none⟩ = some (.int .i64 (el xs (k * 3))) ∧ w.cell? ⟨b, o + k * 3 + 1, none⟩ = some (.int .i64 (el xs (k * 3 + 1))) ∧ w.cell? ⟨b, o + k * 3 + 2, none⟩ = some (.int .i64 (el xs (k * 3 + 2))) := by
  obtain ⟨b, o, hA, hc⟩ := h
  exact ⟨b, o, hA (by omega), hc _ (by omega), by rw [Nat.add_assoc]; exact hc _ (by omega), by rw [Nat.add_assoc]; exact hc _ (by omega)⟩
theorem Rd.at5 {w : World} {A : Option Addr} {xs : List Int} {n k : Nat} (h : Rd w A xs) (hn : xs.length = n * 5) (hk : k < n) :
    ∃ b o, A = some ⟨b, o, none⟩ ∧ w.cell? ⟨b, o + k * 5, none⟩ = some (.int .i64 (el xs (k * 5))) ∧ w.cell? ⟨b, o + k * 5 + 1, none⟩ = some (.int .i64 (el xs (k * 5 + 1))) ∧ w.cell? ⟨b, o + k * 5 + 2, none⟩ = some (.int .i64 (el xs (k * 5 + 2))) ∧
      w.cell? ⟨b, o + k * 5 + 3, none⟩ = some (.int .i64 (el xs (k * 5 + 3))) ∧ w.cell? ⟨b, o + k * 5 + 4, none⟩ = some (.int .i64 (el xs (k * 5 + 4))) := by
  obtain ⟨b, o, hA, hc⟩ := h
  exact ⟨b, o, hA (by omega), hc _ (by omega), by rw [Nat.add_assoc]; exact hc _ (by omega), by rw [Nat.add_assoc]; exact hc _ (by omega), by rw [Nat.add_assoc]; exact hc _ (by omega), by rw [Nat.add_assoc]; exact hc _ (by omega)⟩
/-- The block that was made last, or last but one, ahead of a call that only makes blocks. -/
theorem Q.box {w w1 : World} {cs : Array Value} {T : TypeId} (q : Q (w.alloc (.cells cs T)) w1) : ∀ i, w1.cell? ⟨w.heap.size, i, none⟩ = cs[i]? := ((Blk.new w T cs).q q).cell
theorem Q.box2 {w w1 : World} {cs : Array Value} {T : TypeId} {o : Obj} (q : Q ((w.alloc (.cells cs T)).alloc o) w1) : ∀ i, w1.cell? ⟨w.heap.size, i, none⟩ = cs[i]? := (((Blk.new w T cs).alloc o).q q).cell
theorem Q.box3 {w w1 : World} {cs : Array Value} {T : TypeId} {o o2 : Obj} (q : Q (((w.alloc (.cells cs T)).alloc o).alloc o2) w1) : ∀ i, w1.cell? ⟨w.heap.size, i, none⟩ = cs[i]? := ((((Blk.new w T cs).alloc o).alloc o2).q q).cell
theorem Q.boxF {w w1 : World} {cs : Array Value} {T : TypeId} (q : Q (w.alloc (.cells cs T)) w1) : ∀ i, w1.frozen? ⟨w.heap.size, i, none⟩ = false := ((Blk.new w T cs).q q).frozen
theorem Q.boxB {w w1 : World} {cs : Array Value} {T : TypeId} (q : Q (w.alloc (.cells cs T)) w1) : Blk w1 w.heap.size T cs := (Blk.new w T cs).q q
theorem Q.boxB2 {w w1 : World} {cs : Array Value} {T : TypeId} {o : Obj} (q : Q ((w.alloc (.cells cs T)).alloc o) w1) : Blk w1 w.heap.size T cs := ((Blk.new w T cs).alloc o).q q
theorem Q.boxB3 {w w1 : World} {cs : Array Value} {T : TypeId} {o o2 : Obj} (q : Q (((w.alloc (.cells cs T)).alloc o).alloc o2) w1) : Blk w1 w.heap.size T cs := (((Blk.new w T cs).alloc o).alloc o2).q q
theorem far_lt {A A' : Option Addr} {l u l' u' : Nat} (h : ∀ a, A = some a → l ≤ a.block ∧ a.block < u) (h' : ∀ a, A' = some a → l' ≤ a.block ∧ a.block < u') (hu : u ≤ l') : Far A A' := fun a b ha hb => by
  have := h a ha
  have := h' b hb
  omega
theorem Rd.markU {w0 w w' : World} {A A' : Option Addr} {xs : List Int} (h0 : Rd w0 A xs) (h : Rd w A xs) (hf : ∀ p, A' = some p → w0.heap.size ≤ p.block) (hg : w.grownBy w' (A'.map (·.block))) : Rd w' A xs := by
  by_cases hx : xs.length = 0
  · have : xs = [] := List.eq_nil_of_length_eq_zero hx
    subst this
    exact Rd.nil _ _
  · obtain ⟨b, o, hA, hc⟩ := h0
    have h1 := World.block_lt_of_cell? w0 _ (hc 0 (by omega))
    refine h.grown hg fun a ha he => ?_
    rcases A' with _ | p
    · cases he
    · have h2 := hf p rfl
      rw [hA (by omega)] at ha
      injection ha with ha
      subst ha
      simp only [Option.map_some, Option.some.injEq] at he
      simp only at h1 he
      omega
theorem Q.markU {a w w' : World} {A' : Option Addr} {l u : Nat} (h : Q a w) (hf : ∀ p, A' = some p → l ≤ p.block ∧ p.block < u) (hl : a.heap.size ≤ l) (hg : w.grownBy w' (A'.map (·.block))) : Q a w' := by
  refine h.grown hg fun b he => ?_
  rcases A' with _ | p
  · cases he
  · have h1 := hf p rfl
    simp only [Option.map_some, Option.some.injEq] at he
    omega
theorem Blk.markU {w w' : World} {g : Nat} {t : TypeId} {cs : Array Value} {A' : Option Addr} {l u : Nat} (h : Blk w g t cs) (hf : ∀ p, A' = some p → l ≤ p.block ∧ p.block < u) (hl : g < l) (hg : w.grownBy w' (A'.map (·.block))) : Blk w' g t cs := by
  refine h.grown hg fun he => ?_
  rcases A' with _ | p
  · cases he
  · have h1 := hf p rfl
    simp only [Option.map_some, Option.some.injEq] at he
    omega
theorem Blk.markU2 {w w' : World} {g : Nat} {t : TypeId} {cs : Array Value} {A' : Option Addr} {l u : Nat} (h : Blk w g t cs) (hf : ∀ p, A' = some p → l ≤ p.block ∧ p.block < u) (hl : u ≤ g) (hg : w.grownBy w' (A'.map (·.block))) : Blk w' g t cs := by
  refine h.grown hg fun he => ?_
  rcases A' with _ | p
  · cases he
  · have h1 := hf p rfl
    simp only [Option.map_some, Option.some.injEq] at he
    omega
theorem mul_bd' {a x M N : Int} (ha : 0 ≤ a ∧ a ≤ M) (hx : 0 ≤ x ∧ x ≤ N) : 0 ≤ a * x ∧ a * x ≤ M * N :=
  ⟨Int.mul_nonneg ha.1 hx.1, Int.mul_le_mul ha.2 hx.2 hx.1 (by omega)⟩
theorem Own.nil {w : World} {B : Nat} {e : TypeId} {k : Nat} : Own w B e k (.slice none 0 0) 0 [] := ⟨by simp, .inl ⟨rfl, rfl⟩⟩
theorem Blk.cell0 {w : World} {g : Nat} {t : TypeId} {v : Value} (h : Blk w g t #[v]) : w.cell? ⟨g, 0, none⟩ = some v := h.cell 0
theorem Own.ne_blk {w : World} {B : Nat} {e t : TypeId} {k n c g : Nat} {A : Option Addr} {xs : List Int} {cs : Array Value} (h : Own w B e k (.slice A n c) n xs) (hb : Blk w g t cs) (hne : e ≠ t) : ∀ a, A = some a → a.block ≠ g := by
  intro a ha
  subst ha
  rcases h.2 with ⟨h1, _⟩ | ⟨g', cap, cur, h1, _, hh, _⟩
  · cases h1
  · injection h1 with h1 _ _
    injection h1 with h1
    subst h1
    exact Blk.ne_ (t := e) hh hb hne
theorem Own.setFar {w : World} {B : Nat} {e : TypeId} {k n c g : Nat} {A : Option Addr} {xs : List Int} (h : Own w B e k (.slice A n c) n xs) (hA : ∀ a, A = some a → a.block ≠ g) (i : Nat) (u : Value) : Own (w.setCell ⟨g, i, none⟩ u) B e k (.slice A n c) n xs :=
  Own.far (A' := some ⟨g, 0, none⟩) h (grown_set (grown_refl w (some g)) i u) (fun a b ha hb => by
    injection hb with hb
    subst hb
    exact hA a ha)
theorem Blk.markO {w w' : World} {B : Nat} {e t : TypeId} {k n c g : Nat} {A : Option Addr} {xs : List Int} {cs : Array Value} (hb : Blk w g t cs) (h : Own w B e k (.slice A n c) n xs) (hne : e ≠ t) (hg : w.grownBy w' (A.map (·.block))) : Blk w' g t cs := by
  refine hb.grown hg fun he => ?_
  rcases A with _ | a
  · cases he
  · simp only [Option.map_some, Option.some.injEq] at he
    exact Own.ne_blk h hb hne a rfl he.symm
/-- A slice type whose elements are k numbers each. -/
def EltT (st e : TypeId) (k : Nat) : Prop := ∃ (i : TypeInfo) (z : Value), Tryz.prog.underlying st = some (.slice e) ∧ Tryz.prog.info? e = some i ∧ i.zero = some z ∧ i.size = k ∧ i.bytes ≤ 65536 ∧ z.cells = (List.replicate k (Value.int .i64 0)).toArray ∧ 0 < k
theorem EltT.mk {st e : TypeId} {k by_ : Nat} {z : Value} (h : (Tryz.prog.info? e).map (fun i => (i.zero, i.size, i.bytes)) = some (some z, k, by_)) (hu : Tryz.prog.underlying st = some (.slice e)) (hb : by_ ≤ 65536) (hz : z.cells = (List.replicate k (Value.int .i64 0)).toArray) (hk : 0 < k) : EltT st e k := by
  obtain ⟨i0, hi, hz0, hz1, hz2⟩ := info_parts h
  exact ⟨i0, z, hu, hi, hz0, hz1, by omega, hz, hk⟩
theorem elInt64 : EltT 81 2 1 := EltT.mk infoInt64 Tryz.underlying81 (by decide) rfl (by decide)
theorem appK {wr : World} {ops : Array Oper} {rest : List Oper} {o : Oper} {a : Act} {R : Exit → Act → World → Prop} {st e : TypeId} {k : Nat} (E : EltT st e k) (hgd : o.guard = none) (s x : Operand)
    (ho : o.op = .call { callee := .builtin .append, args := #[s, x], argTypes := #[st, st] })
    {B : Nat} {A : Option Addr} {n c : Nat} {xs : List Int} (ys : List Int) (hs : a.eval s = .slice A n c) (hown : Own wr B e k (.slice A n c) n xs)
    {H : Nat} (hx : a.eval x = .slice (some ⟨H, 0, none⟩) 1 1) (hH : wr.heap.size = H) (hl : ys.length = k) (cs : Array Value) (T' : TypeId) (hcs : cs = (ys.map (Value.int .i64)).toArray)
    (hn : n ≤ 1073741823) (hB : B ≤ wr.heap.size)
    (h : ∀ A' c' w', Own w' B e k (.slice A' (n + 1) c') (n + 1) (xs ++ ys) → wr.grownBy w' (A.map (·.block)) → Grew wr A A' → wpList Tryz.prog ops R rest (a.put o.dst (.slice A' (n + 1) c')) w') :
    wpList Tryz.prog ops R (o :: rest) a (wr.alloc (.cells cs T')) := by
  subst hH
  obtain ⟨i, z, hu, hi, hz0, hz1, hz2, hz3, hk⟩ := E
  refine wpList_append_flat wr hgd s x st ho B e i z k i.bytes hu hi hz0 hz1 rfl (by rw [hz3]; simp) hk hz2 A n c _ (ys.map (Value.int .i64)) hs hown hx (by simpa using hl) (ints_one ys) cs T' hcs hn hB ?_
  intro A' c' w' h1 h2 h3
  rw [← List.map_append] at h1
  exact h A' c' w' h1 h2 h3
theorem Own.cap {w : World} {B : Nat} {e : TypeId} {k n c : Nat} {A : Option Addr} {xs : List Int} (h : Own w B e k (.slice A n c) n xs) : n ≤ c := by
  rcases h.2 with ⟨h1, _⟩ | ⟨g, cap, cur, h1, _, _, hnc, _⟩
  · injection h1 with _ h2 h3
    omega
  · injection h1 with _ _ h3
    omega
theorem Own.len {w : World} {B : Nat} {e : TypeId} {k n : Nat} {v : Value} {xs : List Int} (h : Own w B e k v n xs) : xs.length = n * k := by simpa using h.1
/-- The slice value v is a row of the call's own (or nil) and reads as xs. -/
def OwnL (w : World) (B : Nat) (e : TypeId) (k : Nat) (v : Value) (xs : List Int) : Prop := ∃ A n c, v = .slice A n c ∧ Own w B e k (.slice A n c) n xs
theorem OwnL.nil {w : World} {B : Nat} {e : TypeId} {k : Nat} : OwnL w B e k (.slice none 0 0) [] := ⟨none, 0, 0, rfl, Own.nil⟩
theorem OwnL.new (w : World) (T : TypeId) (k : Nat) {B : Nat} (hB : B ≤ w.heap.size) : OwnL (w.alloc (.cells #[] T)) B T k (.slice (some ⟨w.heap.size, 0, none⟩) 0 0) [] :=
  ⟨_, _, _, rfl, Own.lit w T k 0 [] rfl hB (by simp) (by decide)⟩
theorem OwnL.q {w w' : World} {B : Nat} {e : TypeId} {k : Nat} {v : Value} {xs : List Int} (h : OwnL w B e k v xs) (hq : Q w w') : OwnL w' B e k v xs := by
  obtain ⟨A, n, c, rfl, ho⟩ := h
  exact ⟨A, n, c, rfl, ho.q hq⟩
theorem RS.mk' {w w' : World} {T : TypeId} {k n c N : Nat} {A : Option Addr} {xs : List Int} {code : Int} (o : Own w' w.heap.size T k (.slice A n c) n xs) (q : Q w w') (hN : xs.length = N * k) (hk : 0 < k) :
    RS w T k N xs code (.returned (.tuple #[.slice A n c, .int .i64 code])) w' := by
  have h : n = N := Nat.eq_of_mul_eq_mul_right hk (o.len.symm.trans hN)
  subst h
  exact ⟨A, c, rfl, o, q⟩
/-- A slice of the call's own is returned. -/
def RL (w : World) (T : TypeId) (k n : Nat) (xs : List Int) (e : Ending) (w' : World) : Prop :=
  ∃ A c, e = .returned (.slice A n c) ∧ Own w' w.heap.size T k (.slice A n c) n xs ∧ Q w w'
theorem RL.mk' {w w' : World} {T : TypeId} {k n c N : Nat} {A : Option Addr} {xs : List Int} (o : Own w' w.heap.size T k (.slice A n c) n xs) (q : Q w w') (hN : xs.length = N * k) (hk : 0 < k) : RL w T k N xs (.returned (.slice A n c)) w' := by
  have h : n = N := Nat.eq_of_mul_eq_mul_right hk (o.len.symm.trans hN)
  subst h
  exact ⟨A, c, rfl, o, q⟩
/-- append of all elements of a slice that reads as ys. -/
theorem appKs {wr : World} {ops : Array Oper} {rest : List Oper} {o : Oper} {a : Act} {R : Exit → Act → World → Prop} {st e : TypeId} {k : Nat} (E : EltT st e k) (hgd : o.guard = none) (s x : Operand)
    (ho : o.op = .call { callee := .builtin .append, args := #[s, x], argTypes := #[st, st] })
    {B : Nat} {A : Option Addr} {n c : Nat} {xs : List Int} (hs : a.eval s = .slice A n c) (hown : Own wr B e k (.slice A n c) n xs)
    {m d b o' : Nat} {ys : List Int} (hx : a.eval x = .slice (some ⟨b, o', none⟩) m d) (hr : ∀ j, j < ys.length → wr.cell? ⟨b, o' + j, none⟩ = some (.int .i64 (ys.getD j 0))) (hl : ys.length = m * k)
    (hn : n + m ≤ 1073741823) (hB : B ≤ wr.heap.size)
    (h : ∀ A' c' w', Own w' B e k (.slice A' (n + m) c') (n + m) (xs ++ ys) → wr.grownBy w' (A.map (·.block)) → Grew wr A A' → wpList Tryz.prog ops R rest (a.put o.dst (.slice A' (n + m) c')) w') :
    wpList Tryz.prog ops R (o :: rest) a wr := by
  obtain ⟨i, z, hu, hi, hz0, hz1, hz2, hz3, hk⟩ := E
  obtain ⟨v', w', hrun, ho', hg, _, hat⟩ := run_append_own_at (P := Tryz.prog) wr B st o.type e i z k i.bytes hu hi hz0 hz1 rfl (by rw [hz3]; simp) hk (.slice A n c) n _ hown
    ⟨b, o', none⟩ m d (ys.map (Value.int .i64)) (by simpa using hl) (by
      intro j u hu
      rw [List.getElem?_map] at hu
      have hj : j < ys.length := by
        rcases Nat.lt_or_ge j ys.length with h | h
        · exact h
        · rw [List.getElem?_eq_none h] at hu; cases hu
      rw [Go.WideShapes.add_plain, hr j hj, List.getD_eq_getElem?_getD]
      rw [List.getElem?_eq_getElem hj] at hu ⊢
      simpa using hu) (ints_one ys) (by unfold maxLen; omega) (by
      have : (n + m) * i.bytes ≤ 1073741824 * 65536 := Nat.mul_le_mul (by omega) hz2
      omega) (by omega)
  rw [← List.map_append] at ho'
  have hO : Own w' B e k v' (n + m) (xs ++ ys) := ho'
  obtain ⟨_, A', c', rfl, _, _⟩ := hO.form
  refine wpList_plain hgd fun K hK => ?_
  unfold Oper.wp execOp
  simp only [ho, resolve, invoke, builtin, Sem.run_bind, Sem.run_pure, Result.andThen_ok, List.map_toArray, List.map_cons, List.map_nil, hs, hx, hrun]
  refine hK _ _ (h A' c' w' hO (by cases A <;> exact hg) ?_)
  rcases hat with h | h
  · left
    cases A <;> cases A' <;> exact h
  · right
    exact ⟨_, by cases A' <;> exact h, by simp⟩
end Go.Proofs.YteofhfefbphjdaaGreatDoor
namespace Go.Proofs.YteofhfefbphjdaaGreatDoor
open Go.RowKit Go.WideShapes Go.ChangeShapes
theorem floor_neg {a b : Int} (ha : a < 0) (hb : 0 < b) : a / b = (if a.tmod b < 0 then a.tdiv b - 1 else a.tdiv b) ∧ a ≤ a.tdiv b ∧ a.tdiv b ≤ 0 := by
  have h1 : a.tdiv b = -((-a) / b) := by
    have := Int.neg_tdiv (a := -a) (b := b)
    rw [Int.neg_neg] at this
    rw [this, Int.tdiv_eq_ediv_of_nonneg (by omega)]
  have h2 : a.tmod b = -((-a) % b) := by
    have := Int.neg_tmod (a := -a) (b := b)
    rw [Int.neg_neg] at this
    rw [this, Int.tmod_eq_emod_of_nonneg (by omega)]
  have h3 := Int.emod_nonneg (-a) (show b ≠ 0 by omega)
  have h4 := Int.emod_lt_of_pos (-a) hb
  have h5 := Int.mul_ediv_add_emod (-a) b
  have h6 : 0 ≤ (-a) / b := Int.ediv_nonneg (by omega) (by omega)
  have h7 : (-a) / b ≤ -a := Int.ediv_le_self _ (by omega)
  refine ⟨?_, by omega, by omega⟩
  rw [h1, h2]
  generalize (-a) / b = q at *
  generalize (-a) % b = r at *
  split
  · rename_i hr
    rw [show a = (b - r) + b * (-q - 1) by rw [Int.mul_sub, Int.mul_neg]; omega, Int.add_mul_ediv_left _ _ (by omega), Int.ediv_eq_zero_of_lt (by omega) (by omega)]
    omega
  · rename_i hr
    rw [show a = 0 + b * (-q) by rw [Int.mul_neg]; omega, Int.add_mul_ediv_left _ _ (by omega), Int.zero_ediv]
    omega
theorem impl_floorDiv (a b : Int) (w : World) (hb : 0 < b) (ha : -9223372036854775807 ≤ a ∧ a ≤ 9223372036854775807) (hb2 : b ≤ 9223372036854775807) :
    Calls Tryz.prog 84 #[.int .i64 a, .int .i64 b] w fun e w' => e = .returned (.int .i64 (a / b)) ∧ w = w' := by
  by_cases h0 : 0 ≤ a
  · have h1 := Int.emod_nonneg a (show b ≠ 0 by omega)
    go_enter Tryz.func84, Tryz.ntmps84
    go_wp2_with fail
    go_ret
    exact ⟨rfl, rfl⟩
  · obtain ⟨h1, h2, h3⟩ := floor_neg (show a < 0 by omega) hb
    have HE := Lib.hid h1
    by_cases hm : a.tmod b < 0
    · rw [if_pos hm] at h1
      have HE := Lib.hid h1
      clear h1
      go_enter Tryz.func84, Tryz.ntmps84
      go_wp2_with fail
      go_ret
      exact ⟨ret_int HE.out.symm, rfl⟩
    · rw [if_neg hm] at h1
      have HE := Lib.hid h1
      clear h1
      go_enter Tryz.func84, Tryz.ntmps84
      go_wp2_with fail
      go_ret
      exact ⟨ret_int HE.out.symm, rfl⟩
theorem spec_Floor (a b : Int) (w : World) (hb : 0 < b) (ha : -9223372036854775807 ≤ a ∧ a ≤ 9223372036854775807) (hb2 : b ≤ 9223372036854775807) :
    Calls Tryz.prog 44 #[.int .i64 a, .int .i64 b] w fun e w' => e = .returned (.int .i64 (a / b)) ∧ w = w' := by
  by_cases h0 : 0 ≤ a
  · have h1 := Int.emod_nonneg a (show b ≠ 0 by omega)
    go_enter Tryz.func44, Tryz.ntmps44
    go_wp2_with fail
    go_ret
    exact ⟨rfl, rfl⟩
  · obtain ⟨h1, h2, h3⟩ := floor_neg (show a < 0 by omega) hb
    by_cases hm : a.tmod b < 0
    · rw [if_pos hm] at h1
      have HE := Lib.hid h1
      clear h1
      go_enter Tryz.func44, Tryz.ntmps44
      go_wp2_with fail
      go_ret
      exact ⟨ret_int HE.out.symm, rfl⟩
    · rw [if_neg hm] at h1
      have HE := Lib.hid h1
      clear h1
      go_enter Tryz.func44, Tryz.ntmps44
      go_wp2_with fail
      go_ret
      exact ⟨ret_int HE.out.symm, rfl⟩
end Go.Proofs.YteofhfefbphjdaaGreatDoor
