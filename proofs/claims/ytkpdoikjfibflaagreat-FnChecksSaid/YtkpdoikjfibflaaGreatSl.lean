/- Words for slices of numbers, and of structs of numbers: what a slice reads as, what a call owns; how an argument opens. No condition. -/
import Derived.Test.YtkpdoikjfibflaaGreatBase
import Derived.Laws.OwnMore
namespace Go.Proofs.YtkpdoikjfibflaaGreat
open Go.RowKit Go.WideShapes Go.ChangeShapes Go.Deep

/-- The cells from address A on hold the numbers xs. -/
def Rd (w : World) (A : Option Addr) (xs : List Int) : Prop := ∃ b o, (0 < xs.length → A = some ⟨b, o, none⟩) ∧ ∀ j, j < xs.length → w.cell? ⟨b, o + j, none⟩ = some (.int .i64 (xs.getD j 0))
theorem Rd.nil (w : World) (A : Option Addr) : Rd w A [] := ⟨0, 0, fun h => absurd h (by simp), fun j h => absurd h (by simp)⟩
theorem Rd.keep {w w' : World} {A : Option Addr} {xs : List Int} (h : Rd w A xs) (hk : ∀ p : Addr, A.map (·.block) = some p.block → p.block < w.heap.size → w'.cell? p = w.cell? p) : Rd w' A xs := by
  obtain ⟨b, o, hA, hc⟩ := h
  refine ⟨b, o, hA, fun j hj => ?_⟩
  have h1 := hc j hj
  rw [hk ⟨b, o + j, none⟩ (by rw [hA (by omega)]; rfl) (World.block_lt_of_cell? w _ h1)]
  exact h1
theorem Rd.q {w w' : World} {A : Option Addr} {xs : List Int} (h : Rd w A xs) (hq : Q w w') : Rd w' A xs := h.keep fun _ _ hp => Below.cell hq hp
theorem Rd.below {B : Nat} {w w' : World} {A : Option Addr} {xs : List Int} (h : Rd w A xs) (hq : Below B w w') (hB : ∀ a, A = some a → a.block < B) : Rd w' A xs := by
  refine h.keep fun p hp _ => Below.cell hq ?_
  rcases A with _ | a
  · cases hp
  · simp at hp; rw [← hp]; exact hB a rfl
theorem Rd.grown {w w' : World} {A : Option Addr} {xs : List Int} {row : Option Nat} (h : Rd w A xs) (hg : w.grownBy w' row) (hr : ∀ a, A = some a → some a.block ≠ row) : Rd w' A xs := by
  refine h.keep fun p hp hlt => World.cell?_of_block (hg.block p.block hlt ?_)
  rcases A with _ | a
  · cases hp
  · simp at hp; rw [← hp]; exact hr a rfl
theorem Q.cell {w w' : World} (hq : Q w w') {p : Addr} {v : Value} (h : w.cell? p = some v) : w'.cell? p = some v := (hq.below.cell (World.block_lt_of_cell? w _ h)).trans h
/-- Numbers from k on. -/
def seqI (k : Int) (n : Nat) : List Int := (List.range n).map fun (i : Nat) => k + (i : Int)
theorem seqI_len (k : Int) (n : Nat) : (seqI k n).length = n := by simp [seqI]
theorem seqI_get (k : Int) {n i : Nat} (h : i < n) : (seqI k n).getD i 0 = k + i := by
  unfold seqI
  rw [List.getD_eq_getElem?_getD, List.getElem?_map, List.getElem?_range h]
  rfl
/-- What a call owns: it starts the rows of a block of its own, or is nil. -/
def Own (w : World) (B : Nat) (e : TypeId) (k : Nat) (v : Value) (n : Nat) (xs : List Int) : Prop := w.ownsRow B e k v n (xs.map (Value.int .i64))
theorem Own.form {w : World} {B : Nat} {e : TypeId} {k : Nat} {v : Value} {n : Nat} {xs : List Int} (h : Own w B e k v n xs) :
    xs.length = n * k ∧ ∃ A c, v = .slice A n c ∧ Rd w A xs ∧ (∀ a, A = some a → B ≤ a.block ∧ a.block < w.heap.size) := by
  have hl : xs.length = n * k := by simpa using h.1
  refine ⟨hl, ?_⟩
  rcases h.2 with ⟨rfl, rfl⟩ | ⟨g, cap, cur, rfl, hg, hh, hn, hcm, hcs, hx⟩
  · exact ⟨none, 0, rfl, by have : xs = [] := List.eq_nil_of_length_eq_zero (by simpa using hl); subst this; exact Rd.nil _ _, fun a h => by cases h⟩
  · refine ⟨_, cap, rfl, ⟨g, 0, fun _ => rfl, fun j hj => ?_⟩, fun a ha => ?_⟩
    · have := h.cellAt j (by omega)
      rw [Nat.zero_add, this, List.getElem?_map, List.getD_eq_getElem?_getD, List.getElem?_eq_getElem hj]
      rfl
    · injection ha with ha
      subst ha
      refine ⟨hg, ?_⟩
      rcases Nat.lt_or_ge g w.heap.size with hlt | hge
      · exact hlt
      · rw [Array.getElem?_eq_none hge] at hh; cases hh
theorem Own.q {w w' : World} {B : Nat} {e : TypeId} {k : Nat} {v : Value} {n : Nat} {xs : List Int} (h : Own w B e k v n xs) (hq : Q w w') : Own w' B e k v n xs :=
  World.ownsRow.kept (row := none) h ⟨hq.os, hq.tape, hq.output, hq.size, fun i hi _ => hq.block i hi⟩ (by
    cases hv : v.ownBlock with
    | none => exact .inl rfl
    | some _ => exact .inr (by simp))
theorem Own.mono {w : World} {B B' : Nat} {e : TypeId} {k : Nat} {v : Value} {n : Nat} {xs : List Int} (h : Own w B e k v n xs) (hB : B' ≤ B) : Own w B' e k v n xs := by
  refine ⟨h.1, ?_⟩
  rcases h.2 with h2 | ⟨g, cap, cur, h1, hg, h3⟩
  · exact .inl h2
  · exact .inr ⟨g, cap, cur, h1, Nat.le_trans hB hg, h3⟩

/-- Nil, or a row of a block: for a store. -/
theorem Own.split {w : World} {B : Nat} {e : TypeId} {k n c : Nat} {A : Option Addr} {xs : List Int} (h : Own w B e k (.slice A n c) n xs) (hn : 0 < n) : ∃ g, A = some ⟨g, 0, none⟩ ∧ B ≤ g := by
  rcases h.2 with ⟨h', h0⟩ | ⟨g, cap, cur, h', hg, _⟩
  · omega
  · injection h' with h1 _ _
    exact ⟨g, h1, hg⟩
theorem Own.cell {w : World} {B : Nat} {e : TypeId} {k n c g : Nat} {xs : List Int} (h : Own w B e k (.slice (some ⟨g, 0, none⟩) n c) n xs) {j : Nat} (hj : j < n * k) : w.cell? ⟨g, j, none⟩ = some (.int .i64 (xs.getD j 0)) := by
  have hl : xs.length = n * k := by simpa using h.1
  rw [World.ownsRow.cellAt h j hj, List.getElem?_map, List.getD_eq_getElem?_getD, List.getElem?_eq_getElem (by omega)]
  rfl
theorem Own.frozen {w : World} {B : Nat} {e : TypeId} {k n c g : Nat} {xs : List Int} (h : Own w B e k (.slice (some ⟨g, 0, none⟩) n c) n xs) (j : Nat) : w.frozen? ⟨g, j, none⟩ = false := World.ownsRow.frozenAt h j
theorem Own.stored {w : World} {B : Nat} {e : TypeId} {k n c g : Nat} {xs : List Int} (h : Own w B e k (.slice (some ⟨g, 0, none⟩) n c) n xs) (j : Nat) (u : Int) : Own (w.setCell ⟨g, j, none⟩ (.int .i64 u)) B e k (.slice (some ⟨g, 0, none⟩) n c) n (xs.set j u) := by
  have := (World.ownsRow.stored h j (.int .i64 u)).1
  unfold Own
  rw [List.map_set]
  exact this
theorem grown_set {a w : World} {g : Nat} (h : a.grownBy w (some g)) (j : Nat) (u : Value) : a.grownBy (w.setCell ⟨g, j, none⟩ u) (some g) :=
  ⟨h.os, h.tape, h.output, by simpa [World.setCell] using h.size, fun i hi hne => (Below.heap_setCell w ⟨g, j, none⟩ u i (by rintro rfl; exact hne rfl)).trans (h.block i hi hne)⟩
theorem grown_refl (w : World) (row : Option Nat) : w.grownBy w row := ⟨rfl, rfl, rfl, Nat.le_refl _, fun _ _ _ => rfl⟩
theorem grown_drewN {a w : World} {row : Option Nat} (h : a.grownBy w row) (n : Nat) : a.grownBy (w.drewN n) row := ⟨h.os, h.tape, h.output, h.size, h.block⟩
theorem grown_q {a w w' : World} {row : Option Nat} (h : a.grownBy w row) (hq : Q w w') : a.grownBy w' row :=
  ⟨hq.os.trans h.os, hq.tape.trans h.tape, hq.output.trans h.output, Nat.le_trans h.size hq.size, fun i hi hne => (hq.block i (Nat.lt_of_lt_of_le hi h.size)).trans (h.block i hi hne)⟩
theorem Own.drewN {w : World} {B : Nat} {e : TypeId} {k : Nat} {v : Value} {n : Nat} {xs : List Int} (h : Own w B e k v n xs) (m : Nat) : Own (w.drewN m) B e k v n xs := h
theorem seq_set {q : Int} {k : Nat} {xs : List Int} (hk : k < xs.length) : (seqI q k ++ xs.drop k).set k (q + k) = seqI q (k + 1) ++ xs.drop (k + 1) := by
  have h1 : (seqI q k).length = k := seqI_len q k
  rw [List.set_append_right (h := by omega), h1, Nat.sub_self, List.drop_eq_getElem_cons hk]
  simp only [List.set_cons_zero, seqI, List.range_succ, List.map_append, List.map_cons, List.map_nil, List.append_assoc, List.cons_append, List.nil_append]
theorem seq_done {q : Int} {n : Nat} {xs : List Int} (hn : xs.length = n) : seqI q n ++ xs.drop n = seqI q n := by rw [List.drop_of_length_le (by omega), List.append_nil]
/-- A slice of n elements of its own, and a code. -/
def RS (w : World) (T : TypeId) (k n : Nat) (xs : List Int) (code : Int) (e : Ending) (w' : World) : Prop :=
  ∃ A c, e = .returned (.tuple #[.slice A n c, .int .i64 code]) ∧ Own w' w.heap.size T k (.slice A n c) n xs ∧ Q w w'
theorem RS.nil (w w' : World) (T : TypeId) (k : Nat) (code : Int) (hq : Q w w') : RS w T k 0 [] code (.returned (.tuple #[.slice none 0 0, .int .i64 code])) w' := ⟨none, 0, rfl, ⟨by simp, .inl ⟨rfl, rfl⟩⟩, hq⟩
theorem Own.lit {W : World} {B : Nat} (w : World) (T : TypeId) (k n : Nat) (xs : List Int) (hw : W = w.alloc (.cells (xs.map (Value.int .i64)).toArray T)) (hB : B ≤ w.heap.size) (hl : xs.length = n * k) (hn : n ≤ maxLen) :
    Own W B T k (.slice (some ⟨w.heap.size, 0, none⟩) n n) n xs := by
  subst hw
  have := World.ownsRow_lit (base := B) (e := T) (size := k) w (xs.map (Value.int .i64)).toArray n hB hn (by simpa using hl)
  unfold Own
  simpa using this
theorem Own.rd {w : World} {B : Nat} {e : TypeId} {k n c : Nat} {A : Option Addr} {xs : List Int} (h : Own w B e k (.slice A n c) n xs) : Rd w A xs := by
  obtain ⟨_, A', c', he, hr, _⟩ := h.form
  injection he with h1 _ _
  rw [h1]
  exact hr
theorem Own.from {w : World} {B : Nat} {e : TypeId} {k n c : Nat} {A : Option Addr} {xs : List Int} (h : Own w B e k (.slice A n c) n xs) : ∀ a, A = some a → B ≤ a.block ∧ a.block < w.heap.size := by
  obtain ⟨_, A', c', he, _, hr⟩ := h.form
  injection he with h1 _ _
  rw [h1]
  exact hr
/-- What one call made reads on while what a later call made is written. -/
theorem Rd.mark {a w w' : World} {e : TypeId} {k n c : Nat} {A A' : Option Addr} {xs ys : List Int} (h : Rd w A xs) (hA : ∀ p, A = some p → p.block < a.heap.size) (ho : Own w a.heap.size e k (.slice A' n c) n ys) (hg : w.grownBy w' (A'.map (·.block))) : Rd w' A xs := by
  refine h.grown hg fun p hp he => ?_
  rcases A' with _ | b
  · cases he
  · have h1 := ho.from b rfl
    have h2 := hA p hp
    simp only [Option.map_some, Option.some.injEq] at he
    omega
theorem Q.mark {a w w' : World} {B : Nat} {e : TypeId} {k n c : Nat} {A' : Option Addr} {ys : List Int} (h : Q a w) (ho : Own w B e k (.slice A' n c) n ys) (hB : a.heap.size ≤ B) (hg : w.grownBy w' (A'.map (·.block))) : Q a w' := by
  refine h.grown hg fun b he => ?_
  rcases A' with _ | p
  · cases he
  · have h1 := ho.from p rfl
    simp only [Option.map_some, Option.some.injEq] at he
    omega
theorem made_ints {z : Array Value} {k : Nat} (hz : z = (List.replicate k (Value.int .i64 0)).toArray) (hk : 0 < k) (N : Nat) : (madeCells z N).toList = (List.replicate N (0 : Int)).map (Value.int .i64) := by
  subst hz
  apply List.ext_getElem
  · simp [madeCells]
  · intro i h1 h2
    have hm : i % k < k := Nat.mod_lt _ hk
    simp [madeCells, hm]
theorem take_set {xs zs : List Int} {m : Nat} (hm : m < xs.length) (hz : zs.length = xs.length) : (xs.take m ++ zs.drop m).set m (xs.getD m 0) = xs.take (m + 1) ++ zs.drop (m + 1) := by
  have h1 : (xs.take m).length = m := by rw [List.length_take]; omega
  rw [List.set_append_right (h := by omega), h1, Nat.sub_self, List.drop_eq_getElem_cons (by omega), List.take_succ_eq_append_getElem hm]
  simp only [List.set_cons_zero, List.getD_eq_getElem?_getD, List.getElem?_eq_getElem hm, Option.getD_some, List.append_assoc, List.cons_append, List.nil_append]
theorem take_done {xs zs : List Int} {m : Nat} (hm : xs.length = m) (hz : zs.length = m) : xs.take m ++ zs.drop m = xs := by
  rw [List.take_of_length_le (by omega), List.drop_of_length_le (by omega), List.append_nil]
theorem Q.own_set {a w : World} {B : Nat} {e : TypeId} {k n c g : Nat} {xs : List Int} (h : Q a w) (ho : Own w B e k (.slice (some ⟨g, 0, none⟩) n c) n xs) (hB : a.heap.size ≤ B) (j : Nat) (u : Value) : Q a (w.setCell ⟨g, j, none⟩ u) :=
  h.setCell (p := ⟨g, j, none⟩) (Nat.le_trans hB (ho.from _ rfl).1) u
theorem grown_trans2 {a w w' : World} {row : Option Nat} (h : Q a w) (hg : w.grownBy w' row) : a.grownBy w' row :=
  ⟨hg.os.trans h.os, hg.tape.trans h.tape, hg.output.trans h.output, Nat.le_trans h.size hg.size, fun i hi hne => (hg.block i (Nat.lt_of_lt_of_le hi h.size) hne).trans (h.block i hi)⟩
/-- append of one element (a number, a struct of numbers) to a slice of the call's own. -/
theorem wpList_append_one {P : Program} (wr : World) {ops : Array Oper} {rest : List Oper} {o : Oper} {a : Act} {R : Exit → Act → World → Prop} (hgd : o.guard = none) (s x : Operand) (t : TypeId)
    (ho : o.op = .call { callee := .builtin .append, args := #[s, x], argTypes := #[t, t] })
    (B : Nat) (e : TypeId) (i : TypeInfo) (z : Value) (k bytes : Nat) (ht : P.underlying t = some (.slice e)) (hi : P.info? e = some i) (hz : i.zero = some z)
    (hsize : i.size = k) (hby : i.bytes = bytes) (hzs : z.cells.size = k) (hk : 0 < k) (hbb : bytes ≤ 65536)
    (A : Option Addr) (n c : Nat) (xs ys : List Int) (hs : a.eval s = .slice A n c) (hown : Own wr B e k (.slice A n c) n xs)
    (hx : a.eval x = .slice (some ⟨wr.heap.size, 0, none⟩) 1 1) (hl : ys.length = k) (cs : Array Value) (T' : TypeId) (hcs : cs = (ys.map (Value.int .i64)).toArray)
    (hn : n ≤ 1073741823) (hB : B ≤ wr.heap.size)
    (h : ∀ A' c' w', Own w' B e k (.slice A' (n + 1) c') (n + 1) (xs ++ ys) → wr.grownBy w' (A.map (·.block)) → wpList P ops R rest (a.put o.dst (.slice A' (n + 1) c')) w') :
    wpList P ops R (o :: rest) a (wr.alloc (.cells cs T')) := by
  subst hcs
  have hown' : (wr.alloc (.cells (ys.map (Value.int .i64)).toArray T')).ownsRow B e k (.slice A n c) n (xs.map (Value.int .i64)) := World.ownsRow.alloc hown _
  have hblk := Blk.new wr T' (ys.map (Value.int .i64)).toArray
  refine wpList_append_own _ hgd s x t ho B e i z k bytes ht hi hz hsize hby hzs hk (.slice A n c) n _ hs hown' ⟨wr.heap.size, 0, none⟩ 1 1 (ys.map (Value.int .i64)) hx (by simpa using hl) ?_ ?_ (by unfold maxLen; omega) ?_ (by simp; omega) ?_
  · intro j u hu
    rw [Go.WideShapes.add_plain, Nat.zero_add, hblk.cell]
    simpa using hu
  · intro u hu
    obtain ⟨y, _, rfl⟩ := List.mem_map.1 hu
    rfl
  · have : (n + 1) * bytes ≤ 1073741824 * 65536 := Nat.mul_le_mul (by omega) hbb
    omega
  · intro v' w' ho' hg' _
    rw [← List.map_append] at ho'
    have hO : Own w' B e k v' (n + 1) (xs ++ ys) := ho'
    obtain ⟨_, A', c', rfl, _, _⟩ := hO.form
    refine h A' c' w' hO ?_
    have hg2 : wr.grownBy w' (Value.slice A n c).ownBlock := grown_trans2 ((Q.refl wr).alloc _) hg'
    cases A <;> exact hg2
theorem flat_index {X : Nat → List Int} {k n j : Nat} (hj : j < n * k) : ((List.range (n * k)).map fun i => (X (i / k)).getD (i % k) 0).getD j 0 = (X (j / k)).getD (j % k) 0 := by
  rw [List.getD_eq_getElem?_getD, List.getElem?_map, List.getElem?_range hj]
  rfl

/-- An argument that is a slice of numbers or of structs of numbers (k numbers an element). -/
theorem open_rows {P : Program} {H : Type} {enc : TypeId × Value → H} {w : World} {base : Nat} {spare : Nat → Bool} {held : Bool} {r : Reach} {b0 : Nat} {t e : TypeId} {k : Nat} {v : Value} {d : DataW H} {p : List MemPlace}
    (ht : P.underlying t = some (.slice e)) (hF : FlatE P e k) (hC : P.cellsOf e = k) (hk : 0 < k) (hv : Value.okWide P w r b0 t v) (h : DataW.Trod enc P w base spare held t v d p) :
    ∃ A len cap xs, v = .slice A len cap ∧ xs.length = len * k ∧ Rd w A xs ∧ (∀ y ∈ xs, -9223372036854775808 ≤ y ∧ y ≤ 9223372036854775807) ∧ len ≤ cap ∧ cap ≤ maxLen := by
  obtain ⟨A, len, cap, rfl⟩ := okWide_slice ht hv
  obtain ⟨fuel, hf⟩ := h
  rcases open_slice ht hf with ⟨hcs, _⟩ | ⟨a, len', cap', m, n, D, Pl, hcs, hb, hl, hm, hmm, hx, hi⟩
  · simp [Value.cells] at hcs
    obtain ⟨rfl, rfl, rfl⟩ := hcs
    exact ⟨none, 0, 0, [], rfl, by simp, Rd.nil _ _, (fun y hy => by cases hy), Nat.le_refl _, Nat.zero_le _⟩
  · simp [Value.cells] at hcs
    obtain ⟨rfl, rfl, rfl⟩ := hcs
    have hlm : len ≤ m := by rw [hmm]; split <;> omega
    have hX : ∀ i, i < len → ∃ xs : List Int, xs.length = k ∧ (∀ y ∈ xs, -9223372036854775808 ≤ y ∧ y ≤ 9223372036854775807) ∧ ∀ q, q < k → w.cell? ((a.add (i * k)).add q) = some (.int .i64 (xs.getD q 0)) := by
      intro i hil
      obtain ⟨cs', hc, ht'⟩ := hi i (by omega)
      rw [hC] at hc
      obtain ⟨xs, rfl, hxl, hxb⟩ := hF _ _ _ _ _ _ _ _ ht'
      obtain ⟨_, hcl, hat⟩ := World.cells?_some hc
      refine ⟨xs, hxl, hxb, fun q hq => ?_⟩
      rw [hat q hq, List.getElem?_map, List.getD_eq_getElem?_getD, List.getElem?_eq_getElem (by omega)]
      rfl
    obtain ⟨X, hX⟩ : ∃ X : Nat → List Int, ∀ i, i < len → (X i).length = k ∧ (∀ y ∈ X i, -9223372036854775808 ≤ y ∧ y ≤ 9223372036854775807) ∧ ∀ q, q < k → w.cell? ((a.add (i * k)).add q) = some (.int .i64 ((X i).getD q 0)) := by
      refine ⟨fun i => if h : i < len then (hX i h).choose else [], fun i hil => ?_⟩
      simp only [dif_pos hil]
      exact (hX i hil).choose_spec
    have hdiv : ∀ j, j < len * k → j / k < len := fun j hj => Nat.div_lt_of_lt_mul (by rw [Nat.mul_comm]; exact hj)
    refine ⟨some a, len, cap, (List.range (len * k)).map fun i => (X (i / k)).getD (i % k) 0, rfl, by simp, ?_, ?_, hl, hm⟩
    · rcases Nat.eq_zero_or_pos len with rfl | hpos
      · simp only [Nat.zero_mul, List.range_zero, List.map_nil]; exact Rd.nil _ _
      · obtain ⟨b, off, spot⟩ := a
        have hspot : spot = none := by simpa [Addr.add] using World.cell?_spot ((hX 0 hpos).2.2 0 hk)
        subst hspot
        refine ⟨b, off, fun _ => rfl, fun j hj => ?_⟩
        have hj : j < len * k := by simpa using hj
        rw [flat_index hj]
        have := (hX (j / k) (hdiv j hj)).2.2 (j % k) (Nat.mod_lt _ hk)
        rw [Go.WideShapes.add_plain, Go.WideShapes.add_plain, Nat.add_assoc] at this
        rw [← this]
        have hdm : j / k * k + j % k = j := by rw [Nat.mul_comm]; exact Nat.div_add_mod j k
        rw [hdm]
    · intro y hy
      obtain ⟨j, hj, rfl⟩ := List.mem_map.1 hy
      have hj : j < len * k := by simpa using hj
      have h1 := hX (j / k) (hdiv j hj)
      refine h1.2.1 _ ?_
      rw [List.getD_eq_getElem?_getD, List.getElem?_eq_getElem (by rw [h1.1]; exact Nat.mod_lt _ hk)]
      exact List.getElem_mem _
end Go.Proofs.YtkpdoikjfibflaaGreat
