/- append of one element to a slice of the call's own, with the place where the new slice lies. No condition. -/
import Derived.Test.YtkpdoikjfibflaaGreatSl
import Derived.Maps.AppendAt
namespace Go.Proofs.YtkpdoikjfibflaaGreat
open Go.RowKit Go.WideShapes Go.ChangeShapes
/-- Two addresses are not in one block. -/
def Far (A A' : Option Addr) : Prop := ∀ a b, A = some a → A' = some b → a.block ≠ b.block
theorem Far.symm {A A' : Option Addr} (h : Far A A') : Far A' A := fun a b ha hb => (h b a hb ha).symm
/-- Where an append leaves its slice: in the old row, or in a block that was just made. -/
def Grew (wr : World) (A A' : Option Addr) : Prop := A'.map (·.block) = A.map (·.block) ∨ ∃ g, A'.map (·.block) = some g ∧ wr.heap.size ≤ g
theorem Far.grew {wr : World} {A A' X : Option Addr} (h : Far X A) (hg : Grew wr A A') (hX : ∀ a, X = some a → a.block < wr.heap.size) : Far X A' := by
  intro a b ha hb
  rcases hg with hg | ⟨g, hg, hlt⟩
  · rw [hb] at hg
    rcases A with _ | c
    · simp at hg
    · have := h a c ha rfl
      simp only [Option.map_some, Option.some.injEq] at hg
      rw [hg]; exact this
  · rw [hb] at hg
    simp only [Option.map_some, Option.some.injEq] at hg
    have := hX a ha
    omega
theorem Rd.far {w w' : World} {A A' : Option Addr} {xs : List Int} (h : Rd w A xs) (hg : w.grownBy w' (A'.map (·.block))) (hf : Far A A') : Rd w' A xs := by
  refine h.grown hg fun a ha he => ?_
  rcases A' with _ | b
  · cases he
  · simp only [Option.map_some, Option.some.injEq] at he
    exact hf a b ha rfl he
theorem Own.far {w w' : World} {B : Nat} {e : TypeId} {k n c : Nat} {A A' : Option Addr} {xs : List Int} (h : Own w B e k (.slice A n c) n xs) (hg : w.grownBy w' (A'.map (·.block))) (hf : Far A A') : Own w' B e k (.slice A n c) n xs := by
  refine World.ownsRow.kept h hg ?_
  rcases A with _ | a
  · exact .inl rfl
  · rcases A' with _ | b
    · exact .inr (by simp [Value.ownBlock])
    · refine .inr ?_
      have := hf a b rfl rfl
      simp only [Value.ownBlock, Option.map_some]
      intro he
      injection he with he
      exact this he
theorem Q.lt {w w' : World} {A : Option Addr} (hq : Q w w') (h : ∀ a, A = some a → a.block < w.heap.size) : ∀ a, A = some a → a.block < w'.heap.size := fun a ha => Nat.lt_of_lt_of_le (h a ha) hq.size
theorem run_append_flat {P : Program} (wr : World) (t ty e : TypeId) (B : Nat) (i : TypeInfo) (z : Value) (k bytes : Nat) (ht : P.underlying t = some (.slice e)) (hi : P.info? e = some i) (hz : i.zero = some z)
    (hsize : i.size = k) (hby : i.bytes = bytes) (hzs : z.cells.size = k) (hk : 0 < k) (hbb : bytes ≤ 65536)
    (A : Option Addr) (n c : Nat) (xs ys : List Value) (hown : wr.ownsRow B e k (.slice A n c) n xs) (hl : ys.length = k) (h1 : ∀ u ∈ ys, u.oneCell' = true) (T' : TypeId)
    (hn : n ≤ 1073741823) (hB : B ≤ wr.heap.size) :
    ∃ A' c' w', (Builtin.append_ #[t, t] ty #[.slice A n c, .slice (some ⟨wr.heap.size, 0, none⟩) 1 1]).run P (wr.alloc (.cells ys.toArray T')) = .ok (.slice A' (n + 1) c') w' ∧
      w'.ownsRow B e k (.slice A' (n + 1) c') (n + 1) (xs ++ ys) ∧ wr.grownBy w' (A.map (·.block)) ∧ Grew wr A A' := by
  have hblk := Blk.new wr T' ys.toArray
  obtain ⟨v', w', hrun, ho, hg, _, hat⟩ := run_append_own_at (P := P) (wr.alloc (.cells ys.toArray T')) B t ty e i z k bytes ht hi hz hsize hby hzs hk (.slice A n c) n xs (World.ownsRow.alloc hown _)
    ⟨wr.heap.size, 0, none⟩ 1 1 ys (by simpa using hl) (by
      intro j u hu
      rw [Go.WideShapes.add_plain, Nat.zero_add, hblk.cell]
      simpa using hu) h1 (by unfold maxLen; omega) (by
      have : (n + 1) * bytes ≤ 1073741824 * 65536 := Nat.mul_le_mul (by omega) hbb
      omega) (by simp; omega)
  have hform : ∃ A' c', v' = .slice A' (n + 1) c' := by
    rcases ho.2 with ⟨_, h0⟩ | ⟨g, cap, cur, h', _⟩
    · omega
    · exact ⟨_, _, h'⟩
  obtain ⟨A', c', rfl⟩ := hform
  have hg2 : wr.grownBy w' (Value.slice A n c).ownBlock := grown_trans2 ((Q.refl wr).alloc _) hg
  refine ⟨A', c', w', hrun, ho, by cases A <;> exact hg2, ?_⟩
  rcases hat with h | h
  · left
    cases A <;> cases A' <;> exact h
  · right
    exact ⟨_, by cases A' <;> exact h, by simp⟩
/-- append of one element whose cells are ys. -/
theorem wpList_append_flat {P : Program} (wr : World) {ops : Array Oper} {rest : List Oper} {o : Oper} {a : Act} {R : Exit → Act → World → Prop} (hgd : o.guard = none) (s x : Operand) (t : TypeId)
    (ho : o.op = .call { callee := .builtin .append, args := #[s, x], argTypes := #[t, t] })
    (B : Nat) (e : TypeId) (i : TypeInfo) (z : Value) (k bytes : Nat) (ht : P.underlying t = some (.slice e)) (hi : P.info? e = some i) (hz : i.zero = some z)
    (hsize : i.size = k) (hby : i.bytes = bytes) (hzs : z.cells.size = k) (hk : 0 < k) (hbb : bytes ≤ 65536)
    (A : Option Addr) (n c : Nat) (xs ys : List Value) (hs : a.eval s = .slice A n c) (hown : wr.ownsRow B e k (.slice A n c) n xs)
    (hx : a.eval x = .slice (some ⟨wr.heap.size, 0, none⟩) 1 1) (hl : ys.length = k) (h1 : ∀ u ∈ ys, u.oneCell' = true) (cs : Array Value) (T' : TypeId) (hcs : cs = ys.toArray)
    (hn : n ≤ 1073741823) (hB : B ≤ wr.heap.size)
    (h : ∀ A' c' w', w'.ownsRow B e k (.slice A' (n + 1) c') (n + 1) (xs ++ ys) → wr.grownBy w' (A.map (·.block)) → Grew wr A A' → wpList P ops R rest (a.put o.dst (.slice A' (n + 1) c')) w') :
    wpList P ops R (o :: rest) a (wr.alloc (.cells cs T')) := by
  subst hcs
  obtain ⟨A', c', w', hrun, h2, h3, h4⟩ := run_append_flat (P := P) wr t o.type e B i z k bytes ht hi hz hsize hby hzs hk hbb A n c xs ys hown hl h1 T' hn hB
  refine wpList_plain hgd fun K hK => ?_
  unfold Oper.wp execOp
  simp only [ho, resolve, invoke, builtin, Sem.run_bind, Sem.run_pure, Result.andThen_ok, List.map_toArray, List.map_cons, List.map_nil, hs, hx, hrun]
  exact hK _ _ (h A' c' w' h2 h3 h4)
theorem ints_one (ys : List Int) : ∀ u ∈ ys.map (Value.int .i64), u.oneCell' = true := by
  intro u hu
  obtain ⟨y, _, rfl⟩ := List.mem_map.1 hu
  rfl
end Go.Proofs.YtkpdoikjfibflaaGreat
