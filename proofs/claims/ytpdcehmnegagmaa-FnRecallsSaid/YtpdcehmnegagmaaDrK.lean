/- What a call owns, while the source of numbers is drawn from. No condition. -/
import Derived.Test.YtpdcehmnegagmaaDraw
import Derived.RegionTactic
import Derived.Deep.CutBlock
import Derived.Deep.RegionWith
import Derived.Deep.AppendLies
namespace Go.Proofs.Ytpdcehmnegagmaa
open Go.RowKit Go.WideShapes Go.ChangeShapes
theorem Own.keepD {w w' : World} {B g k n c : Nat} {e : TypeId} {A : Option Addr} {xs : List Int} (h : Own w B e k (.slice A n c) n xs) (hg : w.grownBy w' (some g)) (hB : g < B) : Own w' B e k (.slice A n c) n xs := by
  refine World.ownsRow.kept h hg ?_
  rcases hA : A with _ | a
  · exact .inl rfl
  · refine .inr ?_
    have := (h.from a hA).1
    simp only [Value.ownBlock]
    intro e
    injection e with e
    omega
theorem OwnL.keepD {w w' : World} {B g k : Nat} {e : TypeId} {v : Value} {xs : List Int} (h : OwnL w B e k v xs) (hg : w.grownBy w' (some g)) (hB : g < B) : OwnL w' B e k v xs := by
  obtain ⟨A, n, c, rfl, ho⟩ := h
  exact ⟨A, n, c, rfl, ho.keepD hg hB⟩
theorem DrT.markE {w0 ws w w' : World} {g B k n c n2 c2 : Nat} {A A2 : Option Addr} {e : TypeId} {xs : List Int} (h : DrT w0 ws w g A n c) (ho : Own w B e k (.slice A2 n2 c2) n2 xs) (hB : ws.heap.size ≤ B) (hg : w.grownBy w' (A2.map (·.block))) : DrT w0 ws w' g A n c := by
  have hne : ∀ b, A2.map (·.block) = some b → ws.heap.size ≤ b := by
    intro b hb
    rcases A2 with _ | a
    · cases hb
    · simp only [Option.map_some, Option.some.injEq] at hb
      have := (ho.from a rfl).1
      omega
  have h0 := h.dr.hg
  have h1 := h.glt
  refine ⟨h.dr.far hg (fun b hb => by have := hne b hb; omega), ?_, h.glt⟩
  exact ⟨hg.os.trans h.gr.os, hg.tape.trans h.gr.tape, hg.output.trans h.gr.output, Nat.le_trans h.gr.size hg.size, fun i hi hn => (hg.block i (Nat.lt_of_lt_of_le hi h.gr.size) (fun e => by have := hne i e.symm; omega)).trans (h.gr.block i hi hn)⟩
set_option maxRecDepth 100000 in
/-- append of all elements of a slice that reads as ys, at a step of a region that draws its order. -/
theorem stepKs {wr : World} {ops : Array Oper} {o : Oper} {a : Act} {K : Act → World → Prop} {R : Exit → Act → World → Prop} {E0 : Prop} {st e : TypeId} {k : Nat} (E : EltT st e k) (hgd : o.guard = none) (s x : Operand)
    (ho : o.op = .call { callee := .builtin .append, args := #[s, x], argTypes := #[st, st] })
    {B : Nat} {A : Option Addr} {n c : Nat} {xs : List Int} (hs : a.eval s = .slice A n c) (hown : Own wr B e k (.slice A n c) n xs)
    {m d b o' : Nat} {ys : List Int} (hx : a.eval x = .slice (some ⟨b, o', none⟩) m d) (hr : ∀ j, j < ys.length → wr.cell? ⟨b, o' + j, none⟩ = some (.int .i64 (ys.getD j 0))) (hl : ys.length = m * k)
    (hm : 0 < m) (hn : n + m ≤ 1073741823) (hB : B ≤ wr.heap.size)
    (h : ∀ g c' w', Own w' B e k (.slice (some ⟨g, 0, none⟩) (n + m) c') (n + m) (xs ++ ys) → wr.grownBy w' (A.map (·.block)) → g < w'.heap.size → K (a.put o.dst (.slice (some ⟨g, 0, none⟩) (n + m) c')) w') :
    if Region.wanted o (yielded ops a.tmps) = true then Oper.wp Try.prog o a wr K R else E0 := by
  obtain ⟨i, z, hu, hi, hz0, hz1, hz2, hz3, hk⟩ := E
  refine step_append_lies wr hgd s x st ho B e i z k i.bytes hu hi hz0 hz1 rfl (by rw [hz3]; simp) hk (.slice A n c) n _ hs hown ⟨b, o', none⟩ m d (ys.map (Value.int .i64)) hx (by simpa using hl) ?_ (ints_one ys) hm (by unfold maxLen; omega) ?_ hB _ rfl ?_
  · intro j u hu
    rw [List.getElem?_map] at hu
    have hj : j < ys.length := by
      rcases Nat.lt_or_ge j ys.length with h | h
      · exact h
      · rw [List.getElem?_eq_none h] at hu; cases hu
    rw [Go.WideShapes.add_plain, hr j hj, List.getD_eq_getElem?_getD]
    rw [List.getElem?_eq_getElem hj] at hu ⊢
    simpa using hu
  · exact Nat.le_trans (Nat.mul_le_mul hn hz2) (by decide)
  · intro g cap w' h1 h2 _ h4
    rw [← List.map_append] at h1
    exact h g cap w' h1 (by cases A <;> simpa [Value.ownBlock] using h2) h4
end Go.Proofs.Ytpdcehmnegagmaa
