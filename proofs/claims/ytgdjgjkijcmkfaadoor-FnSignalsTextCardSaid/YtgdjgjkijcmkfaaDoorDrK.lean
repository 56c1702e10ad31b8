/- What a call owns, while the source of numbers is drawn from. No condition. -/
import Derived.Test.YtgdjgjkijcmkfaaDoorDraw
import Derived.RegionTactic
import Derived.Deep.CutBlock
import Derived.Deep.RegionWith
namespace Go.Proofs.YtgdjgjkijcmkfaaDoor
open Go.RowKit Go.WideShapes Go.ChangeShapes
theorem Own.keepD {w w' : World} {B g k n c : Nat} {e : TypeId} {A : Option Addr} {xs : List Int} (h : Own w B e k (.slice A n c) n xs) (hg : w.grownBy w' (some g)) (hB : g < B) : Own w' B e k (.slice A n c) n xs := by
  refine World.ownsRow.kept h hg ?_
  rcases hA : A with _ | a
  · exact .inl rfl
  · refine .inr ?_
    have := (h.from a hA).1
    simp only [Value.ownBlock]
    intro e
    injection e with e
    omega
theorem OwnL.keepD {w w' : World} {B g k : Nat} {e : TypeId} {v : Value} {xs : List Int} (h : OwnL w B e k v xs) (hg : w.grownBy w' (some g)) (hB : g < B) : OwnL w' B e k v xs := by
  obtain ⟨A, n, c, rfl, ho⟩ := h
  exact ⟨A, n, c, rfl, ho.keepD hg hB⟩
theorem DrT.markE {w0 ws w w' : World} {g B k n c n2 c2 : Nat} {A A2 : Option Addr} {e : TypeId} {xs : List Int} (h : DrT w0 ws w g A n c) (ho : Own w B e k (.slice A2 n2 c2) n2 xs) (hB : ws.heap.size ≤ B) (hg : w.grownBy w' (A2.map (·.block))) : DrT w0 ws w' g A n c := by
  have hne : ∀ b, A2.map (·.block) = some b → ws.heap.size ≤ b := by
    intro b hb
    rcases A2 with _ | a
    · cases hb
    · simp only [Option.map_some, Option.some.injEq] at hb
      have := (ho.from a rfl).1
      omega
  have h0 := h.dr.hg
  have h1 := h.glt
  refine ⟨h.dr.far hg (fun b hb => by have := hne b hb; omega), ?_, h.glt⟩
  exact ⟨hg.os.trans h.gr.os, hg.tape.trans h.gr.tape, hg.output.trans h.gr.output, Nat.le_trans h.gr.size hg.size, fun i hi hn => (hg.block i (Nat.lt_of_lt_of_le hi h.gr.size) (fun e => by have := hne i e.symm; omega)).trans (h.gr.block i hi hn)⟩
end Go.Proofs.YtgdjgjkijcmkfaaDoor
