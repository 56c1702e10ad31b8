/- Slices of strings: what a call owns of them. No condition. -/
import Derived.Test.YtgdjgjkijcmkfaaDoorK
import Derived.Deep.Cut
namespace Go.Proofs.YtgdjgjkijcmkfaaDoor
open Go.RowKit Go.WideShapes Go.ChangeShapes Go.Deep
/-- What a call owns: a row of strings. -/
def OwnS (w : World) (B : Nat) (A : Option Addr) (n c : Nat) (L : List ByteArray) : Prop := L.length = n ∧ w.ownsRow B 9 1 (.slice A n c) n (L.map Value.string)
theorem OwnS.kept {w w' : World} {B : Nat} {A : Option Addr} {n c : Nat} {L : List ByteArray} {row : Option Nat} (h : OwnS w B A n c L) (hg : w.grownBy w' row) (hr : ∀ a, A = some a → some a.block ≠ row) : OwnS w' B A n c L :=
  ⟨h.1, World.ownsRow.kept h.2 hg (by
    rcases A with _ | a
    · exact .inl rfl
    · exact .inr (by have := hr a rfl; simpa [Value.ownBlock] using this))⟩
theorem OwnS.q {w w' : World} {B : Nat} {A : Option Addr} {n c : Nat} {L : List ByteArray} (h : OwnS w B A n c L) (hq : Q w w') : OwnS w' B A n c L :=
  h.kept (row := none) ⟨hq.os, hq.tape, hq.output, hq.size, fun i hi _ => hq.block i hi⟩ (fun _ _ => by simp)
theorem OwnS.split {w : World} {B : Nat} {A : Option Addr} {n c : Nat} {L : List ByteArray} (h : OwnS w B A n c L) (hn : 0 < n) : ∃ g, A = some ⟨g, 0, none⟩ ∧ B ≤ g := by
  rcases h.2.2 with ⟨h', h0⟩ | ⟨g, cap, cur, h', hg, _⟩
  · omega
  · injection h' with h1 _ _
    exact ⟨g, h1, hg⟩
theorem OwnS.cell {w : World} {B : Nat} {A : Option Addr} {n c : Nat} {L : List ByteArray} (h : OwnS w B A n c L) {g j : Nat} {x : ByteArray} (hA : A = some ⟨g, 0, none⟩) (hx : L[j]? = some x) : w.cell? ⟨g, j, none⟩ = some (.string x) := by
  subst hA
  have hl := h.1
  have hj : j < n := by have := (List.getElem?_eq_some_iff.1 hx).1; omega
  have c0 := World.ownsRow.cellAt h.2 j (by omega)
  exact c0.trans (by simp [hx])
theorem OwnS.from {w : World} {B : Nat} {A : Option Addr} {n c : Nat} {L : List ByteArray} (h : OwnS w B A n c L) : ∀ a, A = some a → B ≤ a.block ∧ a.block < w.heap.size := by
  intro a ha
  subst ha
  rcases h.2.2 with ⟨h', _⟩ | ⟨g, cap, cur, h', hg, hh, _⟩
  · cases h'
  · injection h' with h1 _ _
    injection h1 with h1
    subst h1
    refine ⟨hg, ?_⟩
    rcases Nat.lt_or_ge g w.heap.size with hlt | hge
    · exact hlt
    · rw [Array.getElem?_eq_none hge] at hh; cases hh
theorem OwnS.cap {w : World} {B : Nat} {A : Option Addr} {n c : Nat} {L : List ByteArray} (h : OwnS w B A n c L) : n ≤ c := by
  rcases h.2.2 with ⟨h', h0⟩ | ⟨g, cap, cur, h', hg, hh, h3, h4, h5⟩
  · omega
  · injection h' with h1 h6 h7
    have hl := h.1
    simp at *
    omega
theorem OwnS.new (w : World) {B : Nat} (hB : B ≤ w.heap.size) : OwnS (w.alloc (.cells #[] 9)) B (some ⟨w.heap.size, 0, none⟩) 0 0 [] :=
  ⟨rfl, by have := World.ownsRow_lit (base := B) (e := 9) (size := 1) w #[] 0 hB (by decide) rfl; simpa using this⟩
theorem infoStr : (Tryd.prog.info? 9).map (fun i => (i.zero, i.size, i.bytes)) = some (some (.string ByteArray.empty), 1, 16) := by kernel_rfl
/-- append of one string. -/
theorem appS {wr : World} {ops : Array Oper} {rest : List Oper} {o : Oper} {a : Act} {R : Exit → Act → World → Prop} (hgd : o.guard = none) (s x : Operand)
    (ho : o.op = .call { callee := .builtin .append, args := #[s, x], argTypes := #[75, 75] })
    {B : Nat} {A : Option Addr} {n c : Nat} {L : List ByteArray} (p : ByteArray) (hs : a.eval s = .slice A n c) (hown : OwnS wr B A n c L)
    {H : Nat} (hx : a.eval x = .slice (some ⟨H, 0, none⟩) 1 1) (hH : wr.heap.size = H) (cs : Array Value) (T' : TypeId) (hcs : cs = #[.string p])
    (hn : n ≤ 1073741823) (hB : B ≤ wr.heap.size)
    (h : ∀ A' c' w', OwnS w' B A' (n + 1) c' (L ++ [p]) → wr.grownBy w' (A.map (·.block)) → Grew wr A A' → wpList Tryd.prog ops R rest (a.put o.dst (.slice A' (n + 1) c')) w') :
    wpList Tryd.prog ops R (o :: rest) a (wr.alloc (.cells cs T')) := by
  subst hH
  obtain ⟨i, hi, hz0, hz1, hz2⟩ := info_parts infoStr
  refine wpList_append_flat wr hgd s x _ ho B 9 i _ 1 i.bytes Tryd.underlying75 hi hz0 hz1 rfl (by simp [Value.cells]) (by decide) (by omega) A n c _ [.string p] hs hown.2 hx rfl (by
    intro u hu
    simp at hu
    subst hu
    rfl) cs T' hcs hn hB ?_
  intro A' c' w' h1 h2 h3
  have e : L.map Value.string ++ [.string p] = (L ++ [p]).map Value.string := by simp
  rw [e] at h1
  exact h A' c' w' ⟨by simp [hown.1], h1⟩ h2 h3
end Go.Proofs.YtgdjgjkijcmkfaaDoor
