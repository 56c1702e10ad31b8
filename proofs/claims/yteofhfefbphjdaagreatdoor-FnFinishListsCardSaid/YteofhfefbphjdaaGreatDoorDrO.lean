/- Words: a slice of tracks of its own that grows while the source is drawn from. No condition. -/
import Derived.Test.YteofhfefbphjdaaGreatDoorDrK
import Derived.Test.YteofhfefbphjdaaGreatDoorTdsT
namespace Go.Proofs.YteofhfefbphjdaaGreatDoor
open Go.RowKit Go.WideShapes Go.ChangeShapes
/-- A row of tracks, each with its own row of fixes. -/
def OwnK (w : World) (B : Nat) (A : Option Addr) (n c : Nat) (ts : List Tk) : Prop :=
  w.ownsRow B 43 1 (.slice A n c) n (ts.map Tk.val) ∧ ∀ T ∈ ts, Own w B 98 3 (.slice T.A T.n T.c) T.n T.xs ∧ T.n ≤ 1048576
theorem row_from {w : World} {B k n c : Nat} {e : TypeId} {A : Option Addr} {xs : List Value} (h : w.ownsRow B e k (.slice A n c) n xs) : ∀ a, A = some a → B ≤ a.block ∧ a.block < w.heap.size := by
  intro a ha
  subst ha
  rcases h.2 with ⟨h', _⟩ | ⟨g, cap, cur, h', hg, hh, _⟩
  · cases h'
  · injection h' with h1 _ _
    injection h1 with h1
    subst h1
    refine ⟨hg, ?_⟩
    rcases Nat.lt_or_ge g w.heap.size with hlt | hge
    · exact hlt
    · rw [Array.getElem?_eq_none hge] at hh; cases hh
theorem row_kept {w w' : World} {B k n c : Nat} {e : TypeId} {A : Option Addr} {xs : List Value} {row : Option Nat} (h : w.ownsRow B e k (.slice A n c) n xs) (hg : w.grownBy w' row) (hr : ∀ a, A = some a → some a.block ≠ row) : w'.ownsRow B e k (.slice A n c) n xs :=
  World.ownsRow.kept h hg (by
    rcases A with _ | a
    · exact .inl rfl
    · exact .inr (by have := hr a rfl; simpa [Value.ownBlock] using this))
theorem row_ne {w : World} {B B' k k' n n' c c' : Nat} {e e' : TypeId} {A A' : Option Addr} {xs ys : List Value} (h : w.ownsRow B e k (.slice A n c) n xs) (h' : w.ownsRow B' e' k' (.slice A' n' c') n' ys) (hne : e ≠ e') : ∀ a b, A = some a → A' = some b → a.block ≠ b.block := by
  intro a b ha hb he
  subst ha hb
  rcases h.2 with ⟨h1, _⟩ | ⟨g, cap, cur, h1, _, hh, _⟩
  · cases h1
  · rcases h'.2 with ⟨h2, _⟩ | ⟨g', cap', cur', h2, _, hh', _⟩
    · cases h2
    · injection h1 with h1 _ _
      injection h1 with h1
      injection h2 with h2 _ _
      injection h2 with h2
      subst h1 h2
      simp only at he
      subst he
      rw [hh] at hh'
      injection hh' with hh'
      injection hh' with _ h3
      exact hne h3
theorem OwnK.kept {w w' : World} {B : Nat} {A : Option Addr} {n c : Nat} {ts : List Tk} {row : Option Nat} (h : OwnK w B A n c ts) (hg : w.grownBy w' row) (hr : ∀ a, A = some a → some a.block ≠ row) (hr2 : ∀ T ∈ ts, ∀ a, T.A = some a → some a.block ≠ row) : OwnK w' B A n c ts :=
  ⟨row_kept h.1 hg hr, fun T hT => ⟨row_kept (h.2 T hT).1 hg (hr2 T hT), (h.2 T hT).2⟩⟩
theorem OwnK.q {w w' : World} {B : Nat} {A : Option Addr} {n c : Nat} {ts : List Tk} (h : OwnK w B A n c ts) (hq : Q w w') : OwnK w' B A n c ts :=
  h.kept (row := none) ⟨hq.os, hq.tape, hq.output, hq.size, fun i hi _ => hq.block i hi⟩ (fun _ _ => by simp) (fun _ _ _ _ => by simp)
theorem OwnK.keepD {w w' : World} {B g n c : Nat} {A : Option Addr} {ts : List Tk} (h : OwnK w B A n c ts) (hg : w.grownBy w' (some g)) (hB : g < B) : OwnK w' B A n c ts :=
  h.kept hg (fun a ha e => by have := row_from h.1 a ha; injection e with e; omega) (fun T hT a ha e => by have := row_from (h.2 T hT).1 a ha; injection e with e; omega)
theorem OwnK.setFar {w : World} {B n c g : Nat} {A : Option Addr} {ts : List Tk} {t : TypeId} {cs : Array Value} (h : OwnK w B A n c ts) (hb : Blk w g t cs) (h1 : 43 ≠ t) (h2 : 98 ≠ t) (i : Nat) (u : Value) : OwnK (w.setCell ⟨g, i, none⟩ u) B A n c ts := by
  have hx : ∀ {e : TypeId} {k m d : Nat} {A' : Option Addr} {xs : List Value}, e ≠ t → w.ownsRow B e k (.slice A' m d) m xs → ∀ a, A' = some a → some a.block ≠ some g := by
    intro e k m d A' xs hne h a ha he
    injection he with he
    subst ha
    rcases h.2 with ⟨h1, _⟩ | ⟨g', cap, cur, h1, _, hh, _⟩
    · cases h1
    · injection h1 with h1 _ _
      injection h1 with h1
      subst h1
      simp only at he
      subst he
      have hb' : w.heap[g']? = _ := hb
      rw [hh] at hb'
      injection hb' with hb'
      injection hb' with _ h3
      exact hne h3
  exact h.kept (grown_set (grown_refl w (some g)) i u) (hx h1 h.1) (fun T hT => hx h2 (h.2 T hT).1)
theorem OwnK.mono {w : World} {B B' : Nat} {A : Option Addr} {n c : Nat} {ts : List Tk} (h : OwnK w B A n c ts) (hB : B' ≤ B) : OwnK w B' A n c ts := by
  refine ⟨⟨h.1.1, ?_⟩, fun T hT => ⟨(h.2 T hT).1.mono hB, (h.2 T hT).2⟩⟩
  rcases h.1.2 with h2 | ⟨g, cap, cur, h1, hg, h3⟩
  · exact .inl h2
  · exact .inr ⟨g, cap, cur, h1, Nat.le_trans hB hg, h3⟩
theorem OwnK.rd {w : World} {B : Nat} {A : Option Addr} {n c : Nat} {ts : List Tk} (h : OwnK w B A n c ts) : RdD w A (ts.map Tk.dat) := by
  refine ⟨ts, ?_, rfl⟩
  have hl : ts.length = n := by simpa using h.1.1
  rcases Nat.eq_zero_or_pos n with hn | hn
  · exact ⟨0, 0, fun h => by omega, fun j hj => by omega⟩
  · obtain ⟨g, rfl, hc⟩ := ownsRow_row h.1 hn
    refine ⟨g, 0, fun _ => rfl, fun j hj => ⟨?_, (h.2 _ (List.getElem_mem hj)).1.rd, (h.2 _ (List.getElem_mem hj)).1.len, by have := (h.2 _ (List.getElem_mem hj)).2; omega⟩⟩
    rw [Nat.zero_add, hc j (by omega), List.getElem?_map, List.getElem?_eq_getElem hj]
    rfl
theorem OwnK.len {w : World} {B : Nat} {A : Option Addr} {n c : Nat} {ts : List Tk} (h : OwnK w B A n c ts) : ts.length = n := by simpa using h.1.1
theorem OwnK.new (w : World) {B : Nat} (hB : B ≤ w.heap.size) : OwnK (w.alloc (.cells #[] 43)) B (some ⟨w.heap.size, 0, none⟩) 0 0 [] :=
  ⟨by have := World.ownsRow_lit (base := B) (e := 43) (size := 1) w #[] 0 hB (by decide) rfl; simpa using this, fun T hT => by cases hT⟩
/-- Tracks without fixes. -/
theorem OwnK.zero {w : World} {B N : Nat} {A : Option Addr} {c : Nat} (h : w.ownsRow B 43 1 (.slice A N c) N (List.replicate N (.slice none 0 0))) : OwnK w B A N c (List.replicate N ⟨none, 0, 0, []⟩) :=
  ⟨by simpa [Tk.val] using h, fun T hT => by obtain rfl := List.eq_of_mem_replicate hT; exact ⟨Own.nil, by simp⟩⟩
/-- append of one track. -/
theorem appTk {wr : World} {ops : Array Oper} {rest : List Oper} {o : Oper} {a : Act} {R : Exit → Act → World → Prop} (hgd : o.guard = none) (s x : Operand)
    (ho : o.op = .call { callee := .builtin .append, args := #[s, x], argTypes := #[31, 31] })
    {B : Nat} {A : Option Addr} {n c : Nat} {ts : List Tk} (T : Tk) (hs : a.eval s = .slice A n c) (hown : OwnK wr B A n c ts) (hT : Own wr B 98 3 (.slice T.A T.n T.c) T.n T.xs) (hTn : T.n ≤ 1048576)
    {H : Nat} (hx : a.eval x = .slice (some ⟨H, 0, none⟩) 1 1) (hH : wr.heap.size = H) (cs : Array Value) (T' : TypeId) (hcs : cs = #[T.val])
    (hn : n ≤ 1073741823) (hB : B ≤ wr.heap.size)
    (h : ∀ A' c' w', OwnK w' B A' (n + 1) c' (ts ++ [T]) → wr.grownBy w' (A.map (·.block)) → (∀ r, A.map (·.block) = some r → B ≤ r ∧ r < wr.heap.size) → wpList Tryz.prog ops R rest (a.put o.dst (.slice A' (n + 1) c')) w') :
    wpList Tryz.prog ops R (o :: rest) a (wr.alloc (.cells cs T')) := by
  subst hH
  obtain ⟨i, hi, hz0, hz1, hz2⟩ := info_parts infoTrack
  refine wpList_append_flat wr hgd s x _ ho B 43 i _ 1 i.bytes Tryz.underlying31 hi hz0 hz1 rfl (by simp [Value.cells]) (by decide) (by omega) A n c _ [T.val] hs hown.1 hx rfl (by
    intro u hu
    obtain rfl := List.mem_singleton.1 hu
    rfl) cs T' hcs hn hB ?_
  intro A' c' w' h1 h2 h3
  have e : ts.map Tk.val ++ [T.val] = (ts ++ [T]).map Tk.val := by simp
  rw [e] at h1
  have hf := row_from hown.1
  have hr : ∀ r, A.map (·.block) = some r → B ≤ r ∧ r < wr.heap.size := by
    intro r hr
    rcases A with _ | b
    · cases hr
    · simp only [Option.map_some, Option.some.injEq] at hr
      subst hr
      exact hf b rfl
  have hx2 : ∀ {m d : Nat} {A2 : Option Addr} {xs : List Int}, Own wr B 98 3 (.slice A2 m d) m xs → ∀ b, A2 = some b → some b.block ≠ A.map (·.block) := by
    intro m d A2 xs ho b hb he
    rcases A with _ | r
    · cases he
    · simp only [Option.map_some, Option.some.injEq] at he
      exact row_ne ho hown.1 (by decide) b r hb rfl he
  refine h A' c' w' ⟨h1, fun S hS => ?_⟩ h2 hr
  rcases List.mem_append.1 hS with hS | hS
  · exact ⟨row_kept (hown.2 S hS).1 h2 (hx2 (hown.2 S hS).1), (hown.2 S hS).2⟩
  · obtain rfl := List.mem_singleton.1 hS
    exact ⟨row_kept hT h2 (hx2 hT), hTn⟩
theorem Blk.grownR {w w' : World} {B k n c g : Nat} {e t : TypeId} {A : Option Addr} {xs : List Value} {cs : Array Value} (hb : Blk w g t cs) (h : w.ownsRow B e k (.slice A n c) n xs) (hne : e ≠ t) (hg : w.grownBy w' (A.map (·.block))) : Blk w' g t cs := by
  refine hb.grown hg fun he => ?_
  rcases A with _ | a
  · cases he
  · simp only [Option.map_some, Option.some.injEq] at he
    rcases h.2 with ⟨h1, _⟩ | ⟨g', cap, cur, h1, _, hh, _⟩
    · cases h1
    · injection h1 with h1 _ _
      injection h1 with h1
      subst h1
      simp only at he
      subst he
      have hb' : w.heap[g]? = _ := hb
      rw [hh] at hb'
      injection hb' with hb'
      injection hb' with _ h3
      exact hne h3
theorem DrT.markN {w0 ws w w' : World} {g n c : Nat} {A : Option Addr} {row : Option Nat} (h : DrT w0 ws w g A n c) (hg : w.grownBy w' row) (hr : ∀ r, row = some r → ws.heap.size ≤ r) : DrT w0 ws w' g A n c := by
  have h0 := h.dr.hg
  have h1 := h.glt
  refine ⟨h.dr.far hg (fun b hb => by have := hr b hb; omega), ?_, h.glt⟩
  exact ⟨hg.os.trans h.gr.os, hg.tape.trans h.gr.tape, hg.output.trans h.gr.output, Nat.le_trans h.gr.size hg.size, fun i hi hn => (hg.block i (Nat.lt_of_lt_of_le hi h.gr.size) (fun e => by have := hr i e.symm; omega)).trans (h.gr.block i hi hn)⟩
end Go.Proofs.YteofhfefbphjdaaGreatDoor
