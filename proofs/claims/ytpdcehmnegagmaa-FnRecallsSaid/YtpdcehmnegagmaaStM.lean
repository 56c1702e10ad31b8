/- Slices of starts: what one reads as, what a call owns; walks: the laws' own functions on slices of starts. Walks: marks on slices of starts, and whether they are held. -/
import Derived.Test.YtpdcehmnegagmaaStV
import Derived.Test.YtpdcehmnegagmaaTdsT
import Derived.Deep.Cut
namespace Go.Proofs.Ytpdcehmnegagmaa
open Go.RowKit Go.WideShapes Go.ChangeShapes Go.Deep
/-- The cells of a start, and of a list of starts. -/
def stCs (p : St4) : List Value := [.int .i64 p.1, .int .i64 p.2.1, .int .i64 p.2.2.1, .bool p.2.2.2]
def stLs (L : List St4) : List Value := L.flatMap stCs
def sx (L : List St4) (k : Nat) : St4 := L.getD k (0, 0, 0, false)
theorem stLs_cons (p : St4) (L : List St4) : stLs (p :: L) = .int .i64 p.1 :: .int .i64 p.2.1 :: .int .i64 p.2.2.1 :: .bool p.2.2.2 :: stLs L := rfl
theorem stLs_app (L M : List St4) : stLs (L ++ M) = stLs L ++ stLs M := List.flatMap_append
theorem stLs_len (L : List St4) : (stLs L).length = L.length * 4 := by
  induction L with
  | nil => rfl
  | cons p L ih => rw [stLs_cons]; simp only [List.length_cons, ih]; omega
theorem stLs_one (L : List St4) : ∀ u ∈ stLs L, u.oneCell' = true := by
  induction L with
  | nil => intro u hu; cases hu
  | cons p L ih =>
    intro u hu
    rw [stLs_cons] at hu
    simp only [List.mem_cons] at hu
    rcases hu with rfl | rfl | rfl | rfl | hu
    · rfl
    · rfl
    · rfl
    · rfl
    · exact ih u hu
theorem stLs_at (L : List St4) : ∀ k, k < L.length → (stLs L)[k * 4]? = some (.int .i64 (sx L k).1) ∧ (stLs L)[k * 4 + 1]? = some (.int .i64 (sx L k).2.1) ∧ (stLs L)[k * 4 + 2]? = some (.int .i64 (sx L k).2.2.1) ∧ (stLs L)[k * 4 + 3]? = some (.bool (sx L k).2.2.2) := by
  induction L with
  | nil => intro k hk; cases hk
  | cons p L ih =>
    intro k hk
    rw [stLs_cons]
    cases k with
    | zero => exact ⟨rfl, rfl, rfl, rfl⟩
    | succ k =>
      have := ih k (by simpa using hk)
      have e : (k + 1) * 4 = k * 4 + 4 := by omega
      rw [e]
      simpa [sx] using this
theorem stLs_set (L : List St4) : ∀ k (p : St4), ((((stLs L).set (k * 4) (.int .i64 p.1)).set (k * 4 + 1) (.int .i64 p.2.1)).set (k * 4 + 2) (.int .i64 p.2.2.1)).set (k * 4 + 3) (.bool p.2.2.2) = stLs (L.set k p) := by
  induction L with
  | nil => intro k p; rfl
  | cons q L ih =>
    intro k p
    cases k with
    | zero => rfl
    | succ k =>
      have e : (k + 1) * 4 = k * 4 + 4 := by omega
      rw [e, List.set_cons_succ, stLs_cons, stLs_cons, ← ih k p]
      rfl
/-- The cells from address A on hold the starts L. -/
def RdSt (w : World) (A : Option Addr) (L : List St4) : Prop := ∃ b o, (0 < L.length → A = some ⟨b, o, none⟩) ∧ ∀ k, k < L.length →
  w.cell? ⟨b, o + k * 4, none⟩ = some (.int .i64 (sx L k).1) ∧ w.cell? ⟨b, o + k * 4 + 1, none⟩ = some (.int .i64 (sx L k).2.1) ∧ w.cell? ⟨b, o + k * 4 + 2, none⟩ = some (.int .i64 (sx L k).2.2.1) ∧ w.cell? ⟨b, o + k * 4 + 3, none⟩ = some (.bool (sx L k).2.2.2)
theorem RdSt.q {w w' : World} {A : Option Addr} {L : List St4} (h : RdSt w A L) (hq : Q w w') : RdSt w' A L := by
  obtain ⟨b, o, hA, hc⟩ := h
  exact ⟨b, o, hA, fun k hk => ⟨hq.cell (hc k hk).1, hq.cell (hc k hk).2.1, hq.cell (hc k hk).2.2.1, hq.cell (hc k hk).2.2.2⟩⟩
theorem RdSt.at_ {w : World} {A : Option Addr} {L : List St4} {n k : Nat} (h : RdSt w A L) (hn : L.length = n) (hk : k < n) :
    ∃ b o, A = some ⟨b, o, none⟩ ∧ w.cell? ⟨b, o + k * 4, none⟩ = some (.int .i64 (sx L k).1) ∧ w.cell? ⟨b, o + k * 4 + 1, none⟩ = some (.int .i64 (sx L k).2.1) ∧ w.cell? ⟨b, o + k * 4 + 2, none⟩ = some (.int .i64 (sx L k).2.2.1) ∧ w.cell? ⟨b, o + k * 4 + 3, none⟩ = some (.bool (sx L k).2.2.2) := by
  obtain ⟨b, o, hA, hc⟩ := h
  exact ⟨b, o, hA (by omega), hc k (by omega)⟩
/-- What a call owns: a row of starts. -/
def OwnSt (w : World) (B : Nat) (A : Option Addr) (n c : Nat) (L : List St4) : Prop := L.length = n ∧ w.ownsRow B 34 4 (.slice A n c) n (stLs L)
theorem OwnSt.kept {w w' : World} {B : Nat} {A : Option Addr} {n c : Nat} {L : List St4} {row : Option Nat} (h : OwnSt w B A n c L) (hg : w.grownBy w' row) (hr : ∀ a, A = some a → some a.block ≠ row) : OwnSt w' B A n c L :=
  ⟨h.1, World.ownsRow.kept h.2 hg (by
    rcases A with _ | a
    · exact .inl rfl
    · exact .inr (by have := hr a rfl; simpa [Value.ownBlock] using this))⟩
theorem OwnSt.q {w w' : World} {B : Nat} {A : Option Addr} {n c : Nat} {L : List St4} (h : OwnSt w B A n c L) (hq : Q w w') : OwnSt w' B A n c L :=
  h.kept (row := none) ⟨hq.os, hq.tape, hq.output, hq.size, fun i hi _ => hq.block i hi⟩ (fun _ _ => by simp)
theorem OwnSt.mono {w : World} {B B' : Nat} {A : Option Addr} {n c : Nat} {L : List St4} (h : OwnSt w B A n c L) (hB : B' ≤ B) : OwnSt w B' A n c L := by
  refine ⟨h.1, h.2.1, ?_⟩
  rcases h.2.2 with h2 | ⟨g, cap, cur, h1, hg, h3⟩
  · exact .inl h2
  · exact .inr ⟨g, cap, cur, h1, Nat.le_trans hB hg, h3⟩
theorem OwnSt.split {w : World} {B : Nat} {A : Option Addr} {n c : Nat} {L : List St4} (h : OwnSt w B A n c L) (hn : 0 < n) : ∃ g, A = some ⟨g, 0, none⟩ ∧ B ≤ g := by
  rcases h.2.2 with ⟨h', h0⟩ | ⟨g, cap, cur, h', hg, _⟩
  · omega
  · injection h' with h1 _ _
    exact ⟨g, h1, hg⟩
theorem OwnSt.rd {w : World} {B : Nat} {A : Option Addr} {n c : Nat} {L : List St4} (h : OwnSt w B A n c L) : RdSt w A L := by
  by_cases hn : 0 < n
  · obtain ⟨g, rfl, _⟩ := h.split hn
    refine ⟨g, 0, fun _ => rfl, fun k hk => ?_⟩
    have hl := h.1
    obtain ⟨e0, e1, e2, e3⟩ := stLs_at L k hk
    have c0 := World.ownsRow.cellAt h.2 (k * 4) (by omega)
    have c1 := World.ownsRow.cellAt h.2 (k * 4 + 1) (by omega)
    have c2 := World.ownsRow.cellAt h.2 (k * 4 + 2) (by omega)
    have c3 := World.ownsRow.cellAt h.2 (k * 4 + 3) (by omega)
    rw [Nat.zero_add]
    exact ⟨c0.trans e0, c1.trans e1, c2.trans e2, c3.trans e3⟩
  · have : L = [] := List.eq_nil_of_length_eq_zero (by have := h.1; omega)
    subst this
    exact ⟨0, 0, fun h => absurd h (by simp), fun k hk => absurd hk (by simp)⟩
theorem OwnSt.from {w : World} {B : Nat} {A : Option Addr} {n c : Nat} {L : List St4} (h : OwnSt w B A n c L) : ∀ a, A = some a → B ≤ a.block ∧ a.block < w.heap.size := by
  intro a ha
  subst ha
  rcases h.2.2 with ⟨h', _⟩ | ⟨g, cap, cur, h', hg, hh, _⟩
  · cases h'
  · injection h' with h1 _ _
    injection h1 with h1
    subst h1
    refine ⟨hg, ?_⟩
    rcases Nat.lt_or_ge g w.heap.size with hlt | hge
    · exact hlt
    · rw [Array.getElem?_eq_none hge] at hh; cases hh
theorem OwnSt.far {w w' : World} {B : Nat} {A A' : Option Addr} {n c : Nat} {L : List St4} (h : OwnSt w B A n c L) (hg : w.grownBy w' (A'.map (·.block))) (hf : Far A A') : OwnSt w' B A n c L := by
  refine h.kept hg fun a ha he => ?_
  rcases A' with _ | b
  · cases he
  · simp only [Option.map_some, Option.some.injEq] at he
    exact hf a b ha rfl he
theorem OwnSt.markD {w w' : World} {B U C : Nat} {A : Option Addr} {n c : Nat} {L : List St4} (h : OwnSt w C A n c L) (hf : ∀ a, A = some a → a.block < B ∨ U ≤ a.block) (hg : GrD B U w w') : OwnSt w' C A n c L := by
  refine ⟨h.1, h.2.1, ?_⟩
  rcases h.2.2 with h2 | ⟨g, cap, cur, h1, hB, hh, h3⟩
  · exact .inl h2
  · injection h1 with h1 h4 h5
    refine .inr ⟨g, cap, cur, by rw [h1, h5], hB, ?_, h3⟩
    have hlt : g < w.heap.size := by
      rcases Nat.lt_or_ge g w.heap.size with hlt | hge
      · exact hlt
      · rw [Array.getElem?_eq_none hge] at hh; cases hh
    exact (hg.block g hlt (hf ⟨g, 0, none⟩ h1)).trans hh
theorem OwnSt.nil {w : World} {B : Nat} : OwnSt w B none 0 0 [] := ⟨rfl, by simp [stLs], .inl ⟨rfl, rfl⟩⟩
theorem OwnSt.new (w : World) {B : Nat} (hB : B ≤ w.heap.size) : OwnSt (w.alloc (.cells #[] 34)) B (some ⟨w.heap.size, 0, none⟩) 0 0 [] :=
  ⟨rfl, by have := World.ownsRow_lit (base := B) (e := 34) (size := 4) w #[] 0 hB (by decide) rfl; simpa [stLs] using this⟩
theorem OwnSt.frozen {w : World} {B n c g : Nat} {L : List St4} (h : OwnSt w B (some ⟨g, 0, none⟩) n c L) (j : Nat) : w.frozen? ⟨g, j, none⟩ = false := World.ownsRow.frozenAt h.2 j
/-- A slice of starts of its own, and a code. -/
def RSt (w : World) (n : Nat) (L : List St4) (code : Int) (e : Ending) (w' : World) : Prop :=
  ∃ A c, e = .returned (.tuple #[.slice A n c, .int .i64 code]) ∧ OwnSt w' w.heap.size A n c L ∧ Q w w'
theorem infoStart : (Try.prog.info? 34).map (fun i => (i.zero, i.size, i.bytes)) = some (some (.agg #[.int .i64 0, .int .i64 0, .int .i64 0, .bool false]), 4, 32) := by kernel_rfl
/-- append of one start. -/
theorem appSt {wr : World} {ops : Array Oper} {rest : List Oper} {o : Oper} {a : Act} {R : Exit → Act → World → Prop} (hgd : o.guard = none) (s x : Operand)
    (ho : o.op = .call { callee := .builtin .append, args := #[s, x], argTypes := #[48, 48] })
    {B : Nat} {A : Option Addr} {n c : Nat} {L : List St4} (p : St4) (hs : a.eval s = .slice A n c) (hown : OwnSt wr B A n c L)
    {H : Nat} (hx : a.eval x = .slice (some ⟨H, 0, none⟩) 1 1) (hH : wr.heap.size = H) (cs : Array Value) (T' : TypeId) (hcs : cs = (stCs p).toArray)
    (hn : n ≤ 1073741823) (hB : B ≤ wr.heap.size)
    (h : ∀ A' c' w', OwnSt w' B A' (n + 1) c' (L ++ [p]) → wr.grownBy w' (A.map (·.block)) → Grew wr A A' → wpList Try.prog ops R rest (a.put o.dst (.slice A' (n + 1) c')) w') :
    wpList Try.prog ops R (o :: rest) a (wr.alloc (.cells cs T')) := by
  subst hH
  obtain ⟨i, hi, hz0, hz1, hz2⟩ := info_parts infoStart
  refine wpList_append_flat wr hgd s x _ ho B 34 i _ 4 i.bytes Try.underlying48 hi hz0 hz1 rfl (by simp [Value.cells]) (by decide) (by omega) A n c _ (stCs p) hs hown.2 hx rfl (by
    intro u hu
    have := stLs_one [p] u (by simpa [stLs] using hu)
    exact this) cs T' hcs hn hB ?_
  intro A' c' w' h1 h2 h3
  have e : stLs L ++ stCs p = stLs (L ++ [p]) := by rw [stLs_app]; simp [stLs]
  rw [e] at h1
  exact h A' c' w' ⟨by simp [hown.1], h1⟩ h2 h3
end Go.Proofs.Ytpdcehmnegagmaa
namespace Go.Proofs.Ytpdcehmnegagmaa
open Go.RowKit Go.WideShapes Go.ChangeShapes Go.Deep
/-- Marks from q on: three numbers and a bool for each start. -/
def mkB (q : Int) : Bool := q % 3 == 0
def mkSt (q : Int) (n : Nat) : List St4 := (List.range n).map fun (i : Nat) => (q + (i : Int) * 4, q + (i : Int) * 4 + 1, q + (i : Int) * 4 + 2, mkB (q + (i : Int) * 4 + 3))
theorem mkSt_len (q : Int) (n : Nat) : (mkSt q n).length = n := by simp [mkSt]
theorem mkSt_get (q : Int) {n i : Nat} (h : i < n) : sx (mkSt q n) i = (q + (i : Int) * 4, q + (i : Int) * 4 + 1, q + (i : Int) * 4 + 2, mkB (q + (i : Int) * 4 + 3)) := by
  unfold mkSt sx
  rw [List.getD_eq_getElem?_getD, List.getElem?_map, List.getElem?_range h]
  rfl
theorem mkSt_set {q : Int} {k : Nat} {L : List St4} (hk : k < L.length) : (mkSt q k ++ L.drop k).set k (q + (k : Int) * 4, q + (k : Int) * 4 + 1, q + (k : Int) * 4 + 2, mkB (q + (k : Int) * 4 + 3)) = mkSt q (k + 1) ++ L.drop (k + 1) := by
  have h1 : (mkSt q k).length = k := mkSt_len q k
  rw [List.set_append_right (h := by omega), h1, Nat.sub_self, List.drop_eq_getElem_cons hk]
  simp only [List.set_cons_zero, mkSt, List.range_succ, List.map_append, List.map_cons, List.map_nil, List.append_assoc, List.cons_append, List.nil_append]
theorem mkSt_done {q : Int} {n : Nat} {L : List St4} (hn : L.length = n) : mkSt q n ++ L.drop n = mkSt q n := by rw [List.drop_of_length_le (by omega), List.append_nil]
theorem setM_len (L : List Value) (a b c d : Nat) (x y z u : Value) : ((((L.set a x).set b y).set c z).set d u).length = L.length := by simp
end Go.Proofs.Ytpdcehmnegagmaa
