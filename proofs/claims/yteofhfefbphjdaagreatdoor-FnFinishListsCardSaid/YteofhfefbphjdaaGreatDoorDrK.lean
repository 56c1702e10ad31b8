/- What a call owns, while the source of numbers is drawn from. No condition. Regions that draw their order: an operation that yields its value in every world of a class may be taken first, where the class is kept by all operations but one, number z, that waits for it. Turned from the library's text on a class that all operations keep. No condition. -/
import Derived.Test.YteofhfefbphjdaaGreatDoorDraw
import Derived.RegionTactic
import Derived.Deep.CutBlock
import Derived.Deep.RegionWith
import Derived.Deep.AppendLies
import Derived.Deep.RegionHeld3
namespace Go.Proofs.YteofhfefbphjdaaGreatDoor
open Go.RowKit Go.WideShapes Go.ChangeShapes
theorem Own.keepD {w w' : World} {B g k n c : Nat} {e : TypeId} {A : Option Addr} {xs : List Int} (h : Own w B e k (.slice A n c) n xs) (hg : w.grownBy w' (some g)) (hB : g < B) : Own w' B e k (.slice A n c) n xs := by
  refine World.ownsRow.kept h hg ?_
  rcases hA : A with _ | a
  · exact .inl rfl
  · refine .inr ?_
    have := (h.from a hA).1
    simp only [Value.ownBlock]
    intro e
    injection e with e
    omega
theorem OwnL.keepD {w w' : World} {B g k : Nat} {e : TypeId} {v : Value} {xs : List Int} (h : OwnL w B e k v xs) (hg : w.grownBy w' (some g)) (hB : g < B) : OwnL w' B e k v xs := by
  obtain ⟨A, n, c, rfl, ho⟩ := h
  exact ⟨A, n, c, rfl, ho.keepD hg hB⟩
theorem DrT.markE {w0 ws w w' : World} {g B k n c n2 c2 : Nat} {A A2 : Option Addr} {e : TypeId} {xs : List Int} (h : DrT w0 ws w g A n c) (ho : Own w B e k (.slice A2 n2 c2) n2 xs) (hB : ws.heap.size ≤ B) (hg : w.grownBy w' (A2.map (·.block))) : DrT w0 ws w' g A n c := by
  have hne : ∀ b, A2.map (·.block) = some b → ws.heap.size ≤ b := by
    intro b hb
    rcases A2 with _ | a
    · cases hb
    · simp only [Option.map_some, Option.some.injEq] at hb
      have := (ho.from a rfl).1
      omega
  have h0 := h.dr.hg
  have h1 := h.glt
  refine ⟨h.dr.far hg (fun b hb => by have := hne b hb; omega), ?_, h.glt⟩
  exact ⟨hg.os.trans h.gr.os, hg.tape.trans h.gr.tape, hg.output.trans h.gr.output, Nat.le_trans h.gr.size hg.size, fun i hi hn => (hg.block i (Nat.lt_of_lt_of_le hi h.gr.size) (fun e => by have := hne i e.symm; omega)).trans (h.gr.block i hi hn)⟩
set_option maxRecDepth 100000 in
/-- append of all elements of a slice that reads as ys, at a step of a region that draws its order. -/
theorem stepKs {wr : World} {ops : Array Oper} {o : Oper} {a : Act} {K : Act → World → Prop} {R : Exit → Act → World → Prop} {E0 : Prop} {st e : TypeId} {k : Nat} (E : EltT st e k) (hgd : o.guard = none) (s x : Operand)
    (ho : o.op = .call { callee := .builtin .append, args := #[s, x], argTypes := #[st, st] })
    {B : Nat} {A : Option Addr} {n c : Nat} {xs : List Int} (hs : a.eval s = .slice A n c) (hown : Own wr B e k (.slice A n c) n xs)
    {m d b o' : Nat} {ys : List Int} (hx : a.eval x = .slice (some ⟨b, o', none⟩) m d) (hr : ∀ j, j < ys.length → wr.cell? ⟨b, o' + j, none⟩ = some (.int .i64 (ys.getD j 0))) (hl : ys.length = m * k)
    (hm : 0 < m) (hn : n + m ≤ 1073741823) (hB : B ≤ wr.heap.size)
    (h : ∀ g c' w', Own w' B e k (.slice (some ⟨g, 0, none⟩) (n + m) c') (n + m) (xs ++ ys) → wr.grownBy w' (A.map (·.block)) → g < w'.heap.size → K (a.put o.dst (.slice (some ⟨g, 0, none⟩) (n + m) c')) w') :
    if Region.wanted o (yielded ops a.tmps) = true then Oper.wp Tryz.prog o a wr K R else E0 := by
  obtain ⟨i, z, hu, hi, hz0, hz1, hz2, hz3, hk⟩ := E
  refine step_append_lies wr hgd s x st ho B e i z k i.bytes hu hi hz0 hz1 rfl (by rw [hz3]; simp) hk (.slice A n c) n _ hs hown ⟨b, o', none⟩ m d (ys.map (Value.int .i64)) hx (by simpa using hl) ?_ (ints_one ys) hm (by unfold maxLen; omega) ?_ hB _ rfl ?_
  · intro j u hu
    rw [List.getElem?_map] at hu
    have hj : j < ys.length := by
      rcases Nat.lt_or_ge j ys.length with h | h
      · exact h
      · rw [List.getElem?_eq_none h] at hu; cases hu
    rw [Go.WideShapes.add_plain, hr j hj, List.getD_eq_getElem?_getD]
    rw [List.getElem?_eq_getElem hj] at hu ⊢
    simpa using hu
  · exact Nat.le_trans (Nat.mul_le_mul hn hz2) (by decide)
  · intro g cap w' h1 h2 _ h4
    rw [← List.map_append] at h1
    exact h g cap w' h1 (by cases A <;> simpa [Value.ownBlock] using h2) h4
end Go.Proofs.YteofhfefbphjdaaGreatDoor
namespace Go.Proofs.YteofhfefbphjdaaGreatDoor
open Go.RowKit Go.WideShapes Go.ChangeShapes
section
variable {P : Program} {ops : Array Oper} {Q : Exit → Act → World → Prop} {md : Region.Mode} {S : World → Prop} {z : Nat}
/-- Whatever order is picked from here on, and S holds behind every operation but number z. -/
def wpAnyZ (P : Program) (md : Region.Mode) (ops : Array Oper) (Q : Exit → Act → World → Prop) (S : World → Prop) (z : Nat) : Nat → Array Bool → Act → World → Prop
  | 0, listed, a, w => Region.ready md ops listed = [] ∧ Q .normal a w
  | fuel + 1, listed, a, w =>
    (Region.ready md ops listed = [] → Q .normal a w) ∧
    ∀ i ∈ Region.ready md ops listed, wpOp P ops Q i (fun a' w' => (i ≠ z → S w') ∧ wpAnyZ P md ops Q S z fuel (listed.setIfInBounds i true) a' w') a w
theorem wpAny_of_Z : ∀ (fuel : Nat) (listed : Array Bool) (a : Act) (w : World), wpAnyZ P md ops Q S z fuel listed a w → wpAny P md ops Q fuel listed a w
  | 0, _, _, _, h => h
  | fuel + 1, _, _, _, h => ⟨h.1, fun i hi => wpOp_mono (fun a' w' h' => wpAny_of_Z fuel _ a' w' h'.2) (h.2 i hi)⟩
theorem wpAnyZ_first {i : Nat} {oi oz : Oper} {v : Value} (hi : ops[i]? = some oi) (hz : ops[z]? = some oz) (hiz : i ≠ z) (hzi : ∃ e ∈ oz.after, Region.binds md e = true ∧ e.on = i) (hsel : ∀ (j : Nat) (o : Oper) cs b, ops[j]? = some o → o.op ≠ .select cs b)
    (hQ : ∀ c a w, Q (.panic c) (a.put oi.dst v) w → Q (.panic c) a w) :
    ∀ (fuel : Nat) (listed : Array Bool) (a : Act) (w : World),
      (∀ j oj, ops[j]? = some oj → j ≠ i → listed.getD j true = false → (∀ e ∈ oj.after, Region.binds md e = true → e.on ≠ i) → oi.apart ops oj = true) →
      i ∈ Region.ready md ops listed → YieldsIf P ops S oi v a → S w →
      wpAnyZ P md ops Q S z fuel (listed.setIfInBounds i true) (a.put oi.dst v) w → wpAnyZ P md ops Q S z (fuel + 1) listed a w := by
  intro fuel
  induction fuel with
  | zero =>
    intro listed a w _ hr hy hS H
    refine ⟨fun h => (by rw [h] at hr; cases hr), fun j hj => ?_⟩
    by_cases hji : j = i
    · subst hji; exact hy.wpOp hi hS ⟨fun _ => hS, H⟩
    · have := ready_mono hj hji
      rw [H.1] at this
      cases this
  | succ fuel ih =>
    intro listed a w hfree hr hy hS H
    refine ⟨fun h => (by rw [h] at hr; cases hr), fun j hj => ?_⟩
    by_cases hji : j = i
    · subst hji; exact hy.wpOp hi hS ⟨fun _ => hS, H⟩
    · have h1 := H.2 j (ready_mono hj hji)
      obtain ⟨hjun, oj, hoj, hall⟩ := mem_ready.1 hj
      have hnot : ∀ e ∈ oj.after, Region.binds md e = true → e.on ≠ i := fun e he hb heq => by
        have h1 := hall e he hb
        have h0 := (mem_ready.1 hr).1
        rw [heq] at h1
        rcases Nat.lt_or_ge i listed.size with h' | h'
        · simp [h'] at h0 h1; rw [h0] at h1; cases h1
        · simp [Array.getElem?_eq_none h'] at h1
      have hjz : j ≠ z := fun e => by
        subst e
        rw [hoj] at hz
        cases hz
        obtain ⟨e, he, hb, ho⟩ := hzi
        exact hnot e he hb ho
      have h2 := wpOp_putIf hoj (hfree j oj hoj hji hjun hnot) (fun cs b => hsel i oi cs b hi) (fun cs b => hsel j oj cs b hoj) hQ hy h1
      have hfree' : ∀ k ok, ops[k]? = some ok → k ≠ i → (listed.setIfInBounds j true).getD k true = false →
          (∀ e ∈ ok.after, Region.binds md e = true → e.on ≠ i) → oi.apart ops ok = true := fun k ok hk hki hun hno => by
        refine hfree k ok hk hki ?_ hno
        by_cases hjk : j = k
        · subst hjk; exact hjun
        · rw [getD_set_ne true hjk] at hun; exact hun
      refine wpOp_mono (fun a' w' h3 => ⟨fun _ => h3.2.1 hjz, ih (listed.setIfInBounds j true) a' w' hfree' (ready_mono hr (Ne.symm hji)) h3.1 (h3.2.1 hjz) ?_⟩) h2
      rw [Array.setIfInBounds_comm _ _ hji]
      exact h3.2.2
/-- Number z waits for number i. -/
def waitsB (md : Region.Mode) (ops : Array Oper) (z i : Nat) : Bool := i != z && ((ops[z]?).map fun o => o.after.any fun e => Region.binds md e && e.on == i).getD false
theorem waitsB_spec {i : Nat} (h : waitsB md ops z i = true) : i ≠ z ∧ ∃ oz, ops[z]? = some oz ∧ ∃ e ∈ oz.after, Region.binds md e = true ∧ e.on = i := by
  unfold waitsB at h
  rw [Bool.and_eq_true] at h
  refine ⟨by simpa using h.1, ?_⟩
  have h2 := h.2
  cases ho : ops[z]? with
  | none => rw [ho] at h2; simp at h2
  | some o =>
    rw [ho] at h2
    simp only [Option.map_some, Option.getD_some, Array.any_eq_true'] at h2
    obtain ⟨e, he, hb⟩ := h2
    simp only [Bool.and_eq_true, beq_iff_eq] at hb
    exact ⟨o, rfl, e, he, hb.1, hb.2⟩
theorem wpAnyZ_take (i : Nat) {oi : Oper} {v : Value} {fuel : Nat} {listed : Array Bool} {a : Act} {w : World} (hi : ops[i]? = some oi)
    (hs : Region.noSelect ops = true) (hf : Region.free md ops listed i = true) (hr : (Region.ready md ops listed).contains i = true) (hw : waitsB md ops z i = true)
    (hQ : ∀ c a w, Q (.panic c) (a.put oi.dst v) w → Q (.panic c) a w) (hy : YieldsIf P ops S oi v a) (hS : S w)
    (h : wpAnyZ P md ops Q S z fuel (listed.setIfInBounds i true) (a.put oi.dst v) w) : wpAnyZ P md ops Q S z (fuel + 1) listed a w := by
  obtain ⟨h1, oz, h2, h3⟩ := waitsB_spec hw
  exact wpAnyZ_first hi h2 h1 h3 (Region.noSelect_spec hs) hQ fuel listed a w (Region.free_spec hi hf) (by simpa using hr) hy hS h
/-- One operation alone may come up. -/
theorem wpAnyZ_one (i : Nat) {o : Oper} {fuel : Nat} {listed : Array Bool} {a : Act} {w : World} (hr : Region.ready md ops listed = [i]) (ho : ops[i]? = some o)
    (h : ∀ K' : Act → World → Prop, Shut (∀ a w, S w → wpAnyZ P md ops Q S z fuel (listed.setIfInBounds i true) a w → K' a w) → if Region.wanted o (yielded ops a.tmps) = true then Oper.wp P o a w K' Q else K' (a.put o.dst undef) w) : wpAnyZ P md ops Q S z (fuel + 1) listed a w := by
  refine ⟨fun h0 => (by rw [hr] at h0; cases h0), fun j hj => ?_⟩
  rw [hr] at hj
  obtain rfl : j = i := by simpa using hj
  exact wpOp_step ho (fun K' hK => h K' (fun a w hS hW => hK a w ⟨fun _ => hS, hW⟩))
/-- Number z alone may come up. -/
theorem wpAnyZ_last {o : Oper} {fuel : Nat} {listed : Array Bool} {a : Act} {w : World} (hr : Region.ready md ops listed = [z]) (ho : ops[z]? = some o)
    (h : ∀ K' : Act → World → Prop, Shut (∀ a w, wpAnyZ P md ops Q S z fuel (listed.setIfInBounds z true) a w → K' a w) → if Region.wanted o (yielded ops a.tmps) = true then Oper.wp P o a w K' Q else K' (a.put o.dst undef) w) : wpAnyZ P md ops Q S z (fuel + 1) listed a w := by
  refine ⟨fun h0 => (by rw [hr] at h0; cases h0), fun j hj => ?_⟩
  rw [hr] at hj
  obtain rfl : j = z := by simpa using hj
  exact wpOp_step ho (fun K' hK => h K' (fun a w hW => hK a w ⟨fun e => absurd rfl e, hW⟩))
/-- One of two may come up. -/
theorem wpAnyZ_two (i k : Nat) {o o' : Oper} {fuel : Nat} {listed : Array Bool} {a : Act} {w : World} (hr : Region.ready md ops listed = [i, k]) (ho : ops[i]? = some o) (ho' : ops[k]? = some o')
    (h : ∀ K' : Act → World → Prop, Shut (∀ a w, S w → wpAnyZ P md ops Q S z fuel (listed.setIfInBounds i true) a w → K' a w) → if Region.wanted o (yielded ops a.tmps) = true then Oper.wp P o a w K' Q else K' (a.put o.dst undef) w)
    (h' : ∀ K' : Act → World → Prop, Shut (∀ a w, S w → wpAnyZ P md ops Q S z fuel (listed.setIfInBounds k true) a w → K' a w) → if Region.wanted o' (yielded ops a.tmps) = true then Oper.wp P o' a w K' Q else K' (a.put o'.dst undef) w) : wpAnyZ P md ops Q S z (fuel + 1) listed a w := by
  refine ⟨fun h0 => (by rw [hr] at h0; cases h0), fun j hj => ?_⟩
  rw [hr] at hj
  obtain rfl | rfl : j = i ∨ j = k := by simpa using hj
  · exact wpOp_step ho (fun K' hK => h K' (fun a w hS hW => hK a w ⟨fun _ => hS, hW⟩))
  · exact wpOp_step ho' (fun K' hK => h' K' (fun a w hS hW => hK a w ⟨fun _ => hS, hW⟩))
theorem wpAnyZ_done {listed : Array Bool} {a : Act} {w : World} (hr : Region.ready md ops listed = []) (h : Q .normal a w) : ∀ fuel, wpAnyZ P md ops Q S z fuel listed a w
  | 0 => ⟨hr, h⟩
  | _ + 1 => ⟨fun _ => h, by rw [hr]; simp⟩
theorem wp_region_Z (S : World → Prop) (z : Nat) {id : Nat} {a : Act} {w : World} (hm : P.follows .mixedOrders = true)
    (h : wpAnyZ P .any ops Q S z ops.size (Array.replicate ops.size false) a w.drew) : (Code.region id ops true).wp P Q a w :=
  wp_region_any hm (wpAny_of_Z _ _ _ _ h)
end
theorem lit_reads {w : World} {l : Nat} {T : TypeId} {a b c : Int} (h : Blk w l T #[.int .i64 a, .int .i64 b, .int .i64 c]) : ∀ j, j < [a, b, c].length → w.cell? ⟨l, 0 + j, none⟩ = some (.int .i64 ([a, b, c].getD j 0)) := by
  intro j hj
  rw [Nat.zero_add, h.cell j]
  match j, hj with
  | 0, _ => rfl
  | 1, _ => rfl
  | 2, _ => rfl
theorem blk_new1 {w : World} {h : Nat} (T : TypeId) (cs : Array Value) (hh : w.heap.size = h) : Blk (w.alloc (.cells cs T)) h T cs := by
  subst hh
  exact Blk.new w T cs
end Go.Proofs.YteofhfefbphjdaaGreatDoor
