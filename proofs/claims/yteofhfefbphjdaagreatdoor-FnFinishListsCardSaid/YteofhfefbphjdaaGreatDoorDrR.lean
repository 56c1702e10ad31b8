/- Helper lemmas: rows of marks that a draw owns, and appends to them. No condition. Helper lemmas: stores of whole structs, rows of marks appended to at a step of a region that draws its order. No condition. Walks: the reference's draw of a course. No condition. -/
import Derived.Test.YteofhfefbphjdaaGreatDoorMkB
import Derived.Test.YteofhfefbphjdaaGreatDoorTdsT
import Derived.Test.YteofhfefbphjdaaGreatDoorDrG
import Derived.Deep.AppendLies
import Derived.Deep.MidRow
import Derived.Test.YteofhfefbphjdaaGreatDoorMkF
namespace Go.Proofs.YteofhfefbphjdaaGreatDoor
open Go.RowKit Go.WideShapes Go.ChangeShapes
theorem infoMark : (Tryz.prog.info? 85).map (fun i => (i.zero, i.size, i.bytes)) = some (some (.agg #[.string ByteArray.empty, .int .i64 0, .int .i64 0, .int .i64 0, .int .i64 0]), 5, 48) := by kernel_rfl
/-- The cells of marks. -/
def mkV (ms : List Mk) : List Value := ms.flatMap Mk.val
theorem mkV_len (ms : List Mk) : (mkV ms).length = ms.length * 5 := by
  unfold mkV
  induction ms with
  | nil => rfl
  | cons m ms ih => rw [List.flatMap_cons, List.length_append, ih]; simp [Mk.val]; omega
theorem mkV_at : ∀ (ms : List Mk) (k i : Nat), k < ms.length → i < 5 → (mkV ms)[k * 5 + i]? = ((mx ms k).val)[i]?
  | [], k, i, hk, _ => absurd hk (Nat.not_lt_zero _)
  | m :: ms, 0, i, _, hi => by
    show (m.val ++ mkV ms)[0 * 5 + i]? = (m.val)[i]?
    rw [Nat.zero_mul, Nat.zero_add, List.getElem?_append_left (by simpa [Mk.val] using hi)]
  | m :: ms, k + 1, i, hk, hi => by
    have h5 : m.val.length = 5 := rfl
    show (m.val ++ mkV ms)[(k + 1) * 5 + i]? = ((mx ms k).val)[i]?
    rw [List.getElem?_append_right (by omega), h5, show (k + 1) * 5 + i - 5 = k * 5 + i by omega]
    exact mkV_at ms k i (by simpa using hk) hi
theorem mkV_app (ms : List Mk) (m : Mk) : mkV (ms ++ [m]) = mkV ms ++ m.val := by unfold mkV; rw [List.flatMap_append]; simp
theorem mkV_one (ms : List Mk) : ∀ u ∈ mkV ms, u.oneCell' = true := by
  intro u hu
  obtain ⟨m, _, hm⟩ := List.mem_flatMap.1 hu
  simp only [Mk.val, List.mem_cons, List.not_mem_nil, or_false] at hm
  rcases hm with h | h | h | h | h <;> subst h <;> rfl
def OwC (w : World) (B : Nat) (A : Option Addr) (n c : Nat) (ms : List Mk) : Prop := w.ownsRow B 85 5 (.slice A n c) n (mkV ms) ∧ ∀ m ∈ ms, m.nm.size ≤ 100
theorem OwC.len {w : World} {B n c : Nat} {A : Option Addr} {ms : List Mk} (h : OwC w B A n c ms) : ms.length = n := by
  have := h.1.1
  rw [mkV_len] at this
  omega
theorem OwC.q {w w' : World} {B n c : Nat} {A : Option Addr} {ms : List Mk} (h : OwC w B A n c ms) (hq : Q w w') : OwC w' B A n c ms := ⟨ownsRow_q h.1 hq, h.2⟩
theorem OwC.nil {w : World} {B : Nat} : OwC w B none 0 0 [] := ⟨⟨rfl, .inl ⟨rfl, rfl⟩⟩, fun _ hm => absurd hm (by simp)⟩
theorem OwC.row {w : World} {B n c : Nat} {A : Option Addr} {ms : List Mk} (h : OwC w B A n c ms) : (A = none ∧ n = 0 ∧ c = 0) ∨ ∃ g, A = some ⟨g, 0, none⟩ ∧ B ≤ g ∧ g < w.heap.size := by
  rcases h.1.2 with ⟨h1, h2⟩ | ⟨g, cap, cur, h1, h2, h3, _⟩
  · injection h1 with h1 h3 h4
    exact .inl ⟨h1, h2, h4⟩
  · injection h1 with h1 _ _
    exact .inr ⟨g, h1, h2, Blk.lt h3⟩
theorem OwC.cap {w : World} {B n c : Nat} {A : Option Addr} {ms : List Mk} (h : OwC w B A n c ms) : n ≤ c := by
  rcases h.1.2 with ⟨h1, h2⟩ | ⟨g, cap, cur, h1, _, _, h4, _⟩
  · omega
  · injection h1 with _ _ h3
    omega
theorem OwC.rd {w : World} {B n c : Nat} {A : Option Addr} {ms : List Mk} (h : OwC w B A n c ms) : RdM w A ms := by
  have hl := h.len
  rcases h.row with ⟨_, h2, _⟩ | ⟨g, rfl, _, _⟩
  · exact ⟨0, 0, fun h => absurd h (by omega), fun k hk => absurd hk (by omega)⟩
  · refine ⟨g, 0, fun _ => rfl, fun k hk => ⟨?_, Nat.le_trans (h.2 (mx ms k) (by unfold mx; rw [List.getD_eq_getElem?_getD, List.getElem?_eq_getElem hk]; exact List.getElem_mem _)) (by decide)⟩⟩
    have hc := fun i (hi : i < 5) => (World.ownsRow.cellAt h.1 (k * 5 + i) (by omega)).trans (mkV_at ms k i hk hi)
    simp only [Nat.zero_add]
    exact ⟨hc 0 (by decide), hc 1 (by decide), hc 2 (by decide), hc 3 (by decide), hc 4 (by decide)⟩
theorem OwC.kept {w w' : World} {B n c : Nat} {A : Option Addr} {ms : List Mk} {row : Option Nat} (h : OwC w B A n c ms) (hg : w.grownBy w' row) (hr : ∀ k, row = some k → k < B) : OwC w' B A n c ms := by
  refine ⟨World.ownsRow.kept h.1 hg ?_, h.2⟩
  rcases h.row with ⟨rfl, _, _⟩ | ⟨g, rfl, hB, _⟩
  · exact .inl rfl
  · refine .inr fun e => ?_
    have := hr g e.symm
    omega
theorem OwC.mono {w : World} {B B' n c : Nat} {A : Option Addr} {ms : List Mk} (h : OwC w B A n c ms) (hB : B' ≤ B) : OwC w B' A n c ms := by
  refine ⟨⟨h.1.1, ?_⟩, h.2⟩
  rcases h.1.2 with h1 | ⟨g, cap, cur, h1, h2, h3⟩
  · exact .inl h1
  · exact .inr ⟨g, cap, cur, h1, Nat.le_trans hB h2, h3⟩
end Go.Proofs.YteofhfefbphjdaaGreatDoor
namespace Go.Proofs.YteofhfefbphjdaaGreatDoor
open Go.RowKit Go.WideShapes Go.ChangeShapes
section
variable {P : Program} {ops : Array Oper} {Q : Exit → Act → World → Prop} {md : Region.Mode} {S : World → Prop} {z : Nat}
/-- One of three may come up. -/
theorem wpAnyZ_three (i k l : Nat) {o o' o'' : Oper} {fuel : Nat} {listed : Array Bool} {a : Act} {w : World} (hr : Region.ready md ops listed = [i, k, l]) (ho : ops[i]? = some o) (ho' : ops[k]? = some o') (ho'' : ops[l]? = some o'')
    (h : ∀ K' : Act → World → Prop, Shut (∀ a w, S w → wpAnyZ P md ops Q S z fuel (listed.setIfInBounds i true) a w → K' a w) → if Region.wanted o (yielded ops a.tmps) = true then Oper.wp P o a w K' Q else K' (a.put o.dst undef) w)
    (h' : ∀ K' : Act → World → Prop, Shut (∀ a w, S w → wpAnyZ P md ops Q S z fuel (listed.setIfInBounds k true) a w → K' a w) → if Region.wanted o' (yielded ops a.tmps) = true then Oper.wp P o' a w K' Q else K' (a.put o'.dst undef) w)
    (h'' : ∀ K' : Act → World → Prop, Shut (∀ a w, S w → wpAnyZ P md ops Q S z fuel (listed.setIfInBounds l true) a w → K' a w) → if Region.wanted o'' (yielded ops a.tmps) = true then Oper.wp P o'' a w K' Q else K' (a.put o''.dst undef) w) : wpAnyZ P md ops Q S z (fuel + 1) listed a w := by
  refine ⟨fun h0 => (by rw [hr] at h0; cases h0), fun j hj => ?_⟩
  rw [hr] at hj
  obtain rfl | rfl | rfl : j = i ∨ j = k ∨ j = l := by simpa using hj
  · exact wpOp_step ho (fun K' hK => h K' (fun a w hS hW => hK a w ⟨fun _ => hS, hW⟩))
  · exact wpOp_step ho' (fun K' hK => h' K' (fun a w hS hW => hK a w ⟨fun _ => hS, hW⟩))
  · exact wpOp_step ho'' (fun K' hK => h'' K' (fun a w hS hW => hK a w ⟨fun _ => hS, hW⟩))
/-- Taken first: the conditions in one. -/
theorem tkZ (i : Nat) {oi : Oper} {v : Value} {fuel : Nat} {listed : Array Bool} {a : Act} {w : World} (hi : ops[i]? = some oi)
    (hc : (Region.noSelect ops && (Region.free md ops listed i && ((Region.ready md ops listed).contains i && waitsB md ops z i))) = true)
    (hQ : ∀ c a w, Q (.panic c) (a.put oi.dst v) w → Q (.panic c) a w) (hS : S w) (hw : Region.wanted oi (yielded ops a.tmps) = true) (hy : ∀ w, S w → (execOp a.eval oi).run P w = .ok (.value v) w)
    (h : wpAnyZ P md ops Q S z fuel (listed.setIfInBounds i true) (a.put oi.dst v) w) : wpAnyZ P md ops Q S z (fuel + 1) listed a w := by
  simp only [Bool.and_eq_true] at hc
  exact wpAnyZ_take i hi hc.1 hc.2.1 hc.2.2.1 hc.2.2.2 hQ (.inl ⟨hw, hy⟩) hS h
theorem tkH (i : Nat) {oi : Oper} {v : Value} {fuel : Nat} {listed : Array Bool} {a : Act} {w : World} (hi : ops[i]? = some oi)
    (hc : (Region.noSelect ops && (Region.free md ops listed i && (Region.ready md ops listed).contains i)) = true)
    (hQ : ∀ c a w, Q (.panic c) (a.put oi.dst v) w → Q (.panic c) a w) (hS : S w) (hw : Region.wanted oi (yielded ops a.tmps) = true) (hy : ∀ w, S w → (execOp a.eval oi).run P w = .ok (.value v) w)
    (h : wpAnyH P md ops Q S fuel (listed.setIfInBounds i true) (a.put oi.dst v) w) : wpAnyH P md ops Q S (fuel + 1) listed a w := by
  simp only [Bool.and_eq_true] at hc
  exact wpAnyH_take hi hc.1 hc.2.1 hc.2.2 hQ (.inl ⟨hw, hy⟩) hS h
theorem wpAnyH_one (i : Nat) {o : Oper} {fuel : Nat} {listed : Array Bool} {a : Act} {w : World} (hr : Region.ready md ops listed = [i]) (ho : ops[i]? = some o)
    (h : ∀ K' : Act → World → Prop, Shut (∀ a w, S w → wpAnyH P md ops Q S fuel (listed.setIfInBounds i true) a w → K' a w) → if Region.wanted o (yielded ops a.tmps) = true then Oper.wp P o a w K' Q else K' (a.put o.dst undef) w) : wpAnyH P md ops Q S (fuel + 1) listed a w := by
  refine ⟨fun h0 => (by rw [hr] at h0; cases h0), fun j hj => ?_⟩
  rw [hr] at hj
  obtain rfl : j = i := by simpa using hj
  exact wpOp_step ho (fun K' hK => h K' (fun a w hS hW => hK a w ⟨hS, hW⟩))
theorem wpAnyH_two (i k : Nat) {o o' : Oper} {fuel : Nat} {listed : Array Bool} {a : Act} {w : World} (hr : Region.ready md ops listed = [i, k]) (ho : ops[i]? = some o) (ho' : ops[k]? = some o')
    (h : ∀ K' : Act → World → Prop, Shut (∀ a w, S w → wpAnyH P md ops Q S fuel (listed.setIfInBounds i true) a w → K' a w) → if Region.wanted o (yielded ops a.tmps) = true then Oper.wp P o a w K' Q else K' (a.put o.dst undef) w)
    (h' : ∀ K' : Act → World → Prop, Shut (∀ a w, S w → wpAnyH P md ops Q S fuel (listed.setIfInBounds k true) a w → K' a w) → if Region.wanted o' (yielded ops a.tmps) = true then Oper.wp P o' a w K' Q else K' (a.put o'.dst undef) w) : wpAnyH P md ops Q S (fuel + 1) listed a w := by
  refine ⟨fun h0 => (by rw [hr] at h0; cases h0), fun j hj => ?_⟩
  rw [hr] at hj
  obtain rfl | rfl : j = i ∨ j = k := by simpa using hj
  · exact wpOp_step ho (fun K' hK => h K' (fun a w hS hW => hK a w ⟨hS, hW⟩))
  · exact wpOp_step ho' (fun K' hK => h' K' (fun a w hS hW => hK a w ⟨hS, hW⟩))
theorem wp_region_H (S : World → Prop) {id : Nat} {a : Act} {w : World} (hm : P.follows .mixedOrders = true)
    (h : wpAnyH P .any ops Q S ops.size (Array.replicate ops.size false) a w.drew) : (Code.region id ops true).wp P Q a w := wp_region_held hm h
end
theorem Blk.there {w : World} {b : Nat} {T : TypeId} {cs : Array Value} (h : Blk w b T cs) : w.there b 0 cs.size := fun j hj => by
  rw [Nat.zero_add]
  exact ⟨by rw [h.cell j, Array.getElem?_eq_getElem hj]; rfl, h.frozen j⟩
theorem Blk.all5 {w : World} {b : Nat} {T : TypeId} {x0 x1 x2 x3 x4 : Value} (h : Blk w b T #[x0, x1, x2, x3, x4]) (y0 y1 y2 y3 y4 : Value) : Blk (w.setCells b 0 [y0, y1, y2, y3, y4]) b T #[y0, y1, y2, y3, y4] := by
  have := ((((h.set_ 0 y0).set_ 1 y1).set_ 2 y2).set_ 3 y3).set_ 4 y4
  simpa [World.setCells] using this
theorem Blk.all9 {w : World} {b : Nat} {T : TypeId} {x0 x1 x2 x3 x4 x5 x6 x7 x8 : Value} (h : Blk w b T #[x0, x1, x2, x3, x4, x5, x6, x7, x8]) (y0 y1 y2 y3 y4 y5 y6 y7 y8 : Value) : Blk (w.setCells b 0 [y0, y1, y2, y3, y4, y5, y6, y7, y8]) b T #[y0, y1, y2, y3, y4, y5, y6, y7, y8] := by
  have := ((((((((h.set_ 0 y0).set_ 1 y1).set_ 2 y2).set_ 3 y3).set_ 4 y4).set_ 5 y5).set_ 6 y6).set_ 7 y7).set_ 8 y8
  simpa [World.setCells] using this
theorem grown_all (b : Nat) : ∀ (vs : List Value) (o : Nat) (a w : World), a.grownBy w (some b) → a.grownBy (w.setCells b o vs) (some b)
  | [], _, _, _, h => h
  | v :: vs, o, a, w, h => by
    rw [World.setCells]
    exact grown_all b vs (o + 1) a _ (grown_set h o v)
theorem Blk.farAll {w : World} {g b : Nat} {T : TypeId} {cs : Array Value} (h : Blk w g T cs) (hp : g ≠ b) (o : Nat) (vs : List Value) : Blk (w.setCells b o vs) g T cs :=
  h.grown (grown_all b vs o w w (grown_refl w _)) (by simpa using hp)
theorem DrT.setAll {w0 ws w : World} {g : Nat} {A : Option Addr} {n c : Nat} (h : DrT w0 ws w g A n c) {b : Nat} (hb : ws.heap.size ≤ b) (o : Nat) (vs : List Value) : DrT w0 ws (w.setCells b o vs) g A n c := by
  induction vs generalizing o w with
  | nil => exact h
  | cons v vs ih =>
    rw [World.setCells]
    exact ih (h.set hb v) (o + 1)
theorem OwC.kept2 {w w' : World} {B n c : Nat} {A : Option Addr} {ms : List Mk} {row : Option Nat} (h : OwC w B A n c ms) (hg : w.grownBy w' row) (hr : ∀ a, A = some a → some a.block ≠ row) : OwC w' B A n c ms := by
  refine ⟨World.ownsRow.kept h.1 hg ?_, h.2⟩
  rcases h.row with ⟨rfl, _, _⟩ | ⟨g, rfl, hB, _⟩
  · exact .inl rfl
  · exact .inr (by simpa [Value.ownBlock] using hr _ rfl)
theorem OwC.farAll {w : World} {B n c b : Nat} {A : Option Addr} {ms : List Mk} (h : OwC w B A n c ms) (hp : ∀ a, A = some a → a.block ≠ b) (o : Nat) (vs : List Value) : OwC (w.setCells b o vs) B A n c ms :=
  h.kept2 (grown_all b vs o w w (grown_refl w _)) (fun a ha => by simpa using hp a ha)
theorem OwC.far {w : World} {B n c b : Nat} {A : Option Addr} {ms : List Mk} (h : OwC w B A n c ms) (hp : ∀ a, A = some a → a.block ≠ b) (o : Nat) (v : Value) : OwC (w.setCell ⟨b, o, none⟩ v) B A n c ms :=
  h.kept2 (grown_set (grown_refl w _) o v) (fun a ha => by simpa using hp a ha)
theorem OwC.from {w : World} {B n c : Nat} {A : Option Addr} {ms : List Mk} (h : OwC w B A n c ms) : ∀ a, A = some a → B ≤ a.block ∧ a.block < w.heap.size := by
  intro a ha
  rcases h.row with ⟨rfl, _, _⟩ | ⟨g, rfl, hB, hl⟩
  · cases ha
  · cases ha
    exact ⟨hB, hl⟩
/-- The row lies in no block of another type. -/
theorem OwC.ne {w : World} {B n c b : Nat} {A : Option Addr} {ms : List Mk} {T : TypeId} {cs : Array Value} (h : OwC w B A n c ms) (hb : Blk w b T cs) (hT : 85 ≠ T) : ∀ a, A = some a → a.block ≠ b := by
  intro a ha he
  subst ha
  rcases h.1.2 with ⟨h1, _⟩ | ⟨g, cap, cur, h1, _, hh, _⟩
  · cases h1
  · injection h1 with h1 _ _
    injection h1 with h1
    subst h1
    simp only at he
    subst he
    have hb' : w.heap[g]? = _ := hb
    rw [hh] at hb'
    injection hb' with hb'
    injection hb' with _ h3
    exact hT h3
theorem OwC.new (w : World) {B : Nat} (hB : B ≤ w.heap.size) : OwC (w.alloc (.cells #[] 85)) B (some ⟨w.heap.size, 0, none⟩) 0 0 [] :=
  ⟨by have := World.ownsRow_lit (base := B) (e := 85) (size := 5) w #[] 0 hB (by decide) rfl; simpa [mkV] using this, fun _ hm => by cases hm⟩
theorem OwC.one (w : World) {B : Nat} (hB : B ≤ w.heap.size) (m : Mk) (hs : m.nm.size ≤ 100) : OwC (w.alloc (.cells #[.string m.nm, .int .i64 m.x, .int .i64 m.y, .int .i64 m.sd, .int .i64 m.zn] 85)) B (some ⟨w.heap.size, 0, none⟩) 1 1 [m] :=
  ⟨by have := World.ownsRow_lit (base := B) (e := 85) (size := 5) w #[.string m.nm, .int .i64 m.x, .int .i64 m.y, .int .i64 m.sd, .int .i64 m.zn] 1 hB (by decide) rfl; simpa [mkV, Mk.val] using this, fun k hk => by obtain rfl := List.mem_singleton.1 hk; exact hs⟩
theorem mark_parts : ∃ i : TypeInfo, Tryz.prog.info? 85 = some i ∧ i.zero = some (.agg #[.string ByteArray.empty, .int .i64 0, .int .i64 0, .int .i64 0, .int .i64 0]) ∧ i.size = 5 ∧ i.bytes = 48 := info_parts infoMark
theorem OwC.app {w' : World} {B n c m : Nat} {A : Option Addr} {ms ms2 : List Mk} (h : w'.ownsRow B 85 5 (.slice A (n + m) c) (n + m) (mkV ms ++ mkV ms2)) (h1 : ∀ k ∈ ms, k.nm.size ≤ 100) (h2 : ∀ k ∈ ms2, k.nm.size ≤ 100) : OwC w' B A (n + m) c (ms ++ ms2) :=
  ⟨by have e : mkV (ms ++ ms2) = mkV ms ++ mkV ms2 := by unfold mkV; rw [List.flatMap_append]
      rw [e]; exact h, fun k hk => (List.mem_append.1 hk).elim (h1 k) (h2 k)⟩
/-- Nothing is appended. -/
theorem step_none {wr : World} {ops : Array Oper} {o : Oper} {a : Act} {K : Act → World → Prop} {R : Exit → Act → World → Prop} {E0 : Prop} (hgd : o.guard = none) (s x : Operand) (t e : TypeId) (i : TypeInfo)
    (ho : o.op = .call { callee := .builtin .append, args := #[s, x], argTypes := #[t, t] }) (ht : Tryz.prog.underlying t = some (.slice e)) (hi : Tryz.prog.info? e = some i)
    {A A2 : Option Addr} {n c d : Nat} (hs : a.eval s = .slice A n c) (hx : a.eval x = .slice A2 0 d) (hle : n ≤ c) (h : K (a.put o.dst (.slice A n c)) wr) :
    if Region.wanted o (yielded ops a.tmps) = true then Oper.wp Tryz.prog o a wr K R else E0 := by
  have hw : Region.wanted o (yielded ops a.tmps) = true := by simp [Region.wanted, hgd]
  rw [if_pos hw]
  have hr : ∀ ty, (Builtin.append_ #[t, t] ty #[.slice A n c, .slice A2 0 d]).run Tryz.prog wr = .ok (.slice A n c) wr := by
    intro ty
    cases A <;> cases A2 <;> simp [Builtin.append_, run_underlying ht, sizeOf, typeInfo, hi, Builtin.lenOf, Builtin.firstCells, loadCells, loadCellsFrom, storeCells, hle]
  unfold Oper.wp execOp
  simp only [ho, resolve, invoke, builtin, Sem.run_bind, Sem.run_pure, Result.andThen_ok, List.map_toArray, List.map_cons, List.map_nil, hs, hx, hr]
  exact h
/-- append of all marks of another row. -/
theorem stepMs {wr : World} {ops : Array Oper} {o : Oper} {a : Act} {K : Act → World → Prop} {R : Exit → Act → World → Prop} {E0 : Prop} (hgd : o.guard = none) (s x : Operand)
    (ho : o.op = .call { callee := .builtin .append, args := #[s, x], argTypes := #[28, 28] })
    {B : Nat} {A : Option Addr} {n c : Nat} {ms : List Mk} (hs : a.eval s = .slice A n c) (hown : OwC wr B A n c ms)
    {B2 m d : Nat} {A2 : Option Addr} {ms2 : List Mk} (hx : a.eval x = .slice A2 m d) (h2 : OwC wr B2 A2 m d ms2) (hn : n + m ≤ 1000) (hB : B ≤ wr.heap.size)
    (h : ∀ A' c' w', OwC w' B A' (n + m) c' (ms ++ ms2) → wr.grownBy w' (A.map (·.block)) → K (a.put o.dst (.slice A' (n + m) c')) w') :
    if Region.wanted o (yielded ops a.tmps) = true then Oper.wp Tryz.prog o a wr K R else E0 := by
  obtain ⟨i, hi, hz, hz1, hz2⟩ := mark_parts
  rcases Nat.eq_zero_or_pos m with h0 | h0
  · subst h0
    have hl := h2.len
    obtain rfl := List.eq_nil_of_length_eq_zero hl
    refine step_none hgd s x 28 85 i ho Tryz.underlying28 hi hs hx hown.cap ?_
    have := h A c wr (by simpa using hown) (grown_refl _ _)
    simpa using this
  · obtain ⟨gm, rfl, _, _⟩ : ∃ g, A2 = some ⟨g, 0, none⟩ ∧ B2 ≤ g ∧ g < wr.heap.size := by
      rcases h2.row with ⟨_, h3, _⟩ | h3
      · omega
      · exact h3
    refine step_append_lies wr hgd s x 28 ho B 85 i _ 5 48 Tryz.underlying28 hi hz hz1 hz2 (by simp [Value.cells]) (by decide) (.slice A n c) n _ hs hown.1 ⟨gm, 0, none⟩ m d (mkV ms2) hx (by have := h2.1.1; omega) ?_ (mkV_one ms2) h0 (by unfold maxLen; omega) (by omega) hB _ rfl ?_
    · intro j u hu
      rw [Go.WideShapes.add_plain, Nat.zero_add]
      have hj : j < (mkV ms2).length := (List.getElem?_eq_some_iff.1 hu).1
      exact (World.ownsRow.cellAt h2.1 j (by have := h2.1.1; omega)).trans hu
    · intro g cap w' k1 k2 _ _
      exact h (some ⟨g, 0, none⟩) cap w' (OwC.app k1 hown.2 h2.2) (by cases A <;> simpa [Value.ownBlock] using k2)
/-- append of one mark out of a literal. -/
theorem stepM1 {wr : World} {ops : Array Oper} {o : Oper} {a : Act} {K : Act → World → Prop} {R : Exit → Act → World → Prop} {E0 : Prop} (hgd : o.guard = none) (s x : Operand)
    (ho : o.op = .call { callee := .builtin .append, args := #[s, x], argTypes := #[28, 28] })
    {B : Nat} {A : Option Addr} {n c : Nat} {ms : List Mk} (hs : a.eval s = .slice A n c) (hown : OwC wr B A n c ms)
    (mk : Mk) {L : Nat} (hx : a.eval x = .slice (some ⟨L, 0, none⟩) 1 1) (h2 : Blk wr L 85 #[.string mk.nm, .int .i64 mk.x, .int .i64 mk.y, .int .i64 mk.sd, .int .i64 mk.zn]) (hm : mk.nm.size ≤ 100) (hn : n ≤ 999) (hB : B ≤ wr.heap.size)
    (h : ∀ A' c' w', OwC w' B A' (n + 1) c' (ms ++ [mk]) → wr.grownBy w' (A.map (·.block)) → K (a.put o.dst (.slice A' (n + 1) c')) w') :
    if Region.wanted o (yielded ops a.tmps) = true then Oper.wp Tryz.prog o a wr K R else E0 := by
  obtain ⟨i, hi, hz, hz1, hz2⟩ := mark_parts
  refine step_append_lies wr hgd s x 28 ho B 85 i _ 5 48 Tryz.underlying28 hi hz hz1 hz2 (by simp [Value.cells]) (by decide) (.slice A n c) n _ hs hown.1 ⟨L, 0, none⟩ 1 1 mk.val hx rfl ?_ (by have := mkV_one [mk]; simpa [mkV] using this) (by decide) (by unfold maxLen; omega) (by omega) hB _ rfl ?_
  · intro j u hu
    rw [Go.WideShapes.add_plain, Nat.zero_add, h2.cell j]
    have e : (#[.string mk.nm, .int .i64 mk.x, .int .i64 mk.y, .int .i64 mk.sd, .int .i64 mk.zn] : Array Value) = mk.val.toArray := rfl
    rw [e, List.getElem?_toArray]
    exact hu
  · intro g cap w' k1 k2 _ _
    refine h (some ⟨g, 0, none⟩) cap w' (OwC.app (ms2 := [mk]) (by simpa [mkV] using k1) hown.2 (fun k hk => by obtain rfl := List.mem_singleton.1 hk; exact hm)) (by cases A <;> simpa [Value.ownBlock] using k2)
/-- A whole struct is stored, at a step of a region that draws its order. -/
theorem step_store {wr : World} {ops : Array Oper} {o : Oper} {a : Act} {K : Act → World → Prop} {R : Exit → Act → World → Prop} {E0 : Prop} (hgd : o.guard = none) (ty : TypeId) (x y : Operand) (ho : o.op = .store ty x y)
    (b : Nat) (cells : Array Value) (hx : a.eval x = .pointer (some ⟨b, 0, none⟩)) (hy : a.eval y = .agg cells)
    (ht : wr.there b 0 cells.size) (hi : (Tryz.prog.info? ty).map (·.size) = some cells.size) (h1 : cells.all (·.oneCell') = true)
    (h : K (a.put o.dst undef) (wr.setCells b 0 cells.toList)) : if Region.wanted o (yielded ops a.tmps) = true then Oper.wp Tryz.prog o a wr K R else E0 := by
  have hw : Region.wanted o (yielded ops a.tmps) = true := by simp [Region.wanted, hgd]
  rw [if_pos hw]
  exact wp_store_mid ty x y ho b 0 cells hx hy ht hi h1 h
theorem DrT.markN2 {w0 ws w w' : World} {g n c : Nat} {A : Option Addr} {row : Option Nat} (h : DrT w0 ws w g A n c) (hg : w.grownBy w' row) (hr : ∀ r, row = some r → ws.heap.size ≤ r) : DrT w0 ws w' g A n c := by
  have h0 := h.dr.hg
  have h1 := h.glt
  refine ⟨h.dr.far hg (fun b hb => by have := hr b hb; omega), ?_, h.glt⟩
  exact ⟨hg.os.trans h.gr.os, hg.tape.trans h.gr.tape, hg.output.trans h.gr.output, Nat.le_trans h.gr.size hg.size, fun i hi hn => (hg.block i (Nat.lt_of_lt_of_le hi h.gr.size) (fun e => by have := hr i e.symm; omega)).trans (h.gr.block i hi hn)⟩
theorem chain9 (w : World) (b : Nat) (y0 y1 y2 y3 y4 y5 y6 y7 y8 : Value) : (((((((((w.setCell ⟨b, 0, none⟩ y0).setCell ⟨b, 1, none⟩ y1).setCell ⟨b, 2, none⟩ y2).setCell ⟨b, 3, none⟩ y3).setCell ⟨b, 4, none⟩ y4).setCell ⟨b, 5, none⟩ y5).setCell ⟨b, 6, none⟩ y6).setCell ⟨b, 7, none⟩ y7).setCell ⟨b, 8, none⟩ y8) = w.setCells b 0 [y0, y1, y2, y3, y4, y5, y6, y7, y8] := by simp only [World.setCells, Nat.zero_add, Nat.reduceAdd]
theorem Blk.ch9 {w : World} {b : Nat} {T : TypeId} {x0 x1 x2 x3 x4 x5 x6 x7 x8 : Value} (h : Blk w b T #[x0, x1, x2, x3, x4, x5, x6, x7, x8]) (y0 y1 y2 y3 y4 y5 y6 y7 y8 : Value) : Blk (((((((((w.setCell ⟨b, 0, none⟩ y0).setCell ⟨b, 1, none⟩ y1).setCell ⟨b, 2, none⟩ y2).setCell ⟨b, 3, none⟩ y3).setCell ⟨b, 4, none⟩ y4).setCell ⟨b, 5, none⟩ y5).setCell ⟨b, 6, none⟩ y6).setCell ⟨b, 7, none⟩ y7).setCell ⟨b, 8, none⟩ y8) b T #[y0, y1, y2, y3, y4, y5, y6, y7, y8] := by rw [chain9]; exact h.all9 y0 y1 y2 y3 y4 y5 y6 y7 y8
theorem Blk.fr9 {w : World} {g b : Nat} {T : TypeId} {cs : Array Value} (h : Blk w g T cs) (hp : g ≠ b) (y0 y1 y2 y3 y4 y5 y6 y7 y8 : Value) : Blk (((((((((w.setCell ⟨b, 0, none⟩ y0).setCell ⟨b, 1, none⟩ y1).setCell ⟨b, 2, none⟩ y2).setCell ⟨b, 3, none⟩ y3).setCell ⟨b, 4, none⟩ y4).setCell ⟨b, 5, none⟩ y5).setCell ⟨b, 6, none⟩ y6).setCell ⟨b, 7, none⟩ y7).setCell ⟨b, 8, none⟩ y8) g T cs := by rw [chain9]; exact h.farAll hp 0 _
theorem DrT.fr9 {w0 ws w : World} {g : Nat} {A : Option Addr} {n c : Nat} (h : DrT w0 ws w g A n c) {b : Nat} (hb : ws.heap.size ≤ b) (y0 y1 y2 y3 y4 y5 y6 y7 y8 : Value) : DrT w0 ws (((((((((w.setCell ⟨b, 0, none⟩ y0).setCell ⟨b, 1, none⟩ y1).setCell ⟨b, 2, none⟩ y2).setCell ⟨b, 3, none⟩ y3).setCell ⟨b, 4, none⟩ y4).setCell ⟨b, 5, none⟩ y5).setCell ⟨b, 6, none⟩ y6).setCell ⟨b, 7, none⟩ y7).setCell ⟨b, 8, none⟩ y8) g A n c := by rw [chain9]; exact h.setAll hb 0 _
theorem OwC.fr9 {w : World} {B n c b : Nat} {A : Option Addr} {ms : List Mk} (h : OwC w B A n c ms) (hp : ∀ a, A = some a → a.block ≠ b) (y0 y1 y2 y3 y4 y5 y6 y7 y8 : Value) : OwC (((((((((w.setCell ⟨b, 0, none⟩ y0).setCell ⟨b, 1, none⟩ y1).setCell ⟨b, 2, none⟩ y2).setCell ⟨b, 3, none⟩ y3).setCell ⟨b, 4, none⟩ y4).setCell ⟨b, 5, none⟩ y5).setCell ⟨b, 6, none⟩ y6).setCell ⟨b, 7, none⟩ y7).setCell ⟨b, 8, none⟩ y8) B A n c ms := by rw [chain9]; exact h.farAll hp 0 _
theorem OwC.one' (w : World) {B H : Nat} (hh : w.heap.size = H) (hB : B ≤ H) (m : Mk) (hs : decide (m.nm.size ≤ 100) = true) : OwC (w.alloc (.cells #[.string m.nm, .int .i64 m.x, .int .i64 m.y, .int .i64 m.sd, .int .i64 m.zn] 85)) B (some ⟨H, 0, none⟩) 1 1 [m] := by
  subst hh
  exact OwC.one w hB m (of_decide_eq_true hs)
/-- What lies while a course is drawn: its row of marks, its box, one block more, the result's box, the source. -/
def CoD (w0 w wr : World) (b g : Nat) (A : Option Addr) (n c : Nat) (cv : Array Value) (B0 : Nat) (C : Option Addr) (m d : Nat) (ms : List Mk) (b2 : Nat) (T2 : TypeId) (cs : Array Value) : Prop :=
  OwC wr B0 C m d ms ∧ Blk wr b 30 cv ∧ Blk wr b2 T2 cs ∧ Blk wr w.heap.size 30 #[.int .i64 0, .int .i64 0, .int .i64 0, .int .i64 0, .int .i64 0, .int .i64 0, .int .i64 0, .int .i64 0, .slice none 0 0] ∧ DrT w0 w wr g A n c
/-- All of it lies below H. -/
def Top (w : World) (b b2 : Nat) (C : Option Addr) (H : Nat) : Prop := b < H ∧ b2 < H ∧ w.heap.size < H ∧ ∀ a, C = some a → a.block < H
section
variable {w0 w wr w' : World} {b g n c : Nat} {A : Option Addr} {cv : Array Value} {B0 : Nat} {C : Option Addr} {m d : Nat} {ms : List Mk} {b2 : Nat} {T2 : TypeId} {cs : Array Value}
theorem CoD.top (h : CoD w0 w wr b g A n c cv B0 C m d ms b2 T2 cs) : Top w b b2 C wr.heap.size := ⟨h.2.1.lt, h.2.2.1.lt, h.2.2.2.1.lt, fun a ha => (h.1.from a ha).2⟩
theorem CoD.q (h : CoD w0 w wr b g A n c cv B0 C m d ms b2 T2 cs) (hq : Q wr w') : CoD w0 w w' b g A n c cv B0 C m d ms b2 T2 cs := ⟨h.1.q hq, h.2.1.q hq, h.2.2.1.q hq, h.2.2.2.1.q hq, h.2.2.2.2.q hq⟩
theorem CoD.draw (h : CoD w0 w wr b g A n c cv B0 C m d ms b2 T2 cs) (D : Dr w0 w' g A n c) (G : wr.grownBy w' (some g)) (hb : g < b ∧ g < b2 ∧ g < B0) : CoD w0 w w' b g A n c cv B0 C m d ms b2 T2 cs := by
  have := h.2.2.2.2.glt
  exact ⟨h.1.kept G (fun _ hk => by cases hk; exact hb.2.2), h.2.1.keepG G (by omega), h.2.2.1.keepG G (by omega), h.2.2.2.1.keepG G (by omega), h.2.2.2.2.step D G⟩
theorem CoD.grow {H : Nat} {row : Option Nat} (h : CoD w0 w wr b g A n c cv B0 C m d ms b2 T2 cs) (hg : wr.grownBy w' row) (hr : ∀ r, row = some r → H ≤ r) (T : Top w b b2 C H) : CoD w0 w w' b g A n c cv B0 C m d ms b2 T2 cs := by
  have hx : ∀ q, q < H → some q ≠ row := fun q hq e => by have := hr q e.symm; omega
  exact ⟨h.1.kept2 hg (fun a ha => hx _ (T.2.2.2 a ha)), h.2.1.grown hg (hx _ T.1), h.2.2.1.grown hg (hx _ T.2.1), h.2.2.2.1.grown hg (hx _ T.2.2.1), h.2.2.2.2.markN2 hg (fun r e => by have := hr r e; have := T.2.2.1; omega)⟩
theorem CoD.setAll {H : Nat} (h : CoD w0 w wr b g A n c cv B0 C m d ms b2 T2 cs) (T : Top w b b2 C H) (o : Nat) (vs : List Value) : CoD w0 w (wr.setCells H o vs) b g A n c cv B0 C m d ms b2 T2 cs :=
  h.grow (grown_all H vs o wr wr (grown_refl wr _)) (fun _ e => by cases e; exact Nat.le_refl _) T
theorem OwC.up {H : Nat} {row : Option Nat} {A' : Option Addr} {n' c' : Nat} {ms' : List Mk} (h : OwC wr H A' n' c' ms') (hr : row = A'.map (·.block)) : ∀ r, row = some r → H ≤ r := by
  intro r e
  subst hr
  rcases A' with _ | a
  · cases e
  · have e3 : a.block = r := Option.some.inj e
    have := (h.from a rfl).1
    omega
theorem CoD.dr (h : CoD w0 w wr b g A n c cv B0 C m d ms b2 T2 cs) : Dr w0 wr g A n c := h.2.2.2.2.dr
end
theorem Blk.above {w w' : World} {g H : Nat} {T : TypeId} {cs : Array Value} {row : Option Nat} (h : Blk w g T cs) (hg : w.grownBy w' row) (hr : ∀ r, row = some r → H ≤ r) (hl : g < H) : Blk w' g T cs := h.grown hg (fun e => by have := hr g e.symm; omega)
theorem Blk.farC {w w' : World} {B n c g : Nat} {A : Option Addr} {ms : List Mk} {T : TypeId} {cs : Array Value} (h : Blk w g T cs) (ho : OwC w B A n c ms) (hT : 85 ≠ T) (hg : w.grownBy w' (A.map (·.block))) : Blk w' g T cs :=
  h.grown hg (fun e => by
    cases hA : A with
    | none => rw [hA] at e; cases e
    | some a => rw [hA] at e; exact ho.ne h hT a hA (Option.some.inj e).symm)
end Go.Proofs.YteofhfefbphjdaaGreatDoor
namespace Go.Proofs.YteofhfefbphjdaaGreatDoor
open Go.RowKit Go.WideShapes Go.ChangeShapes
/-- The coordinates of a line that is valid. -/
def lnV (a b c d : Int) : Prop := (ptM 1000000 a b ∧ ptM 1000000 c d) ∧ ¬ (a = c ∧ b = d)
def DrawCo (w0 w : World) (g : Nat) (A : Option Addr) (n c : Nat) (e : Ending) (w' : World) : Prop := ∃ (x0 x1 x2 x3 x4 x5 x6 x7 : Int) (B : Option Addr) (m d : Nat) (ms : List Mk),
  e = .returned (.agg #[.int .i64 x0, .int .i64 x1, .int .i64 x2, .int .i64 x3, .int .i64 x4, .int .i64 x5, .int .i64 x6, .int .i64 x7, .slice B m d]) ∧
  (lnV x0 x1 x2 x3 ∧ lnV x4 x5 x6 x7) ∧ OwC w' w.heap.size B m d ms ∧ (1 ≤ m ∧ m ≤ 4) ∧ Dr w0 w' g A n c ∧ w.grownBy w' (some g)
theorem hbd {a b c d : Int} (h : lnV a b c d) : bd4 1000001 a b c d := by
  obtain ⟨⟨⟨⟨h1, h2⟩, h3, h4⟩, ⟨h5, h6⟩, h7, h8⟩, _⟩ := h
  exact ⟨⟨⟨by omega, by omega⟩, by omega, by omega⟩, ⟨by omega, by omega⟩, by omega, by omega⟩
theorem hmd {a b c d : Int} (h : lnV a b c d) : (-1000000 ≤ mdX a c ∧ mdX a c ≤ 1000000) ∧ (-1000000 ≤ mdX b d ∧ mdX b d ≤ 1000000) := by
  obtain ⟨⟨⟨⟨h1, h2⟩, h3, h4⟩, ⟨h5, h6⟩, h7, h8⟩, _⟩ := h
  unfold mdX
  omega
def nmS : Array Value := #[.string ⟨#[109, 49]⟩, .string ⟨#[109, 50]⟩, .string ⟨#[116, 111, 112]⟩, .string ⟨#[103, 97, 116, 101]⟩, .string ⟨#[109, 53]⟩, .string ⟨#[119, 105, 110, 103]⟩, .string ⟨#[109, 55]⟩, .string ⟨#[120, 56]⟩]
theorem names8 {m : Nat} (hm : m < 8) {w : World} {b : Nat} (h : Blk w b 9 nmS) : ∃ s : ByteArray, w.cell? ⟨b, m, none⟩ = some (.string s) ∧ nmS[m]? = some (.string s) ∧ s.size ≤ 100 := by
  match m, hm with
  | 0, _ => exact ⟨_, h.cell 0, rfl, by decide⟩
  | 1, _ => exact ⟨_, h.cell 1, rfl, by decide⟩
  | 2, _ => exact ⟨_, h.cell 2, rfl, by decide⟩
  | 3, _ => exact ⟨_, h.cell 3, rfl, by decide⟩
  | 4, _ => exact ⟨_, h.cell 4, rfl, by decide⟩
  | 5, _ => exact ⟨_, h.cell 5, rfl, by decide⟩
  | 6, _ => exact ⟨_, h.cell 6, rfl, by decide⟩
  | 7, _ => exact ⟨_, h.cell 7, rfl, by decide⟩
/-- The course so far: its box, the names, the row of marks, the result's box. -/
def CoB (w0 w wr : World) (b g : Nat) (A : Option Addr) (n c : Nat) (x0 x1 x2 x3 x4 x5 x6 x7 : Int) (C : Option Addr) (m d : Nat) (ms : List Mk) : Prop :=
  CoD w0 w wr b g A n c #[.int .i64 x0, .int .i64 x1, .int .i64 x2, .int .i64 x3, .int .i64 x4, .int .i64 x5, .int .i64 x6, .int .i64 x7, .slice C m d] (b + 2) C m d ms (b + 1) 9 nmS
set_option maxRecDepth 100000 in
set_option maxHeartbeats 8000000 in
theorem spec_l04Draw {w0 w : World} {g : Nat} {A : Option Addr} {n c : Nat} (h : Dr w0 w g A n c) (hn : n ≤ 140737488355327) : Calls Tryz.prog 30 #[.pointer (some ⟨g, 0, none⟩)] w (DrawCo w0 w g A n c) := by
  have HD := DrT.start h
  have hlt := HD.glt
  have R0 := Blk.new w 30 #[.int .i64 0, .int .i64 0, .int .i64 0, .int .i64 0, .int .i64 0, .int .i64 0, .int .i64 0, .int .i64 0, .slice none 0 0]
  replace HD := HD.alloc (.cells #[.int .i64 0, .int .i64 0, .int .i64 0, .int .i64 0, .int .i64 0, .int .i64 0, .int .i64 0, .int .i64 0, .slice none 0 0] 30)
  go_enter Tryz.func30, Tryz.ntmps30
  go_wp2_with fail
  refine (spec_l04DrawLineV (w0 := w0) (A := A) (n := n) (c := c) HD.dr hn).mono ?_
  rintro e1 w1 ⟨x0, x1, x2, x3, rfl, hp1, D1, G1⟩
  replace HD := HD.step D1 G1
  replace R0 := Blk.keepG R0 G1 (by omega)
  clear D1 G1 h
  go_wp2_with fail
  refine (spec_l04DrawLineV (w0 := w0) (A := A) (n := n) (c := c) HD.dr hn).mono ?_
  rintro e2 w2 ⟨x4, x5, x6, x7, rfl, hp2, D2, G2⟩
  replace HD := HD.step D2 G2
  replace R0 := Blk.keepG R0 G2 (by omega)
  have z2 := HD.size
  clear D2 G2
  have lR := R0.lt
  have BC : Blk ((w2.alloc (.cells #[.int .i64 x0, .int .i64 x1, .int .i64 x2, .int .i64 x3, .int .i64 x4, .int .i64 x5, .int .i64 x6, .int .i64 x7, .slice none 0 0] 30)).alloc (.cells nmS 9)) w2.heap.size 30 #[.int .i64 x0, .int .i64 x1, .int .i64 x2, .int .i64 x3, .int .i64 x4, .int .i64 x5, .int .i64 x6, .int .i64 x7, .slice none 0 0] := (Blk.new _ _ _).alloc _
  have BN : Blk ((w2.alloc (.cells #[.int .i64 x0, .int .i64 x1, .int .i64 x2, .int .i64 x3, .int .i64 x4, .int .i64 x5, .int .i64 x6, .int .i64 x7, .slice none 0 0] 30)).alloc (.cells nmS 9)) (w2.heap.size + 1) 9 nmS := by simpa using Blk.new (w2.alloc (.cells #[.int .i64 x0, .int .i64 x1, .int .i64 x2, .int .i64 x3, .int .i64 x4, .int .i64 x5, .int .i64 x6, .int .i64 x7, .slice none 0 0] 30)) 9 nmS
  replace R0 := (R0.alloc (.cells #[.int .i64 x0, .int .i64 x1, .int .i64 x2, .int .i64 x3, .int .i64 x4, .int .i64 x5, .int .i64 x6, .int .i64 x7, .slice none 0 0] 30)).alloc (.cells nmS 9)
  replace HD := (HD.alloc (.cells #[.int .i64 x0, .int .i64 x1, .int .i64 x2, .int .i64 x3, .int .i64 x4, .int .i64 x5, .int .i64 x6, .int .i64 x7, .slice none 0 0] 30)).alloc (.cells nmS 9)
  go_upto_region 3 with (fail)
  have HP1 := Lib.hid (show lnV x0 x1 x2 x3 from hp1)
  have HP2 := Lib.hid (show lnV x4 x5 x6 x7 from hp2)
  clear hp1 hp2
  obtain ⟨b, hb⟩ : ∃ b, b = w2.heap.size := ⟨_, rfl⟩
  rw [← hb] at BC BN lR z2
  unfold nmS at BC BN R0 HD
  generalize hwb : (w2.alloc (.cells #[.int .i64 x0, .int .i64 x1, .int .i64 x2, .int .i64 x3, .int .i64 x4, .int .i64 x5, .int .i64 x6, .int .i64 x7, .slice none 0 0] 30)).alloc (.cells _ 9) = wb at *
  clear hwb
  replace BN : Blk wb (b + 1) 9 nmS := BN
  try rw [← hb]
  clear hb
  go_wp2_with fail
  refine (spec_Next (w0 := w0) (A := A) (n := n) (c := c) _ (DrT.dr (ws := w) (by ((repeat (first | exact HD | refine DrT.alloc ?_ _ | refine DrT.drewN ?_ _ | refine DrT.drew ?_ | refine DrT.set ?_ (by first | omega | (simp; omega)) _))))) hn).mono ?_
  rintro e3 w3 ⟨r3, rfl, hr3, D3, G3⟩
  have HD := DrT.step (ws := w) (by ((repeat (first | exact HD | refine DrT.alloc ?_ _ | refine DrT.drewN ?_ _ | refine DrT.drew ?_ | refine DrT.set ?_ (by first | omega | (simp; omega)) _)))) D3 G3
  have z3 := HD.size
  replace R0 := Blk.keepG (g := g) (R0.q (by (repeat (first | assumption | exact Q.refl _ | refine Q.alloc ?_ _ | refine Q.drewN ?_ _ | refine Q.drew ?_)))) G3 (by omega)
  replace BC := Blk.keepG (g := g) (BC.q (by (repeat (first | assumption | exact Q.refl _ | refine Q.alloc ?_ _ | refine Q.drewN ?_ _ | refine Q.drew ?_)))) G3 (by omega)
  replace BN := Blk.keepG (g := g) (BN.q (by (repeat (first | assumption | exact Q.refl _ | refine Q.alloc ?_ _ | refine Q.drewN ?_ _ | refine Q.drew ?_)))) G3 (by omega)
  have lC := BC.lt
  have lN := BN.lt
  clear D3 G3
  go_wp2_with fail
  go_loopw [5] (fun i wr => ∃ (k : Nat) (C : Option Addr) (m d : Nat) (ms : List Mk), i = .int .i64 k ∧ m + k ≤ 4 ∧ CoB w0 w wr b g A n c x0 x1 x2 x3 x4 x5 x6 x7 C m d ms) (fun i _ => (intOf i).toNat)
  case atStart =>
    obtain ⟨k, rfl⟩ := Int.eq_ofNat_of_zero_le hr3.1
    exact ⟨1 + k, none, 0, 0, [], by go_num, by omega, OwC.nil, BC, BN, R0, HD⟩
  case round =>
    clear BC BN R0 HD hr3 lC lN z3
    obtain ⟨k, C, m, d, ms, rfl, hmk, O, BC, BN, R0, HD⟩ := hrel
    by_cases hk0 : 0 < k
    · have hkI : (0 : Int) < (k : Int) := by omega
      obtain ⟨j, rfl⟩ : ∃ j, k = j + 1 := ⟨k - 1, by omega⟩
      go_upto_region 6 with (fail)
      go_cut [6] from 19 to 52 (fun v wc => ∃ (bm : Nat) (mk : Mk), v = .pointer (some ⟨bm, 0, none⟩) ∧ Blk wc bm 85 #[.string mk.nm, .int .i64 mk.x, .int .i64 mk.y, .int .i64 mk.sd, .int .i64 mk.zn] ∧ mk.nm.size ≤ 100 ∧ CoB w0 w wc b g A n c x0 x1 x2 x3 x4 x5 x6 x7 C m d ms)
      case first =>
        obtain ⟨s, _, hnm, hs⟩ := names8 (show m < 8 by omega) BN
        have hmI : (0 : Int) ≤ (m : Int) ∧ (m : Int) < 8 := by omega
        have Z : CoB w0 w wr b g A n c x0 x1 x2 x3 x4 x5 x6 x7 C m d ms := ⟨O, BC, BN, R0, HD⟩
        clear O BC BN R0 HD
        replace Z := CoD.q Z (Q.refl _).drew
        refine wp_region_Z (fun w' : World => Blk w' b 30 #[.int .i64 x0, .int .i64 x1, .int .i64 x2, .int .i64 x3, .int .i64 x4, .int .i64 x5, .int .i64 x6, .int .i64 x7, .slice C m d] ∧ w'.cell? ⟨b + 1, m, none⟩ = some (.string s)) 16 (by kernel_rfl) ?_
        generalize wr.drew = wd at *
        (refine tkZ 0 (v := ?_) rfl (by kernel_rfl) (fun _ _ _ h => h) ⟨Z.2.1, (Z.2.2.1.cell m).trans hnm⟩ rfl ?_ ?_; rotate_left 1; focus (intro w s; have cA := s.1.cell; have cB := s.2; go_simp; try with_reducible rfl))
        (refine tkZ 1 (v := ?_) rfl (by kernel_rfl) (fun _ _ _ h => h) ⟨Z.2.1, (Z.2.2.1.cell m).trans hnm⟩ rfl ?_ ?_; rotate_left 1; focus (intro w s; have cA := s.1.cell; have cB := s.2; go_simp; try with_reducible rfl))
        (refine tkZ 2 (v := ?_) rfl (by kernel_rfl) (fun _ _ _ h => h) ⟨Z.2.1, (Z.2.2.1.cell m).trans hnm⟩ rfl ?_ ?_; rotate_left 1; focus (intro w s; have cA := s.1.cell; have cB := s.2; go_simp; try with_reducible rfl))
        (refine tkZ 3 (v := ?_) rfl (by kernel_rfl) (fun _ _ _ h => h) ⟨Z.2.1, (Z.2.2.1.cell m).trans hnm⟩ rfl ?_ ?_; rotate_left 1; focus (intro w s; have cA := s.1.cell; have cB := s.2; go_simp; try with_reducible rfl))
        (refine tkZ 4 (v := ?_) rfl (by kernel_rfl) (fun _ _ _ h => h) ⟨Z.2.1, (Z.2.2.1.cell m).trans hnm⟩ rfl ?_ ?_; rotate_left 1; focus (intro w s; have cA := s.1.cell; have cB := s.2; go_simp; try with_reducible rfl))
        (refine tkZ 5 (v := ?_) rfl (by kernel_rfl) (fun _ _ _ h => h) ⟨Z.2.1, (Z.2.2.1.cell m).trans hnm⟩ rfl ?_ ?_; rotate_left 1; focus (intro w s; have cA := s.1.cell; have cB := s.2; go_simp; try with_reducible rfl))
        (refine tkZ 6 (v := ?_) rfl (by kernel_rfl) (fun _ _ _ h => h) ⟨Z.2.1, (Z.2.2.1.cell m).trans hnm⟩ rfl ?_ ?_; rotate_left 1; focus (intro w s; have cA := s.1.cell; have cB := s.2; go_simp; try with_reducible rfl))
        (refine tkZ 8 (v := ?_) rfl (by kernel_rfl) (fun _ _ _ h => h) ⟨Z.2.1, (Z.2.2.1.cell m).trans hnm⟩ rfl ?_ ?_; rotate_left 1; focus (intro w s; have cA := s.1.cell; have cB := s.2; go_simp; try with_reducible rfl))
        (refine tkZ 11 (v := ?_) rfl (by kernel_rfl) (fun _ _ _ h => h) ⟨Z.2.1, (Z.2.2.1.cell m).trans hnm⟩ rfl ?_ ?_; rotate_left 1; focus (intro w s; have cA := s.1.cell; have cB := s.2; go_simp; try with_reducible rfl))
        try simp only [Act.put, List.setIfInBounds_toArray, List.set_cons_zero, List.set_cons_succ, List.getElem_toArray, List.getElem_cons_succ, List.getElem_cons_zero]; try simp only [Nat.zero_add]
        refine wpAnyZ_two 7 15 (by kernel_rfl) rfl rfl (fun K hK => ?_) (fun K hK => ?_)
        · go_simp
          go_at_call 67
          refine (spec_l01DrawPoint Z.dr hn).mono ?_
          rintro e6 w6 ⟨px, py, rfl, _, D6, G6⟩
          replace Z := CoD.draw Z D6 G6 (by omega)
          clear D6 G6
          refine hK.out _ _ ⟨Z.2.1, (Z.2.2.1.cell m).trans hnm⟩ ?_
          clear hK K
          refine wpAnyZ_two 9 15 (by kernel_rfl) rfl rfl (fun K hK => ?_) (fun K hK => ?_)
          · go_simp
            go_at_call 17
            refine (spec_Next _ Z.dr hn).mono ?_
            rintro e7 w7 ⟨r7, rfl, _, D7, G7⟩
            replace Z := CoD.draw Z D7 G7 (by omega)
            clear D7 G7
            refine hK.out _ _ ⟨Z.2.1, (Z.2.2.1.cell m).trans hnm⟩ ?_
            clear hK K
            (refine tkZ 10 (v := ?_) rfl (by kernel_rfl) (fun _ _ _ h => h) ⟨Z.2.1, (Z.2.2.1.cell m).trans hnm⟩ rfl ?_ ?_; rotate_left 1; focus (intro w s; have cA := s.1.cell; have cB := s.2; go_simp; try with_reducible rfl))
            try simp only [Act.put, List.setIfInBounds_toArray, List.set_cons_zero, List.set_cons_succ, List.getElem_toArray, List.getElem_cons_succ, List.getElem_cons_zero]; try simp only [Nat.zero_add]
            refine wpAnyZ_two 12 15 (by kernel_rfl) rfl rfl (fun K hK => ?_) (fun K hK => ?_)
            · go_simp
              go_at_call 17
              refine (spec_Next _ Z.dr hn).mono ?_
              rintro e8 w8 ⟨r8, rfl, _, D8, G8⟩
              replace Z := CoD.draw Z D8 G8 (by omega)
              clear D8 G8
              refine hK.out _ _ ⟨Z.2.1, (Z.2.2.1.cell m).trans hnm⟩ ?_
              clear hK K
              (refine tkZ 13 (v := ?_) rfl (by kernel_rfl) (fun _ _ _ h => h) ⟨Z.2.1, (Z.2.2.1.cell m).trans hnm⟩ rfl ?_ ?_; rotate_left 1; focus (intro w s; have cA := s.1.cell; have cB := s.2; go_simp; try with_reducible rfl))
              (refine tkZ 14 (v := ?_) rfl (by kernel_rfl) (fun _ _ _ h => h) ⟨Z.2.1, (Z.2.2.1.cell m).trans hnm⟩ rfl ?_ ?_; rotate_left 1; focus (intro w s; have cA := s.1.cell; have cB := s.2; go_simp; try with_reducible rfl))
              try simp only [Act.put, List.setIfInBounds_toArray, List.set_cons_zero, List.set_cons_succ, List.getElem_toArray, List.getElem_cons_succ, List.getElem_cons_zero]; try simp only [Nat.zero_add]
              refine wpAnyZ_one 15 (by kernel_rfl) rfl (fun K hK => ?_)
              go_simp
              have T := CoD.top Z
              have PM := Blk.new w8 85 #[.string ⟨#[]⟩, .int .i64 0, .int .i64 0, .int .i64 0, .int .i64 0]
              replace Z := CoD.q Z ((Q.refl _).alloc (.cells #[.string ⟨#[]⟩, .int .i64 0, .int .i64 0, .int .i64 0, .int .i64 0] 85))
              generalize w8.heap.size = bm at *
              have hbm := T.2.1
              try generalize w8.alloc (.cells #[.string ⟨#[]⟩, .int .i64 0, .int .i64 0, .int .i64 0, .int .i64 0] 85) = w8a at *
              refine hK.out _ _ ⟨Z.2.1, (Z.2.2.1.cell m).trans hnm⟩ ?_
              clear hK K
              refine wpAnyZ_last (by kernel_rfl) rfl (fun K hK => ?_)
              refine step_store rfl 85 _ _ rfl bm _ rfl rfl PM.there (by kernel_rfl) (by simp [Value.oneCell']) ?_
              refine hK.out _ _ ?_
              clear hK K
              try simp only [Act.put]
              refine wpAnyZ_done (by kernel_rfl) ?_ _
              go_wp2_with fail
              go_meet
              exact ⟨bm, ⟨s, px, py, _, _⟩, rfl, PM.all5 _ _ _ _ _, hs, CoD.setAll Z T _ _⟩
            go_simp
            have T := CoD.top Z
            have PM := Blk.new w7 85 #[.string ⟨#[]⟩, .int .i64 0, .int .i64 0, .int .i64 0, .int .i64 0]
            replace Z := CoD.q Z ((Q.refl _).alloc (.cells #[.string ⟨#[]⟩, .int .i64 0, .int .i64 0, .int .i64 0, .int .i64 0] 85))
            generalize w7.heap.size = bm at *
            have hbm := T.2.1
            try generalize w7.alloc (.cells #[.string ⟨#[]⟩, .int .i64 0, .int .i64 0, .int .i64 0, .int .i64 0] 85) = w7a at *
            refine hK.out _ _ ⟨Z.2.1, (Z.2.2.1.cell m).trans hnm⟩ ?_
            clear hK K
            refine wpAnyZ_one 12 (by kernel_rfl) rfl (fun K hK => ?_)
            go_simp
            go_at_call 17
            refine (spec_Next _ Z.dr hn).mono ?_
            rintro e8 w8 ⟨r8, rfl, _, D8, G8⟩
            replace Z := CoD.draw Z D8 G8 (by omega)
            replace PM := PM.keepG G8 (by omega)
            clear D8 G8
            refine hK.out _ _ ⟨Z.2.1, (Z.2.2.1.cell m).trans hnm⟩ ?_
            clear hK K
            (refine tkZ 13 (v := ?_) rfl (by kernel_rfl) (fun _ _ _ h => h) ⟨Z.2.1, (Z.2.2.1.cell m).trans hnm⟩ rfl ?_ ?_; rotate_left 1; focus (intro w s; have cA := s.1.cell; have cB := s.2; go_simp; try with_reducible rfl))
            (refine tkZ 14 (v := ?_) rfl (by kernel_rfl) (fun _ _ _ h => h) ⟨Z.2.1, (Z.2.2.1.cell m).trans hnm⟩ rfl ?_ ?_; rotate_left 1; focus (intro w s; have cA := s.1.cell; have cB := s.2; go_simp; try with_reducible rfl))
            try simp only [Act.put, List.setIfInBounds_toArray, List.set_cons_zero, List.set_cons_succ, List.getElem_toArray, List.getElem_cons_succ, List.getElem_cons_zero]; try simp only [Nat.zero_add]
            refine wpAnyZ_last (by kernel_rfl) rfl (fun K hK => ?_)
            refine step_store rfl 85 _ _ rfl bm _ rfl rfl PM.there (by kernel_rfl) (by simp [Value.oneCell']) ?_
            refine hK.out _ _ ?_
            clear hK K
            try simp only [Act.put]
            refine wpAnyZ_done (by kernel_rfl) ?_ _
            go_wp2_with fail
            go_meet
            exact ⟨bm, ⟨s, px, py, _, _⟩, rfl, PM.all5 _ _ _ _ _, hs, CoD.setAll Z T _ _⟩
          go_simp
          have T := CoD.top Z
          have PM := Blk.new w6 85 #[.string ⟨#[]⟩, .int .i64 0, .int .i64 0, .int .i64 0, .int .i64 0]
          replace Z := CoD.q Z ((Q.refl _).alloc (.cells #[.string ⟨#[]⟩, .int .i64 0, .int .i64 0, .int .i64 0, .int .i64 0] 85))
          generalize w6.heap.size = bm at *
          have hbm := T.2.1
          try generalize w6.alloc (.cells #[.string ⟨#[]⟩, .int .i64 0, .int .i64 0, .int .i64 0, .int .i64 0] 85) = w6a at *
          refine hK.out _ _ ⟨Z.2.1, (Z.2.2.1.cell m).trans hnm⟩ ?_
          clear hK K
          refine wpAnyZ_one 9 (by kernel_rfl) rfl (fun K hK => ?_)
          go_simp
          go_at_call 17
          refine (spec_Next _ Z.dr hn).mono ?_
          rintro e7 w7 ⟨r7, rfl, _, D7, G7⟩
          replace Z := CoD.draw Z D7 G7 (by omega)
          replace PM := PM.keepG G7 (by omega)
          clear D7 G7
          refine hK.out _ _ ⟨Z.2.1, (Z.2.2.1.cell m).trans hnm⟩ ?_
          clear hK K
          (refine tkZ 10 (v := ?_) rfl (by kernel_rfl) (fun _ _ _ h => h) ⟨Z.2.1, (Z.2.2.1.cell m).trans hnm⟩ rfl ?_ ?_; rotate_left 1; focus (intro w s; have cA := s.1.cell; have cB := s.2; go_simp; try with_reducible rfl))
          try simp only [Act.put, List.setIfInBounds_toArray, List.set_cons_zero, List.set_cons_succ, List.getElem_toArray, List.getElem_cons_succ, List.getElem_cons_zero]; try simp only [Nat.zero_add]
          refine wpAnyZ_one 12 (by kernel_rfl) rfl (fun K hK => ?_)
          go_simp
          go_at_call 17
          refine (spec_Next _ Z.dr hn).mono ?_
          rintro e8 w8 ⟨r8, rfl, _, D8, G8⟩
          replace Z := CoD.draw Z D8 G8 (by omega)
          replace PM := PM.keepG G8 (by omega)
          clear D8 G8
          refine hK.out _ _ ⟨Z.2.1, (Z.2.2.1.cell m).trans hnm⟩ ?_
          clear hK K
          (refine tkZ 13 (v := ?_) rfl (by kernel_rfl) (fun _ _ _ h => h) ⟨Z.2.1, (Z.2.2.1.cell m).trans hnm⟩ rfl ?_ ?_; rotate_left 1; focus (intro w s; have cA := s.1.cell; have cB := s.2; go_simp; try with_reducible rfl))
          (refine tkZ 14 (v := ?_) rfl (by kernel_rfl) (fun _ _ _ h => h) ⟨Z.2.1, (Z.2.2.1.cell m).trans hnm⟩ rfl ?_ ?_; rotate_left 1; focus (intro w s; have cA := s.1.cell; have cB := s.2; go_simp; try with_reducible rfl))
          try simp only [Act.put, List.setIfInBounds_toArray, List.set_cons_zero, List.set_cons_succ, List.getElem_toArray, List.getElem_cons_succ, List.getElem_cons_zero]; try simp only [Nat.zero_add]
          refine wpAnyZ_last (by kernel_rfl) rfl (fun K hK => ?_)
          refine step_store rfl 85 _ _ rfl bm _ rfl rfl PM.there (by kernel_rfl) (by simp [Value.oneCell']) ?_
          refine hK.out _ _ ?_
          clear hK K
          try simp only [Act.put]
          refine wpAnyZ_done (by kernel_rfl) ?_ _
          go_wp2_with fail
          go_meet
          exact ⟨bm, ⟨s, px, py, _, _⟩, rfl, PM.all5 _ _ _ _ _, hs, CoD.setAll Z T _ _⟩
        go_simp
        have T := CoD.top Z
        have PM := Blk.new wd 85 #[.string ⟨#[]⟩, .int .i64 0, .int .i64 0, .int .i64 0, .int .i64 0]
        replace Z := CoD.q Z ((Q.refl _).alloc (.cells #[.string ⟨#[]⟩, .int .i64 0, .int .i64 0, .int .i64 0, .int .i64 0] 85))
        generalize wd.heap.size = bm at *
        have hbm := T.2.1
        try generalize wd.alloc (.cells #[.string ⟨#[]⟩, .int .i64 0, .int .i64 0, .int .i64 0, .int .i64 0] 85) = wda at *
        refine hK.out _ _ ⟨Z.2.1, (Z.2.2.1.cell m).trans hnm⟩ ?_
        clear hK K
        refine wpAnyZ_one 7 (by kernel_rfl) rfl (fun K hK => ?_)
        go_simp
        go_at_call 67
        refine (spec_l01DrawPoint Z.dr hn).mono ?_
        rintro e6 w6 ⟨px, py, rfl, _, D6, G6⟩
        replace Z := CoD.draw Z D6 G6 (by omega)
        replace PM := PM.keepG G6 (by omega)
        clear D6 G6
        refine hK.out _ _ ⟨Z.2.1, (Z.2.2.1.cell m).trans hnm⟩ ?_
        clear hK K
        refine wpAnyZ_one 9 (by kernel_rfl) rfl (fun K hK => ?_)
        go_simp
        go_at_call 17
        refine (spec_Next _ Z.dr hn).mono ?_
        rintro e7 w7 ⟨r7, rfl, _, D7, G7⟩
        replace Z := CoD.draw Z D7 G7 (by omega)
        replace PM := PM.keepG G7 (by omega)
        clear D7 G7
        refine hK.out _ _ ⟨Z.2.1, (Z.2.2.1.cell m).trans hnm⟩ ?_
        clear hK K
        (refine tkZ 10 (v := ?_) rfl (by kernel_rfl) (fun _ _ _ h => h) ⟨Z.2.1, (Z.2.2.1.cell m).trans hnm⟩ rfl ?_ ?_; rotate_left 1; focus (intro w s; have cA := s.1.cell; have cB := s.2; go_simp; try with_reducible rfl))
        try simp only [Act.put, List.setIfInBounds_toArray, List.set_cons_zero, List.set_cons_succ, List.getElem_toArray, List.getElem_cons_succ, List.getElem_cons_zero]; try simp only [Nat.zero_add]
        refine wpAnyZ_one 12 (by kernel_rfl) rfl (fun K hK => ?_)
        go_simp
        go_at_call 17
        refine (spec_Next _ Z.dr hn).mono ?_
        rintro e8 w8 ⟨r8, rfl, _, D8, G8⟩
        replace Z := CoD.draw Z D8 G8 (by omega)
        replace PM := PM.keepG G8 (by omega)
        clear D8 G8
        refine hK.out _ _ ⟨Z.2.1, (Z.2.2.1.cell m).trans hnm⟩ ?_
        clear hK K
        (refine tkZ 13 (v := ?_) rfl (by kernel_rfl) (fun _ _ _ h => h) ⟨Z.2.1, (Z.2.2.1.cell m).trans hnm⟩ rfl ?_ ?_; rotate_left 1; focus (intro w s; have cA := s.1.cell; have cB := s.2; go_simp; try with_reducible rfl))
        (refine tkZ 14 (v := ?_) rfl (by kernel_rfl) (fun _ _ _ h => h) ⟨Z.2.1, (Z.2.2.1.cell m).trans hnm⟩ rfl ?_ ?_; rotate_left 1; focus (intro w s; have cA := s.1.cell; have cB := s.2; go_simp; try with_reducible rfl))
        try simp only [Act.put, List.setIfInBounds_toArray, List.set_cons_zero, List.set_cons_succ, List.getElem_toArray, List.getElem_cons_succ, List.getElem_cons_zero]; try simp only [Nat.zero_add]
        refine wpAnyZ_last (by kernel_rfl) rfl (fun K hK => ?_)
        refine step_store rfl 85 _ _ rfl bm _ rfl rfl PM.there (by kernel_rfl) (by simp [Value.oneCell']) ?_
        refine hK.out _ _ ?_
        clear hK K
        try simp only [Act.put]
        refine wpAnyZ_done (by kernel_rfl) ?_ _
        go_wp2_with fail
        go_meet
        exact ⟨bm, ⟨s, px, py, _, _⟩, rfl, PM.all5 _ _ _ _ _, hs, CoD.setAll Z T _ _⟩
      case rest =>
        clear O BC BN R0 HD
        obtain ⟨bm, mk, rfl, PM, hmz, O, BC, BN, R0, HD⟩ := hcut
        go_upto_region 7 with (fail)
        go_cut [7] from 37 to 52 (fun v wc => ∃ (bc : Nat) (C2 : Option Addr) (c2 : Nat), v = .pointer (some ⟨bc, 0, none⟩) ∧ Blk wc bc 30 #[.int .i64 x0, .int .i64 x1, .int .i64 x2, .int .i64 x3, .int .i64 x4, .int .i64 x5, .int .i64 x6, .int .i64 x7, .slice C2 (m + 1) c2] ∧ OwC wc (b + 2) C2 (m + 1) c2 (ms ++ [mk]) ∧ CoB w0 w wc b g A n c x0 x1 x2 x3 x4 x5 x6 x7 C m d ms)
        case first =>
          have Z : CoB w0 w wc b g A n c x0 x1 x2 x3 x4 x5 x6 x7 C m d ms := ⟨O, BC, BN, R0, HD⟩
          clear O BC BN R0 HD
          replace Z := CoD.q Z (Q.refl _).drew
          replace PM := PM.drew
          refine wp_region_Z (fun w' : World => Blk w' b 30 #[.int .i64 x0, .int .i64 x1, .int .i64 x2, .int .i64 x3, .int .i64 x4, .int .i64 x5, .int .i64 x6, .int .i64 x7, .slice C m d] ∧ Blk w' bm 85 #[.string mk.nm, .int .i64 mk.x, .int .i64 mk.y, .int .i64 mk.sd, .int .i64 mk.zn]) 13 (by kernel_rfl) ?_
          generalize wc.drew = wd at *
          have T := CoD.top Z
          have hm := PM.lt
          obtain ⟨H, hH⟩ : ∃ q, q = wd.heap.size := ⟨_, rfl⟩
          have zH : H ≤ wd.heap.size := Nat.le_of_eq hH
          rw [← hH] at T hm
          clear hH
          (refine tkZ 0 (v := ?_) rfl (by kernel_rfl) (fun _ _ _ h => h) ⟨Z.2.1, PM⟩ rfl ?_ ?_; rotate_left 1; focus (intro w s; have cA := s.1.cell; have cB := s.2.cell; go_simp; try with_reducible rfl))
          (refine tkZ 1 (v := ?_) rfl (by kernel_rfl) (fun _ _ _ h => h) ⟨Z.2.1, PM⟩ rfl ?_ ?_; rotate_left 1; focus (intro w s; have cA := s.1.cell; have cB := s.2.cell; go_simp; try with_reducible rfl))
          (refine tkZ 2 (v := ?_) rfl (by kernel_rfl) (fun _ _ _ h => h) ⟨Z.2.1, PM⟩ rfl ?_ ?_; rotate_left 1; focus (intro w s; have cA := s.1.cell; have cB := s.2.cell; go_simp; try with_reducible rfl))
          (refine tkZ 3 (v := ?_) rfl (by kernel_rfl) (fun _ _ _ h => h) ⟨Z.2.1, PM⟩ rfl ?_ ?_; rotate_left 1; focus (intro w s; have cA := s.1.cell; have cB := s.2.cell; go_simp; try with_reducible rfl))
          (refine tkZ 5 (v := ?_) rfl (by kernel_rfl) (fun _ _ _ h => h) ⟨Z.2.1, PM⟩ rfl ?_ ?_; rotate_left 1; focus (intro w s; have cA := s.1.cell; have cB := s.2.cell; go_simp; try with_reducible rfl))
          (refine tkZ 6 (v := ?_) rfl (by kernel_rfl) (fun _ _ _ h => h) ⟨Z.2.1, PM⟩ rfl ?_ ?_; rotate_left 1; focus (intro w s; have cA := s.1.cell; have cB := s.2.cell; go_simp; try with_reducible rfl))
          (refine tkZ 8 (v := ?_) rfl (by kernel_rfl) (fun _ _ _ h => h) ⟨Z.2.1, PM⟩ rfl ?_ ?_; rotate_left 1; focus (intro w s; have cA := s.1.cell; have cB := s.2.cell; go_simp; try with_reducible rfl))
          try simp only [Act.put, List.setIfInBounds_toArray, List.set_cons_zero, List.set_cons_succ, List.getElem_toArray, List.getElem_cons_succ, List.getElem_cons_zero]; try simp only [Nat.zero_add]
          refine wpAnyZ_three 4 9 12 (by kernel_rfl) rfl rfl rfl (fun K hK => ?_) (fun K hK => ?_) (fun K hK => ?_)
          · go_simp
            have q := (Q.refl wd).alloc (.cells #[] 85)
            have OE := OwC.new wd zH
            have heH := zH
            replace Z := CoD.q Z q
            replace PM := PM.q q
            replace zH := Nat.le_trans zH q.size
            clear q
            generalize wd.alloc (.cells #[] 85) = wda at *
            generalize wd.heap.size = e at *
            refine hK.out _ _ ⟨Z.2.1, PM⟩ ?_
            clear hK K
            refine wpAnyZ_three 7 9 12 (by kernel_rfl) rfl rfl rfl (fun K hK => ?_) (fun K hK => ?_) (fun K hK => ?_)
            · refine stepMs rfl _ _ rfl rfl OE rfl Z.1 (by omega) zH ?_
              intro A7 c7 w7 O7 g7
              rw [Nat.zero_add, List.nil_append] at O7
              rw [Nat.zero_add]
              have u := OE.up (rfl : (some ⟨e, 0, none⟩ : Option Addr).map (·.block) = _)
              replace Z := CoD.grow Z g7 u T
              replace PM := PM.above g7 u hm
              replace zH := Nat.le_trans zH g7.size
              clear u g7 OE
              refine hK.out _ _ ⟨Z.2.1, PM⟩ ?_
              clear hK K
              refine wpAnyZ_two 9 12 (by kernel_rfl) rfl rfl (fun K hK => ?_) (fun K hK => ?_)
              · go_simp
                have q := (Q.refl w7).alloc (.cells #[.string mk.nm, .int .i64 mk.x, .int .i64 mk.y, .int .i64 mk.sd, .int .i64 mk.zn] 85)
                have BLn := Blk.new w7 85 #[.string mk.nm, .int .i64 mk.x, .int .i64 mk.y, .int .i64 mk.sd, .int .i64 mk.zn]
                replace Z := CoD.q Z q
                replace PM := PM.q q
                replace O7 := O7.q q
                replace zH := Nat.le_trans zH q.size
                clear q
                generalize w7.alloc (.cells #[.string mk.nm, .int .i64 mk.x, .int .i64 mk.y, .int .i64 mk.sd, .int .i64 mk.zn] 85) = w7a at *
                generalize w7.heap.size = L at *
                have BL := BLn
                clear BLn
                refine hK.out _ _ ⟨Z.2.1, PM⟩ ?_
                clear hK K
                refine wpAnyZ_two 10 12 (by kernel_rfl) rfl rfl (fun K hK => ?_) (fun K hK => ?_)
                · refine stepM1 rfl _ _ rfl rfl O7 mk rfl BL hmz (by omega) zH ?_
                  intro A8 c8 w8 O8 g8
                  have u := O7.up (rfl : A7.map (·.block) = _)
                  replace Z := CoD.grow Z g8 u T
                  replace PM := PM.above g8 u hm
                  replace zH := Nat.le_trans zH g8.size
                  clear u g8 O7
                  clear BL
                  refine hK.out _ _ ⟨Z.2.1, PM⟩ ?_
                  clear hK K
                  (refine tkZ 11 (v := ?_) rfl (by kernel_rfl) (fun _ _ _ h => h) ⟨Z.2.1, PM⟩ rfl ?_ ?_; rotate_left 1; focus (intro w s; have cA := s.1.cell; have cB := s.2.cell; go_simp; try with_reducible rfl))
                  try simp only [Act.put, List.setIfInBounds_toArray, List.set_cons_zero, List.set_cons_succ, List.getElem_toArray, List.getElem_cons_succ, List.getElem_cons_zero]; try simp only [Nat.zero_add]
                  refine wpAnyZ_one 12 (by kernel_rfl) rfl (fun K hK => ?_)
                  go_simp
                  have q := (Q.refl w8).alloc (.cells #[.int .i64 0, .int .i64 0, .int .i64 0, .int .i64 0, .int .i64 0, .int .i64 0, .int .i64 0, .int .i64 0, .slice none 0 0] 30)
                  have PCn := Blk.new w8 30 #[.int .i64 0, .int .i64 0, .int .i64 0, .int .i64 0, .int .i64 0, .int .i64 0, .int .i64 0, .int .i64 0, .slice none 0 0]
                  have hcH := zH
                  replace Z := CoD.q Z q
                  replace PM := PM.q q
                  replace O8 := O8.q q
                  replace zH := Nat.le_trans zH q.size
                  clear q
                  generalize w8.alloc (.cells #[.int .i64 0, .int .i64 0, .int .i64 0, .int .i64 0, .int .i64 0, .int .i64 0, .int .i64 0, .int .i64 0, .slice none 0 0] 30) = w8a at *
                  generalize w8.heap.size = bc at *
                  have PC := PCn
                  clear PCn
                  refine hK.out _ _ ⟨Z.2.1, PM⟩ ?_
                  clear hK K
                  refine wpAnyZ_last (by kernel_rfl) rfl (fun K hK => ?_)
                  refine step_store rfl 30 _ _ rfl bc _ rfl rfl PC.there (by kernel_rfl) (by simp [Value.oneCell']) ?_
                  refine hK.out _ _ ?_
                  clear hK K
                  try simp only [Act.put]
                  refine wpAnyZ_done (by kernel_rfl) ?_ _
                  go_wp2_with fail
                  go_meet
                  exact ⟨bc, A8, c8, rfl, PC.all9 _ _ _ _ _ _ _ _ _, (O8.farAll (O8.ne PC (by decide)) 0 _).mono T.2.1, CoD.grow Z (grown_all bc _ 0 _ _ (grown_refl _ _)) (fun _ e => by cases e; exact hcH) T⟩
                go_simp
                have q := (Q.refl w7a).alloc (.cells #[.int .i64 0, .int .i64 0, .int .i64 0, .int .i64 0, .int .i64 0, .int .i64 0, .int .i64 0, .int .i64 0, .slice none 0 0] 30)
                have PCn := Blk.new w7a 30 #[.int .i64 0, .int .i64 0, .int .i64 0, .int .i64 0, .int .i64 0, .int .i64 0, .int .i64 0, .int .i64 0, .slice none 0 0]
                have hcH := zH
                replace Z := CoD.q Z q
                replace PM := PM.q q
                replace BL := BL.q q
                replace O7 := O7.q q
                replace zH := Nat.le_trans zH q.size
                clear q
                generalize w7a.alloc (.cells #[.int .i64 0, .int .i64 0, .int .i64 0, .int .i64 0, .int .i64 0, .int .i64 0, .int .i64 0, .int .i64 0, .slice none 0 0] 30) = w7aa at *
                generalize w7a.heap.size = bc at *
                have PC := PCn
                clear PCn
                refine hK.out _ _ ⟨Z.2.1, PM⟩ ?_
                clear hK K
                refine wpAnyZ_one 10 (by kernel_rfl) rfl (fun K hK => ?_)
                refine stepM1 rfl _ _ rfl rfl O7 mk rfl BL hmz (by omega) zH ?_
                intro A8 c8 w8 O8 g8
                have u := O7.up (rfl : A7.map (·.block) = _)
                replace PC := PC.farC O7 (by decide) g8
                replace Z := CoD.grow Z g8 u T
                replace PM := PM.above g8 u hm
                replace zH := Nat.le_trans zH g8.size
                clear u g8 O7
                clear BL
                refine hK.out _ _ ⟨Z.2.1, PM⟩ ?_
                clear hK K
                (refine tkZ 11 (v := ?_) rfl (by kernel_rfl) (fun _ _ _ h => h) ⟨Z.2.1, PM⟩ rfl ?_ ?_; rotate_left 1; focus (intro w s; have cA := s.1.cell; have cB := s.2.cell; go_simp; try with_reducible rfl))
                try simp only [Act.put, List.setIfInBounds_toArray, List.set_cons_zero, List.set_cons_succ, List.getElem_toArray, List.getElem_cons_succ, List.getElem_cons_zero]; try simp only [Nat.zero_add]
                refine wpAnyZ_last (by kernel_rfl) rfl (fun K hK => ?_)
                refine step_store rfl 30 _ _ rfl bc _ rfl rfl PC.there (by kernel_rfl) (by simp [Value.oneCell']) ?_
                refine hK.out _ _ ?_
                clear hK K
                try simp only [Act.put]
                refine wpAnyZ_done (by kernel_rfl) ?_ _
                go_wp2_with fail
                go_meet
                exact ⟨bc, A8, c8, rfl, PC.all9 _ _ _ _ _ _ _ _ _, (O8.farAll (O8.ne PC (by decide)) 0 _).mono T.2.1, CoD.grow Z (grown_all bc _ 0 _ _ (grown_refl _ _)) (fun _ e => by cases e; exact hcH) T⟩
              go_simp
              have q := (Q.refl w7).alloc (.cells #[.int .i64 0, .int .i64 0, .int .i64 0, .int .i64 0, .int .i64 0, .int .i64 0, .int .i64 0, .int .i64 0, .slice none 0 0] 30)
              have PCn := Blk.new w7 30 #[.int .i64 0, .int .i64 0, .int .i64 0, .int .i64 0, .int .i64 0, .int .i64 0, .int .i64 0, .int .i64 0, .slice none 0 0]
              have hcH := zH
              replace Z := CoD.q Z q
              replace PM := PM.q q
              replace O7 := O7.q q
              replace zH := Nat.le_trans zH q.size
              clear q
              generalize w7.alloc (.cells #[.int .i64 0, .int .i64 0, .int .i64 0, .int .i64 0, .int .i64 0, .int .i64 0, .int .i64 0, .int .i64 0, .slice none 0 0] 30) = w7a at *
              generalize w7.heap.size = bc at *
              have PC := PCn
              clear PCn
              refine hK.out _ _ ⟨Z.2.1, PM⟩ ?_
              clear hK K
              refine wpAnyZ_one 9 (by kernel_rfl) rfl (fun K hK => ?_)
              go_simp
              have q := (Q.refl w7a).alloc (.cells #[.string mk.nm, .int .i64 mk.x, .int .i64 mk.y, .int .i64 mk.sd, .int .i64 mk.zn] 85)
              have BLn := Blk.new w7a 85 #[.string mk.nm, .int .i64 mk.x, .int .i64 mk.y, .int .i64 mk.sd, .int .i64 mk.zn]
              replace Z := CoD.q Z q
              replace PM := PM.q q
              replace PC := PC.q q
              replace O7 := O7.q q
              replace zH := Nat.le_trans zH q.size
              clear q
              generalize w7a.alloc (.cells #[.string mk.nm, .int .i64 mk.x, .int .i64 mk.y, .int .i64 mk.sd, .int .i64 mk.zn] 85) = w7aa at *
              generalize w7a.heap.size = L at *
              have BL := BLn
              clear BLn
              refine hK.out _ _ ⟨Z.2.1, PM⟩ ?_
              clear hK K
              refine wpAnyZ_one 10 (by kernel_rfl) rfl (fun K hK => ?_)
              refine stepM1 rfl _ _ rfl rfl O7 mk rfl BL hmz (by omega) zH ?_
              intro A8 c8 w8 O8 g8
              have u := O7.up (rfl : A7.map (·.block) = _)
              replace PC := PC.farC O7 (by decide) g8
              replace Z := CoD.grow Z g8 u T
              replace PM := PM.above g8 u hm
              replace zH := Nat.le_trans zH g8.size
              clear u g8 O7
              clear BL
              refine hK.out _ _ ⟨Z.2.1, PM⟩ ?_
              clear hK K
              (refine tkZ 11 (v := ?_) rfl (by kernel_rfl) (fun _ _ _ h => h) ⟨Z.2.1, PM⟩ rfl ?_ ?_; rotate_left 1; focus (intro w s; have cA := s.1.cell; have cB := s.2.cell; go_simp; try with_reducible rfl))
              try simp only [Act.put, List.setIfInBounds_toArray, List.set_cons_zero, List.set_cons_succ, List.getElem_toArray, List.getElem_cons_succ, List.getElem_cons_zero]; try simp only [Nat.zero_add]
              refine wpAnyZ_last (by kernel_rfl) rfl (fun K hK => ?_)
              refine step_store rfl 30 _ _ rfl bc _ rfl rfl PC.there (by kernel_rfl) (by simp [Value.oneCell']) ?_
              refine hK.out _ _ ?_
              clear hK K
              try simp only [Act.put]
              refine wpAnyZ_done (by kernel_rfl) ?_ _
              go_wp2_with fail
              go_meet
              exact ⟨bc, A8, c8, rfl, PC.all9 _ _ _ _ _ _ _ _ _, (O8.farAll (O8.ne PC (by decide)) 0 _).mono T.2.1, CoD.grow Z (grown_all bc _ 0 _ _ (grown_refl _ _)) (fun _ e => by cases e; exact hcH) T⟩
            · go_simp
              have q := (Q.refl wda).alloc (.cells #[.string mk.nm, .int .i64 mk.x, .int .i64 mk.y, .int .i64 mk.sd, .int .i64 mk.zn] 85)
              have BLn := Blk.new wda 85 #[.string mk.nm, .int .i64 mk.x, .int .i64 mk.y, .int .i64 mk.sd, .int .i64 mk.zn]
              have hLe := Nat.ne_of_gt (OE.from _ rfl).2
              replace Z := CoD.q Z q
              replace PM := PM.q q
              replace OE := OE.q q
              replace zH := Nat.le_trans zH q.size
              clear q
              generalize wda.alloc (.cells #[.string mk.nm, .int .i64 mk.x, .int .i64 mk.y, .int .i64 mk.sd, .int .i64 mk.zn] 85) = wdaa at *
              generalize wda.heap.size = L at *
              have BL := BLn
              clear BLn
              refine hK.out _ _ ⟨Z.2.1, PM⟩ ?_
              clear hK K
              refine wpAnyZ_two 7 12 (by kernel_rfl) rfl rfl (fun K hK => ?_) (fun K hK => ?_)
              · refine stepMs rfl _ _ rfl rfl OE rfl Z.1 (by omega) zH ?_
                intro A7 c7 w7 O7 g7
                rw [Nat.zero_add, List.nil_append] at O7
                rw [Nat.zero_add]
                have u := OE.up (rfl : (some ⟨e, 0, none⟩ : Option Addr).map (·.block) = _)
                replace BL := BL.grown g7 (fun e2 => hLe (Option.some.inj e2))
                replace Z := CoD.grow Z g7 u T
                replace PM := PM.above g7 u hm
                replace zH := Nat.le_trans zH g7.size
                clear u g7 OE
                refine hK.out _ _ ⟨Z.2.1, PM⟩ ?_
                clear hK K
                refine wpAnyZ_two 10 12 (by kernel_rfl) rfl rfl (fun K hK => ?_) (fun K hK => ?_)
                · refine stepM1 rfl _ _ rfl rfl O7 mk rfl BL hmz (by omega) zH ?_
                  intro A8 c8 w8 O8 g8
                  have u := O7.up (rfl : A7.map (·.block) = _)
                  replace Z := CoD.grow Z g8 u T
                  replace PM := PM.above g8 u hm
                  replace zH := Nat.le_trans zH g8.size
                  clear u g8 O7
                  clear BL
                  refine hK.out _ _ ⟨Z.2.1, PM⟩ ?_
                  clear hK K
                  (refine tkZ 11 (v := ?_) rfl (by kernel_rfl) (fun _ _ _ h => h) ⟨Z.2.1, PM⟩ rfl ?_ ?_; rotate_left 1; focus (intro w s; have cA := s.1.cell; have cB := s.2.cell; go_simp; try with_reducible rfl))
                  try simp only [Act.put, List.setIfInBounds_toArray, List.set_cons_zero, List.set_cons_succ, List.getElem_toArray, List.getElem_cons_succ, List.getElem_cons_zero]; try simp only [Nat.zero_add]
                  refine wpAnyZ_one 12 (by kernel_rfl) rfl (fun K hK => ?_)
                  go_simp
                  have q := (Q.refl w8).alloc (.cells #[.int .i64 0, .int .i64 0, .int .i64 0, .int .i64 0, .int .i64 0, .int .i64 0, .int .i64 0, .int .i64 0, .slice none 0 0] 30)
                  have PCn := Blk.new w8 30 #[.int .i64 0, .int .i64 0, .int .i64 0, .int .i64 0, .int .i64 0, .int .i64 0, .int .i64 0, .int .i64 0, .slice none 0 0]
                  have hcH := zH
                  replace Z := CoD.q Z q
                  replace PM := PM.q q
                  replace O8 := O8.q q
                  replace zH := Nat.le_trans zH q.size
                  clear q
                  generalize w8.alloc (.cells #[.int .i64 0, .int .i64 0, .int .i64 0, .int .i64 0, .int .i64 0, .int .i64 0, .int .i64 0, .int .i64 0, .slice none 0 0] 30) = w8a at *
                  generalize w8.heap.size = bc at *
                  have PC := PCn
                  clear PCn
                  refine hK.out _ _ ⟨Z.2.1, PM⟩ ?_
                  clear hK K
                  refine wpAnyZ_last (by kernel_rfl) rfl (fun K hK => ?_)
                  refine step_store rfl 30 _ _ rfl bc _ rfl rfl PC.there (by kernel_rfl) (by simp [Value.oneCell']) ?_
                  refine hK.out _ _ ?_
                  clear hK K
                  try simp only [Act.put]
                  refine wpAnyZ_done (by kernel_rfl) ?_ _
                  go_wp2_with fail
                  go_meet
                  exact ⟨bc, A8, c8, rfl, PC.all9 _ _ _ _ _ _ _ _ _, (O8.farAll (O8.ne PC (by decide)) 0 _).mono T.2.1, CoD.grow Z (grown_all bc _ 0 _ _ (grown_refl _ _)) (fun _ e => by cases e; exact hcH) T⟩
                go_simp
                have q := (Q.refl w7).alloc (.cells #[.int .i64 0, .int .i64 0, .int .i64 0, .int .i64 0, .int .i64 0, .int .i64 0, .int .i64 0, .int .i64 0, .slice none 0 0] 30)
                have PCn := Blk.new w7 30 #[.int .i64 0, .int .i64 0, .int .i64 0, .int .i64 0, .int .i64 0, .int .i64 0, .int .i64 0, .int .i64 0, .slice none 0 0]
                have hcH := zH
                replace Z := CoD.q Z q
                replace PM := PM.q q
                replace BL := BL.q q
                replace O7 := O7.q q
                replace zH := Nat.le_trans zH q.size
                clear q
                generalize w7.alloc (.cells #[.int .i64 0, .int .i64 0, .int .i64 0, .int .i64 0, .int .i64 0, .int .i64 0, .int .i64 0, .int .i64 0, .slice none 0 0] 30) = w7a at *
                generalize w7.heap.size = bc at *
                have PC := PCn
                clear PCn
                refine hK.out _ _ ⟨Z.2.1, PM⟩ ?_
                clear hK K
                refine wpAnyZ_one 10 (by kernel_rfl) rfl (fun K hK => ?_)
                refine stepM1 rfl _ _ rfl rfl O7 mk rfl BL hmz (by omega) zH ?_
                intro A8 c8 w8 O8 g8
                have u := O7.up (rfl : A7.map (·.block) = _)
                replace PC := PC.farC O7 (by decide) g8
                replace Z := CoD.grow Z g8 u T
                replace PM := PM.above g8 u hm
                replace zH := Nat.le_trans zH g8.size
                clear u g8 O7
                clear BL
                refine hK.out _ _ ⟨Z.2.1, PM⟩ ?_
                clear hK K
                (refine tkZ 11 (v := ?_) rfl (by kernel_rfl) (fun _ _ _ h => h) ⟨Z.2.1, PM⟩ rfl ?_ ?_; rotate_left 1; focus (intro w s; have cA := s.1.cell; have cB := s.2.cell; go_simp; try with_reducible rfl))
                try simp only [Act.put, List.setIfInBounds_toArray, List.set_cons_zero, List.set_cons_succ, List.getElem_toArray, List.getElem_cons_succ, List.getElem_cons_zero]; try simp only [Nat.zero_add]
                refine wpAnyZ_last (by kernel_rfl) rfl (fun K hK => ?_)
                refine step_store rfl 30 _ _ rfl bc _ rfl rfl PC.there (by kernel_rfl) (by simp [Value.oneCell']) ?_
                refine hK.out _ _ ?_
                clear hK K
                try simp only [Act.put]
                refine wpAnyZ_done (by kernel_rfl) ?_ _
                go_wp2_with fail
                go_meet
                exact ⟨bc, A8, c8, rfl, PC.all9 _ _ _ _ _ _ _ _ _, (O8.farAll (O8.ne PC (by decide)) 0 _).mono T.2.1, CoD.grow Z (grown_all bc _ 0 _ _ (grown_refl _ _)) (fun _ e => by cases e; exact hcH) T⟩
              go_simp
              have q := (Q.refl wdaa).alloc (.cells #[.int .i64 0, .int .i64 0, .int .i64 0, .int .i64 0, .int .i64 0, .int .i64 0, .int .i64 0, .int .i64 0, .slice none 0 0] 30)
              have PCn := Blk.new wdaa 30 #[.int .i64 0, .int .i64 0, .int .i64 0, .int .i64 0, .int .i64 0, .int .i64 0, .int .i64 0, .int .i64 0, .slice none 0 0]
              have hcH := zH
              replace Z := CoD.q Z q
              replace PM := PM.q q
              replace BL := BL.q q
              replace OE := OE.q q
              replace zH := Nat.le_trans zH q.size
              clear q
              generalize wdaa.alloc (.cells #[.int .i64 0, .int .i64 0, .int .i64 0, .int .i64 0, .int .i64 0, .int .i64 0, .int .i64 0, .int .i64 0, .slice none 0 0] 30) = wdaaa at *
              generalize wdaa.heap.size = bc at *
              have PC := PCn
              clear PCn
              refine hK.out _ _ ⟨Z.2.1, PM⟩ ?_
              clear hK K
              refine wpAnyZ_one 7 (by kernel_rfl) rfl (fun K hK => ?_)
              refine stepMs rfl _ _ rfl rfl OE rfl Z.1 (by omega) zH ?_
              intro A7 c7 w7 O7 g7
              rw [Nat.zero_add, List.nil_append] at O7
              rw [Nat.zero_add]
              have u := OE.up (rfl : (some ⟨e, 0, none⟩ : Option Addr).map (·.block) = _)
              replace PC := PC.farC OE (by decide) g7
              replace BL := BL.grown g7 (fun e2 => hLe (Option.some.inj e2))
              replace Z := CoD.grow Z g7 u T
              replace PM := PM.above g7 u hm
              replace zH := Nat.le_trans zH g7.size
              clear u g7 OE
              refine hK.out _ _ ⟨Z.2.1, PM⟩ ?_
              clear hK K
              refine wpAnyZ_one 10 (by kernel_rfl) rfl (fun K hK => ?_)
              refine stepM1 rfl _ _ rfl rfl O7 mk rfl BL hmz (by omega) zH ?_
              intro A8 c8 w8 O8 g8
              have u := O7.up (rfl : A7.map (·.block) = _)
              replace PC := PC.farC O7 (by decide) g8
              replace Z := CoD.grow Z g8 u T
              replace PM := PM.above g8 u hm
              replace zH := Nat.le_trans zH g8.size
              clear u g8 O7
              clear BL
              refine hK.out _ _ ⟨Z.2.1, PM⟩ ?_
              clear hK K
              (refine tkZ 11 (v := ?_) rfl (by kernel_rfl) (fun _ _ _ h => h) ⟨Z.2.1, PM⟩ rfl ?_ ?_; rotate_left 1; focus (intro w s; have cA := s.1.cell; have cB := s.2.cell; go_simp; try with_reducible rfl))
              try simp only [Act.put, List.setIfInBounds_toArray, List.set_cons_zero, List.set_cons_succ, List.getElem_toArray, List.getElem_cons_succ, List.getElem_cons_zero]; try simp only [Nat.zero_add]
              refine wpAnyZ_last (by kernel_rfl) rfl (fun K hK => ?_)
              refine step_store rfl 30 _ _ rfl bc _ rfl rfl PC.there (by kernel_rfl) (by simp [Value.oneCell']) ?_
              refine hK.out _ _ ?_
              clear hK K
              try simp only [Act.put]
              refine wpAnyZ_done (by kernel_rfl) ?_ _
              go_wp2_with fail
              go_meet
              exact ⟨bc, A8, c8, rfl, PC.all9 _ _ _ _ _ _ _ _ _, (O8.farAll (O8.ne PC (by decide)) 0 _).mono T.2.1, CoD.grow Z (grown_all bc _ 0 _ _ (grown_refl _ _)) (fun _ e => by cases e; exact hcH) T⟩
            go_simp
            have q := (Q.refl wda).alloc (.cells #[.int .i64 0, .int .i64 0, .int .i64 0, .int .i64 0, .int .i64 0, .int .i64 0, .int .i64 0, .int .i64 0, .slice none 0 0] 30)
            have PCn := Blk.new wda 30 #[.int .i64 0, .int .i64 0, .int .i64 0, .int .i64 0, .int .i64 0, .int .i64 0, .int .i64 0, .int .i64 0, .slice none 0 0]
            have hcH := zH
            replace Z := CoD.q Z q
            replace PM := PM.q q
            replace OE := OE.q q
            replace zH := Nat.le_trans zH q.size
            clear q
            generalize wda.alloc (.cells #[.int .i64 0, .int .i64 0, .int .i64 0, .int .i64 0, .int .i64 0, .int .i64 0, .int .i64 0, .int .i64 0, .slice none 0 0] 30) = wdaa at *
            generalize wda.heap.size = bc at *
            have PC := PCn
            clear PCn
            refine hK.out _ _ ⟨Z.2.1, PM⟩ ?_
            clear hK K
            refine wpAnyZ_two 7 9 (by kernel_rfl) rfl rfl (fun K hK => ?_) (fun K hK => ?_)
            · refine stepMs rfl _ _ rfl rfl OE rfl Z.1 (by omega) zH ?_
              intro A7 c7 w7 O7 g7
              rw [Nat.zero_add, List.nil_append] at O7
              rw [Nat.zero_add]
              have u := OE.up (rfl : (some ⟨e, 0, none⟩ : Option Addr).map (·.block) = _)
              replace PC := PC.farC OE (by decide) g7
              replace Z := CoD.grow Z g7 u T
              replace PM := PM.above g7 u hm
              replace zH := Nat.le_trans zH g7.size
              clear u g7 OE
              refine hK.out _ _ ⟨Z.2.1, PM⟩ ?_
              clear hK K
              refine wpAnyZ_one 9 (by kernel_rfl) rfl (fun K hK => ?_)
              go_simp
              have q := (Q.refl w7).alloc (.cells #[.string mk.nm, .int .i64 mk.x, .int .i64 mk.y, .int .i64 mk.sd, .int .i64 mk.zn] 85)
              have BLn := Blk.new w7 85 #[.string mk.nm, .int .i64 mk.x, .int .i64 mk.y, .int .i64 mk.sd, .int .i64 mk.zn]
              replace Z := CoD.q Z q
              replace PM := PM.q q
              replace PC := PC.q q
              replace O7 := O7.q q
              replace zH := Nat.le_trans zH q.size
              clear q
              generalize w7.alloc (.cells #[.string mk.nm, .int .i64 mk.x, .int .i64 mk.y, .int .i64 mk.sd, .int .i64 mk.zn] 85) = w7a at *
              generalize w7.heap.size = L at *
              have BL := BLn
              clear BLn
              refine hK.out _ _ ⟨Z.2.1, PM⟩ ?_
              clear hK K
              refine wpAnyZ_one 10 (by kernel_rfl) rfl (fun K hK => ?_)
              refine stepM1 rfl _ _ rfl rfl O7 mk rfl BL hmz (by omega) zH ?_
              intro A8 c8 w8 O8 g8
              have u := O7.up (rfl : A7.map (·.block) = _)
              replace PC := PC.farC O7 (by decide) g8
              replace Z := CoD.grow Z g8 u T
              replace PM := PM.above g8 u hm
              replace zH := Nat.le_trans zH g8.size
              clear u g8 O7
              clear BL
              refine hK.out _ _ ⟨Z.2.1, PM⟩ ?_
              clear hK K
              (refine tkZ 11 (v := ?_) rfl (by kernel_rfl) (fun _ _ _ h => h) ⟨Z.2.1, PM⟩ rfl ?_ ?_; rotate_left 1; focus (intro w s; have cA := s.1.cell; have cB := s.2.cell; go_simp; try with_reducible rfl))
              try simp only [Act.put, List.setIfInBounds_toArray, List.set_cons_zero, List.set_cons_succ, List.getElem_toArray, List.getElem_cons_succ, List.getElem_cons_zero]; try simp only [Nat.zero_add]
              refine wpAnyZ_last (by kernel_rfl) rfl (fun K hK => ?_)
              refine step_store rfl 30 _ _ rfl bc _ rfl rfl PC.there (by kernel_rfl) (by simp [Value.oneCell']) ?_
              refine hK.out _ _ ?_
              clear hK K
              try simp only [Act.put]
              refine wpAnyZ_done (by kernel_rfl) ?_ _
              go_wp2_with fail
              go_meet
              exact ⟨bc, A8, c8, rfl, PC.all9 _ _ _ _ _ _ _ _ _, (O8.farAll (O8.ne PC (by decide)) 0 _).mono T.2.1, CoD.grow Z (grown_all bc _ 0 _ _ (grown_refl _ _)) (fun _ e => by cases e; exact hcH) T⟩
            go_simp
            have q := (Q.refl wdaa).alloc (.cells #[.string mk.nm, .int .i64 mk.x, .int .i64 mk.y, .int .i64 mk.sd, .int .i64 mk.zn] 85)
            have BLn := Blk.new wdaa 85 #[.string mk.nm, .int .i64 mk.x, .int .i64 mk.y, .int .i64 mk.sd, .int .i64 mk.zn]
            have hLe := Nat.ne_of_gt (OE.from _ rfl).2
            replace Z := CoD.q Z q
            replace PM := PM.q q
            replace PC := PC.q q
            replace OE := OE.q q
            replace zH := Nat.le_trans zH q.size
            clear q
            generalize wdaa.alloc (.cells #[.string mk.nm, .int .i64 mk.x, .int .i64 mk.y, .int .i64 mk.sd, .int .i64 mk.zn] 85) = wdaaa at *
            generalize wdaa.heap.size = L at *
            have BL := BLn
            clear BLn
            refine hK.out _ _ ⟨Z.2.1, PM⟩ ?_
            clear hK K
            refine wpAnyZ_one 7 (by kernel_rfl) rfl (fun K hK => ?_)
            refine stepMs rfl _ _ rfl rfl OE rfl Z.1 (by omega) zH ?_
            intro A7 c7 w7 O7 g7
            rw [Nat.zero_add, List.nil_append] at O7
            rw [Nat.zero_add]
            have u := OE.up (rfl : (some ⟨e, 0, none⟩ : Option Addr).map (·.block) = _)
            replace PC := PC.farC OE (by decide) g7
            replace BL := BL.grown g7 (fun e2 => hLe (Option.some.inj e2))
            replace Z := CoD.grow Z g7 u T
            replace PM := PM.above g7 u hm
            replace zH := Nat.le_trans zH g7.size
            clear u g7 OE
            refine hK.out _ _ ⟨Z.2.1, PM⟩ ?_
            clear hK K
            refine wpAnyZ_one 10 (by kernel_rfl) rfl (fun K hK => ?_)
            refine stepM1 rfl _ _ rfl rfl O7 mk rfl BL hmz (by omega) zH ?_
            intro A8 c8 w8 O8 g8
            have u := O7.up (rfl : A7.map (·.block) = _)
            replace PC := PC.farC O7 (by decide) g8
            replace Z := CoD.grow Z g8 u T
            replace PM := PM.above g8 u hm
            replace zH := Nat.le_trans zH g8.size
            clear u g8 O7
            clear BL
            refine hK.out _ _ ⟨Z.2.1, PM⟩ ?_
            clear hK K
            (refine tkZ 11 (v := ?_) rfl (by kernel_rfl) (fun _ _ _ h => h) ⟨Z.2.1, PM⟩ rfl ?_ ?_; rotate_left 1; focus (intro w s; have cA := s.1.cell; have cB := s.2.cell; go_simp; try with_reducible rfl))
            try simp only [Act.put, List.setIfInBounds_toArray, List.set_cons_zero, List.set_cons_succ, List.getElem_toArray, List.getElem_cons_succ, List.getElem_cons_zero]; try simp only [Nat.zero_add]
            refine wpAnyZ_last (by kernel_rfl) rfl (fun K hK => ?_)
            refine step_store rfl 30 _ _ rfl bc _ rfl rfl PC.there (by kernel_rfl) (by simp [Value.oneCell']) ?_
            refine hK.out _ _ ?_
            clear hK K
            try simp only [Act.put]
            refine wpAnyZ_done (by kernel_rfl) ?_ _
            go_wp2_with fail
            go_meet
            exact ⟨bc, A8, c8, rfl, PC.all9 _ _ _ _ _ _ _ _ _, (O8.farAll (O8.ne PC (by decide)) 0 _).mono T.2.1, CoD.grow Z (grown_all bc _ 0 _ _ (grown_refl _ _)) (fun _ e => by cases e; exact hcH) T⟩
          · go_simp
            have q := (Q.refl wd).alloc (.cells #[.string mk.nm, .int .i64 mk.x, .int .i64 mk.y, .int .i64 mk.sd, .int .i64 mk.zn] 85)
            have BLn := Blk.new wd 85 #[.string mk.nm, .int .i64 mk.x, .int .i64 mk.y, .int .i64 mk.sd, .int .i64 mk.zn]
            replace Z := CoD.q Z q
            replace PM := PM.q q
            replace zH := Nat.le_trans zH q.size
            clear q
            generalize wd.alloc (.cells #[.string mk.nm, .int .i64 mk.x, .int .i64 mk.y, .int .i64 mk.sd, .int .i64 mk.zn] 85) = wda at *
            generalize wd.heap.size = L at *
            have BL := BLn
            clear BLn
            refine hK.out _ _ ⟨Z.2.1, PM⟩ ?_
            clear hK K
            refine wpAnyZ_two 4 12 (by kernel_rfl) rfl rfl (fun K hK => ?_) (fun K hK => ?_)
            · go_simp
              have q := (Q.refl wda).alloc (.cells #[] 85)
              have OE := OwC.new wda zH
              have heH := zH
              have hLe := Nat.ne_of_lt BL.lt
              replace Z := CoD.q Z q
              replace PM := PM.q q
              replace BL := BL.q q
              replace zH := Nat.le_trans zH q.size
              clear q
              generalize wda.alloc (.cells #[] 85) = wdaa at *
              generalize wda.heap.size = e at *
              refine hK.out _ _ ⟨Z.2.1, PM⟩ ?_
              clear hK K
              refine wpAnyZ_two 7 12 (by kernel_rfl) rfl rfl (fun K hK => ?_) (fun K hK => ?_)
              · refine stepMs rfl _ _ rfl rfl OE rfl Z.1 (by omega) zH ?_
                intro A7 c7 w7 O7 g7
                rw [Nat.zero_add, List.nil_append] at O7
                rw [Nat.zero_add]
                have u := OE.up (rfl : (some ⟨e, 0, none⟩ : Option Addr).map (·.block) = _)
                replace BL := BL.grown g7 (fun e2 => hLe (Option.some.inj e2))
                replace Z := CoD.grow Z g7 u T
                replace PM := PM.above g7 u hm
                replace zH := Nat.le_trans zH g7.size
                clear u g7 OE
                refine hK.out _ _ ⟨Z.2.1, PM⟩ ?_
                clear hK K
                refine wpAnyZ_two 10 12 (by kernel_rfl) rfl rfl (fun K hK => ?_) (fun K hK => ?_)
                · refine stepM1 rfl _ _ rfl rfl O7 mk rfl BL hmz (by omega) zH ?_
                  intro A8 c8 w8 O8 g8
                  have u := O7.up (rfl : A7.map (·.block) = _)
                  replace Z := CoD.grow Z g8 u T
                  replace PM := PM.above g8 u hm
                  replace zH := Nat.le_trans zH g8.size
                  clear u g8 O7
                  clear BL
                  refine hK.out _ _ ⟨Z.2.1, PM⟩ ?_
                  clear hK K
                  (refine tkZ 11 (v := ?_) rfl (by kernel_rfl) (fun _ _ _ h => h) ⟨Z.2.1, PM⟩ rfl ?_ ?_; rotate_left 1; focus (intro w s; have cA := s.1.cell; have cB := s.2.cell; go_simp; try with_reducible rfl))
                  try simp only [Act.put, List.setIfInBounds_toArray, List.set_cons_zero, List.set_cons_succ, List.getElem_toArray, List.getElem_cons_succ, List.getElem_cons_zero]; try simp only [Nat.zero_add]
                  refine wpAnyZ_one 12 (by kernel_rfl) rfl (fun K hK => ?_)
                  go_simp
                  have q := (Q.refl w8).alloc (.cells #[.int .i64 0, .int .i64 0, .int .i64 0, .int .i64 0, .int .i64 0, .int .i64 0, .int .i64 0, .int .i64 0, .slice none 0 0] 30)
                  have PCn := Blk.new w8 30 #[.int .i64 0, .int .i64 0, .int .i64 0, .int .i64 0, .int .i64 0, .int .i64 0, .int .i64 0, .int .i64 0, .slice none 0 0]
                  have hcH := zH
                  replace Z := CoD.q Z q
                  replace PM := PM.q q
                  replace O8 := O8.q q
                  replace zH := Nat.le_trans zH q.size
                  clear q
                  generalize w8.alloc (.cells #[.int .i64 0, .int .i64 0, .int .i64 0, .int .i64 0, .int .i64 0, .int .i64 0, .int .i64 0, .int .i64 0, .slice none 0 0] 30) = w8a at *
                  generalize w8.heap.size = bc at *
                  have PC := PCn
                  clear PCn
                  refine hK.out _ _ ⟨Z.2.1, PM⟩ ?_
                  clear hK K
                  refine wpAnyZ_last (by kernel_rfl) rfl (fun K hK => ?_)
                  refine step_store rfl 30 _ _ rfl bc _ rfl rfl PC.there (by kernel_rfl) (by simp [Value.oneCell']) ?_
                  refine hK.out _ _ ?_
                  clear hK K
                  try simp only [Act.put]
                  refine wpAnyZ_done (by kernel_rfl) ?_ _
                  go_wp2_with fail
                  go_meet
                  exact ⟨bc, A8, c8, rfl, PC.all9 _ _ _ _ _ _ _ _ _, (O8.farAll (O8.ne PC (by decide)) 0 _).mono T.2.1, CoD.grow Z (grown_all bc _ 0 _ _ (grown_refl _ _)) (fun _ e => by cases e; exact hcH) T⟩
                go_simp
                have q := (Q.refl w7).alloc (.cells #[.int .i64 0, .int .i64 0, .int .i64 0, .int .i64 0, .int .i64 0, .int .i64 0, .int .i64 0, .int .i64 0, .slice none 0 0] 30)
                have PCn := Blk.new w7 30 #[.int .i64 0, .int .i64 0, .int .i64 0, .int .i64 0, .int .i64 0, .int .i64 0, .int .i64 0, .int .i64 0, .slice none 0 0]
                have hcH := zH
                replace Z := CoD.q Z q
                replace PM := PM.q q
                replace BL := BL.q q
                replace O7 := O7.q q
                replace zH := Nat.le_trans zH q.size
                clear q
                generalize w7.alloc (.cells #[.int .i64 0, .int .i64 0, .int .i64 0, .int .i64 0, .int .i64 0, .int .i64 0, .int .i64 0, .int .i64 0, .slice none 0 0] 30) = w7a at *
                generalize w7.heap.size = bc at *
                have PC := PCn
                clear PCn
                refine hK.out _ _ ⟨Z.2.1, PM⟩ ?_
                clear hK K
                refine wpAnyZ_one 10 (by kernel_rfl) rfl (fun K hK => ?_)
                refine stepM1 rfl _ _ rfl rfl O7 mk rfl BL hmz (by omega) zH ?_
                intro A8 c8 w8 O8 g8
                have u := O7.up (rfl : A7.map (·.block) = _)
                replace PC := PC.farC O7 (by decide) g8
                replace Z := CoD.grow Z g8 u T
                replace PM := PM.above g8 u hm
                replace zH := Nat.le_trans zH g8.size
                clear u g8 O7
                clear BL
                refine hK.out _ _ ⟨Z.2.1, PM⟩ ?_
                clear hK K
                (refine tkZ 11 (v := ?_) rfl (by kernel_rfl) (fun _ _ _ h => h) ⟨Z.2.1, PM⟩ rfl ?_ ?_; rotate_left 1; focus (intro w s; have cA := s.1.cell; have cB := s.2.cell; go_simp; try with_reducible rfl))
                try simp only [Act.put, List.setIfInBounds_toArray, List.set_cons_zero, List.set_cons_succ, List.getElem_toArray, List.getElem_cons_succ, List.getElem_cons_zero]; try simp only [Nat.zero_add]
                refine wpAnyZ_last (by kernel_rfl) rfl (fun K hK => ?_)
                refine step_store rfl 30 _ _ rfl bc _ rfl rfl PC.there (by kernel_rfl) (by simp [Value.oneCell']) ?_
                refine hK.out _ _ ?_
                clear hK K
                try simp only [Act.put]
                refine wpAnyZ_done (by kernel_rfl) ?_ _
                go_wp2_with fail
                go_meet
                exact ⟨bc, A8, c8, rfl, PC.all9 _ _ _ _ _ _ _ _ _, (O8.farAll (O8.ne PC (by decide)) 0 _).mono T.2.1, CoD.grow Z (grown_all bc _ 0 _ _ (grown_refl _ _)) (fun _ e => by cases e; exact hcH) T⟩
              go_simp
              have q := (Q.refl wdaa).alloc (.cells #[.int .i64 0, .int .i64 0, .int .i64 0, .int .i64 0, .int .i64 0, .int .i64 0, .int .i64 0, .int .i64 0, .slice none 0 0] 30)
              have PCn := Blk.new wdaa 30 #[.int .i64 0, .int .i64 0, .int .i64 0, .int .i64 0, .int .i64 0, .int .i64 0, .int .i64 0, .int .i64 0, .slice none 0 0]
              have hcH := zH
              replace Z := CoD.q Z q
              replace PM := PM.q q
              replace BL := BL.q q
              replace OE := OE.q q
              replace zH := Nat.le_trans zH q.size
              clear q
              generalize wdaa.alloc (.cells #[.int .i64 0, .int .i64 0, .int .i64 0, .int .i64 0, .int .i64 0, .int .i64 0, .int .i64 0, .int .i64 0, .slice none 0 0] 30) = wdaaa at *
              generalize wdaa.heap.size = bc at *
              have PC := PCn
              clear PCn
              refine hK.out _ _ ⟨Z.2.1, PM⟩ ?_
              clear hK K
              refine wpAnyZ_one 7 (by kernel_rfl) rfl (fun K hK => ?_)
              refine stepMs rfl _ _ rfl rfl OE rfl Z.1 (by omega) zH ?_
              intro A7 c7 w7 O7 g7
              rw [Nat.zero_add, List.nil_append] at O7
              rw [Nat.zero_add]
              have u := OE.up (rfl : (some ⟨e, 0, none⟩ : Option Addr).map (·.block) = _)
              replace PC := PC.farC OE (by decide) g7
              replace BL := BL.grown g7 (fun e2 => hLe (Option.some.inj e2))
              replace Z := CoD.grow Z g7 u T
              replace PM := PM.above g7 u hm
              replace zH := Nat.le_trans zH g7.size
              clear u g7 OE
              refine hK.out _ _ ⟨Z.2.1, PM⟩ ?_
              clear hK K
              refine wpAnyZ_one 10 (by kernel_rfl) rfl (fun K hK => ?_)
              refine stepM1 rfl _ _ rfl rfl O7 mk rfl BL hmz (by omega) zH ?_
              intro A8 c8 w8 O8 g8
              have u := O7.up (rfl : A7.map (·.block) = _)
              replace PC := PC.farC O7 (by decide) g8
              replace Z := CoD.grow Z g8 u T
              replace PM := PM.above g8 u hm
              replace zH := Nat.le_trans zH g8.size
              clear u g8 O7
              clear BL
              refine hK.out _ _ ⟨Z.2.1, PM⟩ ?_
              clear hK K
              (refine tkZ 11 (v := ?_) rfl (by kernel_rfl) (fun _ _ _ h => h) ⟨Z.2.1, PM⟩ rfl ?_ ?_; rotate_left 1; focus (intro w s; have cA := s.1.cell; have cB := s.2.cell; go_simp; try with_reducible rfl))
              try simp only [Act.put, List.setIfInBounds_toArray, List.set_cons_zero, List.set_cons_succ, List.getElem_toArray, List.getElem_cons_succ, List.getElem_cons_zero]; try simp only [Nat.zero_add]
              refine wpAnyZ_last (by kernel_rfl) rfl (fun K hK => ?_)
              refine step_store rfl 30 _ _ rfl bc _ rfl rfl PC.there (by kernel_rfl) (by simp [Value.oneCell']) ?_
              refine hK.out _ _ ?_
              clear hK K
              try simp only [Act.put]
              refine wpAnyZ_done (by kernel_rfl) ?_ _
              go_wp2_with fail
              go_meet
              exact ⟨bc, A8, c8, rfl, PC.all9 _ _ _ _ _ _ _ _ _, (O8.farAll (O8.ne PC (by decide)) 0 _).mono T.2.1, CoD.grow Z (grown_all bc _ 0 _ _ (grown_refl _ _)) (fun _ e => by cases e; exact hcH) T⟩
            go_simp
            have q := (Q.refl wda).alloc (.cells #[.int .i64 0, .int .i64 0, .int .i64 0, .int .i64 0, .int .i64 0, .int .i64 0, .int .i64 0, .int .i64 0, .slice none 0 0] 30)
            have PCn := Blk.new wda 30 #[.int .i64 0, .int .i64 0, .int .i64 0, .int .i64 0, .int .i64 0, .int .i64 0, .int .i64 0, .int .i64 0, .slice none 0 0]
            have hcH := zH
            replace Z := CoD.q Z q
            replace PM := PM.q q
            replace BL := BL.q q
            replace zH := Nat.le_trans zH q.size
            clear q
            generalize wda.alloc (.cells #[.int .i64 0, .int .i64 0, .int .i64 0, .int .i64 0, .int .i64 0, .int .i64 0, .int .i64 0, .int .i64 0, .slice none 0 0] 30) = wdaa at *
            generalize wda.heap.size = bc at *
            have PC := PCn
            clear PCn
            refine hK.out _ _ ⟨Z.2.1, PM⟩ ?_
            clear hK K
            refine wpAnyZ_one 4 (by kernel_rfl) rfl (fun K hK => ?_)
            go_simp
            have q := (Q.refl wdaa).alloc (.cells #[] 85)
            have OE := OwC.new wdaa zH
            have heH := zH
            have hLe := Nat.ne_of_lt BL.lt
            replace Z := CoD.q Z q
            replace PM := PM.q q
            replace BL := BL.q q
            replace PC := PC.q q
            replace zH := Nat.le_trans zH q.size
            clear q
            generalize wdaa.alloc (.cells #[] 85) = wdaaa at *
            generalize wdaa.heap.size = e at *
            refine hK.out _ _ ⟨Z.2.1, PM⟩ ?_
            clear hK K
            refine wpAnyZ_one 7 (by kernel_rfl) rfl (fun K hK => ?_)
            refine stepMs rfl _ _ rfl rfl OE rfl Z.1 (by omega) zH ?_
            intro A7 c7 w7 O7 g7
            rw [Nat.zero_add, List.nil_append] at O7
            rw [Nat.zero_add]
            have u := OE.up (rfl : (some ⟨e, 0, none⟩ : Option Addr).map (·.block) = _)
            replace PC := PC.farC OE (by decide) g7
            replace BL := BL.grown g7 (fun e2 => hLe (Option.some.inj e2))
            replace Z := CoD.grow Z g7 u T
            replace PM := PM.above g7 u hm
            replace zH := Nat.le_trans zH g7.size
            clear u g7 OE
            refine hK.out _ _ ⟨Z.2.1, PM⟩ ?_
            clear hK K
            refine wpAnyZ_one 10 (by kernel_rfl) rfl (fun K hK => ?_)
            refine stepM1 rfl _ _ rfl rfl O7 mk rfl BL hmz (by omega) zH ?_
            intro A8 c8 w8 O8 g8
            have u := O7.up (rfl : A7.map (·.block) = _)
            replace PC := PC.farC O7 (by decide) g8
            replace Z := CoD.grow Z g8 u T
            replace PM := PM.above g8 u hm
            replace zH := Nat.le_trans zH g8.size
            clear u g8 O7
            clear BL
            refine hK.out _ _ ⟨Z.2.1, PM⟩ ?_
            clear hK K
            (refine tkZ 11 (v := ?_) rfl (by kernel_rfl) (fun _ _ _ h => h) ⟨Z.2.1, PM⟩ rfl ?_ ?_; rotate_left 1; focus (intro w s; have cA := s.1.cell; have cB := s.2.cell; go_simp; try with_reducible rfl))
            try simp only [Act.put, List.setIfInBounds_toArray, List.set_cons_zero, List.set_cons_succ, List.getElem_toArray, List.getElem_cons_succ, List.getElem_cons_zero]; try simp only [Nat.zero_add]
            refine wpAnyZ_last (by kernel_rfl) rfl (fun K hK => ?_)
            refine step_store rfl 30 _ _ rfl bc _ rfl rfl PC.there (by kernel_rfl) (by simp [Value.oneCell']) ?_
            refine hK.out _ _ ?_
            clear hK K
            try simp only [Act.put]
            refine wpAnyZ_done (by kernel_rfl) ?_ _
            go_wp2_with fail
            go_meet
            exact ⟨bc, A8, c8, rfl, PC.all9 _ _ _ _ _ _ _ _ _, (O8.farAll (O8.ne PC (by decide)) 0 _).mono T.2.1, CoD.grow Z (grown_all bc _ 0 _ _ (grown_refl _ _)) (fun _ e => by cases e; exact hcH) T⟩
          go_simp
          have q := (Q.refl wd).alloc (.cells #[.int .i64 0, .int .i64 0, .int .i64 0, .int .i64 0, .int .i64 0, .int .i64 0, .int .i64 0, .int .i64 0, .slice none 0 0] 30)
          have PCn := Blk.new wd 30 #[.int .i64 0, .int .i64 0, .int .i64 0, .int .i64 0, .int .i64 0, .int .i64 0, .int .i64 0, .int .i64 0, .slice none 0 0]
          have hcH := zH
          replace Z := CoD.q Z q
          replace PM := PM.q q
          replace zH := Nat.le_trans zH q.size
          clear q
          generalize wd.alloc (.cells #[.int .i64 0, .int .i64 0, .int .i64 0, .int .i64 0, .int .i64 0, .int .i64 0, .int .i64 0, .int .i64 0, .slice none 0 0] 30) = wda at *
          generalize wd.heap.size = bc at *
          have PC := PCn
          clear PCn
          refine hK.out _ _ ⟨Z.2.1, PM⟩ ?_
          clear hK K
          refine wpAnyZ_two 4 9 (by kernel_rfl) rfl rfl (fun K hK => ?_) (fun K hK => ?_)
          · go_simp
            have q := (Q.refl wda).alloc (.cells #[] 85)
            have OE := OwC.new wda zH
            have heH := zH
            replace Z := CoD.q Z q
            replace PM := PM.q q
            replace PC := PC.q q
            replace zH := Nat.le_trans zH q.size
            clear q
            generalize wda.alloc (.cells #[] 85) = wdaa at *
            generalize wda.heap.size = e at *
            refine hK.out _ _ ⟨Z.2.1, PM⟩ ?_
            clear hK K
            refine wpAnyZ_two 7 9 (by kernel_rfl) rfl rfl (fun K hK => ?_) (fun K hK => ?_)
            · refine stepMs rfl _ _ rfl rfl OE rfl Z.1 (by omega) zH ?_
              intro A7 c7 w7 O7 g7
              rw [Nat.zero_add, List.nil_append] at O7
              rw [Nat.zero_add]
              have u := OE.up (rfl : (some ⟨e, 0, none⟩ : Option Addr).map (·.block) = _)
              replace PC := PC.farC OE (by decide) g7
              replace Z := CoD.grow Z g7 u T
              replace PM := PM.above g7 u hm
              replace zH := Nat.le_trans zH g7.size
              clear u g7 OE
              refine hK.out _ _ ⟨Z.2.1, PM⟩ ?_
              clear hK K
              refine wpAnyZ_one 9 (by kernel_rfl) rfl (fun K hK => ?_)
              go_simp
              have q := (Q.refl w7).alloc (.cells #[.string mk.nm, .int .i64 mk.x, .int .i64 mk.y, .int .i64 mk.sd, .int .i64 mk.zn] 85)
              have BLn := Blk.new w7 85 #[.string mk.nm, .int .i64 mk.x, .int .i64 mk.y, .int .i64 mk.sd, .int .i64 mk.zn]
              replace Z := CoD.q Z q
              replace PM := PM.q q
              replace PC := PC.q q
              replace O7 := O7.q q
              replace zH := Nat.le_trans zH q.size
              clear q
              generalize w7.alloc (.cells #[.string mk.nm, .int .i64 mk.x, .int .i64 mk.y, .int .i64 mk.sd, .int .i64 mk.zn] 85) = w7a at *
              generalize w7.heap.size = L at *
              have BL := BLn
              clear BLn
              refine hK.out _ _ ⟨Z.2.1, PM⟩ ?_
              clear hK K
              refine wpAnyZ_one 10 (by kernel_rfl) rfl (fun K hK => ?_)
              refine stepM1 rfl _ _ rfl rfl O7 mk rfl BL hmz (by omega) zH ?_
              intro A8 c8 w8 O8 g8
              have u := O7.up (rfl : A7.map (·.block) = _)
              replace PC := PC.farC O7 (by decide) g8
              replace Z := CoD.grow Z g8 u T
              replace PM := PM.above g8 u hm
              replace zH := Nat.le_trans zH g8.size
              clear u g8 O7
              clear BL
              refine hK.out _ _ ⟨Z.2.1, PM⟩ ?_
              clear hK K
              (refine tkZ 11 (v := ?_) rfl (by kernel_rfl) (fun _ _ _ h => h) ⟨Z.2.1, PM⟩ rfl ?_ ?_; rotate_left 1; focus (intro w s; have cA := s.1.cell; have cB := s.2.cell; go_simp; try with_reducible rfl))
              try simp only [Act.put, List.setIfInBounds_toArray, List.set_cons_zero, List.set_cons_succ, List.getElem_toArray, List.getElem_cons_succ, List.getElem_cons_zero]; try simp only [Nat.zero_add]
              refine wpAnyZ_last (by kernel_rfl) rfl (fun K hK => ?_)
              refine step_store rfl 30 _ _ rfl bc _ rfl rfl PC.there (by kernel_rfl) (by simp [Value.oneCell']) ?_
              refine hK.out _ _ ?_
              clear hK K
              try simp only [Act.put]
              refine wpAnyZ_done (by kernel_rfl) ?_ _
              go_wp2_with fail
              go_meet
              exact ⟨bc, A8, c8, rfl, PC.all9 _ _ _ _ _ _ _ _ _, (O8.farAll (O8.ne PC (by decide)) 0 _).mono T.2.1, CoD.grow Z (grown_all bc _ 0 _ _ (grown_refl _ _)) (fun _ e => by cases e; exact hcH) T⟩
            go_simp
            have q := (Q.refl wdaa).alloc (.cells #[.string mk.nm, .int .i64 mk.x, .int .i64 mk.y, .int .i64 mk.sd, .int .i64 mk.zn] 85)
            have BLn := Blk.new wdaa 85 #[.string mk.nm, .int .i64 mk.x, .int .i64 mk.y, .int .i64 mk.sd, .int .i64 mk.zn]
            have hLe := Nat.ne_of_gt (OE.from _ rfl).2
            replace Z := CoD.q Z q
            replace PM := PM.q q
            replace PC := PC.q q
            replace OE := OE.q q
            replace zH := Nat.le_trans zH q.size
            clear q
            generalize wdaa.alloc (.cells #[.string mk.nm, .int .i64 mk.x, .int .i64 mk.y, .int .i64 mk.sd, .int .i64 mk.zn] 85) = wdaaa at *
            generalize wdaa.heap.size = L at *
            have BL := BLn
            clear BLn
            refine hK.out _ _ ⟨Z.2.1, PM⟩ ?_
            clear hK K
            refine wpAnyZ_one 7 (by kernel_rfl) rfl (fun K hK => ?_)
            refine stepMs rfl _ _ rfl rfl OE rfl Z.1 (by omega) zH ?_
            intro A7 c7 w7 O7 g7
            rw [Nat.zero_add, List.nil_append] at O7
            rw [Nat.zero_add]
            have u := OE.up (rfl : (some ⟨e, 0, none⟩ : Option Addr).map (·.block) = _)
            replace PC := PC.farC OE (by decide) g7
            replace BL := BL.grown g7 (fun e2 => hLe (Option.some.inj e2))
            replace Z := CoD.grow Z g7 u T
            replace PM := PM.above g7 u hm
            replace zH := Nat.le_trans zH g7.size
            clear u g7 OE
            refine hK.out _ _ ⟨Z.2.1, PM⟩ ?_
            clear hK K
            refine wpAnyZ_one 10 (by kernel_rfl) rfl (fun K hK => ?_)
            refine stepM1 rfl _ _ rfl rfl O7 mk rfl BL hmz (by omega) zH ?_
            intro A8 c8 w8 O8 g8
            have u := O7.up (rfl : A7.map (·.block) = _)
            replace PC := PC.farC O7 (by decide) g8
            replace Z := CoD.grow Z g8 u T
            replace PM := PM.above g8 u hm
            replace zH := Nat.le_trans zH g8.size
            clear u g8 O7
            clear BL
            refine hK.out _ _ ⟨Z.2.1, PM⟩ ?_
            clear hK K
            (refine tkZ 11 (v := ?_) rfl (by kernel_rfl) (fun _ _ _ h => h) ⟨Z.2.1, PM⟩ rfl ?_ ?_; rotate_left 1; focus (intro w s; have cA := s.1.cell; have cB := s.2.cell; go_simp; try with_reducible rfl))
            try simp only [Act.put, List.setIfInBounds_toArray, List.set_cons_zero, List.set_cons_succ, List.getElem_toArray, List.getElem_cons_succ, List.getElem_cons_zero]; try simp only [Nat.zero_add]
            refine wpAnyZ_last (by kernel_rfl) rfl (fun K hK => ?_)
            refine step_store rfl 30 _ _ rfl bc _ rfl rfl PC.there (by kernel_rfl) (by simp [Value.oneCell']) ?_
            refine hK.out _ _ ?_
            clear hK K
            try simp only [Act.put]
            refine wpAnyZ_done (by kernel_rfl) ?_ _
            go_wp2_with fail
            go_meet
            exact ⟨bc, A8, c8, rfl, PC.all9 _ _ _ _ _ _ _ _ _, (O8.farAll (O8.ne PC (by decide)) 0 _).mono T.2.1, CoD.grow Z (grown_all bc _ 0 _ _ (grown_refl _ _)) (fun _ e => by cases e; exact hcH) T⟩
          go_simp
          have q := (Q.refl wda).alloc (.cells #[.string mk.nm, .int .i64 mk.x, .int .i64 mk.y, .int .i64 mk.sd, .int .i64 mk.zn] 85)
          have BLn := Blk.new wda 85 #[.string mk.nm, .int .i64 mk.x, .int .i64 mk.y, .int .i64 mk.sd, .int .i64 mk.zn]
          replace Z := CoD.q Z q
          replace PM := PM.q q
          replace PC := PC.q q
          replace zH := Nat.le_trans zH q.size
          clear q
          generalize wda.alloc (.cells #[.string mk.nm, .int .i64 mk.x, .int .i64 mk.y, .int .i64 mk.sd, .int .i64 mk.zn] 85) = wdaa at *
          generalize wda.heap.size = L at *
          have BL := BLn
          clear BLn
          refine hK.out _ _ ⟨Z.2.1, PM⟩ ?_
          clear hK K
          refine wpAnyZ_one 4 (by kernel_rfl) rfl (fun K hK => ?_)
          go_simp
          have q := (Q.refl wdaa).alloc (.cells #[] 85)
          have OE := OwC.new wdaa zH
          have heH := zH
          have hLe := Nat.ne_of_lt BL.lt
          replace Z := CoD.q Z q
          replace PM := PM.q q
          replace BL := BL.q q
          replace PC := PC.q q
          replace zH := Nat.le_trans zH q.size
          clear q
          generalize wdaa.alloc (.cells #[] 85) = wdaaa at *
          generalize wdaa.heap.size = e at *
          refine hK.out _ _ ⟨Z.2.1, PM⟩ ?_
          clear hK K
          refine wpAnyZ_one 7 (by kernel_rfl) rfl (fun K hK => ?_)
          refine stepMs rfl _ _ rfl rfl OE rfl Z.1 (by omega) zH ?_
          intro A7 c7 w7 O7 g7
          rw [Nat.zero_add, List.nil_append] at O7
          rw [Nat.zero_add]
          have u := OE.up (rfl : (some ⟨e, 0, none⟩ : Option Addr).map (·.block) = _)
          replace PC := PC.farC OE (by decide) g7
          replace BL := BL.grown g7 (fun e2 => hLe (Option.some.inj e2))
          replace Z := CoD.grow Z g7 u T
          replace PM := PM.above g7 u hm
          replace zH := Nat.le_trans zH g7.size
          clear u g7 OE
          refine hK.out _ _ ⟨Z.2.1, PM⟩ ?_
          clear hK K
          refine wpAnyZ_one 10 (by kernel_rfl) rfl (fun K hK => ?_)
          refine stepM1 rfl _ _ rfl rfl O7 mk rfl BL hmz (by omega) zH ?_
          intro A8 c8 w8 O8 g8
          have u := O7.up (rfl : A7.map (·.block) = _)
          replace PC := PC.farC O7 (by decide) g8
          replace Z := CoD.grow Z g8 u T
          replace PM := PM.above g8 u hm
          replace zH := Nat.le_trans zH g8.size
          clear u g8 O7
          clear BL
          refine hK.out _ _ ⟨Z.2.1, PM⟩ ?_
          clear hK K
          (refine tkZ 11 (v := ?_) rfl (by kernel_rfl) (fun _ _ _ h => h) ⟨Z.2.1, PM⟩ rfl ?_ ?_; rotate_left 1; focus (intro w s; have cA := s.1.cell; have cB := s.2.cell; go_simp; try with_reducible rfl))
          try simp only [Act.put, List.setIfInBounds_toArray, List.set_cons_zero, List.set_cons_succ, List.getElem_toArray, List.getElem_cons_succ, List.getElem_cons_zero]; try simp only [Nat.zero_add]
          refine wpAnyZ_last (by kernel_rfl) rfl (fun K hK => ?_)
          refine step_store rfl 30 _ _ rfl bc _ rfl rfl PC.there (by kernel_rfl) (by simp [Value.oneCell']) ?_
          refine hK.out _ _ ?_
          clear hK K
          try simp only [Act.put]
          refine wpAnyZ_done (by kernel_rfl) ?_ _
          go_wp2_with fail
          go_meet
          exact ⟨bc, A8, c8, rfl, PC.all9 _ _ _ _ _ _ _ _ _, (O8.farAll (O8.ne PC (by decide)) 0 _).mono T.2.1, CoD.grow Z (grown_all bc _ 0 _ _ (grown_refl _ _)) (fun _ e => by cases e; exact hcH) T⟩
        case rest =>
          clear O BC BN R0 HD PM
          obtain ⟨bc, C2, c2, rfl, PC, O2, O, BC, BN, R0, HD⟩ := hcut
          have hl2 := O2.len
          have cP := PC.cell
          have lP := PC.lt
          go_wp2_with fail
          refine (spec_IsCourse x0 x1 x2 x3 x4 x5 x6 x7 C2 (m + 1) c2 (ms ++ [mk]) _ O2.rd hl2 (by omega)).mono ?_
          rintro e9 w9 ⟨rfl, q9⟩
          clear cP lP
          generalize crsB x0 x1 x2 x3 x4 x5 x6 x7 (ms ++ [mk]) = tf
          replace O2 := O2.q q9
          replace O := O.q q9
          replace PC := PC.q q9
          replace BC := BC.q q9
          replace BN := BN.q q9
          replace R0 := R0.q q9
          replace HD := HD.q q9
          clear q9
          have zI := HD.size
          have lR := R0.lt
          cases tf
          · go_wp2_with fail
            go_roundw
            case rel => exact ⟨j, C, m, d, ms, by go_num, by omega, O, BC, BN, R0, HD⟩
            case measure => simp [intOf]
          · have cP := PC.cell
            have lP := PC.lt
            have cC := BC.cell
            have fC := BC.frozen
            have lC := BC.lt
            go_wp2_with fail
            go_roundw
            case rel => exact ⟨j, C2, m + 1, c2, ms ++ [mk], by go_num, by omega, O2.fr9 (O2.ne BC (by decide)) _ _ _ _ _ _ _ _ _, BC.ch9 _ _ _ _ _ _ _ _ _, BN.fr9 (by omega) _ _ _ _ _ _ _ _ _, R0.fr9 (by omega) _ _ _ _ _ _ _ _ _, HD.fr9 (by omega) _ _ _ _ _ _ _ _ _⟩
            case measure => simp [intOf]
    · have hkI : ¬ (0 : Int) < (k : Int) := by omega
      have hm4' : m ≤ 4 := by omega
      clear hk0 BN hmk
      go_upto_region 10 with (fail)
      go_loopw [] (fun wr => ∃ (C : Option Addr) (m d : Nat) (ms : List Mk), m ≤ 4 ∧ OwC wr (b + 2) C m d ms ∧ Blk wr b 30 #[.int .i64 x0, .int .i64 x1, .int .i64 x2, .int .i64 x3, .int .i64 x4, .int .i64 x5, .int .i64 x6, .int .i64 x7, .slice C m d] ∧ Blk wr w.heap.size 30 #[.int .i64 0, .int .i64 0, .int .i64 0, .int .i64 0, .int .i64 0, .int .i64 0, .int .i64 0, .int .i64 0, .slice none 0 0] ∧ DrT w0 w wr g A n c) (fun wr => 1 - slLen' ((wr.cell? ⟨b, 8, none⟩).getD (.int .i64 0)))
      case atStart => exact ⟨C, m, d, ms, hm4', O, BC, R0, HD⟩
      case round =>
        clear O BC R0 HD hm4'
        obtain ⟨C, m, d, ms, hm4, O, BC, R0, HD⟩ := hrel
        have zI := HD.size
        have cC := BC.cell
        have lC := BC.lt
        have HT0 := Lib.hid (show wr.cell? ⟨b, 8, none⟩ = some (.slice C m d) from BC.cell 8)
        by_cases h0 : m = 0
        · subst h0
          go_wp2_with fail
          refine (spec_middle x0 x1 x2 x3 _ (hbd HP1.out)).mono ?_
          rintro e4 wa ⟨rfl, qa⟩
          obtain ⟨hpx, hpy⟩ := hmd HP1.out
          generalize mdX x0 x2 = px at *
          generalize mdX x1 x3 = py at *
          have P0 := Blk.new wa 25 #[.int .i64 px, .int .i64 py]
          replace O := (O.q qa).q ((Q.refl _).alloc (.cells #[.int .i64 px, .int .i64 py] 25))
          have lCa := (BC.q qa).lt
          replace BC := (BC.q qa).alloc (.cells #[.int .i64 px, .int .i64 py] 25)
          have lBa := (R0.q qa).lt
          replace R0 := (R0.q qa).alloc (.cells #[.int .i64 px, .int .i64 py] 25)
          replace HD := (HD.q qa).alloc (.cells #[.int .i64 px, .int .i64 py] 25)
          clear qa cC lC
          go_upto_region 12 with (fail)
          obtain ⟨bp, hbp⟩ : ∃ q, q = wa.heap.size := ⟨_, rfl⟩
          rw [← hbp] at P0 lBa lCa ⊢
          generalize wa.alloc (.cells #[.int .i64 px, .int .i64 py] 25) = wp at *
          clear hbp
          have cP := P0.cell
          have fP := P0.frozen
          have lP := P0.lt
          have cC := BC.cell
          have lC := BC.lt
          go_upto_region 13 with (fail)
          have hpz : -1000000 ≤ min 1000000 (px + 1) ∧ min 1000000 (px + 1) ≤ 1000000 := by omega
          generalize min 1000000 (px + 1) = pz at *
          replace O := O.far (O.ne P0 (by decide)) 0 (.int .i64 pz)
          replace P0 := P0.s2_0 (.int .i64 pz)
          replace BC := BC.far (p := ⟨bp, 0, none⟩) (Nat.ne_of_lt lCa) (.int .i64 pz)
          replace R0 := R0.far (p := ⟨bp, 0, none⟩) (Nat.ne_of_lt lBa) (.int .i64 pz)
          replace HD := HD.set (b := bp) (i := 0) (Nat.le_of_lt lBa) (.int .i64 pz)
          generalize wp.setCell ⟨bp, 0, none⟩ (.int .i64 pz) = wq at *
          clear cP fP lP cC lC
          have cC := BC.cell
          have lC := BC.lt
          go_wp2_with fail
          refine (spec_middle x4 x5 x6 x7 _ (hbd HP2.out)).mono ?_
          rintro e5 wc ⟨rfl, qc⟩
          generalize mdX x4 x6 = qx at *
          generalize mdX x5 x7 = qy at *
          have Q0 := Blk.new wc 25 #[.int .i64 qx, .int .i64 qy]
          replace O := (O.q qc).q ((Q.refl _).alloc (.cells #[.int .i64 qx, .int .i64 qy] 25))
          replace BC := (BC.q qc).alloc (.cells #[.int .i64 qx, .int .i64 qy] 25)
          replace R0 := (R0.q qc).alloc (.cells #[.int .i64 qx, .int .i64 qy] 25)
          replace P0 := (P0.q qc).alloc (.cells #[.int .i64 qx, .int .i64 qy] 25)
          replace HD := (HD.q qc).alloc (.cells #[.int .i64 qx, .int .i64 qy] 25)
          clear qc cC lC
          go_upto_region 14 with (fail)
          obtain ⟨bq, hbq⟩ : ∃ q, q = wc.heap.size := ⟨_, rfl⟩
          rw [← hbq] at Q0 ⊢
          generalize wc.alloc (.cells #[.int .i64 qx, .int .i64 qy] 25) = wv at *
          clear hbq
          have LC := later_cells BC.cell BC.lt
          have LP := later_cells P0.cell P0.lt
          have LQ := later_cells Q0.cell Q0.lt
          go_cut [77] from 68 to 90 (fun v wc => ∃ tb : Bool, v = .bool tb ∧ Q wv wc)
          case first =>
            generalize hsx : mdX x0 x2 = sx
            generalize hsy : mdX x1 x3 = sy
            have KM := Lib.hid (fun wz => spec_middle x0 x1 x2 x3 wz (hbd HP1.out))
            rw [hsx, hsy] at KM
            clear hsx hsy
            by_cases hx : pz = qx
            · subst hx
              by_cases hy : py = qy
              · subst hy
                refine wp_region_later_lit (by kernel_rfl) (by kernel_rfl) ?_
                repeat (any_goals (first | go_big_quiet_step ((go_at_call 40; exact later_call (KM.out _))) | quiet_step ((go_at_call 40; exact later_call (KM.out _))) | (refine wpQuiet_step (fun K hK => ?_); go_simp; split <;> (refine hK _ ?_; clear hK K))))
                all_goals (refine wpQuiet_nil ?_; rintro _ ⟨⟨w6, q6⟩, rfl⟩; try dsimp only)
                all_goals go_wp2_with fail
                all_goals go_meet
                all_goals exact ⟨_, rfl, q6⟩
              · have hyb : (py == qy) = false := by simpa using hy
                by_cases h2 : pz = sx
                · subst h2
                  by_cases h3 : py = sy
                  · subst h3
                    refine wp_region_later_lit (by kernel_rfl) (by kernel_rfl) ?_
                    repeat (any_goals (first | go_big_quiet_step ((go_at_call 40; exact later_call (KM.out _))) | quiet_step ((go_at_call 40; exact later_call (KM.out _))) | (refine wpQuiet_step (fun K hK => ?_); go_simp; split <;> (refine hK _ ?_; clear hK K))))
                    all_goals (refine wpQuiet_nil ?_; rintro _ ⟨⟨w6, q6⟩, rfl⟩; try dsimp only)
                    all_goals go_wp2_with fail
                    all_goals go_meet
                    all_goals exact ⟨_, rfl, q6⟩
                  · have h3b : (py == sy) = false := by simpa using h3
                    refine wp_region_later_lit (by kernel_rfl) (by kernel_rfl) ?_
                    repeat (any_goals (first | go_big_quiet_step ((go_at_call 40; exact later_call (KM.out _))) | quiet_step ((go_at_call 40; exact later_call (KM.out _))) | (refine wpQuiet_step (fun K hK => ?_); go_simp; split <;> (refine hK _ ?_; clear hK K))))
                    all_goals (refine wpQuiet_nil ?_; rintro _ ⟨⟨w6, q6⟩, rfl⟩; try dsimp only)
                    all_goals go_wp2_with fail
                    all_goals go_meet
                    all_goals exact ⟨_, rfl, q6⟩
                · have h2b : (pz == sx) = false := by simpa using h2
                  refine wp_region_later_lit (by kernel_rfl) (by kernel_rfl) ?_
                  repeat (any_goals (first | go_big_quiet_step ((go_at_call 40; exact later_call (KM.out _))) | quiet_step ((go_at_call 40; exact later_call (KM.out _))) | (refine wpQuiet_step (fun K hK => ?_); go_simp; split <;> (refine hK _ ?_; clear hK K))))
                  all_goals (refine wpQuiet_nil ?_; rintro _ ⟨⟨w6, q6⟩, rfl⟩; try dsimp only)
                  all_goals go_wp2_with fail
                  all_goals go_meet
                  all_goals exact ⟨_, rfl, q6⟩
            · have hxb : (pz == qx) = false := by simpa using hx
              by_cases h2 : pz = sx
              · subst h2
                by_cases h3 : py = sy
                · subst h3
                  refine wp_region_later_lit (by kernel_rfl) (by kernel_rfl) ?_
                  repeat (any_goals (first | go_big_quiet_step ((go_at_call 40; exact later_call (KM.out _))) | quiet_step ((go_at_call 40; exact later_call (KM.out _))) | (refine wpQuiet_step (fun K hK => ?_); go_simp; split <;> (refine hK _ ?_; clear hK K))))
                  all_goals (refine wpQuiet_nil ?_; rintro _ ⟨⟨w6, q6⟩, rfl⟩; try dsimp only)
                  all_goals go_wp2_with fail
                  all_goals go_meet
                  all_goals exact ⟨_, rfl, q6⟩
                · have h3b : (py == sy) = false := by simpa using h3
                  refine wp_region_later_lit (by kernel_rfl) (by kernel_rfl) ?_
                  repeat (any_goals (first | go_big_quiet_step ((go_at_call 40; exact later_call (KM.out _))) | quiet_step ((go_at_call 40; exact later_call (KM.out _))) | (refine wpQuiet_step (fun K hK => ?_); go_simp; split <;> (refine hK _ ?_; clear hK K))))
                  all_goals (refine wpQuiet_nil ?_; rintro _ ⟨⟨w6, q6⟩, rfl⟩; try dsimp only)
                  all_goals go_wp2_with fail
                  all_goals go_meet
                  all_goals exact ⟨_, rfl, q6⟩
              · have h2b : (pz == sx) = false := by simpa using h2
                refine wp_region_later_lit (by kernel_rfl) (by kernel_rfl) ?_
                repeat (any_goals (first | go_big_quiet_step ((go_at_call 40; exact later_call (KM.out _))) | quiet_step ((go_at_call 40; exact later_call (KM.out _))) | (refine wpQuiet_step (fun K hK => ?_); go_simp; split <;> (refine hK _ ?_; clear hK K))))
                all_goals (refine wpQuiet_nil ?_; rintro _ ⟨⟨w6, q6⟩, rfl⟩; try dsimp only)
                all_goals go_wp2_with fail
                all_goals go_meet
                all_goals exact ⟨_, rfl, q6⟩
          case rest =>
            obtain ⟨tb, rfl, q6⟩ := hcut
            replace O := O.q q6
            replace BC := BC.q q6
            replace R0 := R0.q q6
            replace P0 := P0.q q6
            replace HD := HD.q q6
            clear q6 LC LP LQ
            cases tb
            · have zI := HD.size
              have cP := P0.cell
              have lP := P0.lt
              have cC := BC.cell
              have fC := BC.frozen
              have lC := BC.lt
              go_wp2_with fail
              go_roundw
              case rel => exact ⟨some ⟨wc.heap.size, 0, none⟩, 1, 1, [⟨⟨#[111, 110, 108, 121]⟩, pz, py, 1, 30⟩], by decide, OwC.one' _ (by simp [World.setCell]) (by omega) ⟨⟨#[111, 110, 108, 121]⟩, pz, py, 1, 30⟩ rfl , (by simpa using BC.set_ 8 (.slice (some ⟨wc.heap.size, 0, none⟩) 1 1) : Blk (wc.setCell ⟨b, 8, none⟩ (.slice (some ⟨wc.heap.size, 0, none⟩) 1 1)) b 30 #[.int .i64 x0, .int .i64 x1, .int .i64 x2, .int .i64 x3, .int .i64 x4, .int .i64 x5, .int .i64 x6, .int .i64 x7, .slice (some ⟨wc.heap.size, 0, none⟩) 1 1]).alloc _, (R0.far (p := ⟨b, 8, none⟩) (by simp only; omega) _).alloc _, (HD.set (b := b) (i := 8) (by omega) _).alloc _⟩
              case measure => (have e0 := HT0.out; have e1 := BC.set_ 8 (.slice (some ⟨wc.heap.size, 0, none⟩) 1 1); simp [slLen', e0, (e1.alloc _).cell 8])
            · have LP := later_cells P0.cell P0.lt
              go_upto_region 15 with (fail)
              go_cut [] from 78 to 90 (fun wc => ∃ px py : Int, Blk wc bp 25 #[.int .i64 px, .int .i64 py] ∧ OwC wc (b + 2) C 0 d ms ∧ Blk wc b 30 #[.int .i64 x0, .int .i64 x1, .int .i64 x2, .int .i64 x3, .int .i64 x4, .int .i64 x5, .int .i64 x6, .int .i64 x7, .slice C 0 d] ∧ Blk wc w.heap.size 30 #[.int .i64 0, .int .i64 0, .int .i64 0, .int .i64 0, .int .i64 0, .int .i64 0, .int .i64 0, .int .i64 0, .slice none 0 0] ∧ DrT w0 w wc g A n c)
              case first =>
                refine wp_region_later_tail 9 (by kernel_rfl) (by kernel_rfl) ?_
                simp only [List.take_succ_cons, List.take_zero, List.drop_succ_cons, List.drop_zero]
                repeat (any_goals (first | go_big_quiet_step ((go_at_call 44; exact later_same (spec_Floor _ _ _ (by decide) (by omega) (by decide)))) | quiet_step ((go_at_call 44; exact later_same (spec_Floor _ _ _ (by decide) (by omega) (by decide))))))
                refine wpQuiet_nil ?_
                rintro w3 ⟨⟨w4, q4⟩, hw⟩
                obtain rfl : w3 = w4 := hw
                replace O := O.q q4
                replace BC := BC.q q4
                replace R0 := R0.q q4
                replace P0 := P0.q q4
                replace HD := HD.q q4
                clear q4 LP
                have cP := P0.cell
                have fP := P0.frozen
                have lP := P0.lt
                go_wp2_with fail
                go_meet
                exact ⟨_, _, P0.s2 _ _, (O.far (O.ne P0 (by decide)) 0 _).far (O.ne P0 (by decide)) 1 _, (BC.far (p := ⟨bp, 0, none⟩) (Nat.ne_of_lt lCa) _).far (p := ⟨bp, 1, none⟩) (Nat.ne_of_lt lCa) _, (R0.far (p := ⟨bp, 0, none⟩) (Nat.ne_of_lt lBa) _).far (p := ⟨bp, 1, none⟩) (Nat.ne_of_lt lBa) _, (HD.set (b := bp) (i := 0) (Nat.le_of_lt lBa) _).set (b := bp) (i := 1) (Nat.le_of_lt lBa) _⟩
              case rest =>
                clear O BC R0 P0 Q0 HD LP
                obtain ⟨px, py, P0, O, BC, R0, HD⟩ := hcut
                have zI := HD.size
                have cP := P0.cell
                have lP := P0.lt
                have cC := BC.cell
                have fC := BC.frozen
                have lC := BC.lt
                go_wp2_with fail
                go_roundw
                case rel => exact ⟨some ⟨wc.heap.size, 0, none⟩, 1, 1, [⟨⟨#[111, 110, 108, 121]⟩, px, py, 1, 30⟩], by decide, OwC.one' _ (by simp [World.setCell]) (by omega) ⟨⟨#[111, 110, 108, 121]⟩, px, py, 1, 30⟩ rfl , (by simpa using BC.set_ 8 (.slice (some ⟨wc.heap.size, 0, none⟩) 1 1) : Blk (wc.setCell ⟨b, 8, none⟩ (.slice (some ⟨wc.heap.size, 0, none⟩) 1 1)) b 30 #[.int .i64 x0, .int .i64 x1, .int .i64 x2, .int .i64 x3, .int .i64 x4, .int .i64 x5, .int .i64 x6, .int .i64 x7, .slice (some ⟨wc.heap.size, 0, none⟩) 1 1]).alloc _, (R0.far (p := ⟨b, 8, none⟩) (by simp only; omega) _).alloc _, (HD.set (b := b) (i := 8) (by omega) _).alloc _⟩
                case measure => (have e0 := HT0.out; have e1 := BC.set_ 8 (.slice (some ⟨wc.heap.size, 0, none⟩) 1 1); simp [slLen', e0, (e1.alloc _).cell 8])
        · have hm0 : ((m : Int) == 0) = false := by simp; omega
          have hm1 : ¬ (m : Int) = 0 := by omega
          have cR := R0.cell
          have fR := R0.frozen
          have lR' := R0.lt
          go_wp2_with fail
          have F := (R0.ch9 (.int .i64 x0) (.int .i64 x1) (.int .i64 x2) (.int .i64 x3) (.int .i64 x4) (.int .i64 x5) (.int .i64 x6) (.int .i64 x7) (.slice C m d)).cell
          refine bodyPost_ret (v := .agg #[.int .i64 x0, .int .i64 x1, .int .i64 x2, .int .i64 x3, .int .i64 x4, .int .i64 x5, .int .i64 x6, .int .i64 x7, .slice C m d]) (by simp [results, Tryz.results30, go_sem, F]) rfl ⟨x0, x1, x2, x3, x4, x5, x6, x7, C, m, d, ms, rfl, ⟨HP1.out, HP2.out⟩, (O.fr9 (O.ne R0 (by decide)) _ _ _ _ _ _ _ _ _).mono (by omega), ⟨by omega, hm4⟩, ?_, ?_⟩
          · exact DrT.dr (ws := w) (HD.fr9 (Nat.le_refl _) _ _ _ _ _ _ _ _ _)
          · exact DrT.gr (w0 := w0) (g := g) (A := A) (n := n) (c := c) (HD.fr9 (Nat.le_refl _) _ _ _ _ _ _ _ _ _)
end Go.Proofs.YteofhfefbphjdaaGreatDoor
