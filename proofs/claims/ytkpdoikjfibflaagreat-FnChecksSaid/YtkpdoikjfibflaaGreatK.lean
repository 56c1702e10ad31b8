/- Words for short walks: the elements of a slice by name, how rows of a call's own stand beside marks on other rows. No condition. -/
import Derived.Test.YtkpdoikjfibflaaGreatEq
import Derived.Test.YtkpdoikjfibflaaGreatApp
import Derived.Test.YtkpdoikjfibflaaGreatIn
namespace Go.Proofs.YtkpdoikjfibflaaGreat
open Go.RowKit Go.WideShapes Go.ChangeShapes
/-- From lo to hi, under a name. -/
def inR (n lo hi : Int) : Bool := decide (lo ≤ n ∧ n ≤ hi)
theorem spec_inR (n lo hi : Int) (w : World) : Calls Tryz.prog 56 #[.int .i64 n, .int .i64 lo, .int .i64 hi] w fun e w' => e = .returned (.bool (inR n lo hi)) ∧ w = w' := spec_in n lo hi w
theorem impl_inR (n lo hi : Int) (w : World) : Calls Tryz.prog 46 #[.int .i64 n, .int .i64 lo, .int .i64 hi] w fun e w' => e = .returned (.bool (inR n lo hi)) ∧ w = w' := impl_in n lo hi w
theorem inR_yes {n lo hi : Int} (h : lo ≤ n ∧ n ≤ hi) : inR n lo hi = true := by simp [inR, h]
theorem inR_no {n lo hi : Int} (h : ¬ (lo ≤ n ∧ n ≤ hi)) : inR n lo hi = false := by unfold inR; exact decide_eq_false h
/-- Element j of a flat list. -/
def el (xs : List Int) (j : Nat) : Int := xs.getD j 0
theorem el_eq (xs : List Int) (j : Nat) : xs.getD j 0 = el xs j := rfl
theorem Rd.at1 {w : World} {A : Option Addr} {xs : List Int} {n k : Nat} (h : Rd w A xs) (hn : xs.length = n) (hk : k < n) :
    ∃ b o, A = some ⟨b, o, none⟩ ∧ w.cell? ⟨b, o + k, none⟩ = some (.int .i64 (el xs k)) := by
  obtain ⟨b, o, hA, hc⟩ := h
  exact ⟨b, o, hA (by omega), hc k (by omega)⟩
theorem Rd.at2 {w : World} {A : Option Addr} {xs : List Int} {n k : Nat} (h : Rd w A xs) (hn : xs.length = n * 2) (hk : k < n) :
    ∃ b o, A = some ⟨b, o, none⟩ ∧ w.cell? ⟨b, o + k * 2, none⟩ = some (.int .i64 (el xs (k * 2))) ∧ w.cell? ⟨b, o + k * 2 + 1, none⟩ = some (.int .i64 (el xs (k * 2 + 1))) := by
  obtain ⟨b, o, hA, hc⟩ := h
  exact ⟨b, o, hA (by omega), hc _ (by omega), by rw [Nat.add_assoc]; exact hc _ (by omega)⟩
theorem Rd.at3 {w : World} {A : Option Addr} {xs : List Int} {n k : Nat} (h : Rd w A xs) (hn : xs.length = n * 3) (hk : k < n) :
    ∃ b o, A = some ⟨b, o, none⟩ ∧ w.cell? ⟨b, o + k * 3, none⟩ = some (.int .i64 (el xs (k * 3))) ∧ w.cell? ⟨b, o + k * 3 + 1, none⟩ = some (.int .i64 (el xs (k * 3 + 1))) ∧ w.cell? ⟨b, o + k * 3 + 2, none⟩ = some (.int .i64 (el xs (k * 3 + 2))) := by
  obtain ⟨b, o, hA, hc⟩ := h
  exact ⟨b, o, hA (by omega), hc _ (by omega), by rw [Nat.add_assoc]; exact hc _ (by omega), by rw [Nat.add_assoc]; exact hc _ (by omega)⟩
theorem Rd.at3p {w : World} {A : Option Addr} {xs : List Int} {k : Nat} (h : Rd w A xs) (hk : k * 3 + 2 < xs.length) :
    ∃ b o, A = some ⟨b, o, none⟩ ∧ w.cell? ⟨b, o + k * 3, none⟩ = some (.int .i64 (el xs (k * 3))) ∧ w.cell? ⟨b, o + k * 3 + 1, none⟩ = some (.int .i64 (el xs (k * 3 + 1))) ∧ w.cell? ⟨b, o + k * 3 + 2, none⟩ = some (.int .i64 (el xs (k * 3 + 2))) := by
  obtain ⟨b, o, hA, hc⟩ := h
  exact ⟨b, o, hA (by omega), hc _ (by omega), by rw [Nat.add_assoc]; exact hc _ (by omega), by rw [Nat.add_assoc]; exact hc _ (by omega)⟩
theorem Rd.at5 {w : World} {A : Option Addr} {xs : List Int} {n k : Nat} (h : Rd w A xs) (hn : xs.length = n * 5) (hk : k < n) :
    ∃ b o, A = some ⟨b, o, none⟩ ∧ w.cell? ⟨b, o + k * 5, none⟩ = some (.int .i64 (el xs (k * 5))) ∧ w.cell? ⟨b, o + k * 5 + 1, none⟩ = some (.int .i64 (el xs (k * 5 + 1))) ∧ w.cell? ⟨b, o + k * 5 + 2, none⟩ = some (.int .i64 (el xs (k * 5 + 2))) ∧
      w.cell? ⟨b, o + k * 5 + 3, none⟩ = some (.int .i64 (el xs (k * 5 + 3))) ∧ w.cell? ⟨b, o + k * 5 + 4, none⟩ = some (.int .i64 (el xs (k * 5 + 4))) := by
  obtain ⟨b, o, hA, hc⟩ := h
  exact ⟨b, o, hA (by omega), hc _ (by omega), by rw [Nat.add_assoc]; exact hc _ (by omega), by rw [Nat.add_assoc]; exact hc _ (by omega), by rw [Nat.add_assoc]; exact hc _ (by omega), by rw [Nat.add_assoc]; exact hc _ (by omega)⟩
/-- The block that was made last, or last but one, ahead of a call that only makes blocks. -/
theorem Q.box {w w1 : World} {cs : Array Value} {T : TypeId} (q : Q (w.alloc (.cells cs T)) w1) : ∀ i, w1.cell? ⟨w.heap.size, i, none⟩ = cs[i]? := ((Blk.new w T cs).q q).cell
theorem Q.box2 {w w1 : World} {cs : Array Value} {T : TypeId} {o : Obj} (q : Q ((w.alloc (.cells cs T)).alloc o) w1) : ∀ i, w1.cell? ⟨w.heap.size, i, none⟩ = cs[i]? := (((Blk.new w T cs).alloc o).q q).cell
theorem Q.box3 {w w1 : World} {cs : Array Value} {T : TypeId} {o o2 : Obj} (q : Q (((w.alloc (.cells cs T)).alloc o).alloc o2) w1) : ∀ i, w1.cell? ⟨w.heap.size, i, none⟩ = cs[i]? := ((((Blk.new w T cs).alloc o).alloc o2).q q).cell
theorem Q.boxF {w w1 : World} {cs : Array Value} {T : TypeId} (q : Q (w.alloc (.cells cs T)) w1) : ∀ i, w1.frozen? ⟨w.heap.size, i, none⟩ = false := ((Blk.new w T cs).q q).frozen
theorem Q.boxB {w w1 : World} {cs : Array Value} {T : TypeId} (q : Q (w.alloc (.cells cs T)) w1) : Blk w1 w.heap.size T cs := (Blk.new w T cs).q q
theorem Q.boxB2 {w w1 : World} {cs : Array Value} {T : TypeId} {o : Obj} (q : Q ((w.alloc (.cells cs T)).alloc o) w1) : Blk w1 w.heap.size T cs := ((Blk.new w T cs).alloc o).q q
theorem Q.boxB3 {w w1 : World} {cs : Array Value} {T : TypeId} {o o2 : Obj} (q : Q (((w.alloc (.cells cs T)).alloc o).alloc o2) w1) : Blk w1 w.heap.size T cs := (((Blk.new w T cs).alloc o).alloc o2).q q
theorem far_lt {A A' : Option Addr} {l u l' u' : Nat} (h : ∀ a, A = some a → l ≤ a.block ∧ a.block < u) (h' : ∀ a, A' = some a → l' ≤ a.block ∧ a.block < u') (hu : u ≤ l') : Far A A' := fun a b ha hb => by
  have := h a ha
  have := h' b hb
  omega
theorem Rd.markU {w0 w w' : World} {A A' : Option Addr} {xs : List Int} (h0 : Rd w0 A xs) (h : Rd w A xs) (hf : ∀ p, A' = some p → w0.heap.size ≤ p.block) (hg : w.grownBy w' (A'.map (·.block))) : Rd w' A xs := by
  by_cases hx : xs.length = 0
  · have : xs = [] := List.eq_nil_of_length_eq_zero hx
    subst this
    exact Rd.nil _ _
  · obtain ⟨b, o, hA, hc⟩ := h0
    have h1 := World.block_lt_of_cell? w0 _ (hc 0 (by omega))
    refine h.grown hg fun a ha he => ?_
    rcases A' with _ | p
    · cases he
    · have h2 := hf p rfl
      rw [hA (by omega)] at ha
      injection ha with ha
      subst ha
      simp only [Option.map_some, Option.some.injEq] at he
      simp only at h1 he
      omega
theorem Q.markU {a w w' : World} {A' : Option Addr} {l u : Nat} (h : Q a w) (hf : ∀ p, A' = some p → l ≤ p.block ∧ p.block < u) (hl : a.heap.size ≤ l) (hg : w.grownBy w' (A'.map (·.block))) : Q a w' := by
  refine h.grown hg fun b he => ?_
  rcases A' with _ | p
  · cases he
  · have h1 := hf p rfl
    simp only [Option.map_some, Option.some.injEq] at he
    omega
theorem Blk.markU {w w' : World} {g : Nat} {t : TypeId} {cs : Array Value} {A' : Option Addr} {l u : Nat} (h : Blk w g t cs) (hf : ∀ p, A' = some p → l ≤ p.block ∧ p.block < u) (hl : g < l) (hg : w.grownBy w' (A'.map (·.block))) : Blk w' g t cs := by
  refine h.grown hg fun he => ?_
  rcases A' with _ | p
  · cases he
  · have h1 := hf p rfl
    simp only [Option.map_some, Option.some.injEq] at he
    omega
theorem Blk.markU2 {w w' : World} {g : Nat} {t : TypeId} {cs : Array Value} {A' : Option Addr} {l u : Nat} (h : Blk w g t cs) (hf : ∀ p, A' = some p → l ≤ p.block ∧ p.block < u) (hl : u ≤ g) (hg : w.grownBy w' (A'.map (·.block))) : Blk w' g t cs := by
  refine h.grown hg fun he => ?_
  rcases A' with _ | p
  · cases he
  · have h1 := hf p rfl
    simp only [Option.map_some, Option.some.injEq] at he
    omega
theorem mul_bd' {a x M N : Int} (ha : 0 ≤ a ∧ a ≤ M) (hx : 0 ≤ x ∧ x ≤ N) : 0 ≤ a * x ∧ a * x ≤ M * N :=
  ⟨Int.mul_nonneg ha.1 hx.1, Int.mul_le_mul ha.2 hx.2 hx.1 (by omega)⟩
theorem Own.nil {w : World} {B : Nat} {e : TypeId} {k : Nat} : Own w B e k (.slice none 0 0) 0 [] := ⟨by simp, .inl ⟨rfl, rfl⟩⟩
theorem Blk.cell0 {w : World} {g : Nat} {t : TypeId} {v : Value} (h : Blk w g t #[v]) : w.cell? ⟨g, 0, none⟩ = some v := h.cell 0
theorem Own.ne_blk {w : World} {B : Nat} {e t : TypeId} {k n c g : Nat} {A : Option Addr} {xs : List Int} {cs : Array Value} (h : Own w B e k (.slice A n c) n xs) (hb : Blk w g t cs) (hne : e ≠ t) : ∀ a, A = some a → a.block ≠ g := by
  intro a ha
  subst ha
  rcases h.2 with ⟨h1, _⟩ | ⟨g', cap, cur, h1, _, hh, _⟩
  · cases h1
  · injection h1 with h1 _ _
    injection h1 with h1
    subst h1
    exact Blk.ne_ (t := e) hh hb hne
theorem Own.setFar {w : World} {B : Nat} {e : TypeId} {k n c g : Nat} {A : Option Addr} {xs : List Int} (h : Own w B e k (.slice A n c) n xs) (hA : ∀ a, A = some a → a.block ≠ g) (i : Nat) (u : Value) : Own (w.setCell ⟨g, i, none⟩ u) B e k (.slice A n c) n xs :=
  Own.far (A' := some ⟨g, 0, none⟩) h (grown_set (grown_refl w (some g)) i u) (fun a b ha hb => by
    injection hb with hb
    subst hb
    exact hA a ha)
theorem Blk.markO {w w' : World} {B : Nat} {e t : TypeId} {k n c g : Nat} {A : Option Addr} {xs : List Int} {cs : Array Value} (hb : Blk w g t cs) (h : Own w B e k (.slice A n c) n xs) (hne : e ≠ t) (hg : w.grownBy w' (A.map (·.block))) : Blk w' g t cs := by
  refine hb.grown hg fun he => ?_
  rcases A with _ | a
  · cases he
  · simp only [Option.map_some, Option.some.injEq] at he
    exact Own.ne_blk h hb hne a rfl he.symm
/-- A slice type whose elements are k numbers each. -/
def EltT (st e : TypeId) (k : Nat) : Prop := ∃ (i : TypeInfo) (z : Value), Tryz.prog.underlying st = some (.slice e) ∧ Tryz.prog.info? e = some i ∧ i.zero = some z ∧ i.size = k ∧ i.bytes ≤ 65536 ∧ z.cells = (List.replicate k (Value.int .i64 0)).toArray ∧ 0 < k
theorem EltT.mk {st e : TypeId} {k by_ : Nat} {z : Value} (h : (Tryz.prog.info? e).map (fun i => (i.zero, i.size, i.bytes)) = some (some z, k, by_)) (hu : Tryz.prog.underlying st = some (.slice e)) (hb : by_ ≤ 65536) (hz : z.cells = (List.replicate k (Value.int .i64 0)).toArray) (hk : 0 < k) : EltT st e k := by
  obtain ⟨i0, hi, hz0, hz1, hz2⟩ := info_parts h
  exact ⟨i0, z, hu, hi, hz0, hz1, by omega, hz, hk⟩
theorem elInt64 : EltT 50 2 1 := EltT.mk infoInt64 Tryz.underlying50 (by decide) rfl (by decide)
theorem appK {wr : World} {ops : Array Oper} {rest : List Oper} {o : Oper} {a : Act} {R : Exit → Act → World → Prop} {st e : TypeId} {k : Nat} (E : EltT st e k) (hgd : o.guard = none) (s x : Operand)
    (ho : o.op = .call { callee := .builtin .append, args := #[s, x], argTypes := #[st, st] })
    {B : Nat} {A : Option Addr} {n c : Nat} {xs : List Int} (ys : List Int) (hs : a.eval s = .slice A n c) (hown : Own wr B e k (.slice A n c) n xs)
    {H : Nat} (hx : a.eval x = .slice (some ⟨H, 0, none⟩) 1 1) (hH : wr.heap.size = H) (hl : ys.length = k) (cs : Array Value) (T' : TypeId) (hcs : cs = (ys.map (Value.int .i64)).toArray)
    (hn : n ≤ 1073741823) (hB : B ≤ wr.heap.size)
    (h : ∀ A' c' w', Own w' B e k (.slice A' (n + 1) c') (n + 1) (xs ++ ys) → wr.grownBy w' (A.map (·.block)) → Grew wr A A' → wpList Tryz.prog ops R rest (a.put o.dst (.slice A' (n + 1) c')) w') :
    wpList Tryz.prog ops R (o :: rest) a (wr.alloc (.cells cs T')) := by
  subst hH
  obtain ⟨i, z, hu, hi, hz0, hz1, hz2, hz3, hk⟩ := E
  refine wpList_append_flat wr hgd s x st ho B e i z k i.bytes hu hi hz0 hz1 rfl (by rw [hz3]; simp) hk hz2 A n c _ (ys.map (Value.int .i64)) hs hown hx (by simpa using hl) (ints_one ys) cs T' hcs hn hB ?_
  intro A' c' w' h1 h2 h3
  rw [← List.map_append] at h1
  exact h A' c' w' h1 h2 h3
theorem Own.cap {w : World} {B : Nat} {e : TypeId} {k n c : Nat} {A : Option Addr} {xs : List Int} (h : Own w B e k (.slice A n c) n xs) : n ≤ c := by
  rcases h.2 with ⟨h1, _⟩ | ⟨g, cap, cur, h1, _, _, hnc, _⟩
  · injection h1 with _ h2 h3
    omega
  · injection h1 with _ _ h3
    omega
theorem Own.len {w : World} {B : Nat} {e : TypeId} {k n : Nat} {v : Value} {xs : List Int} (h : Own w B e k v n xs) : xs.length = n * k := by simpa using h.1
/-- The slice value v is a row of the call's own (or nil) and reads as xs. -/
def OwnL (w : World) (B : Nat) (e : TypeId) (k : Nat) (v : Value) (xs : List Int) : Prop := ∃ A n c, v = .slice A n c ∧ Own w B e k (.slice A n c) n xs
theorem OwnL.nil {w : World} {B : Nat} {e : TypeId} {k : Nat} : OwnL w B e k (.slice none 0 0) [] := ⟨none, 0, 0, rfl, Own.nil⟩
theorem OwnL.new (w : World) (T : TypeId) (k : Nat) {B : Nat} (hB : B ≤ w.heap.size) : OwnL (w.alloc (.cells #[] T)) B T k (.slice (some ⟨w.heap.size, 0, none⟩) 0 0) [] :=
  ⟨_, _, _, rfl, Own.lit w T k 0 [] rfl hB (by simp) (by decide)⟩
theorem OwnL.q {w w' : World} {B : Nat} {e : TypeId} {k : Nat} {v : Value} {xs : List Int} (h : OwnL w B e k v xs) (hq : Q w w') : OwnL w' B e k v xs := by
  obtain ⟨A, n, c, rfl, ho⟩ := h
  exact ⟨A, n, c, rfl, ho.q hq⟩
theorem RS.mk' {w w' : World} {T : TypeId} {k n c N : Nat} {A : Option Addr} {xs : List Int} {code : Int} (o : Own w' w.heap.size T k (.slice A n c) n xs) (q : Q w w') (hN : xs.length = N * k) (hk : 0 < k) :
    RS w T k N xs code (.returned (.tuple #[.slice A n c, .int .i64 code])) w' := by
  have h : n = N := Nat.eq_of_mul_eq_mul_right hk (o.len.symm.trans hN)
  subst h
  exact ⟨A, c, rfl, o, q⟩
/-- A slice of the call's own is returned. -/
def RL (w : World) (T : TypeId) (k n : Nat) (xs : List Int) (e : Ending) (w' : World) : Prop :=
  ∃ A c, e = .returned (.slice A n c) ∧ Own w' w.heap.size T k (.slice A n c) n xs ∧ Q w w'
theorem RL.mk' {w w' : World} {T : TypeId} {k n c N : Nat} {A : Option Addr} {xs : List Int} (o : Own w' w.heap.size T k (.slice A n c) n xs) (q : Q w w') (hN : xs.length = N * k) (hk : 0 < k) : RL w T k N xs (.returned (.slice A n c)) w' := by
  have h : n = N := Nat.eq_of_mul_eq_mul_right hk (o.len.symm.trans hN)
  subst h
  exact ⟨A, c, rfl, o, q⟩
/-- append of all elements of a slice that reads as ys. -/
theorem appKs {wr : World} {ops : Array Oper} {rest : List Oper} {o : Oper} {a : Act} {R : Exit → Act → World → Prop} {st e : TypeId} {k : Nat} (E : EltT st e k) (hgd : o.guard = none) (s x : Operand)
    (ho : o.op = .call { callee := .builtin .append, args := #[s, x], argTypes := #[st, st] })
    {B : Nat} {A : Option Addr} {n c : Nat} {xs : List Int} (hs : a.eval s = .slice A n c) (hown : Own wr B e k (.slice A n c) n xs)
    {m d b o' : Nat} {ys : List Int} (hx : a.eval x = .slice (some ⟨b, o', none⟩) m d) (hr : ∀ j, j < ys.length → wr.cell? ⟨b, o' + j, none⟩ = some (.int .i64 (ys.getD j 0))) (hl : ys.length = m * k)
    (hn : n + m ≤ 1073741823) (hB : B ≤ wr.heap.size)
    (h : ∀ A' c' w', Own w' B e k (.slice A' (n + m) c') (n + m) (xs ++ ys) → wr.grownBy w' (A.map (·.block)) → Grew wr A A' → wpList Tryz.prog ops R rest (a.put o.dst (.slice A' (n + m) c')) w') :
    wpList Tryz.prog ops R (o :: rest) a wr := by
  obtain ⟨i, z, hu, hi, hz0, hz1, hz2, hz3, hk⟩ := E
  obtain ⟨v', w', hrun, ho', hg, _, hat⟩ := run_append_own_at (P := Tryz.prog) wr B st o.type e i z k i.bytes hu hi hz0 hz1 rfl (by rw [hz3]; simp) hk (.slice A n c) n _ hown
    ⟨b, o', none⟩ m d (ys.map (Value.int .i64)) (by simpa using hl) (by
      intro j u hu
      rw [List.getElem?_map] at hu
      have hj : j < ys.length := by
        rcases Nat.lt_or_ge j ys.length with h | h
        · exact h
        · rw [List.getElem?_eq_none h] at hu; cases hu
      rw [Go.WideShapes.add_plain, hr j hj, List.getD_eq_getElem?_getD]
      rw [List.getElem?_eq_getElem hj] at hu ⊢
      simpa using hu) (ints_one ys) (by unfold maxLen; omega) (by
      have : (n + m) * i.bytes ≤ 1073741824 * 65536 := Nat.mul_le_mul (by omega) hz2
      omega) (by omega)
  rw [← List.map_append] at ho'
  have hO : Own w' B e k v' (n + m) (xs ++ ys) := ho'
  obtain ⟨_, A', c', rfl, _, _⟩ := hO.form
  refine wpList_plain hgd fun K hK => ?_
  unfold Oper.wp execOp
  simp only [ho, resolve, invoke, builtin, Sem.run_bind, Sem.run_pure, Result.andThen_ok, List.map_toArray, List.map_cons, List.map_nil, hs, hx, hrun]
  refine hK _ _ (h A' c' w' hO (by cases A <;> exact hg) ?_)
  rcases hat with h | h
  · left
    cases A <;> cases A' <;> exact h
  · right
    exact ⟨_, by cases A' <;> exact h, by simp⟩
end Go.Proofs.YtkpdoikjfibflaaGreat
