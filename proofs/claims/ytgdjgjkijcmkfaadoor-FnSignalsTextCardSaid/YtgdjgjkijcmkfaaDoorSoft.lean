/- Regions that draw their order and whose operations keep a class of worlds (loads, calls, and stores of which nothing in the region is read): one walk of the lexical order serves every order. After the kit's text on quiet regions, whose operations leave the world alone. No condition. -/
import Derived.Test.YtgdjgjkijcmkfaaDoorDraw
import Derived.Deep.Quiet
namespace Go.Proofs.YtgdjgjkijcmkfaaDoor
open Go.RowKit Go.WideShapes Go.ChangeShapes
section
variable {P : Program} {ops : Array Oper} {md : Region.Mode} {C : World → Prop}
/-- The operation has yielded v, and left a world of the class. -/
def softUpon (P : Program) (C : World → Prop) (v : Value) : Result Next → Prop
  | .ok (.value u) w' => C w' ∧ u = v
  | .ok .skip w' => C w' ∧ v = undef
  | .ok (.enter f args) w' => Calls P f args w' (fun e w'' => e = .returned v ∧ C w'')
  | _ => False
/-- In every world of the class. -/
def softAt (P : Program) (C : World → Prop) (o : Oper) (a : Act) (v : Value) : Prop := ∀ w, C w → softUpon P C v ((execOp a.eval o).run P w)
/-- One operation of the walk: v is yielded, or the operation is not wanted. -/
def SoftY (P : Program) (ops : Array Oper) (C : World → Prop) (o : Oper) (v : Value) (a : Act) : Prop :=
  (Region.wanted o (yielded ops a.tmps) = true ∧ softAt P C o a v) ∨ (Region.wanted o (yielded ops a.tmps) = false ∧ v = undef)
def wpSoft (P : Program) (ops : Array Oper) (C : World → Prop) (F : Act → Prop) : List Oper → Act → Prop
  | [], a => F a
  | o :: rest, a => ∃ v, SoftY P ops C o v a ∧ wpSoft P ops C F rest (a.put o.dst v)
/-- Whatever order comes up. -/
def anySoft (P : Program) (md : Region.Mode) (ops : Array Oper) (C : World → Prop) (F : Act → Prop) : Nat → Array Bool → Act → Prop
  | 0, listed, a => Region.ready md ops listed = [] ∧ F a
  | fuel + 1, listed, a => (Region.ready md ops listed = [] → F a) ∧ ∀ i ∈ Region.ready md ops listed, ∀ o, ops[i]? = some o → ∃ v, SoftY P ops C o v a ∧ anySoft P md ops C F fuel (listed.setIfInBounds i true) (a.put o.dst v)
theorem SoftY.same {o : Oper} {v : Value} {a a' : Act} (hy : SoftY P ops C o v a) (he : execOp a'.eval o = execOp a.eval o) (hw : Region.wanted o (yielded ops a'.tmps) = Region.wanted o (yielded ops a.tmps)) : SoftY P ops C o v a' := by
  unfold SoftY softAt at *
  rw [he, hw]
  exact hy
theorem soft_wp {o : Oper} {a : Act} {v : Value} {K' : Act → World → Prop} {Q' : Exit → Act → World → Prop} {w : World} (hw : C w) (hk : ∀ w', C w' → K' (a.put o.dst v) w') (hh : softAt P C o a v) : o.wp P a w K' Q' := by
  have h3 := hh w hw
  unfold Oper.wp
  generalize (execOp a.eval o).run P w = r at *
  cases r with
  | halt x w' => exact absurd h3 (by simp [softUpon])
  | ok n w' =>
    cases n with
    | value u =>
      obtain ⟨h4, rfl⟩ := h3
      simpa only [Oper.upon] using hk w' h4
    | skip =>
      obtain ⟨h4, rfl⟩ := h3
      simpa only [Oper.upon] using hk w' h4
    | enter f args =>
      have h4 : Calls P f args w' (fun e w'' => e = .returned v ∧ C w'') := h3
      simp only [Oper.upon]
      exact h4.mono fun e w'' ⟨he, hc⟩ => by subst he; exact hk w'' hc
    | _ => exact absurd h3 (by simp [softUpon])
theorem soft_any {F : Act → Prop} {Q' : Exit → Act → World → Prop} (hF : ∀ a w, C w → F a → Q' .normal a w) : ∀ (fuel : Nat) (listed : Array Bool) (a : Act) (w : World), C w → anySoft P md ops C F fuel listed a → wpAny P md ops Q' fuel listed a w
  | 0, _, _, _, hw, h => ⟨h.1, hF _ _ hw h.2⟩
  | fuel + 1, listed, a, w, hw, h => ⟨fun h0 => hF _ _ hw (h.1 h0), fun i hi => by
      unfold wpOp
      obtain ⟨_, o, ho, _⟩ := mem_ready.1 hi
      simp only [ho]
      obtain ⟨v, hy, hr⟩ := h.2 i hi o ho
      rcases hy with ⟨hwt, hs⟩ | ⟨hwt, rfl⟩
      · rw [if_pos hwt]
        exact .inl (soft_wp hw (fun w' hw' => soft_any hF fuel _ _ w' hw' hr) hs)
      · rw [if_neg (by simp [hwt])]
        exact soft_any hF fuel _ _ w hw hr⟩
/-- Two operations apart from one another: the one neither makes nor finds a difference. -/
theorem soft_swap {oi oj : Oper} {v u : Value} {a : Act} (hap : oi.apart ops oj = true) (hsi : ∀ cs b, oi.op ≠ .select cs b) (hsj : ∀ cs b, oj.op ≠ .select cs b)
    (hi : SoftY P ops C oi v a) (hj : SoftY P ops C oj u (a.put oi.dst v)) : SoftY P ops C oj u a ∧ SoftY P ops C oi v (a.put oj.dst u) ∧ (a.put oi.dst v).put oj.dst u = (a.put oj.dst u).put oi.dst v := by
  obtain ⟨h1, h2, h3⟩ := Oper.apart_spec hap
  exact ⟨hj.same (execOp_put oj hsj a oi.dst v h1).symm (wanted_put oj a oi.dst v h1).symm, hi.same (execOp_put oi hsi a oj.dst u h3) (wanted_put oi a oj.dst u h3), (Act.put_comm a v u h2)⟩
theorem soft_first {F : Act → Prop} {i : Nat} {oi : Oper} {v : Value} (hi : ops[i]? = some oi) (hsel : ∀ (j : Nat) (o : Oper) cs b, ops[j]? = some o → o.op ≠ .select cs b) :
    ∀ (fuel : Nat) (listed : Array Bool) (a : Act), (∀ j oj, ops[j]? = some oj → j ≠ i → listed.getD j true = false → (∀ e ∈ oj.after, Region.binds md e = true → e.on ≠ i) → oi.apart ops oj = true) →
      i ∈ Region.ready md ops listed → SoftY P ops C oi v a → anySoft P md ops C F fuel (listed.setIfInBounds i true) (a.put oi.dst v) → anySoft P md ops C F (fuel + 1) listed a := by
  intro fuel
  induction fuel with
  | zero =>
    intro listed a _ hr hy H
    refine ⟨fun h => (by rw [h] at hr; cases hr), fun j hj o ho => ?_⟩
    by_cases hji : j = i
    · subst hji
      rw [hi] at ho; cases ho
      exact ⟨v, hy, H⟩
    · have := ready_mono hj hji
      rw [H.1] at this
      cases this
  | succ fuel ih =>
    intro listed a hfree hr hy H
    refine ⟨fun h => (by rw [h] at hr; cases hr), fun j hj oj hoj => ?_⟩
    by_cases hji : j = i
    · subst hji
      rw [hi] at hoj; cases hoj
      exact ⟨v, hy, H⟩
    · obtain ⟨u, hu, H2⟩ := H.2 j (ready_mono hj hji) oj hoj
      obtain ⟨hjun, oj', hoj', hall⟩ := mem_ready.1 hj
      rw [hoj] at hoj'; cases hoj'
      have hnot : ∀ e ∈ oj.after, Region.binds md e = true → e.on ≠ i := fun e he hb heq => by
        have h1 := hall e he hb
        have h0 := (mem_ready.1 hr).1
        rw [heq] at h1
        rcases Nat.lt_or_ge i listed.size with h' | h'
        · simp [h'] at h0 h1; rw [h0] at h1; cases h1
        · simp [Array.getElem?_eq_none h'] at h1
      obtain ⟨s1, s2, s3⟩ := soft_swap (hfree j oj hoj hji hjun hnot) (fun cs b => hsel i oi cs b hi) (fun cs b => hsel j oj cs b hoj) hy hu
      refine ⟨u, s1, ih _ _ (fun k ok hk hki hun hno => ?_) (ready_mono hr (Ne.symm hji)) s2 ?_⟩
      · refine hfree k ok hk hki ?_ hno
        by_cases hjk : j = k
        · subst hjk; exact hjun
        · rw [getD_set_ne true hjk] at hun; exact hun
      · rw [Array.setIfInBounds_comm _ _ hji, ← s3]
        exact H2
theorem soft_lex {F : Act → Prop} (hs : Region.noSelect ops = true) : ∀ (l : List Oper) (k : Nat) (listed : Array Bool) (a : Act), (∀ j, l[j]? = ops[k + j]?) → Region.lexFrom md ops l.length k listed = true → wpSoft P ops C F l a → anySoft P md ops C F l.length listed a
  | [], _, _, _, _, hB, h => ⟨by simpa [Region.lexFrom] using hB, h⟩
  | o :: l, k, listed, a, hl, hB, h => by
    have h0 : ops[k]? = some o := by simpa using (hl 0).symm
    simp only [List.length_cons, Region.lexFrom, Bool.and_eq_true] at hB
    obtain ⟨⟨hr, hf⟩, hB'⟩ := hB
    obtain ⟨v, hy, hK⟩ := h
    exact soft_first h0 (Region.noSelect_spec hs) l.length listed a (Region.free_spec h0 hf) (by simpa using hr) hy
      (soft_lex hs l (k + 1) _ _ (fun j => by have := hl (j + 1); simpa [Nat.add_assoc, Nat.add_comm 1 j] using this) hB' hK)
theorem wp_region_soft {id : Nat} {R : Exit → Act → World → Prop} {a : Act} {w : World} {l : List Oper} (C : World → Prop) (hm : P.follows .mixedOrders = true) (hB : Region.lexB .any l.toArray = true) (hC : C w.drew)
    (h : wpSoft P l.toArray C (fun a' => ∀ w', C w' → R .normal a' w') l a) : (Code.region id l.toArray true).wp P R a w := by
  simp only [Region.lexB, Bool.and_eq_true] at hB
  refine wp_region_any hm (soft_any (F := fun a' => ∀ w', C w' → R .normal a' w') (fun _ w' hw' h => h w' hw') _ _ _ _ hC ?_)
  have := soft_lex (C := C) (md := .any) hB.1 l 0 (Array.replicate l.toArray.size false) a (by simp) (by simpa using hB.2) h
  simpa using this
/-- One operation at a time, what follows behind a letter. -/
theorem wpSoft_nil {F : Act → Prop} {a : Act} (h : F a) : wpSoft P ops C F [] a := h
theorem wpSoft_step {F : Act → Prop} {a : Act} {o : Oper} {rest : List Oper} (v : Value) (hw : Region.wanted o (yielded ops a.tmps) = true) (h : ∀ w, C w → softUpon P C v ((execOp a.eval o).run P w)) (hk : wpSoft P ops C F rest (a.put o.dst v)) : wpSoft P ops C F (o :: rest) a := ⟨v, .inl ⟨hw, h⟩, hk⟩
theorem wpSoft_skip {F : Act → Prop} {a : Act} {o : Oper} {rest : List Oper} (hw : Region.wanted o (yielded ops a.tmps) = false) (hk : wpSoft P ops C F rest (a.put o.dst undef)) : wpSoft P ops C F (o :: rest) a := ⟨undef, .inr ⟨hw, rfl⟩, hk⟩
/-- A stretch of operations that leave the world alone, by the quiet walk. -/
theorem wpSoft_of_quiet {F : Act → Prop} (rest : List Oper) : ∀ (l : List Oper) (a : Act), wpQuiet P ops C (fun a' => wpSoft P ops C F rest a') l a → wpSoft P ops C F (l ++ rest) a
  | [], _, h => h
  | o :: l, a, h => by
    unfold wpQuiet at h
    by_cases hw : Region.wanted o (yielded ops a.tmps) = true
    · rw [if_pos hw] at h
      obtain ⟨v, h1, h2⟩ := h
      refine ⟨v, .inl ⟨hw, fun w hC => ?_⟩, wpSoft_of_quiet rest l _ h2⟩
      have h3 := h1 w hC
      unfold Oper.quietAt at h3
      generalize (execOp a.eval o).run P w = r at *
      cases r with
      | halt x w' => exact absurd h3 (by simp [Oper.quietUpon])
      | ok n w' =>
        cases n with
        | value u => obtain ⟨rfl, rfl⟩ := h3; exact ⟨hC, rfl⟩
        | skip => obtain ⟨rfl, rfl⟩ := h3; exact ⟨hC, rfl⟩
        | enter f args => obtain ⟨rfl, h4⟩ := h3; exact h4
        | _ => exact absurd h3 (by simp [Oper.quietUpon])
    · rw [if_neg hw] at h
      exact ⟨undef, .inr ⟨by simpa using hw, rfl⟩, wpSoft_of_quiet rest l _ h⟩
theorem wpSoft_take {F : Act → Prop} (n : Nat) {l : List Oper} {a : Act} (h : wpQuiet P ops C (fun a' => wpSoft P ops C F (l.drop n) a') (l.take n) a) : wpSoft P ops C F l a := by
  have := wpSoft_of_quiet (l.drop n) (l.take n) a h
  rwa [List.take_append_drop] at this
theorem wpSoft_all {F : Act → Prop} {l : List Oper} {a : Act} (h : wpQuiet P ops C F l a) : wpSoft P ops C F l a := by
  have := wpSoft_of_quiet (F := F) [] l a h
  rwa [List.append_nil] at this
/-- One operation, by its run in each world of the class. -/
theorem wpSoft_one {F : Act → Prop} {o : Oper} {rest : List Oper} {a : Act} (hg : o.guard = none) (v : Value) (h : ∀ w, C w → softUpon P C v ((execOp a.eval o).run P w)) (hk : wpSoft P ops C F rest (a.put o.dst v)) : wpSoft P ops C F (o :: rest) a :=
  wpSoft_step v (by simp [Region.wanted, hg]) h hk
end
/-- A world in which only block b, of k numbers, may have turned since w. -/
structure SoftR (w : World) (b : Nat) (T : TypeId) (k : Nat) where
  val : World
  gr : w.grownBy val (some b)
  row : ∃ cs, Blk val b T cs ∧ IntsA cs k
theorem softR_cells {w : World} {b g : Nat} {T T' : TypeId} {k : Nat} {cs : Array Value} (h : Blk w g T' cs) (hg : g ≠ b) : ∀ (u : SoftR w b T k) (i : Nat), u.val.cell? ⟨g, i, none⟩ = cs[i]? := fun u => (h.grown u.gr (by simpa using hg)).cell
theorem store3_soft {P : Program} {w : World} {b : Nat} {T T' : TypeId} {k : Nat} {o : Oper} {a : Act} {p v : Operand} (ho : o.op = .store T' p v) (hp : a.eval p = .pointer (some ⟨b, 0, none⟩)) {y0 y1 y2 : Int} (hv : a.eval v = .agg #[.int .i64 y0, .int .i64 y1, .int .i64 y2])
    (hk : k = 3) (hsz : ∀ w, (sizeOf T').run P w = .ok 3 w) : ∀ u, (∃ s : SoftR w b T k, u = s.val) → softUpon P (fun w' => ∃ s : SoftR w b T k, w' = s.val) undef ((execOp a.eval o).run P u) := by
  rintro _ ⟨⟨u, hgr, cs, hB, xs, rfl, hl⟩, rfl⟩
  subst hk
  obtain ⟨x0, x1, x2, rfl⟩ := len3 hl
  have c0 := hB.cell
  have f0 := hB.frozen
  have e : execOp a.eval o = execOp a.eval { o with op := .store T' p v } := by rw [← ho]
  rw [e]
  unfold execOp
  simp only [hp, hv]
  simp [hsz, c0, f0, storeCells, go_sem]
  exact ⟨⟨⟨_, grown_set (grown_set (grown_set hgr 0 _) 1 _) 2 _, _, ((hB.set_ 0 _).set_ 1 _).set_ 2 _, [y0, y1, y2], by simp, rfl⟩, rfl⟩, rfl⟩
end Go.Proofs.YtgdjgjkijcmkfaaDoor
