/- Words: a slice of tracks of its own that grows while the source is drawn from. No condition. Walks: the draw of the law on recalls: a line, tracks, a time and a flag. No condition. -/
import Derived.Test.YtpdcehmnegagmaaDrV
import Derived.Test.YtpdcehmnegagmaaTdsT
namespace Go.Proofs.Ytpdcehmnegagmaa
open Go.RowKit Go.WideShapes Go.ChangeShapes
/-- A row of tracks, each with its own row of fixes. -/
def OwnK (w : World) (B : Nat) (A : Option Addr) (n c : Nat) (ts : List Tk) : Prop :=
  w.ownsRow B 30 1 (.slice A n c) n (ts.map Tk.val) ∧ ∀ T ∈ ts, Own w B 81 3 (.slice T.A T.n T.c) T.n T.xs ∧ T.n ≤ 1048576
theorem row_from {w : World} {B k n c : Nat} {e : TypeId} {A : Option Addr} {xs : List Value} (h : w.ownsRow B e k (.slice A n c) n xs) : ∀ a, A = some a → B ≤ a.block ∧ a.block < w.heap.size := by
  intro a ha
  subst ha
  rcases h.2 with ⟨h', _⟩ | ⟨g, cap, cur, h', hg, hh, _⟩
  · cases h'
  · injection h' with h1 _ _
    injection h1 with h1
    subst h1
    refine ⟨hg, ?_⟩
    rcases Nat.lt_or_ge g w.heap.size with hlt | hge
    · exact hlt
    · rw [Array.getElem?_eq_none hge] at hh; cases hh
theorem row_kept {w w' : World} {B k n c : Nat} {e : TypeId} {A : Option Addr} {xs : List Value} {row : Option Nat} (h : w.ownsRow B e k (.slice A n c) n xs) (hg : w.grownBy w' row) (hr : ∀ a, A = some a → some a.block ≠ row) : w'.ownsRow B e k (.slice A n c) n xs :=
  World.ownsRow.kept h hg (by
    rcases A with _ | a
    · exact .inl rfl
    · exact .inr (by have := hr a rfl; simpa [Value.ownBlock] using this))
theorem row_ne {w : World} {B B' k k' n n' c c' : Nat} {e e' : TypeId} {A A' : Option Addr} {xs ys : List Value} (h : w.ownsRow B e k (.slice A n c) n xs) (h' : w.ownsRow B' e' k' (.slice A' n' c') n' ys) (hne : e ≠ e') : ∀ a b, A = some a → A' = some b → a.block ≠ b.block := by
  intro a b ha hb he
  subst ha hb
  rcases h.2 with ⟨h1, _⟩ | ⟨g, cap, cur, h1, _, hh, _⟩
  · cases h1
  · rcases h'.2 with ⟨h2, _⟩ | ⟨g', cap', cur', h2, _, hh', _⟩
    · cases h2
    · injection h1 with h1 _ _
      injection h1 with h1
      injection h2 with h2 _ _
      injection h2 with h2
      subst h1 h2
      simp only at he
      subst he
      rw [hh] at hh'
      injection hh' with hh'
      injection hh' with _ h3
      exact hne h3
theorem OwnK.kept {w w' : World} {B : Nat} {A : Option Addr} {n c : Nat} {ts : List Tk} {row : Option Nat} (h : OwnK w B A n c ts) (hg : w.grownBy w' row) (hr : ∀ a, A = some a → some a.block ≠ row) (hr2 : ∀ T ∈ ts, ∀ a, T.A = some a → some a.block ≠ row) : OwnK w' B A n c ts :=
  ⟨row_kept h.1 hg hr, fun T hT => ⟨row_kept (h.2 T hT).1 hg (hr2 T hT), (h.2 T hT).2⟩⟩
theorem OwnK.q {w w' : World} {B : Nat} {A : Option Addr} {n c : Nat} {ts : List Tk} (h : OwnK w B A n c ts) (hq : Q w w') : OwnK w' B A n c ts :=
  h.kept (row := none) ⟨hq.os, hq.tape, hq.output, hq.size, fun i hi _ => hq.block i hi⟩ (fun _ _ => by simp) (fun _ _ _ _ => by simp)
theorem OwnK.keepD {w w' : World} {B g n c : Nat} {A : Option Addr} {ts : List Tk} (h : OwnK w B A n c ts) (hg : w.grownBy w' (some g)) (hB : g < B) : OwnK w' B A n c ts :=
  h.kept hg (fun a ha e => by have := row_from h.1 a ha; injection e with e; omega) (fun T hT a ha e => by have := row_from (h.2 T hT).1 a ha; injection e with e; omega)
theorem OwnK.setFar {w : World} {B n c g : Nat} {A : Option Addr} {ts : List Tk} {t : TypeId} {cs : Array Value} (h : OwnK w B A n c ts) (hb : Blk w g t cs) (h1 : 30 ≠ t) (h2 : 81 ≠ t) (i : Nat) (u : Value) : OwnK (w.setCell ⟨g, i, none⟩ u) B A n c ts := by
  have hx : ∀ {e : TypeId} {k m d : Nat} {A' : Option Addr} {xs : List Value}, e ≠ t → w.ownsRow B e k (.slice A' m d) m xs → ∀ a, A' = some a → some a.block ≠ some g := by
    intro e k m d A' xs hne h a ha he
    injection he with he
    subst ha
    rcases h.2 with ⟨h1, _⟩ | ⟨g', cap, cur, h1, _, hh, _⟩
    · cases h1
    · injection h1 with h1 _ _
      injection h1 with h1
      subst h1
      simp only at he
      subst he
      have hb' : w.heap[g']? = _ := hb
      rw [hh] at hb'
      injection hb' with hb'
      injection hb' with _ h3
      exact hne h3
  exact h.kept (grown_set (grown_refl w (some g)) i u) (hx h1 h.1) (fun T hT => hx h2 (h.2 T hT).1)
theorem OwnK.mono {w : World} {B B' : Nat} {A : Option Addr} {n c : Nat} {ts : List Tk} (h : OwnK w B A n c ts) (hB : B' ≤ B) : OwnK w B' A n c ts := by
  refine ⟨⟨h.1.1, ?_⟩, fun T hT => ⟨(h.2 T hT).1.mono hB, (h.2 T hT).2⟩⟩
  rcases h.1.2 with h2 | ⟨g, cap, cur, h1, hg, h3⟩
  · exact .inl h2
  · exact .inr ⟨g, cap, cur, h1, Nat.le_trans hB hg, h3⟩
theorem OwnK.rd {w : World} {B : Nat} {A : Option Addr} {n c : Nat} {ts : List Tk} (h : OwnK w B A n c ts) : RdD w A (ts.map Tk.dat) := by
  refine ⟨ts, ?_, rfl⟩
  have hl : ts.length = n := by simpa using h.1.1
  rcases Nat.eq_zero_or_pos n with hn | hn
  · exact ⟨0, 0, fun h => by omega, fun j hj => by omega⟩
  · obtain ⟨g, rfl, hc⟩ := ownsRow_row h.1 hn
    refine ⟨g, 0, fun _ => rfl, fun j hj => ⟨?_, (h.2 _ (List.getElem_mem hj)).1.rd, (h.2 _ (List.getElem_mem hj)).1.len, by have := (h.2 _ (List.getElem_mem hj)).2; omega⟩⟩
    rw [Nat.zero_add, hc j (by omega), List.getElem?_map, List.getElem?_eq_getElem hj]
    rfl
theorem OwnK.len {w : World} {B : Nat} {A : Option Addr} {n c : Nat} {ts : List Tk} (h : OwnK w B A n c ts) : ts.length = n := by simpa using h.1.1
theorem OwnK.new (w : World) {B : Nat} (hB : B ≤ w.heap.size) : OwnK (w.alloc (.cells #[] 30)) B (some ⟨w.heap.size, 0, none⟩) 0 0 [] :=
  ⟨by have := World.ownsRow_lit (base := B) (e := 30) (size := 1) w #[] 0 hB (by decide) rfl; simpa using this, fun T hT => by cases hT⟩
/-- Tracks without fixes. -/
theorem OwnK.zero {w : World} {B N : Nat} {A : Option Addr} {c : Nat} (h : w.ownsRow B 30 1 (.slice A N c) N (List.replicate N (.slice none 0 0))) : OwnK w B A N c (List.replicate N ⟨none, 0, 0, []⟩) :=
  ⟨by simpa [Tk.val] using h, fun T hT => by obtain rfl := List.eq_of_mem_replicate hT; exact ⟨Own.nil, by simp⟩⟩
/-- append of one track. -/
theorem appTk {wr : World} {ops : Array Oper} {rest : List Oper} {o : Oper} {a : Act} {R : Exit → Act → World → Prop} (hgd : o.guard = none) (s x : Operand)
    (ho : o.op = .call { callee := .builtin .append, args := #[s, x], argTypes := #[45, 45] })
    {B : Nat} {A : Option Addr} {n c : Nat} {ts : List Tk} (T : Tk) (hs : a.eval s = .slice A n c) (hown : OwnK wr B A n c ts) (hT : Own wr B 81 3 (.slice T.A T.n T.c) T.n T.xs) (hTn : T.n ≤ 1048576)
    {H : Nat} (hx : a.eval x = .slice (some ⟨H, 0, none⟩) 1 1) (hH : wr.heap.size = H) (cs : Array Value) (T' : TypeId) (hcs : cs = #[T.val])
    (hn : n ≤ 1073741823) (hB : B ≤ wr.heap.size)
    (h : ∀ A' c' w', OwnK w' B A' (n + 1) c' (ts ++ [T]) → wr.grownBy w' (A.map (·.block)) → (∀ r, A.map (·.block) = some r → B ≤ r ∧ r < wr.heap.size) → wpList Try.prog ops R rest (a.put o.dst (.slice A' (n + 1) c')) w') :
    wpList Try.prog ops R (o :: rest) a (wr.alloc (.cells cs T')) := by
  subst hH
  obtain ⟨i, hi, hz0, hz1, hz2⟩ := info_parts infoTrack
  refine wpList_append_flat wr hgd s x _ ho B 30 i _ 1 i.bytes Try.underlying45 hi hz0 hz1 rfl (by simp [Value.cells]) (by decide) (by omega) A n c _ [T.val] hs hown.1 hx rfl (by
    intro u hu
    obtain rfl := List.mem_singleton.1 hu
    rfl) cs T' hcs hn hB ?_
  intro A' c' w' h1 h2 h3
  have e : ts.map Tk.val ++ [T.val] = (ts ++ [T]).map Tk.val := by simp
  rw [e] at h1
  have hf := row_from hown.1
  have hr : ∀ r, A.map (·.block) = some r → B ≤ r ∧ r < wr.heap.size := by
    intro r hr
    rcases A with _ | b
    · cases hr
    · simp only [Option.map_some, Option.some.injEq] at hr
      subst hr
      exact hf b rfl
  have hx2 : ∀ {m d : Nat} {A2 : Option Addr} {xs : List Int}, Own wr B 81 3 (.slice A2 m d) m xs → ∀ b, A2 = some b → some b.block ≠ A.map (·.block) := by
    intro m d A2 xs ho b hb he
    rcases A with _ | r
    · cases he
    · simp only [Option.map_some, Option.some.injEq] at he
      exact row_ne ho hown.1 (by decide) b r hb rfl he
  refine h A' c' w' ⟨h1, fun S hS => ?_⟩ h2 hr
  rcases List.mem_append.1 hS with hS | hS
  · exact ⟨row_kept (hown.2 S hS).1 h2 (hx2 (hown.2 S hS).1), (hown.2 S hS).2⟩
  · obtain rfl := List.mem_singleton.1 hS
    exact ⟨row_kept hT h2 (hx2 hT), hTn⟩
theorem Blk.grownR {w w' : World} {B k n c g : Nat} {e t : TypeId} {A : Option Addr} {xs : List Value} {cs : Array Value} (hb : Blk w g t cs) (h : w.ownsRow B e k (.slice A n c) n xs) (hne : e ≠ t) (hg : w.grownBy w' (A.map (·.block))) : Blk w' g t cs := by
  refine hb.grown hg fun he => ?_
  rcases A with _ | a
  · cases he
  · simp only [Option.map_some, Option.some.injEq] at he
    rcases h.2 with ⟨h1, _⟩ | ⟨g', cap, cur, h1, _, hh, _⟩
    · cases h1
    · injection h1 with h1 _ _
      injection h1 with h1
      subst h1
      simp only at he
      subst he
      have hb' : w.heap[g]? = _ := hb
      rw [hh] at hb'
      injection hb' with hb'
      injection hb' with _ h3
      exact hne h3
theorem DrT.markN {w0 ws w w' : World} {g n c : Nat} {A : Option Addr} {row : Option Nat} (h : DrT w0 ws w g A n c) (hg : w.grownBy w' row) (hr : ∀ r, row = some r → ws.heap.size ≤ r) : DrT w0 ws w' g A n c := by
  have h0 := h.dr.hg
  have h1 := h.glt
  refine ⟨h.dr.far hg (fun b hb => by have := hr b hb; omega), ?_, h.glt⟩
  exact ⟨hg.os.trans h.gr.os, hg.tape.trans h.gr.tape, hg.output.trans h.gr.output, Nat.le_trans h.gr.size hg.size, fun i hi hn => (hg.block i (Nat.lt_of_lt_of_le hi h.gr.size) (fun e => by have := hr i e.symm; omega)).trans (h.gr.block i hi hn)⟩
end Go.Proofs.Ytpdcehmnegagmaa
namespace Go.Proofs.Ytpdcehmnegagmaa
open Go.RowKit Go.WideShapes Go.ChangeShapes Go.Deep
def DrawLs (w0 w : World) (g : Nat) (A : Option Addr) (n c : Nat) (e : Ending) (w' : World) : Prop := ∃ (x y z u : Int) (B : Option Addr) (m d : Nat) (ts : List Tk) (t : Int), e = .returned (.tuple #[.agg #[.int .i64 x, .int .i64 y, .int .i64 z, .int .i64 u], .slice B m d, .int .i64 t]) ∧ OwnK w' w.heap.size B m d ts ∧ m ≤ 17 ∧ Dr w0 w' g A n c ∧ w.grownBy w' (some g)
set_option maxRecDepth 100000 in
set_option maxHeartbeats 16000000 in
theorem spec_l14DrawAll {w0 w : World} {g : Nat} {A : Option Addr} {n c : Nat} (h : Dr w0 w g A n c) (hn : n ≤ 140737488355327) : Calls Try.prog 30 #[.pointer (some ⟨g, 0, none⟩)] w (DrawLs w0 w g A n c) := by
  obtain ⟨i0, hi, hz0, hz1, hz2⟩ := info_parts infoTrack
  have HI := Lib.hid (And.intro hi (And.intro hz0 (And.intro hz1 hz2)))
  clear hi hz0 hz1 hz2
  have HD := DrT.start h
  have hlt := HD.glt
  have RL := Blk.new w 27 #[.int .i64 0, .int .i64 0, .int .i64 0, .int .i64 0]
  replace HD := HD.alloc (.cells #[.int .i64 0, .int .i64 0, .int .i64 0, .int .i64 0] 27)
  go_enter Try.func30, Try.ntmps30
  go_wp2_with fail
  refine (spec_l14Draw (w0 := w0) (A := A) (n := n) (c := c) HD.dr hn).mono ?_
  rintro e1 w1 ⟨x, y, z, u, B, m, d, xs, t, rfl, hp, hown, hm, D1, G1⟩
  replace hown := hown.mono (show w.heap.size ≤ _ by simp)
  replace HD := HD.step D1 G1
  replace RL := Blk.keepG RL G1 (by omega)
  have lR := RL.lt
  have BL : Blk (((w1.alloc (.cells #[.int .i64 x, .int .i64 y, .int .i64 z, .int .i64 u] 27)).alloc (.cells #[.slice B m d] 30)).alloc (.cells #[] 30)) w1.heap.size 27 #[.int .i64 x, .int .i64 y, .int .i64 z, .int .i64 u] := ((Blk.new _ _ _).alloc _).alloc _
  have BT : Blk (((w1.alloc (.cells #[.int .i64 x, .int .i64 y, .int .i64 z, .int .i64 u] 27)).alloc (.cells #[.slice B m d] 30)).alloc (.cells #[] 30)) (w1.heap.size + 1) 30 #[.slice B m d] := Blk.alloc (by simpa using Blk.new (w1.alloc (.cells #[.int .i64 x, .int .i64 y, .int .i64 z, .int .i64 u] 27)) 30 #[.slice B m d]) _
  have O0 : OwnK (((w1.alloc (.cells #[.int .i64 x, .int .i64 y, .int .i64 z, .int .i64 u] 27)).alloc (.cells #[.slice B m d] 30)).alloc (.cells #[] 30)) (w1.heap.size + 2) (some ⟨w1.heap.size + 1 + 1, 0, none⟩) 0 0 [] := by
    have := OwnK.new ((w1.alloc (.cells #[.int .i64 x, .int .i64 y, .int .i64 z, .int .i64 u] 27)).alloc (.cells #[.slice B m d] 30)) (B := w1.heap.size + 2) (by simp)
    simpa using this
  replace HD := ((HD.alloc (.cells #[.int .i64 x, .int .i64 y, .int .i64 z, .int .i64 u] 27)).alloc (.cells #[.slice B m d] 30)).alloc (.cells #[] 30)
  replace RL := ((RL.alloc (.cells #[.int .i64 x, .int .i64 y, .int .i64 z, .int .i64 u] 27)).alloc (.cells #[.slice B m d] 30)).alloc (.cells #[] 30)
  replace hown := ((hown.al (.cells #[.int .i64 x, .int .i64 y, .int .i64 z, .int .i64 u] 27)).al (.cells #[.slice B m d] 30)).al (.cells #[] 30)
  obtain ⟨b, hb⟩ : ∃ b, b = w1.heap.size := ⟨_, rfl⟩
  clear D1 G1 h
  go_upto_region 3 with (fail)
  rw [← hb] at BL BT O0 lR ⊢
  generalize ((w1.alloc (.cells #[.int .i64 x, .int .i64 y, .int .i64 z, .int .i64 u] 27)).alloc (.cells #[.slice B m d] 30)).alloc (.cells #[] 30) = wb at *
  clear hb
  go_wp2_with fail
  refine (spec_Next (w0 := w0) (A := A) (n := n) (c := c) _ HD.dr hn).mono ?_
  rintro e2 w2 ⟨r2, rfl, hr2, D2, G2⟩
  replace HD := HD.step D2 G2
  replace RL := Blk.keepG RL G2 (by omega)
  replace BL := Blk.keepG BL G2 (by omega)
  replace BT := Blk.keepG BT G2 (by omega)
  replace hown := hown.keepD G2 hlt
  replace O0 := O0.keepD G2 (by omega)
  clear D2 G2
  go_wp2_with fail
  go_loopw [8, 9] (fun v i wr => ∃ (k : Nat) (A1 : Option Addr) (q d1 : Nat) (ts : List Tk), v = .slice A1 q d1 ∧ i = .int .i64 k ∧ OwnK wr (b + 2) A1 q d1 ts ∧ q + k ≤ 4 ∧ Blk wr b 27 #[.int .i64 x, .int .i64 y, .int .i64 z, .int .i64 u] ∧ Blk wr (b + 1) 30 #[.slice B m d] ∧ Own wr w.heap.size 81 3 (.slice B m d) m xs ∧ Blk wr w.heap.size 27 #[.int .i64 0, .int .i64 0, .int .i64 0, .int .i64 0] ∧ DrT w0 w wr g A n c) (fun _ i _ => (intOf i).toNat)
  case atStart =>
    obtain ⟨k, hk⟩ := Int.eq_ofNat_of_zero_le hr2.1
    exact ⟨k, _, _, _, [], rfl, by rw [hk], O0, by omega, BL, BT, hown, RL, HD⟩
  case round =>
    clear O0 HD BL BT RL hown hr2
    obtain ⟨k, A1, q, d1, ts, rfl, rfl, O0, hqk, BL, BT, hown, RL, HD⟩ := hrel
    have cL := BL.cell
    have lL := BL.lt
    have lT := BT.lt
    have zr := HD.size
    by_cases hk0 : 0 < k
    · have hkI : (0 : Int) < (k : Int) := by omega
      obtain ⟨j, rfl⟩ : ∃ j, k = j + 1 := ⟨k - 1, by omega⟩
      go_wp2_with fail
      all_goals
        refine (spec_l14Track (w0 := w0) (A := A) (n := n) (c := c) x y z u _ hp.1 hp.2 HD.dr hn).mono ?_
        rintro e3 w3 ⟨B3, m3, d3, xs3, rfl, hown3, hm3, D3, G3⟩
        replace hown3 := hown3.mono (show b + 2 ≤ wr.heap.size by omega)
        replace HD := HD.step D3 G3
        replace RL := Blk.keepG RL G3 (by omega)
        replace BL := Blk.keepG BL G3 (by omega)
        replace BT := Blk.keepG BT G3 (by omega)
        replace hown := hown.keepD G3 hlt
        replace O0 := O0.keepD G3 (by omega)
        have l3 := BT.lt
        have zw := HD.size
        clear D3 G3 cL
        go_wp2_with (at_builtin; refine appTk rfl _ _ rfl ⟨B3, m3, d3, xs3⟩ rfl O0 hown3 (by show m3 ≤ 1048576; omega) rfl rfl _ _ rfl (by omega) (by omega) ?_; intro A4 c4 w4 O4 g4 hr4)
        replace HD := HD.markN g4 (fun r hr => by have := hr4 r hr; omega)
        replace RL := RL.grownR O0.1 (by decide) g4
        replace BL := BL.grownR O0.1 (by decide) g4
        replace BT := BT.grown g4 (fun e => by have := hr4 _ e.symm; omega)
        replace hown : Own w4 w.heap.size 81 3 (.slice B m d) m xs := row_kept hown g4 (fun a ha he => by
          rcases A1 with _ | r
          · cases he
          · simp only [Option.map_some, Option.some.injEq] at he
            exact row_ne hown O0.1 (by decide) a r ha rfl he)
        go_roundw
        case rel => exact ⟨j, A4, q + 1, c4, _, rfl, by go_num, O4, by omega, BL, BT, hown, RL, HD⟩
        case measure => simp [intOf]
    · obtain rfl : k = 0 := by omega
      go_wp2_with fail
      replace O0 := O0.mono (show w.heap.size ≤ b + 2 by omega)
      refine (spec_Next (w0 := w0) (A := A) (n := n) (c := c) _ HD.dr hn).mono ?_
      rintro e5 w5 ⟨r5, rfl, hr5, D5, G5⟩
      replace HD := HD.step D5 G5
      replace RL := Blk.keepG RL G5 (by omega)
      replace BL := Blk.keepG BL G5 (by omega)
      replace BT := Blk.keepG BT G5 (by omega)
      replace hown := hown.keepD G5 hlt
      replace O0 := O0.keepD G5 hlt
      have z5 := HD.size
      clear D5 G5 cL lL lT
      have cT := BT.cell
      have lT := BT.lt
      by_cases h5 : r5 = 0
      · subst h5
        clear hr5
        go_wp2_with (at_builtin; refine appTk rfl _ _ rfl ⟨B, m, d, xs⟩ rfl O0 hown (by show m ≤ 1048576; omega) rfl rfl _ _ rfl (by omega) (by omega) ?_; intro A4 c4 w4 O4 g4 hr4)
        replace HD := HD.markN g4 (fun r hr => by have := hr4 r hr; omega)
        replace RL := RL.grownR O0.1 (by decide) g4
        replace BL := BL.grownR O0.1 (by decide) g4
        clear hown cT lT BT
        replace O0 := O4
        clear O4 g4 hr4
        refine (spec_Next (w0 := w0) (A := A) (n := n) (c := c) _ HD.dr hn).mono ?_
        rintro e6 w6 ⟨r6, rfl, hr6, D6, G6⟩
        replace HD := HD.step D6 G6
        replace RL := Blk.keepG RL G6 (by omega)
        replace BL := Blk.keepG BL G6 (by omega)
        replace O0 := O0.keepD G6 hlt
        have zx := HD.size
        clear D6 G6
        have cL := BL.cell
        have lL := BL.lt
        have cR := RL.cell
        have fR := RL.frozen
        have lR' := RL.lt
        by_cases h6 : r6 = 0
        · subst h6
          clear hr6
          go_wp2_with fail
          refine (spec_Next (w0 := w0) (A := A) (n := n) (c := c) _ HD.dr hn).mono ?_
          rintro e7 w7 ⟨r7, rfl, hr7, D7, G7⟩
          replace HD := HD.step D7 G7
          replace RL := Blk.keepG RL G7 (by omega)
          replace BL := Blk.keepG BL G7 (by omega)
          clear D7 G7 cL lL cR fR lR' O0
          have z7 := HD.size
          obtain ⟨hi, hz0, hz1, hz2⟩ := HI.out
          have hr : r7 = 0 ∨ r7 = 1 := by omega
          clear hr7
          rcases hr with rfl | rfl
          · go_wp2_with (at_make; refine wpList_make_full _ rfl _ _ 45 rfl w7.heap.size 30 i0 (.agg #[.slice none 0 0]) 1 Try.underlying45 hi hz0 hz1 .i64 .i64 16 16 16 rfl rfl rfl rfl (by rw [hz2]; omega) (by decide) (Nat.le_refl _) ?_; intro w8 hown8 hgrow; have hq8 : Q w7 w8 := (Q.refl w7).grown hgrow (by simp); have cL8 := (BL.q hq8).cell; have lL8 := (BL.q hq8).lt; have cR8 := (RL.q hq8).cell; have fR8 := (RL.q hq8).frozen; have lR8 := (RL.q hq8).lt)
            rw [show (madeCells (Value.agg #[.slice none 0 0]).cells (16 * 1)).toList = _ from made_one _ _, Nat.mul_one] at hown8
            replace RL := RL.q hq8
            replace HD := HD.q hq8
            have O0 := (OwnK.zero hown8).mono (show w.heap.size ≤ w7.heap.size by omega)
            have F1 := (RL.st4 (.int .i64 x) (.int .i64 y) (.int .i64 z) (.int .i64 u)).cell
            refine bodyPost_ret (v := .tuple #[.agg #[.int .i64 x, .int .i64 y, .int .i64 z, .int .i64 u], .slice (some ⟨w7.heap.size, 0, none⟩) 16 16, .int .i64 t]) (by simp [results, Try.results30, go_sem, F1]) rfl ⟨x, y, z, u, _, 16, 16, List.replicate 16 ⟨none, 0, 0, []⟩, t, rfl, ?_, by decide, ?_, ?_⟩
            · have O5 := (((O0.setFar RL (by decide) (by decide) 0 (.int .i64 x)).setFar (RL.set_ 0 (.int .i64 x)) (by decide) (by decide) 1 (.int .i64 y)).setFar ((RL.set_ 0 (.int .i64 x)).set_ 1 (.int .i64 y)) (by decide) (by decide) 2 (.int .i64 z)).setFar (((RL.set_ 0 (.int .i64 x)).set_ 1 (.int .i64 y)).set_ 2 (.int .i64 z)) (by decide) (by decide) 3 (.int .i64 u)
              with_reducible exact O5
            · exact DrT.dr (ws := w) (by (repeat (first | with_reducible exact HD | with_reducible refine DrT.alloc ?_ _ | with_reducible refine DrT.drew ?_ | with_reducible refine DrT.set ?_ (by first | omega | (simp; omega)) _)))
            · exact DrT.gr (w0 := w0) (g := g) (A := A) (n := n) (c := c) (by (repeat (first | with_reducible exact HD | with_reducible refine DrT.alloc ?_ _ | with_reducible refine DrT.drew ?_ | with_reducible refine DrT.set ?_ (by first | omega | (simp; omega)) _)))
          · go_wp2_with (at_make; refine wpList_make_full _ rfl _ _ 45 rfl w7.heap.size 30 i0 (.agg #[.slice none 0 0]) 1 Try.underlying45 hi hz0 hz1 .i64 .i64 17 17 17 rfl rfl rfl rfl (by rw [hz2]; omega) (by decide) (Nat.le_refl _) ?_; intro w8 hown8 hgrow; have hq8 : Q w7 w8 := (Q.refl w7).grown hgrow (by simp); have cL8 := (BL.q hq8).cell; have lL8 := (BL.q hq8).lt; have cR8 := (RL.q hq8).cell; have fR8 := (RL.q hq8).frozen; have lR8 := (RL.q hq8).lt)
            rw [show (madeCells (Value.agg #[.slice none 0 0]).cells (17 * 1)).toList = _ from made_one _ _, Nat.mul_one] at hown8
            replace RL := RL.q hq8
            replace HD := HD.q hq8
            have O0 := (OwnK.zero hown8).mono (show w.heap.size ≤ w7.heap.size by omega)
            have F1 := (RL.st4 (.int .i64 x) (.int .i64 y) (.int .i64 z) (.int .i64 u)).cell
            refine bodyPost_ret (v := .tuple #[.agg #[.int .i64 x, .int .i64 y, .int .i64 z, .int .i64 u], .slice (some ⟨w7.heap.size, 0, none⟩) 17 17, .int .i64 t]) (by simp [results, Try.results30, go_sem, F1]) rfl ⟨x, y, z, u, _, 17, 17, List.replicate 17 ⟨none, 0, 0, []⟩, t, rfl, ?_, by decide, ?_, ?_⟩
            · have O5 := (((O0.setFar RL (by decide) (by decide) 0 (.int .i64 x)).setFar (RL.set_ 0 (.int .i64 x)) (by decide) (by decide) 1 (.int .i64 y)).setFar ((RL.set_ 0 (.int .i64 x)).set_ 1 (.int .i64 y)) (by decide) (by decide) 2 (.int .i64 z)).setFar (((RL.set_ 0 (.int .i64 x)).set_ 1 (.int .i64 y)).set_ 2 (.int .i64 z)) (by decide) (by decide) 3 (.int .i64 u)
              with_reducible exact O5
            · exact DrT.dr (ws := w) (by (repeat (first | with_reducible exact HD | with_reducible refine DrT.alloc ?_ _ | with_reducible refine DrT.drew ?_ | with_reducible refine DrT.set ?_ (by first | omega | (simp; omega)) _)))
            · exact DrT.gr (w0 := w0) (g := g) (A := A) (n := n) (c := c) (by (repeat (first | with_reducible exact HD | with_reducible refine DrT.alloc ?_ _ | with_reducible refine DrT.drew ?_ | with_reducible refine DrT.set ?_ (by first | omega | (simp; omega)) _)))
        · have b6 : (r6 == 0) = false := by simpa using h6
          clear hr6 h6
          go_wp2_with fail
          have F1 := (RL.st4 (.int .i64 x) (.int .i64 y) (.int .i64 z) (.int .i64 u)).cell
          refine bodyPost_ret (v := .tuple #[.agg #[.int .i64 x, .int .i64 y, .int .i64 z, .int .i64 u], .slice A4 (q + 1) c4, .int .i64 t]) (by simp [results, Try.results30, go_sem, F1]) rfl ⟨x, y, z, u, A4, (q + 1), c4, (ts ++ [⟨B, m, d, xs⟩]), t, rfl, ?_, by omega, ?_, ?_⟩
          · have O5 := (((O0.setFar RL (by decide) (by decide) 0 (.int .i64 x)).setFar (RL.set_ 0 (.int .i64 x)) (by decide) (by decide) 1 (.int .i64 y)).setFar ((RL.set_ 0 (.int .i64 x)).set_ 1 (.int .i64 y)) (by decide) (by decide) 2 (.int .i64 z)).setFar (((RL.set_ 0 (.int .i64 x)).set_ 1 (.int .i64 y)).set_ 2 (.int .i64 z)) (by decide) (by decide) 3 (.int .i64 u)
            with_reducible exact O5
          · exact DrT.dr (ws := w) (by (repeat (first | with_reducible exact HD | with_reducible refine DrT.alloc ?_ _ | with_reducible refine DrT.drew ?_ | with_reducible refine DrT.set ?_ (by first | omega | (simp; omega)) _)))
          · exact DrT.gr (w0 := w0) (g := g) (A := A) (n := n) (c := c) (by (repeat (first | with_reducible exact HD | with_reducible refine DrT.alloc ?_ _ | with_reducible refine DrT.drew ?_ | with_reducible refine DrT.set ?_ (by first | omega | (simp; omega)) _)))
      · have b5 : (r5 == 0) = false := by simpa using h5
        clear hr5 h5 cT lT BT hown
        go_wp2_with fail
        refine (spec_Next (w0 := w0) (A := A) (n := n) (c := c) _ HD.dr hn).mono ?_
        rintro e6 w6 ⟨r6, rfl, hr6, D6, G6⟩
        replace HD := HD.step D6 G6
        replace RL := Blk.keepG RL G6 (by omega)
        replace BL := Blk.keepG BL G6 (by omega)
        replace O0 := O0.keepD G6 hlt
        have zx := HD.size
        clear D6 G6
        have cL := BL.cell
        have lL := BL.lt
        have cR := RL.cell
        have fR := RL.frozen
        have lR' := RL.lt
        by_cases h6 : r6 = 0
        · subst h6
          clear hr6
          go_wp2_with fail
          refine (spec_Next (w0 := w0) (A := A) (n := n) (c := c) _ HD.dr hn).mono ?_
          rintro e7 w7 ⟨r7, rfl, hr7, D7, G7⟩
          replace HD := HD.step D7 G7
          replace RL := Blk.keepG RL G7 (by omega)
          replace BL := Blk.keepG BL G7 (by omega)
          clear D7 G7 cL lL cR fR lR' O0
          have z7 := HD.size
          obtain ⟨hi, hz0, hz1, hz2⟩ := HI.out
          have hr : r7 = 0 ∨ r7 = 1 := by omega
          clear hr7
          rcases hr with rfl | rfl
          · go_wp2_with (at_make; refine wpList_make_full _ rfl _ _ 45 rfl w7.heap.size 30 i0 (.agg #[.slice none 0 0]) 1 Try.underlying45 hi hz0 hz1 .i64 .i64 16 16 16 rfl rfl rfl rfl (by rw [hz2]; omega) (by decide) (Nat.le_refl _) ?_; intro w8 hown8 hgrow; have hq8 : Q w7 w8 := (Q.refl w7).grown hgrow (by simp); have cL8 := (BL.q hq8).cell; have lL8 := (BL.q hq8).lt; have cR8 := (RL.q hq8).cell; have fR8 := (RL.q hq8).frozen; have lR8 := (RL.q hq8).lt)
            rw [show (madeCells (Value.agg #[.slice none 0 0]).cells (16 * 1)).toList = _ from made_one _ _, Nat.mul_one] at hown8
            replace RL := RL.q hq8
            replace HD := HD.q hq8
            have O0 := (OwnK.zero hown8).mono (show w.heap.size ≤ w7.heap.size by omega)
            have F1 := (RL.st4 (.int .i64 x) (.int .i64 y) (.int .i64 z) (.int .i64 u)).cell
            refine bodyPost_ret (v := .tuple #[.agg #[.int .i64 x, .int .i64 y, .int .i64 z, .int .i64 u], .slice (some ⟨w7.heap.size, 0, none⟩) 16 16, .int .i64 t]) (by simp [results, Try.results30, go_sem, F1]) rfl ⟨x, y, z, u, _, 16, 16, List.replicate 16 ⟨none, 0, 0, []⟩, t, rfl, ?_, by decide, ?_, ?_⟩
            · have O5 := (((O0.setFar RL (by decide) (by decide) 0 (.int .i64 x)).setFar (RL.set_ 0 (.int .i64 x)) (by decide) (by decide) 1 (.int .i64 y)).setFar ((RL.set_ 0 (.int .i64 x)).set_ 1 (.int .i64 y)) (by decide) (by decide) 2 (.int .i64 z)).setFar (((RL.set_ 0 (.int .i64 x)).set_ 1 (.int .i64 y)).set_ 2 (.int .i64 z)) (by decide) (by decide) 3 (.int .i64 u)
              with_reducible exact O5
            · exact DrT.dr (ws := w) (by (repeat (first | with_reducible exact HD | with_reducible refine DrT.alloc ?_ _ | with_reducible refine DrT.drew ?_ | with_reducible refine DrT.set ?_ (by first | omega | (simp; omega)) _)))
            · exact DrT.gr (w0 := w0) (g := g) (A := A) (n := n) (c := c) (by (repeat (first | with_reducible exact HD | with_reducible refine DrT.alloc ?_ _ | with_reducible refine DrT.drew ?_ | with_reducible refine DrT.set ?_ (by first | omega | (simp; omega)) _)))
          · go_wp2_with (at_make; refine wpList_make_full _ rfl _ _ 45 rfl w7.heap.size 30 i0 (.agg #[.slice none 0 0]) 1 Try.underlying45 hi hz0 hz1 .i64 .i64 17 17 17 rfl rfl rfl rfl (by rw [hz2]; omega) (by decide) (Nat.le_refl _) ?_; intro w8 hown8 hgrow; have hq8 : Q w7 w8 := (Q.refl w7).grown hgrow (by simp); have cL8 := (BL.q hq8).cell; have lL8 := (BL.q hq8).lt; have cR8 := (RL.q hq8).cell; have fR8 := (RL.q hq8).frozen; have lR8 := (RL.q hq8).lt)
            rw [show (madeCells (Value.agg #[.slice none 0 0]).cells (17 * 1)).toList = _ from made_one _ _, Nat.mul_one] at hown8
            replace RL := RL.q hq8
            replace HD := HD.q hq8
            have O0 := (OwnK.zero hown8).mono (show w.heap.size ≤ w7.heap.size by omega)
            have F1 := (RL.st4 (.int .i64 x) (.int .i64 y) (.int .i64 z) (.int .i64 u)).cell
            refine bodyPost_ret (v := .tuple #[.agg #[.int .i64 x, .int .i64 y, .int .i64 z, .int .i64 u], .slice (some ⟨w7.heap.size, 0, none⟩) 17 17, .int .i64 t]) (by simp [results, Try.results30, go_sem, F1]) rfl ⟨x, y, z, u, _, 17, 17, List.replicate 17 ⟨none, 0, 0, []⟩, t, rfl, ?_, by decide, ?_, ?_⟩
            · have O5 := (((O0.setFar RL (by decide) (by decide) 0 (.int .i64 x)).setFar (RL.set_ 0 (.int .i64 x)) (by decide) (by decide) 1 (.int .i64 y)).setFar ((RL.set_ 0 (.int .i64 x)).set_ 1 (.int .i64 y)) (by decide) (by decide) 2 (.int .i64 z)).setFar (((RL.set_ 0 (.int .i64 x)).set_ 1 (.int .i64 y)).set_ 2 (.int .i64 z)) (by decide) (by decide) 3 (.int .i64 u)
              with_reducible exact O5
            · exact DrT.dr (ws := w) (by (repeat (first | with_reducible exact HD | with_reducible refine DrT.alloc ?_ _ | with_reducible refine DrT.drew ?_ | with_reducible refine DrT.set ?_ (by first | omega | (simp; omega)) _)))
            · exact DrT.gr (w0 := w0) (g := g) (A := A) (n := n) (c := c) (by (repeat (first | with_reducible exact HD | with_reducible refine DrT.alloc ?_ _ | with_reducible refine DrT.drew ?_ | with_reducible refine DrT.set ?_ (by first | omega | (simp; omega)) _)))
        · have b6 : (r6 == 0) = false := by simpa using h6
          clear hr6 h6
          go_wp2_with fail
          have F1 := (RL.st4 (.int .i64 x) (.int .i64 y) (.int .i64 z) (.int .i64 u)).cell
          refine bodyPost_ret (v := .tuple #[.agg #[.int .i64 x, .int .i64 y, .int .i64 z, .int .i64 u], .slice A1 q d1, .int .i64 t]) (by simp [results, Try.results30, go_sem, F1]) rfl ⟨x, y, z, u, A1, q, d1, ts, t, rfl, ?_, by omega, ?_, ?_⟩
          · have O5 := (((O0.setFar RL (by decide) (by decide) 0 (.int .i64 x)).setFar (RL.set_ 0 (.int .i64 x)) (by decide) (by decide) 1 (.int .i64 y)).setFar ((RL.set_ 0 (.int .i64 x)).set_ 1 (.int .i64 y)) (by decide) (by decide) 2 (.int .i64 z)).setFar (((RL.set_ 0 (.int .i64 x)).set_ 1 (.int .i64 y)).set_ 2 (.int .i64 z)) (by decide) (by decide) 3 (.int .i64 u)
            with_reducible exact O5
          · exact DrT.dr (ws := w) (by (repeat (first | with_reducible exact HD | with_reducible refine DrT.alloc ?_ _ | with_reducible refine DrT.drew ?_ | with_reducible refine DrT.set ?_ (by first | omega | (simp; omega)) _)))
          · exact DrT.gr (w0 := w0) (g := g) (A := A) (n := n) (c := c) (by (repeat (first | with_reducible exact HD | with_reducible refine DrT.alloc ?_ _ | with_reducible refine DrT.drew ?_ | with_reducible refine DrT.set ?_ (by first | omega | (simp; omega)) _)))
def DrawSs (wz : World) (e : Ending) (w' : World) : Prop := ∃ (x y z u : Int) (B : Option Addr) (m d : Nat) (D : List (Nat × List Int)) (t f : Int), e = .returned (.tuple #[.agg #[.int .i64 x, .int .i64 y, .int .i64 z, .int .i64 u], .slice B m d, .int .i64 t, .int .i64 f]) ∧ RdD w' B D ∧ D.length = m ∧ m ≤ 17 ∧ Q wz w'
set_option maxRecDepth 100000 in
set_option maxHeartbeats 16000000 in
theorem spec_DrawStartsOf (A : Option Addr) (n c : Nat) (wz : World) (ha : Rd8 wz A n) (hn : n ≤ 140737488355327) : Calls Try.prog 12 #[.slice A n c] wz (DrawSs wz) := by
  have RL := Blk.new wz 27 #[.int .i64 0, .int .i64 0, .int .i64 0, .int .i64 0]
  have Z0 : Q wz (wz.alloc (.cells #[.int .i64 0, .int .i64 0, .int .i64 0, .int .i64 0] 27)) := by (repeat (first | assumption | exact Q.refl _ | refine Q.alloc ?_ _ | refine Q.drewN ?_ _ | refine Q.drew ?_))
  have zz : (wz.alloc (.cells #[.int .i64 0, .int .i64 0, .int .i64 0, .int .i64 0] 27)).heap.size = wz.heap.size + 1 := by simp
  go_enter Try.func12, Try.ntmps12
  go_wp2_with (go_at_call 18; refine (spec_From A n c _ (ha.q (by (repeat (first | assumption | exact Q.refl _ | refine Q.alloc ?_ _ | refine Q.drewN ?_ _ | refine Q.drew ?_)))) hn).mono ?_; rintro e w ⟨rfl, D0⟩)
  generalize wz.alloc (.cells #[.int .i64 0, .int .i64 0, .int .i64 0, .int .i64 0] 27) = w0 at *
  rw [zz] at D0
  obtain ⟨g, hg⟩ : ∃ g, g = wz.heap.size + 1 := ⟨_, rfl⟩
  rw [← hg] at D0
  have HD := DrT.start D0
  have hlt := HD.glt
  replace RL := RL.q D0.q
  have hgr : wz.heap.size < g := by omega
  go_wp2_with fail
  rw [← hg]
  have hwz : wz.heap.size < w.heap.size := by omega
  clear hg zz
  refine (spec_l14DrawAll D0 hn).mono ?_
  rintro e wa ⟨x, y, z, u, B, m, d, ts, t, rfl, hown, hm, D1, G1⟩
  replace HD := HD.step D1 G1
  replace RL := RL.keepG G1 (by omega)
  clear D0 D1 G1
  have hsz := HD.size
  have BL := Blk.new wa 27 #[.int .i64 x, .int .i64 y, .int .i64 z, .int .i64 u]
  replace HD := HD.alloc (.cells #[.int .i64 x, .int .i64 y, .int .i64 z, .int .i64 u] 27)
  replace RL := RL.alloc (.cells #[.int .i64 x, .int .i64 y, .int .i64 z, .int .i64 u] 27)
  replace hown := hown.q ((Q.refl wa).alloc (.cells #[.int .i64 x, .int .i64 y, .int .i64 z, .int .i64 u] 27))
  obtain ⟨b, hb⟩ : ∃ b, b = wa.heap.size := ⟨_, rfl⟩
  rw [← hb] at BL
  go_upto_region 3 with (fail)
  rw [← hb]
  generalize wa.alloc (.cells #[.int .i64 x, .int .i64 y, .int .i64 z, .int .i64 u] 27) = wb at *
  have hbw : w.heap.size ≤ b := by omega
  clear hb hsz
  have cL := BL.cell
  have lL := BL.lt
  have fRL := RL.frozen
  have lRL := RL.lt
  have cRL := RL.cell
  go_region_with (first | (have qq := G2; (go_at_call 20; refine (spec_Next (w0 := w0) (A := A) (n := n) (c := c) _ (DrT.dr (ws := w) (by ((repeat (first | exact HD | refine DrT.alloc ?_ _ | refine DrT.drewN ?_ _ | refine DrT.drew ?_ | refine DrT.set ?_ (by first | omega | (simp; omega)) _))))) hn).mono ?_; rintro e3 w3 ⟨r3, rfl, hr3, D3, G3⟩; have HD := DrT.step (ws := w) (by ((repeat (first | exact HD | refine DrT.alloc ?_ _ | refine DrT.drewN ?_ _ | refine DrT.drew ?_ | refine DrT.set ?_ (by first | omega | (simp; omega)) _)))) D3 G3; have z3 := HD.size; have RL := Blk.keepG (g := g) (RL.q (by (repeat (first | assumption | exact Q.refl _ | refine Q.alloc ?_ _ | refine Q.drewN ?_ _ | refine Q.drew ?_)))) G3 (by omega); have cRL := RL.cell; have fRL := RL.frozen; have lRL := RL.lt; have BL := Blk.keepG (g := g) (BL.q (by (repeat (first | assumption | exact Q.refl _ | refine Q.alloc ?_ _ | refine Q.drewN ?_ _ | refine Q.drew ?_)))) G3 (by omega); have cBL := BL.cell; have fBL := BL.frozen; have lBL := BL.lt); have hown := (hown.q (by (repeat (first | assumption | exact Q.refl _ | refine Q.alloc ?_ _ | refine Q.drewN ?_ _ | refine Q.drew ?_)))).keepD G3 hlt) | ((go_at_call 20; refine (spec_Next (w0 := w0) (A := A) (n := n) (c := c) _ (DrT.dr (ws := w) (by ((repeat (first | exact HD | refine DrT.alloc ?_ _ | refine DrT.drewN ?_ _ | refine DrT.drew ?_ | refine DrT.set ?_ (by first | omega | (simp; omega)) _))))) hn).mono ?_; rintro e2 w2 ⟨r2, rfl, hr2, D2, G2⟩; have HD := DrT.step (ws := w) (by ((repeat (first | exact HD | refine DrT.alloc ?_ _ | refine DrT.drewN ?_ _ | refine DrT.drew ?_ | refine DrT.set ?_ (by first | omega | (simp; omega)) _)))) D2 G2; have z2 := HD.size; have RL := Blk.keepG (g := g) (RL.q (by (repeat (first | assumption | exact Q.refl _ | refine Q.alloc ?_ _ | refine Q.drewN ?_ _ | refine Q.drew ?_)))) G2 (by omega); have cRL := RL.cell; have fRL := RL.frozen; have lRL := RL.lt; have BL := Blk.keepG (g := g) (BL.q (by (repeat (first | assumption | exact Q.refl _ | refine Q.alloc ?_ _ | refine Q.drewN ?_ _ | refine Q.drew ?_)))) G2 (by omega); have cBL := BL.cell; have fBL := BL.frozen; have lBL := BL.lt); have hown := (hown.q (by (repeat (first | assumption | exact Q.refl _ | refine Q.alloc ?_ _ | refine Q.drewN ?_ _ | refine Q.drew ?_)))).keepD G2 hlt))
  all_goals go_wp2_with fail
  all_goals
    have F1 := (RL.st4 (.int .i64 x) (.int .i64 y) (.int .i64 z) (.int .i64 u)).cell
    have O5 := (((hown.setFar RL (by decide) (by decide) 0 (.int .i64 x)).setFar (RL.set_ 0 (.int .i64 x)) (by decide) (by decide) 1 (.int .i64 y)).setFar ((RL.set_ 0 (.int .i64 x)).set_ 1 (.int .i64 y)) (by decide) (by decide) 2 (.int .i64 z)).setFar (((RL.set_ 0 (.int .i64 x)).set_ 1 (.int .i64 y)).set_ 2 (.int .i64 z)) (by decide) (by decide) 3 (.int .i64 u)
    have Q3 := Z0.trans HD.dr.q
    have Q5 := (((Q3.setCell (p := ⟨wz.heap.size, 0, none⟩) (Nat.le_refl _) (.int .i64 x)).setCell (p := ⟨wz.heap.size, 1, none⟩) (Nat.le_refl _) (.int .i64 y)).setCell (p := ⟨wz.heap.size, 2, none⟩) (Nat.le_refl _) (.int .i64 z)).setCell (p := ⟨wz.heap.size, 3, none⟩) (Nat.le_refl _) (.int .i64 u)
    refine bodyPost_ret (v := .tuple #[.agg #[.int .i64 x, .int .i64 y, .int .i64 z, .int .i64 u], .slice B m d, .int .i64 t, .int .i64 (IntKind.i64.wrap (r2 + IntKind.i64.wrap (r3.tdiv 29)))]) (by simp [results, Try.results12, go_sem, F1]) rfl ⟨x, y, z, u, B, m, d, ts.map Tk.dat, t, _, rfl, ?_, ?_, hm, ?_⟩
    · with_reducible exact OwnK.rd O5
    · simpa using hown.len
    · with_reducible exact Q5
end Go.Proofs.Ytpdcehmnegagmaa
