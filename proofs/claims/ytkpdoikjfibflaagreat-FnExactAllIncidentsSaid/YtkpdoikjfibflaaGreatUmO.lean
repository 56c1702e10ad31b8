/- Words and walks: the incidents of two tracks, as the reference makes them. No condition. Words: the incidents of all pairs of tracks (plain). No condition. Words: append of all that another row of the call's own holds, within a region or not. No condition. Words: the times of incidents lie within the times of the tracks (plain). No condition. -/
import Derived.Test.YtkpdoikjfibflaaGreatUmK
import Derived.Test.YtkpdoikjfibflaaGreatUmP
import Derived.Test.YtkpdoikjfibflaaGreatTdsT
import Derived.Test.YtkpdoikjfibflaaGreatSoE
namespace Go.Proofs.YtkpdoikjfibflaaGreat
open Go.RowKit Go.WideShapes Go.ChangeShapes
def ioC (wx wy a b d s : Int) (xs : List Int) (n : Nat) (ys : List Int) (m : Nat) : Int := if wnB wx wy = true then ctimC a b d s xs n ys m else 1
def ioL (wx wy a b d s : Int) (xs : List Int) (n : Nat) (ys : List Int) (m : Nat) : List Int := if wnB wx wy = true ∧ ctimC a b d s xs n ys m = 0 then inL wx wy a b d xs n ys m 0 1 (ctimL a b d s xs n ys m) else []
theorem ioL_len (wx wy a b d s : Int) (xs : List Int) (n : Nat) (ys : List Int) (m : Nat) : ∃ c, c ≤ 401 ∧ (ioL wx wy a b d s xs n ys m).length = c * 5 := by
  unfold ioL
  split
  · obtain ⟨c, h1, h2⟩ := inL_len wx wy a b d xs n ys m 0 1 (ctimL a b d s xs n ys m)
    exact ⟨c, Nat.le_trans h1 (ctimL_len a b d s xs n ys m), h2⟩
  · exact ⟨0, by omega, rfl⟩
set_option maxHeartbeats 2000000 in
theorem spec_IncidentsOf (wx wy a b d s : Int) (A1 : Option Addr) (n c1 : Nat) (xs : List Int) (A2 : Option Addr) (m c2 : Nat) (ys : List Int) (w : World) (ha : Rd w A1 xs) (hn : xs.length = n * 3) (hn2 : n ≤ 9223372036854775807) (hb : Rd w A2 ys) (hm : ys.length = m * 3) (hm2 : m ≤ 9223372036854775807) :
    Calls Tryz.prog 7 #[.agg #[.int .i64 wx, .int .i64 wy], .agg #[.int .i64 a, .int .i64 b, .int .i64 d, .int .i64 s], .agg #[.slice A1 n c1], .agg #[.slice A2 m c2]] w (RS w 55 5 ((ioL wx wy a b d s xs n ys m).length / 5) (ioL wx wy a b d s xs n ys m) (ioC wx wy a b d s xs n ys m)) := by
  have k1 := fun wv => spec_IsWind wx wy wv
  have K2 := Lib.hid (fun wv (h1 : Rd wv A1 xs) (h2 : Rd wv A2 ys) => spec_CheckTimes a b d s A1 n c1 xs A2 m c2 ys wv h1 hn hn2 h2 hm hm2)
  obtain ⟨B0, B1, B2, B3⟩ := bxI w wx wy a b d s A1 n c1 A2 m c2
  have Q0 : Q w ((((w.alloc (.cells #[.int .i64 wx, .int .i64 wy] 33)).alloc (.cells #[.int .i64 a, .int .i64 b, .int .i64 d, .int .i64 s] 35)).alloc (.cells #[.slice A1 n c1] 39)).alloc (.cells #[.slice A2 m c2] 39)) := by (repeat (first | assumption | exact Q.refl _ | refine Q.alloc ?_ _ | refine Q.drewN ?_ _ | refine Q.drew ?_))
  cases hw : wnB wx wy
  · have e1 : ioC wx wy a b d s xs n ys m = 1 := by unfold ioC; rw [hw]; rfl
    have e2 : ioL wx wy a b d s xs n ys m = [] := by unfold ioL; rw [hw, if_neg (by simp)]
    rw [e1, e2]
    rw [hw] at k1
    have K1 := Lib.hid k1
    clear k1 e1 e2 hw
    go_enter Tryz.func7, Tryz.ntmps7
    go_wp2_with fail
    refine (K1.out _).mono ?_
    rintro e w1 ⟨rfl, q1⟩
    go_wp2_with fail
    go_ret2
    exact RS.nil _ _ _ _ _ (Q0.trans q1)
  · have e1 : ioC wx wy a b d s xs n ys m = ctimC a b d s xs n ys m := by unfold ioC; rw [hw]; rfl
    rw [e1]
    rw [hw] at k1
    have K1 := Lib.hid k1
    by_cases hC : ctimC a b d s xs n ys m = 0
    · obtain ⟨hx, h1, h2⟩ := ctim_yes hC
      have e2 : ioL wx wy a b d s xs n ys m = inL wx wy a b d xs n ys m 0 1 (ctimL a b d s xs n ys m) := by unfold ioL; rw [if_pos ⟨hw, hC⟩]
      have hlen := ctimL_len a b d s xs n ys m
      rw [e2]
      rw [hC] at K2 ⊢
      have K3 := Lib.hid (fun (AT : Option Addr) (N cT : Nat) wv hL hN h401 h1' h2' => spec_incidents wx wy a b d s AT N cT (ctimL a b d s xs n ys m) A1 n c1 xs A2 m c2 ys 0 1 wv (wnB_wnd hw) hw hx hL hN h401 h1' hn h1 h2' hm h2)
      have HL := Lib.hid (inL_len wx wy a b d xs n ys m 0 1 (ctimL a b d s xs n ys m))
      clear k1 e1 e2 hw hC hx h1 h2
      generalize inL wx wy a b d xs n ys m 0 1 (ctimL a b d s xs n ys m) = IL at *
      generalize ctimL a b d s xs n ys m = L at *
      go_enter Tryz.func7, Tryz.ntmps7
      go_wp2_with fail
      refine (K1.out _).mono ?_
      rintro e w1 ⟨rfl, q1⟩
      replace B0 := B0.q q1
      replace B1 := B1.q q1
      replace B2 := B2.q q1
      replace B3 := B3.q q1
      replace Q0 := Q0.trans q1
      have c1' := B1.cell
      have c2' := B2.cell
      have c3' := B3.cell
      have l1' := B1.lt
      have l2' := B2.lt
      have l3' := B3.lt
      go_wp2_with fail
      refine (K2.out _ (ha.q Q0) (hb.q Q0)).mono ?_
      rintro e w2 ⟨A, cc, rfl, ho, q2⟩
      replace B0 := B0.q q2
      replace B1 := B1.q q2
      replace B2 := B2.q q2
      replace B3 := B3.q q2
      replace Q0 := Q0.trans q2
      clear c1' c2' c3' l1' l2' l3'
      have c0' := B0.cell
      have c1' := B1.cell
      have c2' := B2.cell
      have c3' := B3.cell
      have l0' := B0.lt
      have l1' := B1.lt
      have l2' := B2.lt
      have l3' := B3.lt
      go_wp2_with fail
      refine (K3.out A L.length cc _ ho.rd rfl hlen (ha.q Q0) (hb.q Q0)).mono ?_
      rintro e w3 ⟨A5, c5, rfl, o5, q5⟩
      go_wp2_with fail
      go_ret2
      obtain ⟨k, _, h5⟩ := HL.out
      exact RS.mk' (o5.mono Q0.size) (Q0.trans q5) (by rw [h5]; omega) (by decide)
    · have e2 : ioL wx wy a b d s xs n ys m = [] := by unfold ioL; rw [if_neg (fun h => hC h.2)]
      have hL := ctim_no hC
      rw [e2]
      rw [hL] at K2
      clear k1 e1 e2 hw hL
      generalize ctimC a b d s xs n ys m = C at *
      have hCb : (C == 0) = false := by simpa using hC
      go_enter Tryz.func7, Tryz.ntmps7
      go_wp2_with fail
      refine (K1.out _).mono ?_
      rintro e w1 ⟨rfl, q1⟩
      replace B1 := B1.q q1
      replace B2 := B2.q q1
      replace B3 := B3.q q1
      replace Q0 := Q0.trans q1
      have c1' := B1.cell
      have c2' := B2.cell
      have c3' := B3.cell
      have l1' := B1.lt
      have l2' := B2.lt
      have l3' := B3.lt
      go_wp2_with fail
      refine (K2.out _ (ha.q Q0) (hb.q Q0)).mono ?_
      rintro e w2 ⟨A, cc, rfl, ho, q2⟩
      go_wp2_with fail
      go_ret2
      exact RS.nil _ _ _ _ _ (Q0.trans q2)
end Go.Proofs.YtkpdoikjfibflaaGreat
namespace Go.Proofs.YtkpdoikjfibflaaGreat
open Go.RowKit Go.WideShapes Go.ChangeShapes
/-- The check times of two tracks. -/
def kTm (s : Int) (D : List (Nat × List Int)) (i k : Nat) : Option (List Int) := ckGo s (ckTo (dx D i) (dn D i) (dx D k) (dn D k)) 401 (ckFrom s (dx D i) (dx D k))
def prL (wx wy a b d : Int) (D : List (Nat × List Int)) (i k : Nat) (T : List Int) : List Int := inL wx wy a b d (dx D i) (dn D i) (dx D k) (dn D k) i k T
/-- The incidents of track i with the j tracks behind it, if all have their check times. -/
def aiIn (wx wy a b d s : Int) (D : List (Nat × List Int)) (i : Nat) : Nat → Option (List Int)
  | 0 => some []
  | j + 1 => match aiIn wx wy a b d s D i j, kTm s D i (i + 1 + j) with
    | some L, some T => some (L ++ prL wx wy a b d D i (i + 1 + j) T)
    | _, _ => none
/-- The incidents of the first i tracks with those behind them, of n. -/
def aiTo (wx wy a b d s : Int) (D : List (Nat × List Int)) (n : Nat) : Nat → Option (List Int)
  | 0 => some []
  | i + 1 => match aiTo wx wy a b d s D n i, aiIn wx wy a b d s D i (n - 1 - i) with
    | some L, some M => some (L ++ M)
    | _, _ => none
section
variable {wx wy a b d s : Int} {D : List (Nat × List Int)} {i n : Nat}
theorem aiIn_yes {j : Nat} {L T : List Int} (h : aiIn wx wy a b d s D i j = some L) (hT : kTm s D i (i + 1 + j) = some T) : aiIn wx wy a b d s D i (j + 1) = some (L ++ prL wx wy a b d D i (i + 1 + j) T) := by
  rw [aiIn, h, hT]
theorem aiIn_no {j : Nat} (hT : kTm s D i (i + 1 + j) = none) : aiIn wx wy a b d s D i (j + 1) = none := by
  rw [aiIn, hT]
  cases aiIn wx wy a b d s D i j <;> rfl
theorem aiIn_none {j : Nat} (h : aiIn wx wy a b d s D i j = none) : ∀ e, aiIn wx wy a b d s D i (j + e) = none
  | 0 => h
  | e + 1 => by
    show aiIn wx wy a b d s D i (j + e + 1) = none
    rw [aiIn, aiIn_none h e]
theorem aiTo_yes {L M : List Int} (h : aiTo wx wy a b d s D n i = some L) (hM : aiIn wx wy a b d s D i (n - 1 - i) = some M) : aiTo wx wy a b d s D n (i + 1) = some (L ++ M) := by
  rw [aiTo, h, hM]
theorem aiTo_no (hM : aiIn wx wy a b d s D i (n - 1 - i) = none) : aiTo wx wy a b d s D n (i + 1) = none := by
  rw [aiTo, hM]
  cases aiTo wx wy a b d s D n i <;> rfl
theorem aiTo_none (h : aiTo wx wy a b d s D n i = none) : ∀ e, aiTo wx wy a b d s D n (i + e) = none
  | 0 => h
  | e + 1 => by
    show aiTo wx wy a b d s D n (i + e + 1) = none
    rw [aiTo, aiTo_none h e]
theorem ai_fail {j : Nat} (hT : kTm s D i (i + 1 + j) = none) (hj : i + 1 + j < n) : aiTo wx wy a b d s D n n = none := by
  have h1 := aiIn_none (aiIn_no (wx := wx) (wy := wy) (a := a) (b := b) (d := d) hT) (n - 1 - i - (j + 1))
  rw [show j + 1 + (n - 1 - i - (j + 1)) = n - 1 - i by omega] at h1
  have h2 := aiTo_none (aiTo_no h1) (n - (i + 1))
  rw [show i + 1 + (n - (i + 1)) = n by omega] at h2
  exact h2
end
theorem prL_len (wx wy a b d : Int) (D : List (Nat × List Int)) (i k : Nat) (T : List Int) : ∃ c, c ≤ T.length ∧ (prL wx wy a b d D i k T).length = c * 5 := inL_len _ _ _ _ _ _ _ _ _ _ _ _
theorem kTm_len {s : Int} {D : List (Nat × List Int)} {i k : Nat} {T : List Int} (h : kTm s D i k = some T) : T.length ≤ 401 := ckGo_len 401 _ T h
/-- The code and the list of the incidents of all tracks. -/
def allT (D : List (Nat × List Int)) : Bool := (List.range D.length).all fun k => isTrk (dx D k) (dn D k)
def aiC (wx wy a b d s : Int) (D : List (Nat × List Int)) : Int :=
  if 16 < D.length then 3 else if wnB wx wy = true ∧ isWat a b d s = true ∧ allT D = true then (match aiTo wx wy a b d s D D.length D.length with | none => 3 | some _ => 0) else 1
def aiL (wx wy a b d s : Int) (D : List (Nat × List Int)) : List Int :=
  if aiC wx wy a b d s D = 0 then (match aiTo wx wy a b d s D D.length D.length with | none => [] | some X => srtL X (X.length / 5)) else []
theorem allT_at {D : List (Nat × List Int)} (h : allT D = true) {k : Nat} (hk : k < D.length) : isTrk (dx D k) (dn D k) = true := by
  unfold allT at h
  exact List.all_eq_true.1 h k (List.mem_range.2 hk)
theorem allT_ts {ts : List Tk} : allT (ts.map Tk.dat) = ts.all Tk.trk := by
  unfold allT
  rw [List.length_map]
  have e : ∀ k (hk : k < ts.length), isTrk (dx (ts.map Tk.dat) k) (dn (ts.map Tk.dat) k) = ts[k].trk := fun k hk => by
    have hd : (ts.map Tk.dat).getD k (0, []) = ts[k].dat := by rw [List.getD_eq_getElem?_getD, List.getElem?_map, List.getElem?_eq_getElem hk]; rfl
    unfold dn dx
    rw [hd]
    rfl
  cases h : ts.all Tk.trk
  · obtain ⟨T, hT, hn⟩ := List.all_eq_false.1 h
    obtain ⟨k, hk, rfl⟩ := List.mem_iff_getElem.1 hT
    refine List.all_eq_false.2 ⟨k, List.mem_range.2 hk, ?_⟩
    rw [e k hk]
    exact hn
  · refine List.all_eq_true.2 fun k hk => ?_
    have hk' := List.mem_range.1 hk
    rw [e k hk']
    exact List.all_eq_true.1 h _ (List.getElem_mem hk')
end Go.Proofs.YtkpdoikjfibflaaGreat
namespace Go.Proofs.YtkpdoikjfibflaaGreat
open Go.RowKit Go.WideShapes Go.ChangeShapes
theorem run_appOwn {wr : World} {st ty e : TypeId} {k : Nat} (E : EltT st e k) {B B2 : Nat} {A A2 : Option Addr} {n c m d : Nat} {xs ys : List Int} (hown : Own wr B e k (.slice A n c) n xs) (hown2 : Own wr B2 e k (.slice A2 m d) m ys)
    (hn : n + m ≤ 1073741823) (hB : B ≤ wr.heap.size) : ∃ A' c' w', (Builtin.append_ #[st, st] ty #[.slice A n c, .slice A2 m d]).run Tryz.prog wr = .ok (.slice A' (n + m) c') w' ∧ Own w' B e k (.slice A' (n + m) c') (n + m) (xs ++ ys) ∧ wr.grownBy w' (A.map (·.block)) ∧ (A ≠ none → A' ≠ none) := by
  obtain ⟨i, z, hu, hi, hz0, hz1, hz2, hz3, hk⟩ := E
  rcases hown2.2 with ⟨h1, h0⟩ | ⟨g, cap, cur, h1, _⟩
  · injection h1 with e1 e2 e3
    subst e1 e2 e3
    have hy : ys = [] := List.eq_nil_of_length_eq_zero (by have := hown2.len; omega)
    subst hy
    exact ⟨A, c, wr, by simpa using run_append_owned_none wr B st ty e i k hu hi _ n _ hown, by simpa using hown, grown_refl _ _, fun h => h⟩
  · injection h1 with e1 e2 e3
    subst e1
    obtain ⟨v', w', hrun, ho', hg, _, hat⟩ := run_append_own_at (P := Tryz.prog) wr B st ty e i z k i.bytes hu hi hz0 hz1 rfl (by rw [hz3]; simp) hk (.slice A n c) n _ hown
      ⟨g, 0, none⟩ m d (ys.map (Value.int .i64)) (by simpa using hown2.len) (by
        intro j u hu
        rw [List.getElem?_map] at hu
        have hj : j < ys.length := by
          rcases Nat.lt_or_ge j ys.length with h | h
          · exact h
          · rw [List.getElem?_eq_none h] at hu; cases hu
        have hl := hown2.len
        have hc := hown2.cell (j := j) (by omega)
        rw [Go.WideShapes.add_plain, Nat.zero_add, hc, List.getD_eq_getElem?_getD]
        rw [List.getElem?_eq_getElem hj] at hu ⊢
        simpa using hu) (ints_one ys) (by unfold maxLen; omega) (by
        have : (n + m) * i.bytes ≤ 1073741824 * 65536 := Nat.mul_le_mul (by omega) hz2
        omega) (by omega)
    rw [← List.map_append] at ho'
    have hO : Own w' B e k v' (n + m) (xs ++ ys) := ho'
    obtain ⟨_, A', c', rfl, _, _⟩ := hO.form
    refine ⟨A', c', w', hrun, hO, by cases A <;> exact hg, fun hA hA' => ?_⟩
    subst hA'
    rcases hat with h | h
    · cases A with
      | none => exact hA rfl
      | some _ => simp [Value.ownBlock] at h
    · simp [Value.ownBlock] at h
theorem step_appOwn {wr : World} {ops : Array Oper} {o : Oper} {a : Act} {K : Act → World → Prop} {Q' : Exit → Act → World → Prop} {E' : Prop} {st e : TypeId} {k : Nat} (E : EltT st e k) (hgd : o.guard = none) (s x : Operand)
    (ho : o.op = .call { callee := .builtin .append, args := #[s, x], argTypes := #[st, st] })
    {B B2 : Nat} {A A2 : Option Addr} {n c m d : Nat} {xs ys : List Int} (hs : a.eval s = .slice A n c) (hown : Own wr B e k (.slice A n c) n xs) (hx : a.eval x = .slice A2 m d) (hown2 : Own wr B2 e k (.slice A2 m d) m ys) (hn : n + m ≤ 1073741823) (hB : B ≤ wr.heap.size)
    (h : ∀ A' c' w', Own w' B e k (.slice A' (n + m) c') (n + m) (xs ++ ys) → wr.grownBy w' (A.map (·.block)) → (A ≠ none → A' ≠ none) → K (a.put o.dst (.slice A' (n + m) c')) w') :
    if Region.wanted o (yielded ops a.tmps) = true then Oper.wp Tryz.prog o a wr K Q' else E' := by
  rw [if_pos (by simp [Region.wanted, hgd])]
  obtain ⟨A', c', w', hrun, h1, h2, h3⟩ := run_appOwn (ty := o.type) E hown hown2 hn hB
  unfold Oper.wp execOp
  simp only [ho, resolve, invoke, builtin, Sem.run_bind, Sem.run_pure, Result.andThen_ok, List.map_toArray, List.map_cons, List.map_nil, hs, hx, hrun]
  exact h A' c' w' h1 h2 h3
theorem impl_areD (A : Option Addr) (n c : Nat) (D : List (Nat × List Int)) (w : World) (ha : RdD w A D) (hD : D.length = n) (hn2 : n ≤ 9223372036854775807) :
    Calls Tryz.prog 52 #[.slice A n c] w fun e w' => e = .returned (.bool (allT D)) ∧ Q w w' := by
  obtain ⟨ts, h1, rfl⟩ := ha
  rw [allT_ts]
  exact impl_areTracks A n c ts w h1 (by simpa using hD) hn2
end Go.Proofs.YtkpdoikjfibflaaGreat
namespace Go.Proofs.YtkpdoikjfibflaaGreat
open Go.RowKit Go.WideShapes Go.ChangeShapes
/-- Rows of five, whose first numbers are times. -/
def PK (L : List Int) : Prop := ∃ c, L.length = c * 5 ∧ ∀ r, r < c → 0 ≤ el L (r * 5) ∧ el L (r * 5) ≤ 1000000000
theorem PK.nil : PK [] := ⟨0, rfl, fun r h => by omega⟩
theorem PK.app {L M : List Int} (h : PK L) (h' : PK M) : PK (L ++ M) := by
  obtain ⟨c, h1, h2⟩ := h
  obtain ⟨e, h3, h4⟩ := h'
  refine ⟨c + e, by rw [List.length_append, h1, h3]; omega, fun r hr => ?_⟩
  by_cases hc : r < c
  · rw [el_app_lt (by omega)]; exact h2 r hc
  · have := el_app_ge (L := L) (E := M) (j := (r - c) * 5)
    rw [h1, show c * 5 + (r - c) * 5 = r * 5 by omega] at this
    rw [this]
    exact h4 _ (by omega)
theorem PK.kb {L : List Int} (h : PK L) : KB L (L.length / 5) := by
  obtain ⟨c, h1, h2⟩ := h
  intro i hi
  exact h2 i (by omega)
theorem ckGo_in {s u : Int} (hs : 1 ≤ s) : ∀ (f : Nat) (t : Int) (L : List Int), ckGo s u f t = some L → ∀ x ∈ L, t ≤ x ∧ x ≤ u
  | 0, _, _, h => by cases h
  | f + 1, t, L, h => by
    unfold ckGo at h
    split at h
    · cases hg : ckGo s u f (t + s) with
      | none => rw [hg] at h; cases h
      | some M =>
        rw [hg] at h
        injection h with h
        subst h
        intro x hx
        rcases List.mem_cons.1 hx with rfl | hx
        · omega
        · have := ckGo_in hs f _ M hg x hx
          omega
    · injection h with h
      subst h
      intro x hx
      cases hx
theorem evR_head (r : Int × Int) (t f s : Int) : el (evR r t f s) 0 = t := by unfold evR; split <;> rfl
theorem icTo_PK {p : Int → Bool} {ev : Int → List Int} {L : List Int} (he : ∀ t, (ev t).length = 5) (hh : ∀ t, el (ev t) 0 = t) (hL : ∀ x ∈ L, 0 ≤ x ∧ x ≤ 1000000000) : ∀ k, k ≤ L.length → PK (icTo p ev L k)
  | 0, _ => PK.nil
  | k + 1, hk => by
    unfold icTo
    refine (icTo_PK he hh hL k (by omega)).app ?_
    unfold icK
    split
    · refine ⟨1, by rw [he], fun r hr => ?_⟩
      obtain rfl : r = 0 := by omega
      rw [Nat.zero_mul, hh, el_get (by omega)]
      exact hL _ (List.getElem_mem _)
    · exact PK.nil
theorem ck_bd {s : Int} {xs ys : List Int} {n m : Nat} (hs : 1 ≤ s) (h1 : isTrk xs n = true) (_h2 : isTrk ys m = true) : 0 ≤ ckFrom s xs ys ∧ ckTo xs n ys m ≤ 1000000000 := by
  have hn : 2 ≤ n := by
    have : (decide (2 ≤ n ∧ n ≤ 40) && fixTo xs n) = true := h1
    simp at this
    omega
  have a0 := (trk_at h1 (show 0 < n by omega)).1
  have a1 := (trk_at h1 (show n - 1 < n by omega)).1
  rw [Nat.zero_mul] at a0
  have f := ck_floor (f := max (el xs 0) (el ys 0)) hs (by omega)
  unfold ckFrom ckTo
  omega
theorem kTm_PK {wx wy a b d s : Int} {D : List (Nat × List Int)} {i k : Nat} {T : List Int} (hs : 1 ≤ s) (hi : isTrk (dx D i) (dn D i) = true) (hk : isTrk (dx D k) (dn D k) = true) (h : kTm s D i k = some T) : PK (prL wx wy a b d D i k T) := by
  refine icTo_PK (fun _ => evR_len _ _ _ _) (fun _ => evR_head _ _ _ _) (fun x hx => ?_) _ (Nat.le_refl _)
  have h1 := ckGo_in hs 401 _ T h x hx
  have h2 := ck_bd hs hi hk
  omega
theorem aiIn_PK {wx wy a b d s : Int} {D : List (Nat × List Int)} {i : Nat} (hs : 1 ≤ s) (hT : allT D = true) (hi : i < D.length) : ∀ (j : Nat) (L : List Int), i + 1 + j ≤ D.length → aiIn wx wy a b d s D i j = some L → PK L
  | 0, L, _, h => by injection h with h; subst h; exact PK.nil
  | j + 1, L, hj, h => by
    rw [aiIn] at h
    cases h1 : aiIn wx wy a b d s D i j with
    | none => rw [h1] at h; cases h
    | some L1 =>
      rw [h1] at h
      cases h2 : kTm s D i (i + 1 + j) with
      | none => rw [h2] at h; cases h
      | some T =>
        rw [h2] at h
        injection h with h
        subst h
        exact (aiIn_PK hs hT hi j L1 (by omega) h1).app (kTm_PK hs (allT_at hT hi) (allT_at hT (by omega)) h2)
theorem aiTo_PK {wx wy a b d s : Int} {D : List (Nat × List Int)} (hs : 1 ≤ s) (hT : allT D = true) : ∀ (i : Nat) (L : List Int), i ≤ D.length → aiTo wx wy a b d s D D.length i = some L → PK L
  | 0, L, _, h => by injection h with h; subst h; exact PK.nil
  | i + 1, L, hi, h => by
    rw [aiTo] at h
    cases h1 : aiTo wx wy a b d s D D.length i with
    | none => rw [h1] at h; cases h
    | some L1 =>
      rw [h1] at h
      cases h2 : aiIn wx wy a b d s D i (D.length - 1 - i) with
      | none => rw [h2] at h; cases h
      | some M =>
        rw [h2] at h
        injection h with h
        subst h
        exact (aiTo_PK hs hT i L1 (by omega) h1).app (aiIn_PK hs hT (by omega) _ M (by omega) h2)
end Go.Proofs.YtkpdoikjfibflaaGreat
