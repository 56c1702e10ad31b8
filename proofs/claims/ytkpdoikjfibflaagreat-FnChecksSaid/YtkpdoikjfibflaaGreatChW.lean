/- Plain facts: check times are multiples of the step, and the incidents stand at the near times that follow none. No condition. Walks: the law on check times and incidents. No condition. -/
import Derived.Test.YtkpdoikjfibflaaGreatUmT
import Derived.Test.YtkpdoikjfibflaaGreatDrI
import Derived.Test.YtkpdoikjfibflaaGreatDraw
namespace Go.Proofs.YtkpdoikjfibflaaGreat
theorem ckGo_0 {s u : Int} : ∀ (f : Nat) (t : Int) (L : List Int), ckGo s u f t = some L → 0 < L.length → el L 0 = t
  | 0, _, _, h, _ => by cases h
  | f + 1, t, L, h, hl => by
    unfold ckGo at h
    split at h
    · cases hg : ckGo s u f (t + s) with
      | none => rw [hg] at h; cases h
      | some M => rw [hg] at h; injection h with h; subst h; rfl
    · injection h with h; subst h; cases hl
theorem ckGo_st {s u : Int} : ∀ (f : Nat) (t : Int) (L : List Int), ckGo s u f t = some L → ∀ i, i + 1 < L.length → el L (i + 1) = el L i + s
  | 0, _, _, h, _, _ => by cases h
  | f + 1, t, L, h, i, hi => by
    unfold ckGo at h
    split at h
    · cases hg : ckGo s u f (t + s) with
      | none => rw [hg] at h; cases h
      | some M =>
        rw [hg] at h
        injection h with h
        subst h
        have hM : i < M.length := by simpa using hi
        have e1 : el (t :: M) (i + 1) = el M i := by simp [el]
        rw [e1]
        cases i with
        | zero => rw [ckGo_0 f _ M hg hM]; rfl
        | succ i =>
          have e2 : el (t :: M) (i + 1) = el M i := by simp [el]
          rw [e2]
          exact ckGo_st f _ M hg i hM
    · injection h with h; subst h; simp at hi
theorem ckGo_mul {s u : Int} : ∀ (f : Nat) (t : Int) (L : List Int), ckGo s u f t = some L → ∀ q, t = q * s → ∀ i, i < L.length → ∃ r, el L i = r * s
  | 0, _, _, h, _, _, _, _ => by cases h
  | f + 1, t, L, h, q, hq, i, hi => by
    unfold ckGo at h
    split at h
    · cases hg : ckGo s u f (t + s) with
      | none => rw [hg] at h; cases h
      | some M =>
        rw [hg] at h
        injection h with h
        subst h
        cases i with
        | zero => exact ⟨q, hq⟩
        | succ i =>
          have e2 : el (t :: M) (i + 1) = el M i := by simp [el]
          rw [e2]
          exact ckGo_mul f _ M hg (q + 1) (by rw [hq, Int.add_mul, Int.one_mul]) i (by simpa using hi)
    · injection h with h; subst h; cases hi
theorem icTo_pre {p : Int → Bool} {ev : Int → List Int} {T : List Int} (i : Nat) : ∀ j, ∃ R, icTo p ev T (i + j) = icTo p ev T i ++ R
  | 0 => ⟨[], by simp⟩
  | j + 1 => by
    obtain ⟨R, h⟩ := icTo_pre (p := p) (ev := ev) (T := T) i j
    refine ⟨R ++ icK p ev T (i + j), ?_⟩
    show icTo p ev T (i + j) ++ icK p ev T (i + j) = _
    rw [h, List.append_assoc]
/-- How many incidents stand at the first k times. -/
def icN (p : Int → Bool) (ev : Int → List Int) (T : List Int) (k : Nat) : Nat := (icTo p ev T k).length / 5
theorem icN_no {p : Int → Bool} {ev : Int → List Int} {T : List Int} {k : Nat} (h : icK p ev T k = []) : icN p ev T (k + 1) = icN p ev T k := by
  unfold icN
  rw [icTo, h, List.append_nil]
theorem icN_yes {p : Int → Bool} {ev : Int → List Int} {T : List Int} (he : ∀ t, (ev t).length = 5) (hh : ∀ t, el (ev t) 0 = t) {k : Nat} (hk : k < T.length) (h : icK p ev T k = ev (el T k)) :
    icN p ev T (k + 1) = icN p ev T k + 1 ∧ icN p ev T k < icN p ev T T.length ∧ el (icTo p ev T T.length) (icN p ev T k * 5) = el T k := by
  obtain ⟨c, _, hc⟩ := icTo_len (p := p) (L := T) he k
  obtain ⟨R, hR⟩ := icTo_pre (p := p) (ev := ev) (T := T) (k + 1) (T.length - (k + 1))
  rw [show k + 1 + (T.length - (k + 1)) = T.length by omega] at hR
  have hs : icTo p ev T (k + 1) = icTo p ev T k ++ ev (el T k) := by rw [icTo, h]
  have hl : (icTo p ev T (k + 1)).length = c * 5 + 5 := by rw [hs, List.length_append, hc, he]
  have hn : icN p ev T k = c := by unfold icN; omega
  obtain ⟨e, _, hL⟩ := icTo_len (p := p) (L := T) he T.length
  have hLR : (icTo p ev T T.length).length = c * 5 + 5 + R.length := by rw [hR, List.length_append, hl]
  refine ⟨by unfold icN; omega, by rw [hn]; unfold icN; omega, ?_⟩
  rw [hn, hR, el_app_lt (by omega), hs]
  have := el_app_ge (L := icTo p ev T k) (E := ev (el T k)) (j := 0)
  rw [hc, Nat.add_zero] at this
  rw [this, hh]
/-- What the law on check times asks at the time k. -/
structure ChkAt (s : Int) (T N L : List Int) (p : Int → Bool) (nk : Nat → Nat) (k : Nat) : Prop where
  bd : 0 ≤ el T k ∧ el T k ≤ 1000000000
  mul : el T k % s = 0
  up : ∀ j, k = j + 1 → el T k = el T j + s
  near : decide (el T k ∈ N) = p (el T k)
  yes : p (el T k) = true → (∀ j, k = j + 1 → p (el T j) = false) → nk (k + 1) = nk k + 1 ∧ nk k < L.length / 5 ∧ el L (nk k * 5) = el T k
  no : p (el T k) = false → nk (k + 1) = nk k
  be : ∀ j, k = j + 1 → p (el T j) = true → nk (k + 1) = nk k
theorem chk_facts {wx wy a b d s : Int} {xs ys : List Int} {n m : Nat} (h : ioC wx wy a b d s xs n ys m = 0) :
    (1 ≤ s ∧ s ≤ 60000) ∧ isWat a b d s = true ∧ ctimC a b d s xs n ys m = 0 ∧ (ctimL a b d s xs n ys m).length ≤ 401 ∧ ∃ (p : Int → Bool) (nk : Nat → Nat), nk 0 = 0 ∧ nk (ctimL a b d s xs n ys m).length = (ioL wx wy a b d s xs n ys m).length / 5 ∧ (∀ k, nk k ≤ k) ∧
      ∀ k, k < (ctimL a b d s xs n ys m).length → ChkAt s (ctimL a b d s xs n ys m) (ntL a b d s xs n ys m) (ioL wx wy a b d s xs n ys m) p nk k := by
  have hw : wnB wx wy = true := by
    cases hw : wnB wx wy
    · unfold ioC at h; rw [hw] at h; cases h
    · rfl
  have hC : ctimC a b d s xs n ys m = 0 := by unfold ioC at h; rwa [if_pos hw] at h
  obtain ⟨hx, h1, h2⟩ := ctim_yes hC
  obtain ⟨f1, f2⟩ := ctim_ok (d := d) hx h1 h2
  have hs := isWat_step hx
  have hL : ioL wx wy a b d s xs n ys m = inL wx wy a b d xs n ys m 0 1 (ctimL a b d s xs n ys m) := by unfold ioL; rw [if_pos ⟨hw, hC⟩]
  refine ⟨hs, hx, hC, ctimL_len _ _ _ _ _ _ _ _, naR a d xs n ys m, icN (naR a d xs n ys m) (evT wx wy a b xs n ys m 0 1) (ctimL a b d s xs n ys m), (by unfold icN icTo; rfl), by rw [hL]; rfl, fun k => ?_, fun k hk => ?_⟩
  · obtain ⟨c, hc, hl⟩ := icTo_len (p := naR a d xs n ys m) (ev := evT wx wy a b xs n ys m 0 1) (L := ctimL a b d s xs n ys m) (fun _ => evR_len _ _ _ _) k
    unfold icN
    omega
  · have hbd := ck_bd hs.1 h1 h2
    rw [hL]
    have hN : ntL a b d s xs n ys m = (ctimL a b d s xs n ys m).filter (naR a d xs n ys m) := rfl
    rw [hN]
    rw [f1] at hC
    cases hg : ckGo s (ckTo xs n ys m) 401 (ckFrom s xs ys) with
    | none => rw [hg] at hC; cases hC
    | some T =>
      rw [hg] at f2
      have f2' : ctimL a b d s xs n ys m = T := f2
      rw [f2'] at hk ⊢
      have hin := ckGo_in hs.1 401 _ T hg (el T k) (by rw [el_get hk]; exact List.getElem_mem _)
      obtain ⟨r, hr⟩ := ckGo_mul 401 _ T hg _ (rfl : ckFrom s xs ys = (-((-(max (el xs 0) (el ys 0))) / s)) * s) k hk
      have hY := fun (hh : icK (naR a d xs n ys m) (evT wx wy a b xs n ys m 0 1) T k = evT wx wy a b xs n ys m 0 1 (el T k)) => icN_yes (p := naR a d xs n ys m) (ev := evT wx wy a b xs n ys m 0 1) (T := T) (fun _ => evR_len _ _ _ _) (fun _ => evR_head _ _ _ _) hk hh
      refine ⟨by omega, by rw [hr]; exact Int.mul_emod_left _ _, ?_, ?_, ?_, ?_, ?_⟩
      · rintro j rfl
        exact ckGo_st 401 _ T hg j hk
      · cases hp : naR a d xs n ys m (el T k)
        · exact decide_eq_false fun e => by have := (List.mem_filter.1 e).2; rw [hp] at this; cases this
        · exact decide_eq_true (List.mem_filter.2 ⟨by rw [el_get hk]; exact List.getElem_mem _, hp⟩)
      · intro hp hb
        have hB : beB (naR a d xs n ys m) T k = false := by
          cases k with
          | zero => rfl
          | succ j => rw [beB_succ]; exact hb j rfl
        exact hY (icK_yes hp hB)
      · intro hp
        exact icN_no (icK_no hp)
      · rintro j rfl hp
        exact icN_no (icK_be (by rw [beB_succ]; exact hp))
end Go.Proofs.YtkpdoikjfibflaaGreat
namespace Go.Proofs.YtkpdoikjfibflaaGreat
open Go.RowKit Go.WideShapes Go.ChangeShapes
set_option maxRecDepth 100000 in
set_option maxHeartbeats 8000000 in
theorem law_FnChecks (A : Option Addr) (n c : Nat) (hc : n ≤ c ∧ c ≤ maxLen) (w : World) (ha : Rd8 w A n) :
    Calls Tryz.prog 4 #[.slice A n c] w fun e w' => e = .returned (.bool true) ∧ Below w.heap.size w w' := by
  have hn : n ≤ 9223372036854775807 := by unfold maxLen at hc; omega
  clear hc
  have K0 := Lib.hid (fun wv => big_any A n c wv hn)
  by_cases h4 : 4096 < n
  · rw [decide_eq_true h4] at K0
    go_enter Tryz.func4, Tryz.ntmps4
    go_wp2_with (go_at_call 17; refine (K0.out _).mono ?_; rintro e w' ⟨rfl, rfl⟩)
    go_ret
    exact ⟨rfl, Q.refl _⟩
  · rw [decide_eq_false h4] at K0
    replace hn : n ≤ 140737488355327 := by omega
    have K1 := Lib.hid (fun wv (h : Rd8 wv A n) => spec_DrawIncidentsOf A n c wv h hn)
    clear h4
    go_enter Tryz.func4, Tryz.ntmps4
    go_wp2_with (go_at_call 17; refine (K0.out _).mono ?_; rintro e w' ⟨rfl, rfl⟩)
    refine (K1.out _ ha).mono ?_
    rintro e w1 ⟨x, y, a, b, d, s, B, m, c1, xs, B2, m2, c2, ys, rfl, ⟨hx, hxl, hm⟩, ⟨hy, hyl, hm2⟩, q1⟩
    clear K0 K1 ha
    have BW : Blk ((((w1.alloc (.cells #[.int .i64 x, .int .i64 y] 33)).alloc (.cells #[.int .i64 a, .int .i64 b, .int .i64 d, .int .i64 s] 35)).alloc (.cells #[.slice B m c1] 39)).alloc (.cells #[.slice B2 m2 c2] 39)) w1.heap.size 33 #[.int .i64 x, .int .i64 y] := (((Blk.new _ _ _).alloc _).alloc _).alloc _
    have BX : Blk ((((w1.alloc (.cells #[.int .i64 x, .int .i64 y] 33)).alloc (.cells #[.int .i64 a, .int .i64 b, .int .i64 d, .int .i64 s] 35)).alloc (.cells #[.slice B m c1] 39)).alloc (.cells #[.slice B2 m2 c2] 39)) (w1.heap.size + 1) 35 #[.int .i64 a, .int .i64 b, .int .i64 d, .int .i64 s] := by simpa using ((Blk.new (w1.alloc (.cells #[.int .i64 x, .int .i64 y] 33)) 35 #[.int .i64 a, .int .i64 b, .int .i64 d, .int .i64 s]).alloc (.cells #[.slice B m c1] 39)).alloc (.cells #[.slice B2 m2 c2] 39)
    have BT : Blk ((((w1.alloc (.cells #[.int .i64 x, .int .i64 y] 33)).alloc (.cells #[.int .i64 a, .int .i64 b, .int .i64 d, .int .i64 s] 35)).alloc (.cells #[.slice B m c1] 39)).alloc (.cells #[.slice B2 m2 c2] 39)) (w1.heap.size + 2) 39 #[.slice B m c1] := by simpa using (Blk.new ((w1.alloc (.cells #[.int .i64 x, .int .i64 y] 33)).alloc (.cells #[.int .i64 a, .int .i64 b, .int .i64 d, .int .i64 s] 35)) 39 #[.slice B m c1]).alloc (.cells #[.slice B2 m2 c2] 39)
    have BU : Blk ((((w1.alloc (.cells #[.int .i64 x, .int .i64 y] 33)).alloc (.cells #[.int .i64 a, .int .i64 b, .int .i64 d, .int .i64 s] 35)).alloc (.cells #[.slice B m c1] 39)).alloc (.cells #[.slice B2 m2 c2] 39)) (w1.heap.size + 3) 39 #[.slice B2 m2 c2] := by simpa using Blk.new (((w1.alloc (.cells #[.int .i64 x, .int .i64 y] 33)).alloc (.cells #[.int .i64 a, .int .i64 b, .int .i64 d, .int .i64 s] 35)).alloc (.cells #[.slice B m c1] 39)) 39 #[.slice B2 m2 c2]
    have QW : Q w ((((w1.alloc (.cells #[.int .i64 x, .int .i64 y] 33)).alloc (.cells #[.int .i64 a, .int .i64 b, .int .i64 d, .int .i64 s] 35)).alloc (.cells #[.slice B m c1] 39)).alloc (.cells #[.slice B2 m2 c2] 39)) := (((q1.alloc _).alloc _).alloc _).alloc _
    have qA : Q w1 ((((w1.alloc (.cells #[.int .i64 x, .int .i64 y] 33)).alloc (.cells #[.int .i64 a, .int .i64 b, .int .i64 d, .int .i64 s] 35)).alloc (.cells #[.slice B m c1] 39)).alloc (.cells #[.slice B2 m2 c2] 39)) := by (repeat (first | assumption | exact Q.refl _ | refine Q.alloc ?_ _ | refine Q.drewN ?_ _ | refine Q.drew ?_))
    replace hx := hx.q qA
    replace hy := hy.q qA
    clear q1 qA
    have hmb : m ≤ 9223372036854775807 := by omega
    have hmb2 : m2 ≤ 9223372036854775807 := by omega
    have k1 := fun wv (h : Rd wv B xs) (h' : Rd wv B2 ys) => impl_IncidentsOf x y a b d s B m c1 xs B2 m2 c2 ys wv h hxl hmb h' hyl hmb2
    have k2 := fun wv (h : Rd wv B xs) (h' : Rd wv B2 ys) => spec_IncidentsOf x y a b d s B m c1 xs B2 m2 c2 ys wv h hxl hmb h' hyl hmb2
    obtain ⟨cL, hcL, hLc⟩ := ioL_len x y a b d s xs m ys m2
    unfold RS at k1 k2
    by_cases h0 : ioC x y a b d s xs m ys m2 = 0
    · obtain ⟨hs, hwat, hC, hT401, p, nk, hnk0, hnkM, hnkle, hchk⟩ := chk_facts h0
      have k3 := fun wv (h : Rd wv B xs) (h' : Rd wv B2 ys) => impl_CheckTimes a b d s B m c1 xs B2 m2 c2 ys wv h hxl hmb h' hyl hmb2
      have k4 := fun wv (h : Rd wv B xs) (h' : Rd wv B2 ys) => impl_NearTimes a b d s B m c1 xs B2 m2 c2 ys wv h hxl hmb h' hyl hmb2
      have k5 := fun wv => impl_IsWatch a b d s wv
      have hN401 := ntL_len a b d s xs m ys m2
      unfold RS at k3 k4
      rw [h0] at k1 k2
      rw [hC] at k3 k4
      rw [hwat] at k5
      clear h0 hC hwat hxl hyl hm hm2 hmb hmb2
      generalize ioL x y a b d s xs m ys m2 = L at *
      generalize ctimL a b d s xs m ys m2 = T at *
      generalize ntL a b d s xs m ys m2 = N at *
      have hL5 : L.length / 5 = cL := by omega
      rw [hL5] at k1 k2 hnkM
      have HL := Lib.hid hLc
      have HCH := Lib.hid (fun k (hk : k < T.length) => hchk k hk)
      obtain ⟨M, hM⟩ : ∃ M, M = T.length := ⟨_, rfl⟩
      obtain ⟨NN, hNN⟩ : ∃ M, M = N.length := ⟨_, rfl⟩
      have HK := Lib.hid (⟨hnk0, hnkM, hnkle, hL5, hM.symm, hNN.symm⟩ : nk 0 = 0 ∧ nk T.length = cL ∧ (∀ k, nk k ≤ k) ∧ L.length / 5 = cL ∧ T.length = M ∧ N.length = NN)
      rw [← hM] at k3 hT401
      rw [← hNN] at k4 hN401
      have hT4I : (M : Int) ≤ 401 := by omega
      have hcLI : (cL : Int) ≤ 401 := by omega
      have K1 := Lib.hid k1
      have K2 := Lib.hid k2
      have K3 := Lib.hid k3
      have K4 := Lib.hid k4
      have K5 := Lib.hid k5
      clear k1 k2 k3 k4 k5 hchk hnk0 hnkM hnkle hL5 hM hNN hLc
      have cBW := BW.cell
      have lBW := BW.lt
      have cBX := BX.cell
      have lBX := BX.lt
      have cBT := BT.cell
      have lBT := BT.lt
      have cBU := BU.cell
      have lBU := BU.lt
      go_wp2_with fail
      clear cBW lBW cBX lBX cBT lBT cBU lBU
      refine (K1.out _ hx hy).mono ?_
      rintro e w2 ⟨A1, d1, rfl, o1, q2⟩
      replace BW := BW.q q2
      replace BX := BX.q q2
      replace BT := BT.q q2
      replace BU := BU.q q2
      replace hx := hx.q q2
      replace hy := hy.q q2
      replace QW := QW.trans q2
      have r1 := o1.rd
      clear o1 q2
      have cBW := BW.cell
      have lBW := BW.lt
      have cBX := BX.cell
      have lBX := BX.lt
      have cBT := BT.cell
      have lBT := BT.lt
      have cBU := BU.cell
      have lBU := BU.lt
      go_wp2_with fail
      clear cBW lBW cBX lBX cBT lBT cBU lBU
      refine (K2.out _ hx hy).mono ?_
      rintro e w3 ⟨A2, d2, rfl, o2, q3⟩
      replace BW := BW.q q3
      replace BX := BX.q q3
      replace BT := BT.q q3
      replace BU := BU.q q3
      replace hx := hx.q q3
      replace hy := hy.q q3
      replace r1 := r1.q q3
      replace QW := QW.trans q3
      have r2 := o2.rd
      clear o2 q3
      have cBW := BW.cell
      have lBW := BW.lt
      have cBX := BX.cell
      have lBX := BX.lt
      have cBT := BT.cell
      have lBT := BT.lt
      have cBU := BU.cell
      have lBU := BU.lt
      go_wp2_with fail
      clear cBW lBW cBX lBX cBT lBT cBU lBU
      refine (K3.out _ hx hy).mono ?_
      rintro e w4 ⟨A3, d3, rfl, o3, q4⟩
      replace BW := BW.q q4
      replace BX := BX.q q4
      replace BT := BT.q q4
      replace BU := BU.q q4
      replace hx := hx.q q4
      replace hy := hy.q q4
      replace r1 := r1.q q4
      replace r2 := r2.q q4
      replace QW := QW.trans q4
      have r3 := o3.rd
      clear o3 q4
      have cBW := BW.cell
      have lBW := BW.lt
      have cBX := BX.cell
      have lBX := BX.lt
      have cBT := BT.cell
      have lBT := BT.lt
      have cBU := BU.cell
      have lBU := BU.lt
      go_wp2_with fail
      clear cBW lBW cBX lBX cBT lBT cBU lBU
      refine (K4.out _ hx hy).mono ?_
      rintro e w5 ⟨A4, d4, rfl, o4, q5⟩
      replace BW := BW.q q5
      replace BX := BX.q q5
      replace BT := BT.q q5
      replace BU := BU.q q5
      replace hx := hx.q q5
      replace hy := hy.q q5
      replace r1 := r1.q q5
      replace r2 := r2.q q5
      replace r3 := r3.q q5
      replace QW := QW.trans q5
      have r4 := o4.rd
      clear o4 q5 hx hy K1 K2 K3 K4 BW BT BU
      have cX := BX.cell
      have lX := BX.lt
      go_wp2_with fail
      clear cX lX
      go_loopw [15, 16] (fun nn i wr => ∃ k : Nat, k ≤ M ∧ i = .int .i64 k ∧ nn = .int .i64 (nk k : Nat) ∧ Q w5 wr) (fun _ i _ => M - (intOf i).toNat)
      case atStart => exact ⟨0, Nat.zero_le _, rfl, by rw [HK.out.1]; rfl, by (repeat (first | assumption | exact Q.refl _ | refine Q.alloc ?_ _ | refine Q.drewN ?_ _ | refine Q.drew ?_))⟩
      case round =>
        obtain ⟨k, hk, rfl, rfl, hq⟩ := hrel
        have cX := (BX.q hq).cell
        have lX := (BX.q hq).lt
        by_cases hlt : k < M
        · have hltI : (k : Int) < (M : Int) := by omega
          have hkT : k < T.length := by rw [HK.out.2.2.2.2.1]; exact hlt
          obtain ⟨hbd, hmul, hup, hnear, hyes, hno, hbe⟩ := HCH.out k hkT
          have hnk := HK.out.2.2.1 k
          obtain ⟨b3, o3, rfl, x0⟩ := (r3.q hq).at1 HK.out.2.2.2.2.1 hlt
          obtain ⟨b4, hb4⟩ : ∃ b4, b4 = nk k := ⟨_, rfl⟩
          rw [← hb4] at hyes hno hbe hnk
          have HB4 := Lib.hid hb4
          rw [← hb4]
          clear hb4
          have kh := fun wv (h : Rd wv A4 N) => hasInt_any A4 NN d4 N (el T k) wv h HK.out.2.2.2.2.2 (by omega)
          rw [hnear] at kh
          have hb4I : (b4 : Int) ≤ 401 := by omega
          have hmul2 : (el T k).tmod s = 0 := by rw [Int.tmod_eq_emod_of_nonneg hbd.1]; exact hmul
          rcases Nat.eq_zero_or_pos k with hk0 | hk0
          · have hkz : ¬ (0 : Int) < (k : Int) := by omega
            have hkz2 : ¬ 0 < k := by omega
            have hkb : ((k : Int) == 0) = true := by simp; omega
            have hkb2 : (k == 0) = true := by simp; omega
            clear hup hbe hnear
            have hyes := fun h => hyes h (fun j hj => by omega)
            clear hk0
            generalize hE : el T k = E at *
            clear hE
            cases hp : p E
            · rw [hp] at kh
              have KH := Lib.hid kh
              have HNO := Lib.hid (hno hp)
              clear kh hno hyes hp
              go_wp2_with fail
              refine wp_region_quiet_lit (by kernel_rfl) (by kernel_rfl) ?_
              repeat (any_goals (first | go_big_quiet_step ( fail) | quiet_step ( fail) | (refine wpQuiet_step (fun K hK => ?_); go_simp; split <;> (refine hK _ ?_; clear hK K))))
              all_goals (refine wpQuiet_nil ?_; intro _ hw'; obtain ⟨nq, hw''⟩ := hw'; subst hw'')
              all_goals go_wp2_with (go_at_call 21; refine (KH.out _ (r4.q (Q.trans hq (by (repeat (first | assumption | exact Q.refl _ | refine Q.alloc ?_ _ | refine Q.drewN ?_ _ | refine Q.drew ?_)))))).mono ?_; rintro e w8 ⟨rfl, q8⟩; have Q8 : Q wr w8 := Q.trans (by (repeat (first | assumption | exact Q.refl _ | refine Q.alloc ?_ _ | refine Q.drewN ?_ _ | refine Q.drew ?_))) q8)
              go_roundw
              case rel => exact ⟨k + 1, by omega, by go_num, by rw [HNO.out], hq.trans Q8⟩
              case measure => simp [intOf]; omega
            · rw [hp] at kh
              have KH := Lib.hid kh
              obtain ⟨hy1, hy2, hy3⟩ := hyes hp
              have HNO := Lib.hid hy1
              have hyL : b4 < cL := by have := HK.out.2.2.2.1; omega
              have hyI : (b4 : Int) < (cL : Int) := by omega
              have hyD : decide (cL ≤ b4) = false := decide_eq_false (by omega)
              have hyN : ¬ cL ≤ b4 := by omega
              clear kh hno hyes hp hy1 hy2
              go_wp2_with fail
              refine wp_region_quiet_lit (by kernel_rfl) (by kernel_rfl) ?_
              repeat (any_goals (first | go_big_quiet_step ( fail) | quiet_step ( fail) | (refine wpQuiet_step (fun K hK => ?_); go_simp; split <;> (refine hK _ ?_; clear hK K))))
              all_goals (refine wpQuiet_nil ?_; intro _ hw'; obtain ⟨nq, hw''⟩ := hw'; subst hw'')
              all_goals go_wp2_with (go_at_call 21; refine (KH.out _ (r4.q (Q.trans hq (by (repeat (first | assumption | exact Q.refl _ | refine Q.alloc ?_ _ | refine Q.drewN ?_ _ | refine Q.drew ?_)))))).mono ?_; rintro e w8 ⟨rfl, q8⟩; have Q8 : Q wr w8 := Q.trans (by (repeat (first | assumption | exact Q.refl _ | refine Q.alloc ?_ _ | refine Q.drewN ?_ _ | refine Q.drew ?_))) q8)
              obtain ⟨b1, o1, rfl, y0, y1, y2, y3, y4⟩ := (r1.q (hq.trans Q8)).at5 HL.out hyL
              obtain ⟨b2, o2, rfl, z0, z1, z2, z3, z4⟩ := (r2.q (hq.trans Q8)).at5 HL.out hyL
              have t0 := Q8.cell x0
              rw [hy3] at y0 z0
              generalize el L (b4 * 5 + 1) = Y1 at *
              generalize el L (b4 * 5 + 2) = Y2 at *
              generalize el L (b4 * 5 + 3) = Y3 at *
              generalize el L (b4 * 5 + 4) = Y4 at *
              clear hy3
              refine wp_region_quiet_lit (by kernel_rfl) (by kernel_rfl) ?_
              repeat (any_goals (first | go_big_quiet_step ( fail) | quiet_step ( fail) | (refine wpQuiet_step (fun K hK => ?_); go_simp; split <;> (refine hK _ ?_; clear hK K))))
              all_goals (refine wpQuiet_nil ?_; intro _ hw'; obtain ⟨nq, hw''⟩ := hw'; subst hw'')
              all_goals go_wp2_with fail
              go_roundw
              case rel => exact ⟨k + 1, by omega, by go_num, by rw [HNO.out]; go_num, hq.trans (Q.trans Q8 (by (repeat (first | assumption | exact Q.refl _ | refine Q.alloc ?_ _ | refine Q.drewN ?_ _ | refine Q.drew ?_))))⟩
              case measure => simp [intOf]; omega
          · obtain ⟨j, rfl⟩ : ∃ j, k = j + 1 := ⟨k - 1, by omega⟩
            have hjT : j < T.length := by omega
            have hjw : IntKind.i64.wrap (j : Int) = (j : Int) := by rw [IntKind.wrap_i64]; omega
            obtain ⟨hbd', _, _, hnear', _, _, _⟩ := HCH.out j hjT
            obtain ⟨_, _, hAe, x1⟩ := (r3.q hq).at1 HK.out.2.2.2.2.1 (show j < M by omega)
            cases hAe
            have kp := fun wv (h : Rd wv A4 N) => hasInt_any A4 NN d4 N (el T j) wv h HK.out.2.2.2.2.2 (by omega)
            rw [hnear'] at kp
            have hup := hup j rfl
            rw [hup] at hbd hmul hmul2 kh hyes hno x0
            have hbe := hbe j rfl
            have hyes := fun h h' => hyes h (fun i hi => by obtain rfl : i = j := (by omega); exact h')
            clear hup hnear hnear'
            generalize hE : el T j = E at *
            clear hE
            have hj0 : (0 : Int) < (j : Int) + 1 := by omega
            have hj1I : (j : Int) + 1 < (M : Int) := by omega
            have hj2 : ((j : Int) + 1 == 0) = false := by simp; omega
            have hjM : j < M := by omega
            have hjM2 : j + 1 < M := by omega
            cases hp : p (E + s)
            · rw [hp] at kh
              have KH := Lib.hid kh
              have HNO := Lib.hid (hno hp)
              clear kh hno hyes hp hbe kp
              go_wp2_with fail
              refine wp_region_quiet_lit (by kernel_rfl) (by kernel_rfl) ?_
              repeat (any_goals (first | go_big_quiet_step ( fail) | quiet_step ( fail) | (refine wpQuiet_step (fun K hK => ?_); go_simp; split <;> (refine hK _ ?_; clear hK K))))
              all_goals (refine wpQuiet_nil ?_; intro _ hw'; obtain ⟨nq, hw''⟩ := hw'; subst hw'')
              all_goals go_wp2_with (go_at_call 21; refine (KH.out _ (r4.q (Q.trans hq (by (repeat (first | assumption | exact Q.refl _ | refine Q.alloc ?_ _ | refine Q.drewN ?_ _ | refine Q.drew ?_)))))).mono ?_; rintro e w8 ⟨rfl, q8⟩; have Q8 : Q wr w8 := Q.trans (by (repeat (first | assumption | exact Q.refl _ | refine Q.alloc ?_ _ | refine Q.drewN ?_ _ | refine Q.drew ?_))) q8)
              go_roundw
              case rel => exact ⟨j + 1 + 1, by omega, by go_num, by rw [HNO.out], hq.trans Q8⟩
              case measure => simp [intOf]; omega
            · rw [hp] at kh
              have KH := Lib.hid kh
              cases hp' : p E
              · rw [hp'] at kp
                have KP := Lib.hid kp
                obtain ⟨hy1, hy2, hy3⟩ := hyes hp hp'
                have HNO := Lib.hid hy1
                have hyL : b4 < cL := by have := HK.out.2.2.2.1; omega
                have hyI : (b4 : Int) < (cL : Int) := by omega
                have hyD : decide (cL ≤ b4) = false := decide_eq_false (by omega)
                have hyN : ¬ cL ≤ b4 := by omega
                clear kh kp hno hyes hp hbe hp' hy1 hy2
                go_wp2_with fail
                refine wp_region_quiet_lit (by kernel_rfl) (by kernel_rfl) ?_
                repeat (any_goals (first | go_big_quiet_step ( fail) | quiet_step ( fail) | (refine wpQuiet_step (fun K hK => ?_); go_simp; split <;> (refine hK _ ?_; clear hK K))))
                all_goals (refine wpQuiet_nil ?_; intro _ hw'; obtain ⟨nq, hw''⟩ := hw'; subst hw'')
                all_goals go_wp2_with (first | (have qq := Q8; go_at_call 21; refine (KP.out _ (r4.q (Q.trans hq (by (repeat (first | assumption | exact Q.refl _ | refine Q.alloc ?_ _ | refine Q.drewN ?_ _ | refine Q.drew ?_)))))).mono ?_; rintro e w9 ⟨rfl, q9⟩; have Q9 : Q wr w9 := Q.trans (by (repeat (first | assumption | exact Q.refl _ | refine Q.alloc ?_ _ | refine Q.drewN ?_ _ | refine Q.drew ?_))) q9) | (go_at_call 21; refine (KH.out _ (r4.q (Q.trans hq (by (repeat (first | assumption | exact Q.refl _ | refine Q.alloc ?_ _ | refine Q.drewN ?_ _ | refine Q.drew ?_)))))).mono ?_; rintro e w8 ⟨rfl, q8⟩; have Q8 : Q wr w8 := Q.trans (by (repeat (first | assumption | exact Q.refl _ | refine Q.alloc ?_ _ | refine Q.drewN ?_ _ | refine Q.drew ?_))) q8; have x1b := Q8.cell x1))
                obtain ⟨b1, o1, rfl, y0, y1, y2, y3, y4⟩ := (r1.q (hq.trans Q9)).at5 HL.out hyL
                obtain ⟨b2, o2, rfl, z0, z1, z2, z3, z4⟩ := (r2.q (hq.trans Q9)).at5 HL.out hyL
                have t0 := Q9.cell x0
                rw [hy3] at y0 z0
                generalize el L (b4 * 5 + 1) = Y1 at *
                generalize el L (b4 * 5 + 2) = Y2 at *
                generalize el L (b4 * 5 + 3) = Y3 at *
                generalize el L (b4 * 5 + 4) = Y4 at *
                clear hy3
                refine wp_region_quiet_lit (by kernel_rfl) (by kernel_rfl) ?_
                repeat (any_goals (first | go_big_quiet_step ( fail) | quiet_step ( fail) | (refine wpQuiet_step (fun K hK => ?_); go_simp; split <;> (refine hK _ ?_; clear hK K))))
                all_goals (refine wpQuiet_nil ?_; intro _ hw'; obtain ⟨nq, hw''⟩ := hw'; subst hw'')
                all_goals go_wp2_with fail
                go_roundw
                case rel => exact ⟨j + 1 + 1, by omega, by go_num, by rw [HNO.out]; go_num, hq.trans (Q.trans Q9 (by (repeat (first | assumption | exact Q.refl _ | refine Q.alloc ?_ _ | refine Q.drewN ?_ _ | refine Q.drew ?_))))⟩
                case measure => simp [intOf]; omega
              · rw [hp'] at kp
                have KP := Lib.hid kp
                have HNO := Lib.hid (hbe hp')
                clear kh kp hno hyes hp hbe hp'
                go_wp2_with fail
                refine wp_region_quiet_lit (by kernel_rfl) (by kernel_rfl) ?_
                repeat (any_goals (first | go_big_quiet_step ( fail) | quiet_step ( fail) | (refine wpQuiet_step (fun K hK => ?_); go_simp; split <;> (refine hK _ ?_; clear hK K))))
                all_goals (refine wpQuiet_nil ?_; intro _ hw'; obtain ⟨nq, hw''⟩ := hw'; subst hw'')
                all_goals go_wp2_with (first | (have qq := Q8; go_at_call 21; refine (KP.out _ (r4.q (Q.trans hq (by (repeat (first | assumption | exact Q.refl _ | refine Q.alloc ?_ _ | refine Q.drewN ?_ _ | refine Q.drew ?_)))))).mono ?_; rintro e w9 ⟨rfl, q9⟩; have Q9 : Q wr w9 := Q.trans (by (repeat (first | assumption | exact Q.refl _ | refine Q.alloc ?_ _ | refine Q.drewN ?_ _ | refine Q.drew ?_))) q9) | (go_at_call 21; refine (KH.out _ (r4.q (Q.trans hq (by (repeat (first | assumption | exact Q.refl _ | refine Q.alloc ?_ _ | refine Q.drewN ?_ _ | refine Q.drew ?_)))))).mono ?_; rintro e w8 ⟨rfl, q8⟩; have Q8 : Q wr w8 := Q.trans (by (repeat (first | assumption | exact Q.refl _ | refine Q.alloc ?_ _ | refine Q.drewN ?_ _ | refine Q.drew ?_))) q8; have x1b := Q8.cell x1))
                go_roundw
                case rel => exact ⟨j + 1 + 1, by omega, by go_num, by rw [HNO.out], hq.trans Q9⟩
                case measure => simp [intOf]; omega
        · obtain rfl : k = M := by omega
          have HE := Lib.hid (show nk k = cL by have := HK.out.2.1; rwa [HK.out.2.2.2.2.1] at this)
          rw [HE.out]
          go_wp2_with (go_at_call 22; refine (K5.out _).mono ?_; rintro e w8 ⟨rfl, q8⟩; have Q8 : Q wr w8 := Q.trans (by (repeat (first | assumption | exact Q.refl _ | refine Q.alloc ?_ _ | refine Q.drewN ?_ _ | refine Q.drew ?_))) q8)
          go_ret
          exact ⟨rfl, QW.trans (hq.trans Q8)⟩
    · obtain ⟨L, hL⟩ : ∃ L, L = ioL x y a b d s xs m ys m2 := ⟨_, rfl⟩
      obtain ⟨C, hC⟩ : ∃ C, C = ioC x y a b d s xs m ys m2 := ⟨_, rfl⟩
      rw [← hL, ← hC] at k1 k2
      rw [← hC] at h0
      have hcb : (C != 0) = true := by simpa using h0
      have K1 := Lib.hid k1
      have K2 := Lib.hid k2
      generalize L.length / 5 = NL at *
      clear k1 k2 hL hC hxl hyl hm hm2 hmb hmb2 hLc hcL
      have cBW := BW.cell
      have lBW := BW.lt
      have cBX := BX.cell
      have lBX := BX.lt
      have cBT := BT.cell
      have lBT := BT.lt
      have cBU := BU.cell
      have lBU := BU.lt
      go_wp2_with fail
      clear cBW lBW cBX lBX cBT lBT cBU lBU
      refine (K1.out _ hx hy).mono ?_
      rintro e w2 ⟨A1, d1, rfl, o1, q2⟩
      replace BW := BW.q q2
      replace BX := BX.q q2
      replace BT := BT.q q2
      replace BU := BU.q q2
      replace hx := hx.q q2
      replace hy := hy.q q2
      replace QW := QW.trans q2
      clear o1 q2
      have cBW := BW.cell
      have lBW := BW.lt
      have cBX := BX.cell
      have lBX := BX.lt
      have cBT := BT.cell
      have lBT := BT.lt
      have cBU := BU.cell
      have lBU := BU.lt
      go_wp2_with fail
      clear cBW lBW cBX lBX cBT lBT cBU lBU
      refine (K2.out _ hx hy).mono ?_
      rintro e w3 ⟨A2, d2, rfl, o2, q3⟩
      replace BW := BW.q q3
      replace BX := BX.q q3
      replace BT := BT.q q3
      replace BU := BU.q q3
      replace hx := hx.q q3
      replace hy := hy.q q3
      replace QW := QW.trans q3
      clear o2 q3
      go_wp2_with fail
      go_ret
      exact ⟨rfl, QW⟩
end Go.Proofs.YtkpdoikjfibflaaGreat
