/- Walks: the incidents of all pairs of tracks, as the program makes them, for all arguments. No condition. Words: incidents of one pair are in order already (plain). No condition. -/
import Derived.Test.YtkpdoikjfibflaaGreatUmR
namespace Go.Proofs.YtkpdoikjfibflaaGreat
open Go.RowKit Go.WideShapes Go.ChangeShapes Go.Shelf
set_option maxHeartbeats 1000000 in
theorem impl_AllIncidents (wx wy a b d s : Int) (A : Option Addr) (n c : Nat) (D : List (Nat × List Int)) (w : World) (ha : RdD w A D) (hD : D.length = n) (hn2 : n ≤ 9223372036854775807) :
    Calls Tryz.prog 26 #[.agg #[.int .i64 wx, .int .i64 wy], .agg #[.int .i64 a, .int .i64 b, .int .i64 d, .int .i64 s], .slice A n c] w (RS w 55 5 ((aiL wx wy a b d s D).length / 5) (aiL wx wy a b d s D) (aiC wx wy a b d s D)) := by
  by_cases h16 : n ≤ 16
  · by_cases hv : wnB wx wy = true ∧ isWat a b d s = true ∧ allT D = true
    · exact impl_AllMain wx wy a b d s A n c D w ha hD hn2 h16 hv.1 hv.2.1 hv.2.2
    · obtain ⟨e1, e2⟩ := aiC_1 (by omega) hv
      rw [e1, e2]
      clear e1 e2
      have k1 := fun wv => impl_IsWind wx wy wv
      have k2 := fun wv => impl_IsWatch a b d s wv
      have k3 := fun wv (h : RdD wv A D) => impl_areD A n c D wv h hD hn2
      obtain ⟨B0, B1⟩ := bxWW w wx wy a b d s
      have Q0 : Q w ((w.alloc (.cells #[.int .i64 wx, .int .i64 wy] 33)).alloc (.cells #[.int .i64 a, .int .i64 b, .int .i64 d, .int .i64 s] 35)) := by (repeat (first | assumption | exact Q.refl _ | refine Q.alloc ?_ _ | refine Q.drewN ?_ _ | refine Q.drew ?_))
      have hnI : (n : Int) ≤ 16 := by omega
      clear hD
      cases hw : wnB wx wy
      · rw [hw] at k1
        have K1 := Lib.hid k1
        clear k1 k2 k3 hv hw
        go_enter Tryz.func26, Tryz.ntmps26
        go_wp2_with fail
        refine (K1.out _).mono ?_
        rintro e w1 ⟨rfl, q1⟩
        go_wp2_with fail
        go_ret2
        exact RS.nil _ _ _ _ _ (Q0.trans q1)
      · rw [hw] at k1 hv
        have K1 := Lib.hid k1
        cases hx : isWat a b d s
        · rw [hx] at k2
          have K2 := Lib.hid k2
          clear k1 k2 k3 hv hw hx
          go_enter Tryz.func26, Tryz.ntmps26
          go_wp2_with fail
          refine (K1.out _).mono ?_
          rintro e w1 ⟨rfl, q1⟩
          replace B1 := B1.q q1
          replace Q0 := Q0.trans q1
          have c1' := B1.cell
          have l1' := B1.lt
          go_wp2_with fail
          refine (K2.out _).mono ?_
          rintro e w2 ⟨rfl, q2⟩
          go_wp2_with fail
          go_ret2
          exact RS.nil _ _ _ _ _ (Q0.trans q2)
        · rw [hx] at k2 hv
          have K2 := Lib.hid k2
          have hT : allT D = false := by
            cases h : allT D
            · rfl
            · exact absurd ⟨rfl, rfl, h⟩ hv
          rw [hT] at k3
          have K3 := Lib.hid k3
          clear k1 k2 k3 hv hw hx hT
          go_enter Tryz.func26, Tryz.ntmps26
          go_wp2_with fail
          refine (K1.out _).mono ?_
          rintro e w1 ⟨rfl, q1⟩
          replace B1 := B1.q q1
          replace Q0 := Q0.trans q1
          have c1' := B1.cell
          have l1' := B1.lt
          go_wp2_with fail
          refine (K2.out _).mono ?_
          rintro e w2 ⟨rfl, q2⟩
          replace Q0 := Q0.trans q2
          clear c1' l1'
          go_wp2_with fail
          refine (K3.out _ (ha.q Q0)).mono ?_
          rintro e w3 ⟨rfl, q3⟩
          go_wp2_with fail
          go_ret2
          exact RS.nil _ _ _ _ _ (Q0.trans q3)
  · obtain ⟨e1, e2⟩ := aiC_3 (wx := wx) (wy := wy) (a := a) (b := b) (d := d) (s := s) (D := D) (by omega)
    rw [e1, e2]
    have hnI : (16 : Int) < (n : Int) := by omega
    have Q0 : Q w ((w.alloc (.cells #[.int .i64 wx, .int .i64 wy] 33)).alloc (.cells #[.int .i64 a, .int .i64 b, .int .i64 d, .int .i64 s] 35)) := by (repeat (first | assumption | exact Q.refl _ | refine Q.alloc ?_ _ | refine Q.drewN ?_ _ | refine Q.drew ?_))
    clear e1 e2 hD ha
    go_enter Tryz.func26, Tryz.ntmps26
    go_wp2_with fail
    go_ret2
    exact RS.nil _ _ _ _ _ Q0
/-- Two tracks: what all pairs give is what the one pair gives. -/
theorem ai_two {wx wy a b d s : Int} {n m : Nat} {xs ys : List Int} : aiC wx wy a b d s [(n, xs), (m, ys)] = ioC wx wy a b d s xs n ys m := by
  have hT : allT [(n, xs), (m, ys)] = (isTrk xs n && isTrk ys m) := by simp [allT, List.range_succ, dn, dx]
  have e1 : kTm s [(n, xs), (m, ys)] 0 1 = ckGo s (ckTo xs n ys m) 401 (ckFrom s xs ys) := rfl
  have e2 : aiTo wx wy a b d s [(n, xs), (m, ys)] 2 2 = (ckGo s (ckTo xs n ys m) 401 (ckFrom s xs ys)).map (fun T => inL wx wy a b d xs n ys m 0 1 T) := by
    simp only [aiTo, aiIn, Nat.add_zero, Nat.zero_add, show 2 - 1 - 0 = 1 from rfl, show 2 - 1 - 1 = 0 from rfl, e1]
    cases ckGo s (ckTo xs n ys m) 401 (ckFrom s xs ys) with
    | none => rfl
    | some T => simp [prL, dx, dn]
  unfold aiC ioC
  rw [hT, if_neg (show ¬ 16 < [(n, xs), (m, ys)].length by simp)]
  show (if _ then (match aiTo wx wy a b d s [(n, xs), (m, ys)] 2 2 with | none => (3 : Int) | some _ => 0) else 1) = _
  rw [e2]
  cases hw : wnB wx wy
  · simp
  · cases hx : isWat a b d s
    · simp [ctimC, hx]
    · cases h1 : isTrk xs n
      · simp [ctimC, h1]
      · cases h2 : isTrk ys m
        · simp [ctimC, h2]
        · simp [ctimC, hx, h1, h2]
          cases ckGo s (ckTo xs n ys m) 401 (ckFrom s xs ys) <;> rfl
end Go.Proofs.YtkpdoikjfibflaaGreat
namespace Go.Proofs.YtkpdoikjfibflaaGreat
open Go.RowKit Go.WideShapes Go.ChangeShapes
theorem ckGo_up {s u : Int} (hs : 1 ≤ s) : ∀ (f : Nat) (t : Int) (L : List Int), ckGo s u f t = some L → ∀ i j, i < j → j < L.length → el L i ≤ el L j
  | 0, _, _, h => by cases h
  | f + 1, t, L, h => by
    unfold ckGo at h
    split at h
    · cases hg : ckGo s u f (t + s) with
      | none => rw [hg] at h; cases h
      | some M =>
        rw [hg] at h
        injection h with h
        subst h
        intro i j hij hj
        obtain ⟨j, rfl⟩ : ∃ e, j = e + 1 := ⟨j - 1, by omega⟩
        have hjM : j < M.length := by simpa using hj
        have ej : el (t :: M) (j + 1) = el M j := by simp [el]
        cases i with
        | zero =>
          have h1 := ckGo_in hs f _ M hg (el M j) (by rw [el_get hjM]; exact List.getElem_mem _)
          have e0 : el (t :: M) 0 = t := rfl
          rw [ej, e0]
          omega
        | succ i =>
          have ei : el (t :: M) (i + 1) = el M i := by simp [el]
          rw [ej, ei]
          exact ckGo_up hs f _ M hg i j (by omega) hjM
    · injection h with h
      subst h
      intro i j _ hj
      simp at hj
/-- Rows of five whose first numbers do not fall; each is one of the first k of T. -/
def NK (T : List Int) (k : Nat) (L : List Int) : Prop := ∃ c, L.length = c * 5 ∧ (∀ i j, i < j → j < c → el L (i * 5) ≤ el L (j * 5)) ∧ ∀ r, r < c → ∃ q, q < k ∧ el L (r * 5) = el T q
theorem icTo_NK {p : Int → Bool} {ev : Int → List Int} {T : List Int} (he : ∀ t, (ev t).length = 5) (hh : ∀ t, el (ev t) 0 = t) (hT : ∀ i j, i < j → j < T.length → el T i ≤ el T j) : ∀ k, k ≤ T.length → NK T k (icTo p ev T k)
  | 0, _ => ⟨0, rfl, fun i j _ h => by omega, fun r h => by omega⟩
  | k + 1, hk => by
    obtain ⟨c, h1, h2, h3⟩ := icTo_NK (p := p) he hh hT k (by omega)
    unfold icTo icK
    split
    · refine ⟨c + 1, by rw [List.length_append, h1, he]; omega, fun i j hij hj => ?_, fun r hr => ?_⟩
      · rw [el_app_lt (by omega)]
        by_cases hc : j < c
        · rw [el_app_lt (by omega)]; exact h2 i j hij hc
        · obtain rfl : j = c := by omega
          have := el_app_ge (L := icTo p ev T k) (E := ev (el T k)) (j := 0)
          rw [h1, Nat.add_zero] at this
          rw [this, hh]
          obtain ⟨q, hq, e⟩ := h3 i (by omega)
          rw [e]
          exact hT q k hq (by omega)
      · by_cases hc : r < c
        · obtain ⟨q, hq, e⟩ := h3 r hc
          exact ⟨q, by omega, by rw [el_app_lt (by omega)]; exact e⟩
        · obtain rfl : r = c := by omega
          have := el_app_ge (L := icTo p ev T k) (E := ev (el T k)) (j := 0)
          rw [h1, Nat.add_zero] at this
          exact ⟨k, by omega, by rw [this, hh]⟩
    · rw [List.append_nil]
      exact ⟨c, h1, h2, fun r hr => by obtain ⟨q, hq, e⟩ := h3 r hr; exact ⟨q, by omega, e⟩⟩
theorem srt_id {X : List Int} {n : Nat} (hl : X.length = n * 5) (h : ∀ i j, i < j → j < n → el X (i * 5) ≤ el X (j * 5)) : srtL X n = X := by
  have h1 : Srt (keyI X) id 0 n := fun i j _ hij hj => by
    have := h i j hij hj
    unfold Lt keyI
    simp only [id]
    omega
  rw [← srtL_of (Prm.refl 0 n) h1, ← flatP_id hl]
theorem ai_twoL {wx wy a b d s : Int} {n m : Nat} {xs ys : List Int} : aiL wx wy a b d s [(n, xs), (m, ys)] = ioL wx wy a b d s xs n ys m := by
  have e2 : aiTo wx wy a b d s [(n, xs), (m, ys)] 2 2 = (ckGo s (ckTo xs n ys m) 401 (ckFrom s xs ys)).map (fun T => inL wx wy a b d xs n ys m 0 1 T) := by
    have e1 : kTm s [(n, xs), (m, ys)] 0 1 = ckGo s (ckTo xs n ys m) 401 (ckFrom s xs ys) := rfl
    simp only [aiTo, aiIn, Nat.add_zero, Nat.zero_add, show 2 - 1 - 0 = 1 from rfl, show 2 - 1 - 1 = 0 from rfl, e1]
    cases ckGo s (ckTo xs n ys m) 401 (ckFrom s xs ys) with
    | none => rfl
    | some T => simp [prL, dx, dn]
  unfold aiL ioL
  rw [ai_two]
  show (if _ then (match aiTo wx wy a b d s [(n, xs), (m, ys)] 2 2 with | none => ([] : List Int) | some X => srtL X (X.length / 5)) else []) = _
  rw [e2]
  cases hw : wnB wx wy
  · simp [ioC, hw]
  · by_cases hC : ctimC a b d s xs n ys m = 0
    · obtain ⟨hx, h1, h2⟩ := ctim_yes hC
      obtain ⟨f1, f2⟩ := ctim_ok (d := d) hx h1 h2
      rw [if_pos (by unfold ioC; rw [hw]; exact hC), if_pos ⟨rfl, hC⟩, f2]
      rw [f1] at hC
      cases hg : ckGo s (ckTo xs n ys m) 401 (ckFrom s xs ys) with
      | none => rw [hg] at hC; cases hC
      | some T =>
        show srtL (inL wx wy a b d xs n ys m 0 1 T) ((inL wx wy a b d xs n ys m 0 1 T).length / 5) = inL wx wy a b d xs n ys m 0 1 T
        obtain ⟨c, g1, g2, _⟩ := icTo_NK (p := naR a d xs n ys m) (ev := evT wx wy a b xs n ys m 0 1) (fun _ => evR_len _ _ _ _) (fun _ => evR_head _ _ _ _) (ckGo_up (isWat_step hx).1 401 _ T hg) T.length (Nat.le_refl _)
        have g1' : (inL wx wy a b d xs n ys m 0 1 T).length = c * 5 := g1
        rw [show (inL wx wy a b d xs n ys m 0 1 T).length / 5 = c by rw [g1']; omega]
        exact srt_id g1 g2
    · rw [if_neg (by unfold ioC; rw [hw]; exact hC), if_neg (fun h => hC h.2)]
end Go.Proofs.YtkpdoikjfibflaaGreat
namespace Go.Proofs.YtkpdoikjfibflaaGreat
open Go.RowKit Go.WideShapes Go.ChangeShapes
theorem rdD_two {w : World} {A1 A2 : Option Addr} {n c1 m c2 : Nat} {xs ys : List Int} (T : TypeId) (ha : Rd w A1 xs) (hn : xs.length = n * 3) (hn2 : n ≤ 9223372036854775807) (hb : Rd w A2 ys) (hm : ys.length = m * 3) (hm2 : m ≤ 9223372036854775807) :
    RdD (w.alloc (.cells #[.slice A1 n c1, .slice A2 m c2] T)) (some ⟨w.heap.size, 0, none⟩) [(n, xs), (m, ys)] := by
  have q : Q w (w.alloc (.cells #[.slice A1 n c1, .slice A2 m c2] T)) := (Q.refl w).alloc _
  have B := Blk.new w T #[.slice A1 n c1, .slice A2 m c2]
  refine ⟨[⟨A1, n, c1, xs⟩, ⟨A2, m, c2, ys⟩], ⟨w.heap.size, 0, fun _ => rfl, fun j hj => ?_⟩, rfl⟩
  match j, hj with
  | 0, _ => exact ⟨B.cell 0, ha.q q, hn, hn2⟩
  | 1, _ => exact ⟨B.cell 1, hb.q q, hm, hm2⟩
set_option maxHeartbeats 1000000 in
theorem impl_IncidentsOf (wx wy a b d s : Int) (A1 : Option Addr) (n c1 : Nat) (xs : List Int) (A2 : Option Addr) (m c2 : Nat) (ys : List Int) (w : World) (ha : Rd w A1 xs) (hn : xs.length = n * 3) (hn2 : n ≤ 9223372036854775807) (hb : Rd w A2 ys) (hm : ys.length = m * 3) (hm2 : m ≤ 9223372036854775807) :
    Calls Tryz.prog 11 #[.agg #[.int .i64 wx, .int .i64 wy], .agg #[.int .i64 a, .int .i64 b, .int .i64 d, .int .i64 s], .agg #[.slice A1 n c1], .agg #[.slice A2 m c2]] w (RS w 55 5 ((ioL wx wy a b d s xs n ys m).length / 5) (ioL wx wy a b d s xs n ys m) (ioC wx wy a b d s xs n ys m)) := by
  have Q0 : Q w ((((w.alloc (.cells #[.int .i64 wx, .int .i64 wy] 33)).alloc (.cells #[.int .i64 a, .int .i64 b, .int .i64 d, .int .i64 s] 35)).alloc (.cells #[.slice A1 n c1] 39)).alloc (.cells #[.slice A2 m c2] 39)) := by (repeat (first | assumption | exact Q.refl _ | refine Q.alloc ?_ _ | refine Q.drewN ?_ _ | refine Q.drew ?_))
  have K := Lib.hid (fun (c : Nat) (A : Option Addr) wv h => impl_AllIncidents wx wy a b d s A 2 c [(n, xs), (m, ys)] wv h rfl (by decide))
  rw [ai_two, ai_twoL] at K
  obtain ⟨k, _, hk⟩ := ioL_len wx wy a b d s xs n ys m
  generalize ioL wx wy a b d s xs n ys m = L at *
  generalize ioC wx wy a b d s xs n ys m = C at *
  have hr := rdD_two (c1 := c1) (c2 := c2) 39 (ha.q Q0) hn hn2 (hb.q Q0) hm hm2
  simp only [World.size_alloc] at hr
  have HR := Lib.hid hr
  clear hr
  have Q1 := Q0.alloc (.cells #[.slice A1 n c1, .slice A2 m c2] 39)
  have HK := Lib.hid hk
  clear hn hm hk ha hb hn2 hm2
  go_enter Tryz.func11, Tryz.ntmps11
  go_wp2_with fail
  refine (K.out _ _ _ HR.out).mono ?_
  rintro e w1 ⟨A, cc, rfl, ho, q1⟩
  go_wp2_with fail
  go_ret2
  exact RS.mk' (ho.mono Q1.size) (Q1.trans q1) (by rw [HK.out]; omega) (by decide)
theorem toWind_any (a b : Int) (w : World) : Calls Tryz.prog 8 #[.agg #[.int .i64 a, .int .i64 b]] w fun e w' => e = .returned (.agg #[.int .i64 a, .int .i64 b]) ∧ Q w w' := by
  go_enter Tryz.func8, Tryz.ntmps8
  go_wp2
  exact bodyPost_ret (v := .agg #[.int .i64 a, .int .i64 b]) (by simp [results, Tryz.results8, go_sem]) rfl ⟨rfl, (((Q.refl _).alloc _).alloc _).alloc _⟩
end Go.Proofs.YtkpdoikjfibflaaGreat
