/- Walks: the reading of a finish, as the program does it. Condition: what the library's variables hold (Env). -/
import Derived.Test.YtgdjgjkijcmkfaaDoorRdL
import Derived.Deep.CutBlock
namespace Go.Proofs.YtgdjgjkijcmkfaaDoor
open Go.RowKit Go.WideShapes Go.ChangeShapes
theorem str_ne {a b : ByteArray} (h : a ≠ b) : (a.toList == b.toList) = false := by
  rw [beq_eq_false_iff_ne]
  intro hh
  exact h (bytes_eq (by simpa using hh))
theorem pcs_le {s x : ByteArray} (h : x ∈ pcs 32 s) : x.size ≤ s.size := by
  have key : ∀ (l cur : List UInt8), ∀ p ∈ wsp 32 cur l, p.length ≤ cur.length + l.length := by
    intro l
    induction l with
    | nil => intro cur p hp; simp [wsp] at hp; subst hp; simp
    | cons b l ih =>
      intro cur p hp
      unfold wsp at hp
      split at hp
      · simp at hp
        rcases hp with rfl | hp
        · simp
        · have := ih [] p hp
          simp at this ⊢
          omega
      · have := ih _ p hp
        simp at this ⊢
        omega
  unfold pcs at h
  rw [List.mem_map] at h
  obtain ⟨p, hp, rfl⟩ := h
  have := key _ _ p hp
  rw [bs_size, Lib.size_eq]
  simpa using this
theorem len2_of {α : Type} {l : List α} (h : 2 ≤ l.length) : ∃ x y r, l = x :: y :: r := by
  match l, h with
  | x :: y :: r, _ => exact ⟨x, y, r, rfl⟩
set_option maxRecDepth 100000 in
set_option maxHeartbeats 2000000 in
theorem impl_ReadFinish (s : ByteArray) (a b c : Int) (k : Bool) (h : FinR s a b c k) (hs : s.size ≤ 1048576) (w : World) (hE : Env w) :
    Calls Tryd.prog 41 #[.string s] w fun e w' => e = .returned (.tuple #[.agg #[.int .i64 a, .int .i64 b, .int .i64 c], .bool k]) ∧ Q w w' := by
  have R0 := Blk.new w 44 #[.int .i64 0, .int .i64 0, .int .i64 0]
  have Q0 : Q w (w.alloc (.cells #[.int .i64 0, .int .i64 0, .int .i64 0] 44)) := by (repeat (first | assumption | exact Q.refl _ | refine Q.alloc ?_ _ | refine Q.drewN ?_ _ | refine Q.drew ?_))
  have E0 := hE.q Q0
  obtain ⟨P, hP⟩ : ∃ P, pcs 32 s = P := ⟨_, rfl⟩
  have K0 := Lib.hid (fun wv (hv : Env wv) => words_blk s hs _ hP wv hv)
  by_cases hl : 2 ≤ P.length
  · obtain ⟨x, y, r, rfl⟩ := len2_of hl
    have hall : ∀ z ∈ (x :: y :: r), z.size ≤ 1048576 := fun z hz => Nat.le_trans (pcs_le (by rw [hP]; exact hz)) hs
    obtain ⟨v1, k1, r1⟩ := NumR.ex pI x
    obtain ⟨v2, k2, r2⟩ : ∃ v k, codeOf y = (v, k) := ⟨_, _, rfl⟩
    have K1 := Lib.hid (fun wv (hv : Env wv) => impl_number x v1 k1 r1 (hall x (by simp)) wv hv)
    have K2 := Lib.hid (fun wv => impl_ReadCode y wv)
    rw [r2] at K2
    have HO := Lib.hid (fun t ht => h.out (t := t) readsI hP r1 r2 ht)
    have HZ : Hid (∀ z r', r = z :: r' → z.size ≤ 1048576) := Lib.hid (fun z r' hr => hall z (by rw [hr]; simp))
    clear h r1 r2 hall hs hP
    have HC : Hid (∀ wv g, Blk wv g 9 ((x :: y :: r).map Value.string).toArray → wv.cell? ⟨g, 0, none⟩ = some (.string x) ∧ wv.cell? ⟨g, 1, none⟩ = some (.string y) ∧ ∀ z r', r = z :: r' → wv.cell? ⟨g, 2, none⟩ = some (.string z)) := Lib.hid (fun wv g B => ⟨by simpa using B.cell 0, by simpa using B.cell 1, fun z r' hr => by subst hr; simpa using B.cell 2⟩)
    have HN0 : Hid (r = [] → (x :: y :: r).length = 2) := Lib.hid (fun h => by rw [h]; rfl)
    have HN1 : Hid (∀ z r', r = z :: r' → 3 ≤ (x :: y :: r).length) := Lib.hid (fun z r' h => by rw [h]; simp)
    generalize ((x :: y :: r).map Value.string).toArray = CS at *
    generalize (x :: y :: r).length = N at *
    have hNI : ¬ (N : Int) < 2 := by omega
    have hN0' : (0 : Int) < (N : Int) := by omega
    have hN1' : (1 : Int) < (N : Int) := by omega
    go_enter Tryd.func41, Tryd.ntmps41
    go_wp2_with fail
    refine (K0.out _ E0).mono ?_
    rintro e w1 ⟨g, rfl, B1, hg, q1⟩
    have E1 := E0.q q1
    have Q1 := Q0.trans q1
    replace R0 := R0.q q1
    obtain ⟨c0, c1, c2⟩ := HC.out _ _ B1
    have l1 := B1.lt
    clear E0 Q0 q1 K0 HC
    go_wp2_with fail
    refine (K1.out _ E1).mono ?_
    rintro e w2 ⟨rfl, q2⟩
    have E2 := E1.q q2
    have Q2 := Q1.trans q2
    replace R0 := R0.q q2
    replace B1 := B1.q q2
    replace c1 := q2.cell c1
    replace c2 := fun z r' h => q2.cell (c2 z r' h)
    clear E1 Q1 q2 c0
    go_wp2_with fail
    refine (K2.out _).mono ?_
    rintro e w3 ⟨rfl, q3⟩
    have E3 := E2.q q3
    have Q3 := Q2.trans q3
    replace R0 := R0.q q3
    replace B1 := B1.q q3
    replace c2 := fun z r' h => q3.cell (c2 z r' h)
    clear E2 Q2 q3 c1
    have l3 := B1.lt
    go_upto_if 35 with (fail)
    have BF := Blk.new w3 44 #[.int .i64 v1, .int .i64 v2, .int .i64 0]
    have Q4 := Q3.alloc (.cells #[.int .i64 v1, .int .i64 v2, .int .i64 0] 44)
    have E4 := E3.q ((Q.refl w3).alloc (.cells #[.int .i64 v1, .int .i64 v2, .int .i64 0] 44))
    have hwb : w.heap.size < w3.heap.size := R0.lt
    replace R0 := R0.alloc (.cells #[.int .i64 v1, .int .i64 v2, .int .i64 0] 44)
    replace c2 := fun z r' h => ((Q.refl w3).alloc (.cells #[.int .i64 v1, .int .i64 v2, .int .i64 0] 44)).cell (c2 z r' h)
    have l4 : g < (w3.alloc (.cells #[.int .i64 v1, .int .i64 v2, .int .i64 0] 44)).heap.size := by simp; omega
    obtain ⟨bf, hbf⟩ : ∃ bf, bf = w3.heap.size := ⟨_, rfl⟩
    rw [← hbf] at BF hwb ⊢
    generalize w3.alloc (.cells #[.int .i64 v1, .int .i64 v2, .int .i64 0] 44) = w4 at *
    clear hbf E3 Q3 B1 l1 l3
    go_cut [] from 10 (fun wc => ∃ t, tOf r t ∧ Blk wc bf 44 #[.int .i64 v1, .int .i64 v2, .int .i64 t] ∧ Blk wc w.heap.size 44 #[.int .i64 0, .int .i64 0, .int .i64 0] ∧ Q w wc)
    case first =>
      rcases hr : r with _ | ⟨z, r'⟩
      · have hN2 : ¬ (2 : Int) < (N : Int) := by have := HN0.out hr; omega
        go_wp2_with fail
        go_meet
        exact ⟨0, Or.inl ⟨hr, rfl⟩, BF, R0, Q4⟩
      · have hN2 : (2 : Int) < (N : Int) := by have := HN1.out z r' hr; omega
        have c2' := c2 z r' hr
        obtain ⟨t, kk, r3⟩ := TimR.ex z
        have K3 := Lib.hid (fun wv (hv : Env wv) => impl_ReadTime z t kk r3 (HZ.out z r' hr) wv hv)
        go_wp2_with fail
        refine (K3.out _ E4).mono ?_
        rintro e w5 ⟨rfl, q5⟩
        replace BF := BF.q q5
        replace R0 := R0.q q5
        have fF := BF.frozen
        have lF := BF.lt
        have cF := BF.cell
        go_wp2_with fail
        go_meet
        exact ⟨t, Or.inr ⟨z, r', kk, hr, r3⟩, BF.set3_2 _, R0.far (p := ⟨bf, 2, none⟩) (by simp; omega) _, Q.setCell (p := ⟨bf, 2, none⟩) (Q4.trans q5) (Nat.le_of_lt hwb) _⟩
    case rest =>
      clear R0 BF c2 l4 E4 Q4
      obtain ⟨t, ht, BF, R0, Q5⟩ := hcut
      rename_i w5
      have E5 := hE.q Q5
      have HO' := HO.out t ht
      clear HO HN0 HN1 HZ ht
      have cF := BF.cell
      have lF := BF.lt
      have cR := R0.cell
      have fR := R0.frozen
      have lR := R0.lt
      rcases HO' with ⟨rfl, rfl, h3, hT, rfl, rfl, rfl, rfl⟩ | ⟨hT, rfl, rfl, rfl, rfl⟩
      · have K4 := Lib.hid (fun wv => impl_IsFinish a b c wv)
        have K5 := Lib.hid (fun wv (h : Tbl wv) => impl_FinishText a b c wv h)
        rw [h3] at K4
        rw [hT] at K5
        clear h3 hT
        go_wp2_with fail
        refine (K4.out _).mono ?_
        rintro e w6 ⟨rfl, q6⟩
        replace BF := BF.q q6
        replace R0 := R0.q q6
        have Q6 := Q5.trans q6
        have E6 := E5.q q6
        clear E5 Q5 q6 cF lF cR fR lR
        have cF := BF.cell
        have lF := BF.lt
        go_wp2_with fail
        refine (K5.out _ E6.tbl).mono ?_
        rintro e w7 ⟨rfl, q7⟩
        replace BF := BF.q q7
        replace R0 := R0.q q7
        have Q7 := Q6.trans q7
        clear E6 Q6 q7 cF lF
        have cF := BF.cell
        have lF := BF.lt
        have cR := R0.cell
        have fR := R0.frozen
        have lR := R0.lt
        go_wp2_with fail
        have F := (((R0.set3_0 (.int .i64 a)).set3_1 (.int .i64 b)).set3_2 (.int .i64 c)).cell
        refine bodyPost_ret (v := .tuple #[.agg #[.int .i64 a, .int .i64 b, .int .i64 c], .bool true]) (by simp [results, Tryd.results41, go_sem, F]) rfl ⟨rfl, ?_⟩
        exact ((Q7.setCell (Nat.le_refl _) _).setCell (Nat.le_refl _) _).setCell (Nat.le_refl _) _
      · have hT' := str_ne hT
        clear hT
        cases k1
        · go_wp2_with fail
          have F := (((R0.set3_0 (.int .i64 0)).set3_1 (.int .i64 0)).set3_2 (.int .i64 0)).cell
          refine bodyPost_ret (v := .tuple #[.agg #[.int .i64 0, .int .i64 0, .int .i64 0], .bool false]) (by simp [results, Tryd.results41, go_sem, F]) rfl ⟨rfl, ?_⟩
          exact ((Q5.setCell (Nat.le_refl _) _).setCell (Nat.le_refl _) _).setCell (Nat.le_refl _) _
        · cases k2
          · go_wp2_with fail
            have F := (((R0.set3_0 (.int .i64 0)).set3_1 (.int .i64 0)).set3_2 (.int .i64 0)).cell
            refine bodyPost_ret (v := .tuple #[.agg #[.int .i64 0, .int .i64 0, .int .i64 0], .bool false]) (by simp [results, Tryd.results41, go_sem, F]) rfl ⟨rfl, ?_⟩
            exact ((Q5.setCell (Nat.le_refl _) _).setCell (Nat.le_refl _) _).setCell (Nat.le_refl _) _
          · have K4 := Lib.hid (fun wv => impl_IsFinish v1 v2 t wv)
            have K5 := Lib.hid (fun wv (h : Tbl wv) => impl_FinishText v1 v2 t wv h)
            generalize finT v1 v2 t = S at *
            generalize isFin v1 v2 t = FB at *
            go_wp2_with fail
            refine (K4.out _).mono ?_
            rintro e w6 ⟨rfl, q6⟩
            replace BF := BF.q q6
            replace R0 := R0.q q6
            have Q6 := Q5.trans q6
            have E6 := E5.q q6
            clear E5 Q5 q6 cF lF cR fR lR
            have cF := BF.cell
            have lF := BF.lt
            have cR := R0.cell
            have fR := R0.frozen
            have lR := R0.lt
            cases FB
            · go_wp2_with fail
              have F := (((R0.set3_0 (.int .i64 0)).set3_1 (.int .i64 0)).set3_2 (.int .i64 0)).cell
              refine bodyPost_ret (v := .tuple #[.agg #[.int .i64 0, .int .i64 0, .int .i64 0], .bool false]) (by simp [results, Tryd.results41, go_sem, F]) rfl ⟨rfl, ?_⟩
              exact ((Q6.setCell (Nat.le_refl _) _).setCell (Nat.le_refl _) _).setCell (Nat.le_refl _) _
            · go_wp2_with fail
              refine (K5.out _ E6.tbl).mono ?_
              rintro e w7 ⟨rfl, q7⟩
              replace BF := BF.q q7
              replace R0 := R0.q q7
              have Q7 := Q6.trans q7
              clear E6 Q6 q7 cF lF cR fR lR
              have cR := R0.cell
              have fR := R0.frozen
              have lR := R0.lt
              go_wp2_with fail
              have F := (((R0.set3_0 (.int .i64 0)).set3_1 (.int .i64 0)).set3_2 (.int .i64 0)).cell
              refine bodyPost_ret (v := .tuple #[.agg #[.int .i64 0, .int .i64 0, .int .i64 0], .bool false]) (by simp [results, Tryd.results41, go_sem, F]) rfl ⟨rfl, ?_⟩
              exact ((Q7.setCell (Nat.le_refl _) _).setCell (Nat.le_refl _) _).setCell (Nat.le_refl _) _
  · have hl2 : P.length < 2 := by omega
    obtain ⟨rfl, rfl, rfl, rfl⟩ := h.len (Or.inl (by rw [hP]; omega))
    obtain ⟨N, hN⟩ : ∃ N, N = P.length := ⟨_, rfl⟩
    rw [← hN] at hl2 K0
    have hNI : (N : Int) < 2 := by omega
    clear h hs hP hN hl
    go_enter Tryd.func41, Tryd.ntmps41
    go_wp2_with fail
    refine (K0.out _ E0).mono ?_
    rintro e w1 ⟨g, rfl, B1, hg, q1⟩
    replace R0 := R0.q q1
    have cR := R0.cell
    have fR := R0.frozen
    have lR := R0.lt
    have Q4 := Q0.trans q1
    clear B1
    go_wp2_with fail
    have F := (((R0.set3_0 (.int .i64 0)).set3_1 (.int .i64 0)).set3_2 (.int .i64 0)).cell
    refine bodyPost_ret (v := .tuple #[.agg #[.int .i64 0, .int .i64 0, .int .i64 0], .bool false]) (by simp [results, Tryd.results41, go_sem, F]) rfl ⟨rfl, ?_⟩
    exact ((Q4.setCell (Nat.le_refl _) _).setCell (Nat.le_refl _) _).setCell (Nat.le_refl _) _
end Go.Proofs.YtgdjgjkijcmkfaaDoor
