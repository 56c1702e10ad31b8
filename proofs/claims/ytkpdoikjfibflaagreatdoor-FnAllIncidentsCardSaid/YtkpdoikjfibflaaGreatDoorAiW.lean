/- Plain facts: the incidents of all boats are lawful, in order of time, and as many as those of the pairs; the counts of the keepers are no more than they are. No condition. Walks: the law on the incidents of all boats. Condition: the library's table of powers is as laid. -/
import Derived.Test.YtkpdoikjfibflaaGreatDoorUnA
import Derived.Test.YtkpdoikjfibflaaGreatDoorIncT
import Derived.Test.YtkpdoikjfibflaaGreatDoorKeep
import Derived.Test.YtkpdoikjfibflaaGreatDoorDrJ
namespace Go.Proofs.YtkpdoikjfibflaaGreatDoor
/-! ### Each row is an incident that has a text -/
def RwI (L : List Int) : Prop := ∃ c, L.length = c * 5 ∧ ∀ r, r < c → isInc (el L (r * 5)) (el L (r * 5 + 1)) (el L (r * 5 + 2)) (el L (r * 5 + 3)) (el L (r * 5 + 4)) = true
theorem RwI.nil : RwI [] := ⟨0, rfl, fun r h => by omega⟩
theorem RwI.app {L M : List Int} (h : RwI L) (h' : RwI M) : RwI (L ++ M) := by
  obtain ⟨c, h1, h2⟩ := h
  obtain ⟨e, h3, h4⟩ := h'
  refine ⟨c + e, by rw [List.length_append, h1, h3]; omega, fun r hr => ?_⟩
  have E (q : Nat) (hq : q < 5) := el_rows (M := M) h1 (j := r) hq
  have e0 := E 0 (by decide)
  simp only [Nat.add_zero] at e0
  rw [e0, E 1 (by decide), E 2 (by decide), E 3 (by decide), E 4 (by decide)]
  by_cases hc : r < c
  · rw [if_pos hc, if_pos hc, if_pos hc, if_pos hc, if_pos hc]; exact h2 r hc
  · rw [if_neg hc, if_neg hc, if_neg hc, if_neg hc, if_neg hc]; exact h4 _ (by omega)
theorem ruV_reason (ta tb : Bool) (x y o v : Int) (hx : x = 0 ∨ x = 1 ∨ x = 2) (hv : v = 0 ∨ v = 1 ∨ v = 2) : (ruV ta tb x y o v).1 = 0 ∨ (((ruV ta tb x y o v).1 = 1 ∨ (ruV ta tb x y o v).1 = 2) ∧ 1 ≤ (ruV ta tb x y o v).2 ∧ (ruV ta tb x y o v).2 ≤ 4) := by
  unfold ruV
  repeat' split
  all_goals first
    | exact .inl rfl
    | (right; refine ⟨?_, ?_, ?_⟩ <;> first | exact .inl rfl | exact .inr rfl | (simp only; omega))
    | (simp only; omega)
theorem evR_RwI {r : Int × Int} {t f s : Int} (hr : r.1 = 0 ∨ ((r.1 = 1 ∨ r.1 = 2) ∧ 1 ≤ r.2 ∧ r.2 ≤ 4)) (ht : 0 ≤ t ∧ t ≤ 1000000000) (hf : 0 ≤ f) (hs : f < s) (h16 : s < 16) : RwI (evR r t f s) := by
  refine ⟨1, evR_len _ _ _ _, fun q hq => ?_⟩
  obtain rfl : q = 0 := by omega
  obtain ⟨r1, r2⟩ := r
  simp only at hr
  unfold evR
  rcases hr with rfl | ⟨h1, h2, h3⟩
  · rw [if_neg (show ¬ (0 : Int) < ((0 : Int), r2).1 from Int.lt_irrefl 0)]
    exact decide_eq_true ⟨ht.1, ht.2, hf, hs, h16, .inr ⟨rfl, rfl⟩⟩
  · rw [if_pos (by simp only; omega)]
    refine decide_eq_true ⟨ht.1, ht.2, hf, hs, h16, .inl ⟨?_, h2, h3⟩⟩
    show (if r1 = 2 then s else f) = f ∨ (if r1 = 2 then s else f) = s
    split
    · exact .inr rfl
    · exact .inl rfl
theorem icTo_RwI {p : Int → Bool} {ev : Int → List Int} {L : List Int} (h : ∀ t, 0 ≤ t → t ≤ 1000000000 → RwI (ev t)) (hL : ∀ x ∈ L, 0 ≤ x ∧ x ≤ 1000000000) : ∀ k, k ≤ L.length → RwI (icTo p ev L k)
  | 0, _ => RwI.nil
  | k + 1, hk => by
    rw [icTo]
    refine (icTo_RwI h hL k (by omega)).app ?_
    unfold icK
    split
    · have := hL (el L k) (by rw [el_get (by omega)]; exact List.getElem_mem _)
      exact h _ this.1 this.2
    · exact RwI.nil
theorem prL_RwI {wx wy a b d s : Int} {D : List (Nat × List Int)} {i k : Nat} {T : List Int} (hs : 1 ≤ s) (hi : isTrk (dx D i) (dn D i) = true) (hk : isTrk (dx D k) (dn D k) = true) (h : kTm s D i k = some T) (hik : i < k) (h16 : k < 16) : RwI (prL wx wy a b d D i k T) := by
  refine icTo_RwI (fun t h0 h1 => evR_RwI ?_ ⟨h0, h1⟩ (by omega) (by omega) (by omega)) (fun x hx => ?_) _ (Nat.le_refl _)
  · exact ruV_reason _ _ _ _ _ _ (tkV_any _ _ _ _) (wwV_any _ _ _ _ _ _)
  · have h1 := ckGo_in hs 401 _ T h x hx
    have h2 := ck_bd hs hi hk
    omega
/-! ### All pairs -/
def pl (wx wy a b d s : Int) (D : List (Nat × List Int)) (i k : Nat) : Nat := (ioL wx wy a b d s (dx D i) (dn D i) (dx D k) (dn D k)).length / 5
def plIn (wx wy a b d s : Int) (D : List (Nat × List Int)) (i : Nat) : Nat → Nat
  | 0 => 0
  | j + 1 => plIn wx wy a b d s D i j + pl wx wy a b d s D i (i + 1 + j)
def plTo (wx wy a b d s : Int) (D : List (Nat × List Int)) (n : Nat) : Nat → Nat
  | 0 => 0
  | i + 1 => plTo wx wy a b d s D n i + plIn wx wy a b d s D i (n - 1 - i)
theorem pl_le (wx wy a b d s : Int) (D : List (Nat × List Int)) (i k : Nat) : pl wx wy a b d s D i k ≤ 401 := by
  obtain ⟨c, h1, h2⟩ := ioL_len wx wy a b d s (dx D i) (dn D i) (dx D k) (dn D k)
  unfold pl
  omega
theorem plIn_le (wx wy a b d s : Int) (D : List (Nat × List Int)) (i : Nat) : ∀ j, plIn wx wy a b d s D i j ≤ 401 * j
  | 0 => Nat.le_refl _
  | j + 1 => by
    have h1 := plIn_le wx wy a b d s D i j
    have h2 := pl_le wx wy a b d s D i (i + 1 + j)
    rw [plIn]
    omega
theorem plTo_le (wx wy a b d s : Int) (D : List (Nat × List Int)) {n : Nat} (hn : n ≤ 16) : ∀ i, plTo wx wy a b d s D n i ≤ 6416 * i
  | 0 => Nat.le_refl _
  | i + 1 => by
    have h1 := plTo_le wx wy a b d s D hn i
    have h2 := plIn_le wx wy a b d s D i (n - 1 - i)
    rw [plTo]
    omega
theorem icTo_len2 {p : Int → Bool} {ev ev' : Int → List Int} {T : List Int} (h : ∀ t, (ev t).length = 5) (h' : ∀ t, (ev' t).length = 5) : ∀ k, (icTo p ev T k).length = (icTo p ev' T k).length
  | 0 => rfl
  | k + 1 => by
    rw [icTo, icTo, List.length_append, List.length_append, icTo_len2 h h' k]
    unfold icK
    split
    · rw [h, h']
    · rfl
theorem io_of_kTm {wx wy a b d s : Int} {D : List (Nat × List Int)} {i k : Nat} {T : List Int} (hw : wnB wx wy = true) (hx : isWat a b d s = true) (hi : isTrk (dx D i) (dn D i) = true) (hk : isTrk (dx D k) (dn D k) = true) (h : kTm s D i k = some T) :
    ioC wx wy a b d s (dx D i) (dn D i) (dx D k) (dn D k) = 0 ∧ (prL wx wy a b d D i k T).length = pl wx wy a b d s D i k * 5 := by
  obtain ⟨f1, f2⟩ := ctim_ok (d := d) hx hi hk
  have h' : ckGo s (ckTo (dx D i) (dn D i) (dx D k) (dn D k)) 401 (ckFrom s (dx D i) (dx D k)) = some T := h
  rw [h'] at f1 f2
  have f1' : ctimC a b d s (dx D i) (dn D i) (dx D k) (dn D k) = 0 := f1
  have f2' : ctimL a b d s (dx D i) (dn D i) (dx D k) (dn D k) = T := f2
  refine ⟨by unfold ioC; rw [if_pos hw, f1'], ?_⟩
  obtain ⟨c, _, hc⟩ := prL_len wx wy a b d D i k T
  have e : (ioL wx wy a b d s (dx D i) (dn D i) (dx D k) (dn D k)).length = (prL wx wy a b d D i k T).length := by
    unfold ioL
    rw [if_pos ⟨hw, f1'⟩, f2']
    exact icTo_len2 (fun _ => evR_len _ _ _ _) (fun _ => evR_len _ _ _ _) _
  unfold pl
  rw [e, hc]
  omega
section
variable {wx wy a b d s : Int} {D : List (Nat × List Int)}
theorem aiIn_fact (hw : wnB wx wy = true) (hx : isWat a b d s = true) (hT : allT D = true) (h16 : D.length ≤ 16) {i : Nat} (hi : i < D.length) : ∀ (j : Nat) (L : List Int), i + 1 + j ≤ D.length → aiIn wx wy a b d s D i j = some L →
    RwI L ∧ L.length = plIn wx wy a b d s D i j * 5 ∧ ∀ q, q < j → ioC wx wy a b d s (dx D i) (dn D i) (dx D (i + 1 + q)) (dn D (i + 1 + q)) = 0
  | 0, L, _, h => by injection h with h; subst h; exact ⟨RwI.nil, rfl, fun q h => by omega⟩
  | j + 1, L, hj, h => by
    rw [aiIn] at h
    cases h1 : aiIn wx wy a b d s D i j with
    | none => rw [h1] at h; cases h
    | some L1 =>
      rw [h1] at h
      cases h2 : kTm s D i (i + 1 + j) with
      | none => rw [h2] at h; cases h
      | some T =>
        rw [h2] at h
        injection h with h
        subst h
        obtain ⟨r1, r2, r3⟩ := aiIn_fact hw hx hT h16 hi j L1 (by omega) h1
        have ti := allT_at hT hi
        have tk := allT_at hT (show i + 1 + j < D.length by omega)
        obtain ⟨g1, g2⟩ := io_of_kTm hw hx ti tk h2
        refine ⟨r1.app (prL_RwI (isWat_step hx).1 ti tk h2 (by omega) (by omega)), by rw [List.length_append, r2, g2, plIn]; omega, fun q hq => ?_⟩
        by_cases hqj : q < j
        · exact r3 q hqj
        · obtain rfl : q = j := by omega
          exact g1
theorem aiTo_fact (hw : wnB wx wy = true) (hx : isWat a b d s = true) (hT : allT D = true) (h16 : D.length ≤ 16) : ∀ (i : Nat) (L : List Int), i ≤ D.length → aiTo wx wy a b d s D D.length i = some L →
    RwI L ∧ L.length = plTo wx wy a b d s D D.length i * 5 ∧ ∀ p q, p < i → p < q → q < D.length → ioC wx wy a b d s (dx D p) (dn D p) (dx D q) (dn D q) = 0
  | 0, L, _, h => by injection h with h; subst h; exact ⟨RwI.nil, rfl, fun p q h => by omega⟩
  | i + 1, L, hi, h => by
    rw [aiTo] at h
    cases h1 : aiTo wx wy a b d s D D.length i with
    | none => rw [h1] at h; cases h
    | some L1 =>
      rw [h1] at h
      cases h2 : aiIn wx wy a b d s D i (D.length - 1 - i) with
      | none => rw [h2] at h; cases h
      | some M =>
        rw [h2] at h
        injection h with h
        subst h
        obtain ⟨r1, r2, r3⟩ := aiTo_fact hw hx hT h16 i L1 (by omega) h1
        obtain ⟨s1, s2, s3⟩ := aiIn_fact hw hx hT h16 (show i < D.length by omega) _ M (by omega) h2
        refine ⟨r1.app s1, by rw [List.length_append, r2, s2, plTo]; omega, fun p q hp hpq hq => ?_⟩
        by_cases hpi : p < i
        · exact r3 p q hpi hpq hq
        · obtain rfl : p = i := by omega
          have := s3 (q - (p + 1)) (by omega)
          rwa [show p + 1 + (q - (p + 1)) = q by omega] at this
end
/-! ### Sorted rows -/
theorem srtL_RwI {X : List Int} (h : RwI X) : RwI (srtL X (X.length / 5)) := by
  obtain ⟨c, h1, h2⟩ := h
  have hc : X.length / 5 = c := by omega
  rw [hc]
  refine ⟨c, srtL_len _ _, fun r hr => ?_⟩
  obtain ⟨hp, _⟩ := srtF_ok (keyI X) c
  have hf := (hp.into r (Nat.zero_le _) hr).2
  have E (q : Nat) (hq : q < 5) := flatP_el X (srtF (keyI X) c) hq c hr
  have e0 := E 0 (by decide)
  simp only [Nat.add_zero] at e0
  unfold srtL
  rw [e0, E 1 (by decide), E 2 (by decide), E 3 (by decide), E 4 (by decide)]
  exact h2 _ hf
theorem srtL_up {X : List Int} {c : Nat} (i j : Nat) (hij : i < j) (hj : j < c) : el (srtL X c) (i * 5) ≤ el (srtL X c) (j * 5) := by
  obtain ⟨_, hs⟩ := srtF_ok (keyI X) c
  have h := hs i j (Nat.zero_le _) hij hj
  have e0 := flatP_el X (srtF (keyI X) c) (r := 0) (by decide) c (show i < c by omega)
  have e1 := flatP_el X (srtF (keyI X) c) (r := 0) (by decide) c hj
  simp only [Nat.add_zero] at e0 e1
  have h' : keyI X (srtF (keyI X) c i) ≤ keyI X (srtF (keyI X) c j) := by unfold Lt at h; omega
  unfold srtL
  rw [e0, e1]
  exact h'
/-! ### The counts -/
theorem sum_set {L : List Int} {m : Nat} {v : Int} (hm : m < L.length) : (L.set m v).sum = L.sum - el L m + v := by
  induction L generalizing m with
  | nil => cases hm
  | cons x L ih =>
    cases m with
    | zero =>
      show v + L.sum = (x + L.sum) - x + v
      omega
    | succ m =>
      have h := ih (m := m) (by simpa using hm)
      have e : el (x :: L) (m + 1) = el L m := by simp [el]
      show x + (L.set m v).sum = (x + L.sum) - el (x :: L) (m + 1) + v
      rw [h, e]
      omega
theorem cnt_sum (b : Nat) (xs : List Int) : ∀ k, (cntTo b xs k).sum ≤ k
  | 0 => by
    have : ∀ n, (List.replicate n (0 : Int)).sum = 0 := fun n => by
      induction n with
      | zero => rfl
      | succ n ih => rw [List.replicate_succ]; show 0 + (List.replicate n (0 : Int)).sum = 0; rw [ih]; rfl
    rw [cntTo, this]
    exact Int.le_refl _
  | k + 1 => by
    have ih := cnt_sum b xs k
    rw [cntTo]
    split
    · by_cases hm : (keepOf xs k).toNat < (cntTo b xs k).length
      · rw [sum_set hm]; omega
      · rw [List.set_eq_of_length_le (by omega)]; omega
    · omega
/-- The sum of the first k counts. -/
def smTo (L : List Int) (k : Nat) : Int := (L.take k).sum
theorem smTo_succ {L : List Int} {k : Nat} (hk : k < L.length) : smTo L (k + 1) = smTo L k + el L k := by
  unfold smTo
  rw [List.take_succ_eq_append_getElem hk, List.sum_append, List.sum_singleton, el_get hk]
theorem smTo_bd {L : List Int} {M : Nat} (h : ∀ j, 0 ≤ el L j ∧ el L j ≤ M) : ∀ k, k ≤ L.length → 0 ≤ smTo L k ∧ smTo L k ≤ (k * M : Nat)
  | 0, _ => by unfold smTo; simp
  | k + 1, hk => by
    have h1 := smTo_bd h k (by omega)
    have h2 := h k
    rw [smTo_succ (by omega)]
    have e : ((k + 1) * M : Nat) = k * M + M := Nat.succ_mul k M
    omega
theorem inc_text {t a b k r : Int} (h : isInc t a b k r = true) : ((incT t a b k r).toList == (⟨#[]⟩ : ByteArray).toList) = false := by
  have hs : incT t a b k r ≠ ⟨#[]⟩ := by
    intro he
    have h2 : (incT t a b k r).size = 0 := by rw [he]; rfl
    unfold incT at h2
    rw [if_pos h] at h2
    split at h2 <;> simp only [ByteArray.size_append, bs_size] at h2 <;> simp at h2
  cases hb : ((incT t a b k r).toList == (⟨#[]⟩ : ByteArray).toList)
  · rfl
  · exact absurd (bytes_eq hb) hs
theorem inc_full {t a b k r : Int} (h : isInc t a b k r = true) : (incT t a b k r).toList.isEmpty = false := by
  have h1 := inc_text h
  cases hb : (incT t a b k r).toList.isEmpty
  · rfl
  · rw [List.isEmpty_iff.1 hb] at h1
    have e : (⟨#[]⟩ : ByteArray).toList = [] := by unfold ByteArray.toList ByteArray.toList.loop; simp [ByteArray.size]
    rw [e] at h1
    cases h1
/-- What the law on all incidents asks. -/
theorem ai_facts {wx wy a b d s : Int} {D : List (Nat × List Int)} (h : aiC wx wy a b d s D = 0) :
    D.length ≤ 16 ∧ ∃ c, c ≤ 102656 ∧ (aiL wx wy a b d s D).length = c * 5 ∧ plTo wx wy a b d s D D.length D.length = c ∧ (∀ p q, p < q → q < D.length → ioC wx wy a b d s (dx D p) (dn D p) (dx D q) (dn D q) = 0) ∧
      (∀ r, r < c → isInc (el (aiL wx wy a b d s D) (r * 5)) (el (aiL wx wy a b d s D) (r * 5 + 1)) (el (aiL wx wy a b d s D) (r * 5 + 2)) (el (aiL wx wy a b d s D) (r * 5 + 3)) (el (aiL wx wy a b d s D) (r * 5 + 4)) = true) ∧
      (∀ j, j + 1 < c → el (aiL wx wy a b d s D) (j * 5) ≤ el (aiL wx wy a b d s D) ((j + 1) * 5)) := by
  have h16 : D.length ≤ 16 := by
    rcases Nat.lt_or_ge 16 D.length with h' | h'
    · rw [(aiC_3 h').1] at h; cases h
    · exact h'
  refine ⟨h16, ?_⟩
  have hv : wnB wx wy = true ∧ isWat a b d s = true ∧ allT D = true := by
    by_cases hv : wnB wx wy = true ∧ isWat a b d s = true ∧ allT D = true
    · exact hv
    · rw [(aiC_1 (by omega) hv).1] at h; cases h
  obtain ⟨hw, hx, hT⟩ := hv
  cases hX : aiTo wx wy a b d s D D.length D.length with
  | none => rw [(aiC_n (by omega) hw hx hT hX).1] at h; cases h
  | some X =>
    obtain ⟨_, e⟩ := aiC_s (by omega) hw hx hT hX
    obtain ⟨r1, r2, r3⟩ := aiTo_fact hw hx hT h16 _ X (Nat.le_refl _) hX
    have hle := plTo_le wx wy a b d s D h16 D.length
    have hX5 : X.length / 5 = plTo wx wy a b d s D D.length D.length := by omega
    have hI := srtL_RwI r1
    rw [e, hX5]
    rw [hX5] at hI
    obtain ⟨c, g1, g2⟩ := hI
    have hcc : plTo wx wy a b d s D D.length D.length = c := by have := srtL_len X (plTo wx wy a b d s D D.length D.length); omega
    rw [hcc] at g1 g2 ⊢
    exact ⟨c, by omega, g1, rfl, fun p q hpq hq => r3 p q (by omega) hpq hq, g2, fun j hj => srtL_up j (j + 1) (by omega) hj⟩
theorem keep_all {L : List Int} {c : Nat} (h : ∀ r, r < c → isInc (el L (r * 5)) (el L (r * 5 + 1)) (el L (r * 5 + 2)) (el L (r * 5 + 3)) (el L (r * 5 + 4)) = true) : keepAll 16 L c = true := by
  unfold keepAll
  refine List.all_eq_true.2 fun r hr => ?_
  have := of_decide_eq_true (h r (List.mem_range.1 hr))
  unfold keepIn keepOf
  refine decide_eq_true ?_
  omega
end Go.Proofs.YtkpdoikjfibflaaGreatDoor
namespace Go.Proofs.YtkpdoikjfibflaaGreatDoor
open Go.RowKit Go.WideShapes Go.ChangeShapes
set_option maxRecDepth 100000 in
set_option maxHeartbeats 8000000 in
theorem law_FnAllIncidents (A : Option Addr) (n c : Nat) (hc : n ≤ c ∧ c ≤ maxLen) (w : World) (ha : Rd8 w A n) (hT : Tbl w) :
    Calls Tryz.prog 3 #[.slice A n c] w fun e w' => e = .returned (.bool true) ∧ Below w.heap.size w w' := by
  have hn : n ≤ 9223372036854775807 := by unfold maxLen at hc; omega
  clear hc
  have K0 := Lib.hid (fun wv => big_any A n c wv hn)
  by_cases h4 : 4096 < n
  · rw [decide_eq_true h4] at K0
    go_enter Tryz.func3, Tryz.ntmps3
    go_wp2_with (go_at_call 4; refine (K0.out _).mono ?_; rintro e w' ⟨rfl, rfl⟩)
    go_ret
    exact ⟨rfl, Q.refl _⟩
  · rw [decide_eq_false h4] at K0
    replace hn : n ≤ 140737488355327 := by omega
    have K1 := Lib.hid (fun wv (h : Rd8 wv A n) => spec_DrawAllIncidents A n c wv h hn)
    clear h4
    go_enter Tryz.func3, Tryz.ntmps3
    go_wp2_with (go_at_call 4; refine (K0.out _).mono ?_; rintro e w' ⟨rfl, rfl⟩)
    refine (K1.out _ ha).mono ?_
    rintro e w1 ⟨x, y, a, b, d, s, B, m, c1, D, rfl, hx, hl, hm, q1⟩
    clear K0 K1 ha
    have BW : Blk ((w1.alloc (.cells #[.int .i64 x, .int .i64 y] 25)).alloc (.cells #[.int .i64 a, .int .i64 b, .int .i64 d, .int .i64 s] 27)) w1.heap.size 25 #[.int .i64 x, .int .i64 y] := (Blk.new _ _ _).alloc _
    have BX : Blk ((w1.alloc (.cells #[.int .i64 x, .int .i64 y] 25)).alloc (.cells #[.int .i64 a, .int .i64 b, .int .i64 d, .int .i64 s] 27)) (w1.heap.size + 1) 27 #[.int .i64 a, .int .i64 b, .int .i64 d, .int .i64 s] := by simpa using Blk.new (w1.alloc (.cells #[.int .i64 x, .int .i64 y] 25)) 27 #[.int .i64 a, .int .i64 b, .int .i64 d, .int .i64 s]
    have QW : Q w ((w1.alloc (.cells #[.int .i64 x, .int .i64 y] 25)).alloc (.cells #[.int .i64 a, .int .i64 b, .int .i64 d, .int .i64 s] 27)) := (q1.alloc _).alloc _
    replace hT := hT.q QW
    have qA : Q w1 ((w1.alloc (.cells #[.int .i64 x, .int .i64 y] 25)).alloc (.cells #[.int .i64 a, .int .i64 b, .int .i64 d, .int .i64 s] 27)) := by (repeat (first | assumption | exact Q.refl _ | refine Q.alloc ?_ _ | refine Q.drewN ?_ _ | refine Q.drew ?_))
    replace hx := hx.q qA
    clear q1 qA
    have hm2 : m ≤ 9223372036854775807 := by omega
    have k1 := fun wv (h : RdD wv B D) => impl_AllIncidents x y a b d s B m c1 D wv h hl hm2
    have k2 := fun wv (h : RdD wv B D) => spec_AllIncidents x y a b d s B m c1 D wv h hl hm2
    unfold RS at k1 k2
    by_cases h0 : aiC x y a b d s D = 0
    · obtain ⟨h16, N, hN, hLc, hpl, hio, hinc, hup⟩ := ai_facts h0
      have hlP := pl_le x y a b d s D
      have hlI := plIn_le x y a b d s D
      have hlT := plTo_le x y a b d s D h16
      rw [hl] at h16 hpl hio hlT
      rw [h0] at k1 k2
      have KP := Lib.hid (fun (i k : Nat) (hik : i < k) (hk : k < m) (Bi Bk : Option Addr) (ci ck : Nat) wv (h : Rd wv Bi (dx D i)) (h' : Rd wv Bk (dx D k)) e1 n1 e2 n2 => (show Calls Tryz.prog 8 #[.agg #[.int .i64 x, .int .i64 y], .agg #[.int .i64 a, .int .i64 b, .int .i64 d, .int .i64 s], .agg #[.slice Bi (dn D i) ci], .agg #[.slice Bk (dn D k) ck]] wv (fun e w' => ∃ A c, e = .returned (.tuple #[.slice A (pl x y a b d s D i k) c, .int .i64 0]) ∧ Q wv w') from by
        refine (impl_IncidentsOf x y a b d s Bi (dn D i) ci (dx D i) Bk (dn D k) ck (dx D k) wv h e1 n1 h' e2 n2).mono fun e w' hp => ?_
        unfold RS at hp
        rw [hio i k hik hk] at hp
        obtain ⟨A', c', h1, _, h3⟩ := hp
        exact ⟨A', c', h1, h3⟩))
      have hkeep := keep_all hinc
      have hkc : kcL 16 (aiL x y a b d s D) N = cntTo 16 (aiL x y a b d s D) N ∧ kcN 16 (aiL x y a b d s D) N = 16 ∧ kcC 16 (aiL x y a b d s D) N = 0 := kc_yes (b := 16) (by decide) hkeep
      have k4 := fun (A' : Option Addr) (c' : Nat) wv (h : Rd wv A' (aiL x y a b d s D)) => impl_KeeperCounts 16 A' N c' (aiL x y a b d s D) wv h hLc (by omega)
      unfold RS at k4
      rw [hkc.1, hkc.2.1, hkc.2.2] at k4
      have hC1 := cntTo_len 16 (aiL x y a b d s D) N
      have hC2 := cntTo_bd 16 (aiL x y a b d s D) N
      have hC3 := cnt_sum 16 (aiL x y a b d s D) N
      clear h0 hio hkeep hkc
      generalize cntTo 16 (aiL x y a b d s D) N = C at *
      generalize aiL x y a b d s D = L at *
      have hL5 : L.length / 5 = N := by omega
      rw [hL5] at k1 k2
      have HL := Lib.hid hLc
      have HI := Lib.hid hinc
      have HU := Lib.hid hup
      have HP := Lib.hid (⟨hpl, hlP, hlI, hlT⟩ : plTo x y a b d s D m m = N ∧ (∀ i k, pl x y a b d s D i k ≤ 401) ∧ (∀ i j, plIn x y a b d s D i j ≤ 401 * j) ∧ (∀ i, plTo x y a b d s D m i ≤ 6416 * i))
      have HC := Lib.hid (⟨hC1, hC2, by have e : smTo C 16 = C.sum := (by unfold smTo; rw [List.take_of_length_le (by omega)]); omega⟩ : C.length = 16 ∧ (∀ j, 0 ≤ el C j ∧ el C j ≤ N) ∧ smTo C 16 ≤ N)
      have HD := Lib.hid hl
      have hmI : (m : Int) ≤ 16 := by omega
      have hNI : (N : Int) ≤ 102656 := by omega
      have K1 := Lib.hid k1
      have K2 := Lib.hid k2
      have K4 := Lib.hid k4
      clear k1 k2 k4 hpl hlP hlI hlT hinc hup hC1 hC2 hC3 hL5 hLc hl hm hm2
      have cBW := BW.cell
      have lBW := BW.lt
      have cBX := BX.cell
      have lBX := BX.lt
      go_wp2_with fail
      clear cBW lBW cBX lBX
      refine (K1.out _ hx).mono ?_
      rintro e w2 ⟨A1, d1, rfl, o1, q2⟩
      replace BW := BW.q q2
      replace BX := BX.q q2
      replace hx := hx.q q2
      replace QW := QW.trans q2
      replace hT := hT.q q2
      have r1 := o1.rd
      clear o1 q2
      have cBW := BW.cell
      have lBW := BW.lt
      have cBX := BX.cell
      have lBX := BX.lt
      go_wp2_with fail
      clear cBW lBW cBX lBX
      refine (K2.out _ hx).mono ?_
      rintro e w3 ⟨A2, d2, rfl, o2, q3⟩
      replace BW := BW.q q3
      replace BX := BX.q q3
      replace hx := hx.q q3
      replace r1 := r1.q q3
      replace QW := QW.trans q3
      replace hT := hT.q q3
      have r2 := o2.rd
      clear o2 q3 K1 K2
      go_wp2_with fail
      go_loopw [10, 11] (fun t i wr => ∃ (k T0 : Nat), k ≤ m ∧ i = .int .i64 k ∧ t = .int .i64 T0 ∧ Hid (T0 = plTo x y a b d s D m k) ∧ T0 ≤ 102656 ∧ Q w3 wr) (fun _ i _ => m - (intOf i).toNat)
      case atStart => exact ⟨0, 0, Nat.zero_le _, rfl, rfl, Lib.hid rfl, by omega, by (repeat (first | assumption | exact Q.refl _ | refine Q.alloc ?_ _ | refine Q.drewN ?_ _ | refine Q.drew ?_))⟩
      case round =>
        obtain ⟨i, T0, hi, rfl, rfl, HT0, hT0, hq⟩ := hrel
        by_cases hlt : i < m
        · have hltI : (i : Int) < (m : Int) := by omega
          obtain ⟨bl, o, Bi, ci, rfl, g00, hri0, hxi, hni⟩ := hx.at_ HD.out hlt
          have hii : (0 : Int) ≤ (i : Int) := by omega
          go_wp2_with fail
          go_loopw [10, 12] (fun t kk wz => ∃ (j T1 : Nat), i + 1 + j ≤ m ∧ kk = .int .i64 ((i : Int) + 1 + (j : Int)) ∧ t = .int .i64 T1 ∧ Hid (T1 = T0 + plIn x y a b d s D i j) ∧ T1 ≤ 102656 + 401 * j ∧ Q w3 wz) (fun _ kk _ => m - (intOf kk).toNat)
          case atStart => exact ⟨0, T0, by omega, by go_num, rfl, Lib.hid rfl, by omega, hq.trans (by (repeat (first | assumption | exact Q.refl _ | refine Q.alloc ?_ _ | refine Q.drewN ?_ _ | refine Q.drew ?_)))⟩
          case round =>
            obtain ⟨j, T1, hj, rfl, rfl, HT1, hT1, hq2⟩ := hrel
            clear hq
            have hjI : (j : Int) ≤ 16 := by omega
            by_cases hlt2 : i + 1 + j < m
            · obtain ⟨k, hk⟩ : ∃ k, k = i + 1 + j := ⟨_, rfl⟩
              have hkE : (i : Int) + 1 + (j : Int) = (k : Int) := by omega
              have hkI : (k : Int) < (m : Int) := by omega
              have hkw : IntKind.i64.wrap (k : Int) = (k : Int) := by rw [IntKind.wrap_i64]; omega
              have hkn : k < m := by omega
              obtain ⟨_, _, Bk, ck, hAe, g10, hrk0, hxk, hnk⟩ := hx.at_ HD.out hkn
              cases hAe
              have g0 := hq2.cell g00
              have g1 := hq2.cell g10
              have b0 := BW.q hq2
              have b1 := BX.q hq2
              have hri := hri0.q hq2
              have hrk := hrk0.q hq2
              have KP1 := Lib.hid (fun wv (h : Rd wv Bi (dx D i)) (h' : Rd wv Bk (dx D k)) => KP.out i k (by omega) hkn Bi Bk ci ck wv h h' hxi hni hxk hnk)
              have hS : ∀ w', Q w3 w' → (Q w3 w' ∧ w'.cell? ⟨w1.heap.size, 0, none⟩ = some (.int .i64 x) ∧ w'.cell? ⟨w1.heap.size, 1, none⟩ = some (.int .i64 y) ∧ w'.cell? ⟨w1.heap.size + 1, 0, none⟩ = some (.int .i64 a) ∧ w'.cell? ⟨w1.heap.size + 1, 1, none⟩ = some (.int .i64 b) ∧ w'.cell? ⟨w1.heap.size + 1, 2, none⟩ = some (.int .i64 d) ∧ w'.cell? ⟨w1.heap.size + 1, 3, none⟩ = some (.int .i64 s) ∧ w'.cell? ⟨bl, o + i, none⟩ = some (.slice Bi (dn D i) ci) ∧ w'.cell? ⟨bl, o + k, none⟩ = some (.slice Bk (dn D k) ck)) := fun w' q => ⟨q, (BW.q q).cell 0, (BW.q q).cell 1, (BX.q q).cell 0, (BX.q q).cell 1, (BX.q q).cell 2, (BX.q q).cell 3, q.cell g00, q.cell g10⟩
              have hp := HP.out.2.1 i k
              have HN := Lib.hid (show T1 + pl x y a b d s D i k = T0 + plIn x y a b d s D i (j + 1) by rw [HT1.out, plIn, ← hk]; omega)
              generalize pl x y a b d s D i k = P at *
              have hPI : (T1 : Int) + (P : Int) ≤ 200000 := by omega
              have HK := Lib.hid hk
              clear hk hxi hni hxk hnk
              go_wp2_with fail
              go_region_held3 (fun w' => Q w3 w' ∧ w'.cell? ⟨w1.heap.size, 0, none⟩ = some (.int .i64 x) ∧ w'.cell? ⟨w1.heap.size, 1, none⟩ = some (.int .i64 y) ∧ w'.cell? ⟨w1.heap.size + 1, 0, none⟩ = some (.int .i64 a) ∧ w'.cell? ⟨w1.heap.size + 1, 1, none⟩ = some (.int .i64 b) ∧ w'.cell? ⟨w1.heap.size + 1, 2, none⟩ = some (.int .i64 d) ∧ w'.cell? ⟨w1.heap.size + 1, 3, none⟩ = some (.int .i64 s) ∧ w'.cell? ⟨bl, o + i, none⟩ = some (.slice Bi (dn D i) ci) ∧ w'.cell? ⟨bl, o + k, none⟩ = some (.slice Bk (dn D k) ck)) (first | exact hS _ (hq2.trans (by (repeat (first | with_reducible assumption | with_reducible exact Q.refl _ | with_reducible refine Q.alloc ?_ _ | with_reducible refine Q.drewN ?_ _ | with_reducible refine Q.drew ?_)))) | (go_split_ands; exact hS _ (hq2.trans (by (repeat (first | with_reducible assumption | with_reducible exact Q.refl _ | with_reducible refine Q.alloc ?_ _ | with_reducible refine Q.drewN ?_ _ | with_reducible refine Q.drew ?_)))))) (first | (go_at_call 8; refine (KP1.out _ (hri.q (by (repeat (first | with_reducible assumption | with_reducible exact Q.refl _ | with_reducible refine Q.alloc ?_ _ | with_reducible refine Q.drewN ?_ _ | with_reducible refine Q.drew ?_)))) (hrk.q (by (repeat (first | with_reducible assumption | with_reducible exact Q.refl _ | with_reducible refine Q.alloc ?_ _ | with_reducible refine Q.drewN ?_ _ | with_reducible refine Q.drew ?_))))).mono ?_; rintro e5 w5 ⟨A5, c5, rfl, q5⟩; have QR : Q wr w5 := Q.trans (by (repeat (first | with_reducible assumption | with_reducible exact Q.refl _ | with_reducible refine Q.alloc ?_ _ | with_reducible refine Q.drewN ?_ _ | with_reducible refine Q.drew ?_))) q5))
              have hq5 := hq2.trans QR
              clear hri hrk g0 g1 b0 b1
              go_wp2_with fail
              go_roundw
              case rel => exact ⟨j + 1, T1 + P, by have := HK.out; omega, by go_num, by go_num, HN, by omega, hq5⟩
              case measure => simp [intOf]; omega
            · have hltJ : ¬ (i : Int) + 1 + (j : Int) < (m : Int) := by omega
              have hjn : j = m - 1 - i := by omega
              have HN := Lib.hid (show T1 = plTo x y a b d s D m (i + 1) by rw [HT1.out, HT0.out, plTo, ← hjn])
              have hT1b : T1 ≤ 102656 := by have h1 := HP.out.2.2.2 (i + 1); have h2 := HN.out; omega
              clear hjn
              go_wp2_with fail
              go_roundw
              case rel => exact ⟨i + 1, T1, by omega, by go_num, rfl, HN, hT1b, hq2⟩
              case measure => simp [intOf]; omega
        · obtain rfl : i = m := by omega
          have hltI : ¬ (i : Int) < (i : Int) := by omega
          obtain rfl : T0 = N := by rw [HT0.out]; exact HP.out.1
          clear HT0 hT0
          go_wp2_with fail
          refine (K4.out _ _ _ (r1.q hq)).mono ?_
          rintro e w4 ⟨A4, d4, rfl, o4, q4⟩
          have hq4 := hq.trans q4
          have r4 := o4.rd
          clear o4 K4
          go_wp2_with fail
          go_loopw [17, 18] (fun t i wr => ∃ (k : Nat) (S : Int), k ≤ 16 ∧ i = .int .i64 k ∧ t = .int .i64 S ∧ Hid (S = smTo C k) ∧ (0 ≤ S ∧ S ≤ 2000000) ∧ Q w4 wr) (fun _ i _ => 16 - (intOf i).toNat)
          case atStart => exact ⟨0, 0, by omega, rfl, rfl, Lib.hid rfl, by omega, by (repeat (first | assumption | exact Q.refl _ | refine Q.alloc ?_ _ | refine Q.drewN ?_ _ | refine Q.drew ?_))⟩
          case round =>
            obtain ⟨k, S, hk, rfl, rfl, HS, hS, hq5⟩ := hrel
            by_cases hk16 : k < 16
            · have hkI : (k : Int) < 16 := by omega
              obtain ⟨b4, o4, rfl, x0⟩ := (r4.q hq5).at1 HC.out.1 hk16
              have hC := HC.out.2.1 k
              have HN := Lib.hid (show S + el C k = smTo C (k + 1) by rw [smTo_succ (by rw [HC.out.1]; exact hk16), HS.out])
              have hSb := smTo_bd HC.out.2.1 (k + 1) (by rw [HC.out.1]; omega)
              rw [← HN.out] at hSb
              have hmul : (k + 1) * T0 ≤ 16 * T0 := Nat.mul_le_mul_right _ (by omega)
              have hSb2 : S + el C k ≤ 2000000 := by omega
              generalize el C k = V at *
              clear hSb hmul
              go_wp2_with fail
              go_roundw
              case rel => exact ⟨k + 1, S + V, by omega, by go_num, by go_num, HN, by omega, hq5.trans (by (repeat (first | assumption | exact Q.refl _ | refine Q.alloc ?_ _ | refine Q.drewN ?_ _ | refine Q.drew ?_)))⟩
              case measure => simp [intOf]; omega
            · have hS16 : S ≤ (T0 : Int) := by rw [HS.out, show k = 16 by omega]; exact HC.out.2.2
              have hkI : ¬ (k : Int) < 16 := by omega
              obtain ⟨kk, hkk⟩ : ∃ kk, kk = k := ⟨_, rfl⟩
              subst hkk
              clear HS hk16
              go_wp2_with fail
              go_loopw [19] (fun i wr => ∃ k : Nat, k ≤ T0 ∧ i = .int .i64 k ∧ Q w4 wr) (fun i _ => T0 - (intOf i).toNat)
              case atStart => exact ⟨0, Nat.zero_le _, rfl, hq5.trans (by (repeat (first | assumption | exact Q.refl _ | refine Q.alloc ?_ _ | refine Q.drewN ?_ _ | refine Q.drew ?_)))⟩
              case round =>
                clear hq5
                obtain ⟨k, hk, rfl, hq5⟩ := hrel
                have hq6 := q4.trans hq5
                by_cases hlt : k < T0
                · have hltI : (k : Int) < (T0 : Int) := by omega
                  have hkI : (k : Int) ≤ 102656 := by omega
                  obtain ⟨b1, o1, rfl, y0, y1, y2, y3, y4⟩ := (r1.q (hq.trans hq6)).at5 HL.out hlt
                  obtain ⟨b2, o2, rfl, z0, z1, z2, z3, z4⟩ := (r2.q (hq.trans hq6)).at5 HL.out hlt
                  have hIn := HI.out k hlt
                  have kt := fun wv (h : Tbl wv) => impl_IncidentText (el L (k * 5)) (el L (k * 5 + 1)) (el L (k * 5 + 2)) (el L (k * 5 + 3)) (el L (k * 5 + 4)) wv h
                  have hSe := inc_full hIn
                  generalize incT (el L (k * 5)) (el L (k * 5 + 1)) (el L (k * 5 + 2)) (el L (k * 5 + 3)) (el L (k * 5 + 4)) = SS at *
                  have hTt := hT.q (hq.trans hq6)
                  have l0 := later_cell y0
                  have l1 := later_cell y1
                  have l2 := later_cell y2
                  have l3 := later_cell y3
                  have l4 := later_cell y4
                  have m0 := later_cell z0
                  have m1 := later_cell z1
                  have m2 := later_cell z2
                  have m3 := later_cell z3
                  have m4 := later_cell z4
                  rcases Nat.eq_zero_or_pos k with hk0 | hk0
                  · have hkz : ¬ (0 : Int) < (k : Int) := by omega
                    have hkz2 : ¬ 0 < k := by omega
                    clear hk0 hIn
                    generalize el L (k * 5) = E0 at *
                    generalize el L (k * 5 + 1) = E1 at *
                    generalize el L (k * 5 + 2) = E2 at *
                    generalize el L (k * 5 + 3) = E3 at *
                    generalize el L (k * 5 + 4) = E4 at *
                    have KT := Lib.hid kt
                    clear kt y0 y1 y2 y3 y4 z0 z1 z2 z3 z4
                    go_wp2_with fail
                    refine wp_region_later_lit (by kernel_rfl) (by kernel_rfl) ?_
                    repeat (any_goals (first | go_big_quiet_step ((go_at_call 10; exact later_call (KT.out _ (hTt.q (Later.q _))))) | quiet_step ((go_at_call 10; exact later_call (KT.out _ (hTt.q (Later.q _))))) | (refine wpQuiet_step (fun K hK => ?_); go_simp; split <;> (refine hK _ ?_; clear hK K))))
                    all_goals (refine wpQuiet_nil ?_; rintro _ ⟨⟨w8, q8⟩, rfl⟩; try dsimp only)
                    all_goals go_wp2_with fail
                    clear hSe
                    go_roundw
                    case rel => exact ⟨k + 1, by omega, by go_num, hq5.trans q8⟩
                    case measure => simp [intOf]; omega
                  · obtain ⟨j, rfl⟩ : ∃ j, k = j + 1 := ⟨k - 1, by omega⟩
                    have hjw : IntKind.i64.wrap (j : Int) = (j : Int) := by rw [IntKind.wrap_i64]; omega
                    obtain ⟨_, _, hAe, p0, _⟩ := (r1.q (hq.trans hq6)).at5 HL.out (show j < T0 by omega)
                    cases hAe
                    have n0 := later_cell p0
                    have hle := HU.out j hlt
                    have hj0 : (0 : Int) < (j : Int) + 1 := by omega
                    have hj1I : (j : Int) + 1 < (T0 : Int) := by omega
                    have hjM : j < T0 := by omega
                    have hjM2 : j + 1 < T0 := by omega
                    clear hk0 hIn
                    generalize el L ((j + 1) * 5) = E0 at *
                    generalize el L ((j + 1) * 5 + 1) = E1 at *
                    generalize el L ((j + 1) * 5 + 2) = E2 at *
                    generalize el L ((j + 1) * 5 + 3) = E3 at *
                    generalize el L ((j + 1) * 5 + 4) = E4 at *
                    generalize el L (j * 5) = F0 at *
                    have hlt0 : ¬ E0 < F0 := by omega
                    have hlt1 : decide (E0 < F0) = false := decide_eq_false hlt0
                    have KT := Lib.hid kt
                    clear kt y0 y1 y2 y3 y4 z0 z1 z2 z3 z4 p0
                    go_wp2_with fail
                    refine wp_region_later_lit (by kernel_rfl) (by kernel_rfl) ?_
                    repeat (any_goals (first | go_big_quiet_step ((go_at_call 10; exact later_call (KT.out _ (hTt.q (Later.q _))))) | quiet_step ((go_at_call 10; exact later_call (KT.out _ (hTt.q (Later.q _))))) | (refine wpQuiet_step (fun K hK => ?_); go_simp; split <;> (refine hK _ ?_; clear hK K))))
                    all_goals (refine wpQuiet_nil ?_; rintro _ ⟨⟨w8, q8⟩, rfl⟩; try dsimp only)
                    all_goals go_wp2_with fail
                    clear hSe hlt1
                    go_roundw
                    case rel => exact ⟨j + 1 + 1, by omega, by go_num, hq5.trans q8⟩
                    case measure => simp [intOf]; omega
                · obtain rfl : k = T0 := by omega
                  go_wp2_with fail
                  go_ret
                  exact ⟨rfl, QW.trans (hq.trans hq6)⟩
    · obtain ⟨L, hL⟩ : ∃ L, L = aiL x y a b d s D := ⟨_, rfl⟩
      obtain ⟨C, hC⟩ : ∃ C, C = aiC x y a b d s D := ⟨_, rfl⟩
      rw [← hL, ← hC] at k1 k2
      rw [← hC] at h0
      have hcb : (C != 0) = true := by simpa using h0
      have K1 := Lib.hid k1
      have K2 := Lib.hid k2
      generalize L.length / 5 = NL at *
      clear k1 k2 hL hC hl hm hm2
      have cBW := BW.cell
      have lBW := BW.lt
      have cBX := BX.cell
      have lBX := BX.lt
      go_wp2_with fail
      clear cBW lBW cBX lBX
      refine (K1.out _ hx).mono ?_
      rintro e w2 ⟨A1, d1, rfl, o1, q2⟩
      replace BW := BW.q q2
      replace BX := BX.q q2
      replace hx := hx.q q2
      replace QW := QW.trans q2
      replace hT := hT.q q2
      clear o1 q2
      have cBW := BW.cell
      have lBW := BW.lt
      have cBX := BX.cell
      have lBX := BX.lt
      go_wp2_with fail
      clear cBW lBW cBX lBX
      refine (K2.out _ hx).mono ?_
      rintro e w3 ⟨A2, d2, rfl, o2, q3⟩
      replace BW := BW.q q3
      replace BX := BX.q q3
      replace hx := hx.q q3
      replace QW := QW.trans q3
      replace hT := hT.q q3
      clear o2 q3
      go_wp2_with fail
      go_ret
      exact ⟨rfl, QW⟩
end Go.Proofs.YtkpdoikjfibflaaGreatDoor
