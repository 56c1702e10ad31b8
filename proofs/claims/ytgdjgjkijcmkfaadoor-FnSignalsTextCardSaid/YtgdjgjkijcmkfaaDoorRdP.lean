/- Plain laws of reading: pieces of a string, decimal numerals, texts of times. No condition. -/
import Derived.Test.YtgdjgjkijcmkfaaDoorNum
import Derived.Lib.SplitLaws
import Derived.Lib.ParseIntB
import Derived.Lib.AtoiAllCases
namespace Go.Proofs.YtgdjgjkijcmkfaaDoor
open Go.Lib
/-- The pieces of a string between occurrences of a byte; cur is the piece under way. -/
def wsp (c : UInt8) : List UInt8 → List UInt8 → List (List UInt8)
  | cur, [] => [cur]
  | cur, b :: l => if b = c then cur :: wsp c [] l else wsp c (cur ++ [b]) l
theorem wsp_ne (c : UInt8) : ∀ cur l, wsp c cur l ≠ []
  | _, [] => by simp [wsp]
  | cur, b :: l => by
    unfold wsp
    split
    · simp
    · exact wsp_ne c _ l
theorem wsp_out {c : UInt8} : ∀ {p cur : List UInt8}, c ∉ p → wsp c cur p = [cur ++ p]
  | [], cur, _ => by simp [wsp]
  | b :: p, cur, h => by
    simp at h
    unfold wsp
    rw [if_neg (fun e => h.1 e.symm), wsp_out h.2, List.append_assoc]
    rfl
theorem wsp_hit {c : UInt8} : ∀ {p cur : List UInt8} (r : List UInt8), c ∉ p → wsp c cur (p ++ c :: r) = (cur ++ p) :: wsp c [] r
  | [], cur, r, _ => by simp [wsp]
  | b :: p, cur, r, h => by
    simp at h
    rw [List.cons_append, show wsp c cur (b :: (p ++ c :: r)) = (if b = c then cur :: wsp c [] (p ++ c :: r) else wsp c (cur ++ [b]) (p ++ c :: r)) from rfl, if_neg (fun e => h.1 e.symm), wsp_hit r h.2, List.append_assoc]
    rfl
theorem wsp_join (c : UInt8) : ∀ cur l, join (wsp c cur l) [c] = cur ++ l
  | cur, [] => by simp [wsp, join_one]
  | cur, b :: l => by
    unfold wsp
    split
    · rename_i h
      subst h
      have ih := wsp_join b [] l
      have hn := wsp_ne b [] l
      generalize wsp b [] l = W at ih hn
      cases W with
      | nil => exact absurd rfl hn
      | cons x r =>
        rw [join_cons] at ih ⊢
        show cur ++ ([b] ++ x ++ joinTail [b] r) = _
        rw [List.append_assoc, ih]
        simp
    · rw [wsp_join c _ l]
      simp
/-- A string has no such byte, or is parted at its first. -/
theorem part_at (c : UInt8) : ∀ s : List UInt8, c ∉ s ∨ ∃ p r, s = p ++ c :: r ∧ c ∉ p
  | [] => Or.inl (by simp)
  | b :: l => by
    by_cases h : b = c
    · subst h; exact Or.inr ⟨[], l, rfl, by simp⟩
    · rcases part_at c l with h1 | ⟨p, r, rfl, h2⟩
      · exact Or.inl (by simp; exact ⟨fun e => h e.symm, h1⟩)
      · exact Or.inr ⟨b :: p, r, rfl, by simp; exact ⟨fun e => h e.symm, h2⟩⟩
theorem ix_out {c : UInt8} : ∀ {s : List UInt8}, c ∉ s → index s [c] = -1
  | [], _ => rfl
  | b :: l, h => by
    simp at h
    rw [index]
    have : ([c] : List UInt8).isPrefixOf (b :: l) = false := by simp [List.isPrefixOf, h.1]
    rw [this, ix_out h.2]
    rfl
theorem ix_hit {c : UInt8} : ∀ {p : List UInt8} (r : List UInt8), c ∉ p → index (p ++ c :: r) [c] = (p.length : Int)
  | [], r, _ => by rw [List.nil_append, index]; simp [List.isPrefixOf]
  | b :: p, r, h => by
    simp at h
    rw [List.cons_append, index]
    have : ([c] : List UInt8).isPrefixOf (b :: (p ++ c :: r)) = false := by simp [List.isPrefixOf, h.1]
    rw [this, ix_hit r h.2]
    have h2 : (((p.length : Nat) : Int) == -1) = false := by rw [beq_eq_false_iff_ne]; omega
    simp [h2]
theorem cut_hit {c : UInt8} {p : List UInt8} (r : List UInt8) (h : c ∉ p) : cut (p ++ c :: r) [c] = (p, r, true) := by
  unfold cut
  rw [ix_hit r h, if_pos (by omega)]
  simp
theorem cut_out {c : UInt8} {s : List UInt8} (h : c ∉ s) : cut s [c] = (s, [], false) := by
  unfold cut
  rw [ix_out h, if_neg (by omega)]
theorem split_wsp (c : UInt8) : ∀ (N : Nat) (s : List UInt8), s.length ≤ N → splitK [c] 0 (s.count c) s = wsp c [] s
  | 0, s, h => by
    have : s = [] := List.length_eq_zero_iff.1 (by omega)
    subst this
    rfl
  | N + 1, s, h => by
    rcases part_at c s with h1 | ⟨p, r, rfl, h2⟩
    · rw [List.count_eq_zero_of_not_mem h1, wsp_out h1]
      rfl
    · have hc : (p ++ c :: r).count c = r.count c + 1 := by rw [List.count_append, List.count_eq_zero_of_not_mem h2]; simp
      have hl : r.length ≤ N := by simp at h; omega
      rw [hc, wsp_hit r h2, splitK, ix_hit r h2, if_neg (by simp), ← split_wsp c N r hl]
      simp
/-- The pieces of a string of the model. -/
def pcs (c : UInt8) (s : ByteArray) : List ByteArray := (wsp c [] s.data.toList).map bs
theorem splitB_pcs (c : UInt8) (s : ByteArray) : splitB (bs [c]) 0 (countB s (bs [c])) s = pcs c s := by
  have h1 : (splitB (bs [c]) 0 (countB s (bs [c])) s).map (·.data.toList) = wsp c [] s.data.toList := by
    rw [splitB_data, bs_data]
    have : countB s (bs [c]) = s.data.toList.count c := by
      show count s.data.toList (bs [c]).data.toList = _
      rw [bs_data, count_one]
    rw [this]
    exact split_wsp c _ _ (Nat.le_refl _)
  unfold pcs
  rw [← h1, List.map_map]
  have : (bs ∘ fun x : ByteArray => x.data.toList) = id := by funext x; exact bs_eta x
  rw [this, List.map_id]
theorem countB_pcs (c : UInt8) (s : ByteArray) : countB s (bs [c]) + 1 = (pcs c s).length := by
  rw [← splitB_pcs, splitB_all (bs [c]) (by rw [bs_size]; exact Nat.le_refl _) 0 _ s rfl]
theorem pcs_out {c : UInt8} {p : List UInt8} (h : c ∉ p) : pcs c (bs p) = [bs p] := by
  unfold pcs
  rw [bs_data, wsp_out h]
  rfl
theorem pcs_hit {c : UInt8} {p : List UInt8} (r : List UInt8) (h : c ∉ p) : pcs c (bs (p ++ c :: r)) = bs p :: pcs c (bs r) := by
  unfold pcs
  rw [bs_data, wsp_hit r h, bs_data]
  rfl
theorem pcs_join (c : UInt8) (s : ByteArray) : bs (join ((pcs c s).map (·.data.toList)) [c]) = s := by
  unfold pcs
  rw [List.map_map]
  have : ((fun x : ByteArray => x.data.toList) ∘ bs) = id := by funext x; exact bs_data x
  rw [this, List.map_id, wsp_join]
  exact bs_eta s
theorem pcs_pos (c : UInt8) (s : ByteArray) : 1 ≤ (pcs c s).length := by
  unfold pcs
  rw [List.length_map]
  have := wsp_ne c [] s.data.toList
  generalize wsp c [] s.data.toList = W at this
  cases W with
  | nil => exact absurd rfl this
  | cons _ _ => simp
theorem bs_one' (b : List UInt8) : bs (join [b] [32]) = bs b := by rw [join_one]
theorem pcs_3 {c : UInt8} {s x y z : ByteArray} (h : pcs c s = [x, y, z]) : s = x ++ bs [c] ++ y ++ bs [c] ++ z := by
  have := pcs_join c s
  rw [h] at this
  rw [← this]
  simp only [List.map_cons, List.map_nil, join, List.intercalate, List.intersperse, List.flatten]
  rw [← bs_eta x, ← bs_eta y, ← bs_eta z]
  simp only [bs_app, bs_data]
  simp
-- digits
theorem dg_range (n : Nat) (h : n < 10) : (dgB n).toNat = 48 + n := by
  unfold dgB
  rw [UInt8.toNat_ofNat']
  omega
theorem lastD_mem : ∀ k n, ∀ b ∈ lastD k n, 48 ≤ b.toNat ∧ b.toNat ≤ 57
  | 0, _, b, h => by simp [lastD] at h
  | k + 1, n, b, h => by
    simp [lastD] at h
    rcases h with h | rfl
    · exact lastD_mem k _ b h
    · rw [dg_range _ (by omega)]; omega
theorem dec_mem : ∀ N n, n ≤ N → ∀ b ∈ decDigits n, 48 ≤ b.toNat ∧ b.toNat ≤ 57
  | 0, n, hN, b, h => by
    rw [dec_lt (by omega)] at h
    simp at h
    subst h
    rw [dg_range _ (by omega)]; omega
  | N + 1, n, hN, b, h => by
    by_cases h10 : n < 10
    · rw [dec_lt h10] at h
      simp at h
      subst h
      rw [dg_range _ h10]; omega
    · rw [dec_ge h10] at h
      simp at h
      rcases h with h | rfl
      · exact dec_mem N (n / 10) (by omega) b h
      · rw [dg_range _ (by omega)]; omega
theorem dec_no {c : UInt8} (hc : ¬ (48 ≤ c.toNat ∧ c.toNat ≤ 57)) (n : Nat) : c ∉ decDigits n := fun h => hc (dec_mem n n (Nat.le_refl _) c h)
theorem lastD_no {c : UInt8} (hc : ¬ (48 ≤ c.toNat ∧ c.toNat ≤ 57)) (k n : Nat) : c ∉ lastD k n := fun h => hc (lastD_mem k n c h)
theorem dec_ne (n : Nat) : decDigits n ≠ [] := by
  intro h
  have := decDigits_length n
  rw [h] at this
  have := nDigits_pos n
  simp at *
  omega
/-- The value of a list of digits behind acc. -/
def dval : Nat → List UInt8 → Nat
  | acc, [] => acc
  | acc, b :: l => dval (acc * 10 + (b.toNat - 48)) l
theorem dval_app : ∀ l acc r, dval acc (l ++ r) = dval (dval acc l) r
  | [], _, _ => rfl
  | _ :: l, _, r => dval_app l _ r
theorem dval_dec : ∀ N n, n ≤ N → dval 0 (decDigits n) = n
  | 0, n, h => by
    have : n = 0 := by omega
    subst this
    rw [dec_lt (by omega)]
    rfl
  | N + 1, n, h => by
    by_cases h10 : n < 10
    · rw [dec_lt h10]
      show 0 * 10 + ((dgB n).toNat - 48) = n
      rw [dg_range _ h10]; omega
    · rw [dec_ge h10, dval_app, dval_dec N (n / 10) (by omega)]
      show n / 10 * 10 + ((dgB (n % 10)).toNat - 48) = n
      rw [dg_range _ (by omega)]; omega
theorem dval_last : ∀ k n acc, dval acc (lastD k n) = acc * 10 ^ k + n % 10 ^ k
  | 0, n, acc => by show acc = acc * 1 + n % 1; omega
  | k + 1, n, acc => by
    show dval acc (lastD k (n / 10) ++ [dgB (n % 10)]) = _
    rw [dval_app, dval_last k]
    show (acc * 10 ^ k + n / 10 % 10 ^ k) * 10 + ((dgB (n % 10)).toNat - 48) = _
    rw [dg_range _ (by omega), Nat.pow_succ]
    have h1 : n % (10 ^ k * 10) = n % 10 + 10 * (n / 10 % 10 ^ k) := by rw [Nat.mul_comm (10 ^ k) 10]; exact Nat.mod_mul
    rw [h1, ← Nat.mul_assoc]
    omega
theorem dval_mono : ∀ l acc, acc ≤ dval acc l
  | [], _ => Nat.le_refl _
  | b :: l, acc => Nat.le_trans (show acc ≤ acc * 10 + (b.toNat - 48) by omega) (dval_mono l (acc * 10 + (b.toNat - 48)))
theorem parseM_dval (M : Nat) (hM : M ≤ 18446744073709551615) : ∀ (l : List UInt8) (acc : Nat), (∀ b ∈ l, 48 ≤ b.toNat ∧ b.toNat ≤ 57) → dval acc l ≤ M → parseUintM M acc l = .ok (dval acc l)
  | [], acc, _, _ => rfl
  | b :: l, acc, h, hd => by
    have h1 := h b (by simp)
    have h2 := dval_mono l (acc * 10 + (b.toNat - 48))
    have hd' : dval (acc * 10 + (b.toNat - 48)) l ≤ M := hd
    unfold parseUintM
    rw [if_pos h1, if_neg (by omega), if_neg (by omega)]
    exact parseM_dval M hM l _ (fun b hb => h b (by simp [hb])) hd'
theorem parse10_dval : ∀ (l : List UInt8) (acc : Nat), (∀ b ∈ l, 48 ≤ b.toNat ∧ b.toNat ≤ 57) → dval acc l ≤ 18446744073709551615 → parseUint10 acc l = .ok (dval acc l)
  | [], acc, _, _ => rfl
  | b :: l, acc, h, hd => by
    have h1 := h b (by simp)
    have h2 := dval_mono l (acc * 10 + (b.toNat - 48))
    have hd' : dval (acc * 10 + (b.toNat - 48)) l ≤ 18446744073709551615 := hd
    unfold parseUint10
    rw [if_pos h1, if_neg (by omega), if_neg (by omega)]
    exact parse10_dval l _ (fun b hb => h b (by simp [hb])) hd'
theorem parse_itoa (n : Int) (h0 : -9223372036854775808 ≤ n) (h1 : n ≤ 9223372036854775807) : parseIntB 64 (itoa n) = .ok n := by
  unfold itoa
  by_cases hn : n < 0
  · rw [if_pos hn]
    have hp : parseUintM (2 ^ 64 - 1) 0 (decDigits n.natAbs) = .ok n.natAbs := by
      have := parseM_dval (2 ^ 64 - 1) (by decide) (decDigits n.natAbs) 0 (dec_mem _ _ (Nat.le_refl _)) (by rw [dval_dec _ _ (Nat.le_refl _)]; omega)
      rwa [dval_dec _ _ (Nat.le_refl _)] at this
    unfold parseIntB
    simp only [show (45 : UInt8).toNat = 45 from rfl]
    simp only [or_true, if_true]
    unfold parseUintB
    rw [if_neg (dec_ne _), hp]
    simp
    rw [if_neg (by omega)]
    congr 1
    omega
  · rw [if_neg hn]
    obtain ⟨m, rfl⟩ : ∃ m : Nat, n = m := ⟨n.toNat, by omega⟩
    rw [Int.toNat_natCast]
    have hm := dec_mem m m (Nat.le_refl _)
    have hp : parseUintM (2 ^ 64 - 1) 0 (decDigits m) = .ok m := by
      have := parseM_dval (2 ^ 64 - 1) (by decide) (decDigits m) 0 hm (by rw [dval_dec _ _ (Nat.le_refl _)]; omega)
      rwa [dval_dec _ _ (Nat.le_refl _)] at this
    have hq : parseUintB 64 (decDigits m) = .ok m := by
      unfold parseUintB
      rw [if_neg (dec_ne _), hp]
    have hne := dec_ne m
    generalize decDigits m = D at *
    cases D with
    | nil => exact absurd rfl hne
    | cons b l =>
      have hb := hm b (by simp)
      unfold parseIntB
      simp only []
      rw [if_neg (by omega), hq]
      simp only []
      rw [if_neg (by omega), if_neg (by omega), if_neg (by omega)]
theorem itoa_inj {n m : Int} (h0 : -9223372036854775808 ≤ n) (h1 : n ≤ 9223372036854775807) (h2 : -9223372036854775808 ≤ m) (h3 : m ≤ 9223372036854775807) (h : itoa n = itoa m) : n = m := by
  have := parse_itoa n h0 h1
  rw [h, parse_itoa m h2 h3] at this
  injection this with e
  exact e.symm
theorem atoi_last (k n : Nat) (hk : k + 1 ≤ 3) : atoiAll (lastD (k + 1) n) = .ok ((n % 10 ^ (k + 1) : Nat) : Int) := by
  have hm := lastD_mem (k + 1) n
  have hv := dval_last (k + 1) n 0
  have hl := lastD_len (k + 1) n
  have hlt : n % 10 ^ (k + 1) < 1000 := Nat.lt_of_lt_of_le (Nat.mod_lt _ (Nat.pow_pos (by omega))) (Nat.pow_le_pow_right (by omega) hk)
  rw [Nat.zero_mul, Nat.zero_add] at hv
  have hp : parseUint10 0 (lastD (k + 1) n) = .ok (n % 10 ^ (k + 1)) := by
    have := parse10_dval (lastD (k + 1) n) 0 hm (by rw [hv]; omega)
    rwa [hv] at this
  generalize lastD (k + 1) n = D at *
  cases D with
  | nil => simp at hl
  | cons b l =>
    have hb := hm b (by simp)
    unfold atoiAll parseMag
    simp only []
    rw [if_neg (by omega : ¬ (b.toNat = 43 ∨ b.toNat = 45)), if_neg (by simp), hp]
    simp only []
    rw [if_neg (by omega), if_neg (by omega), if_neg (by omega)]
theorem tmL_inj {t u : Nat} (h : tmL t = tmL u) : t = u := by
  have h58 : ∀ n, (58 : UInt8) ∉ decDigits n := dec_no (by decide)
  unfold tmL at h
  have h1 := congrArg (fun l => cut l [58]) h
  simp only [cut_hit _ (h58 _)] at h1
  injection h1 with e1 e2
  injection e2 with e2 _
  have v1 := congrArg (dval 0) e1
  rw [dval_dec _ _ (Nat.le_refl _), dval_dec _ _ (Nat.le_refl _)] at v1
  obtain ⟨e3, e4⟩ := List.append_inj e2 (by rw [lastD_len, lastD_len])
  injection e4 with _ e4
  have v3 := congrArg (dval 0) e3
  have v4 := congrArg (dval 0) e4
  rw [dval_last, dval_last] at v3 v4
  omega
theorem itoa_nat' (n : Nat) : itoa (n : Int) = decDigits n := by
  unfold itoa
  rw [if_neg (by omega), Int.toNat_natCast]
end Go.Proofs.YtgdjgjkijcmkfaaDoor
