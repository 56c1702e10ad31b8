/- Plain laws of decimal numerals and of the texts of times. No condition. Walks: decimal numerals and the texts of times, as the program and the reference write them. Walks: the texts of times and limits, as the program and the reference write them. -/
import Derived.Test.YtkpdoikjfibflaaGreatDoorProg
import Derived.Lib.ItoaLen
import Derived.Lib.Repeat
import Derived.Lib.Join
import Derived.Test.YtkpdoikjfibflaaGreatDoorShelf
import Derived.Test.YtkpdoikjfibflaaGreatDoorK
import Derived.Test.YtkpdoikjfibflaaGreatDoorTc
import Derived.Lib.SmallJoins
import Derived.Lib.AppendIntMem
import Derived.Laws.IdiomStrings
import Derived.RegionTactic
import Derived.Deep.RegionWith
namespace Go.Proofs.YtkpdoikjfibflaaGreatDoor
open Go.Lib
/-- The byte of a decimal digit. -/
def dgB (n : Nat) : UInt8 := UInt8.ofNat (48 + n)
/-- The last k digits of n. -/
def lastD : Nat → Nat → List UInt8
  | 0, _ => []
  | k + 1, n => lastD k (n / 10) ++ [dgB (n % 10)]
theorem lastD_len : ∀ k n, (lastD k n).length = k
  | 0, _ => rfl
  | k + 1, n => by simp [lastD, lastD_len k]
theorem lastD_cons : ∀ k n, lastD (k + 1) n = dgB (n / 10 ^ k % 10) :: lastD k n
  | 0, n => by simp [lastD]
  | k + 1, n => by
    show lastD (k + 1) (n / 10) ++ [dgB (n % 10)] = _
    rw [lastD_cons k (n / 10), List.cons_append, Nat.div_div_eq_div_mul, Nat.pow_succ, Nat.mul_comm 10]
    rfl
theorem lastD_zero : ∀ k, lastD k 0 = List.replicate k 48
  | 0 => rfl
  | k + 1 => by
    show lastD k 0 ++ [dgB 0] = _
    rw [lastD_zero k, List.replicate_succ']
    rfl
theorem dec_lt {u : Nat} (h : u < 10) : decDigits u = [dgB u] := by rw [decDigits, dif_pos h]; rfl
theorem dec_ge {u : Nat} (h : ¬ u < 10) : decDigits u = decDigits (u / 10) ++ [dgB (u % 10)] := by rw [decDigits, dif_neg h]; rfl
theorem lastD_pad : ∀ k n, nDigits n ≤ k → lastD k n = List.replicate (k - nDigits n) 48 ++ decDigits n
  | 0, n, h => by have := nDigits_pos n; omega
  | k + 1, n, h => by
    by_cases hn : n < 10
    · rw [dec_lt hn, nDigits_small hn]
      show lastD k (n / 10) ++ _ = _
      rw [Nat.div_eq_of_lt hn, lastD_zero, Nat.mod_eq_of_lt hn]
      rfl
    · rw [dec_ge hn]
      rw [nDigits_big hn] at h ⊢
      show lastD k (n / 10) ++ _ = _
      rw [lastD_pad k (n / 10) (by omega), ← List.append_assoc, Nat.add_sub_add_right]
theorem rep_zero (c : Nat) : repeatL [48] c = List.replicate c 48 := by
  have := repeatL_replicate 48 1 c
  simpa using this
theorem nDigits_le {k n : Nat} (h : n < 10 ^ (k + 1)) : nDigits n ≤ k + 1 := by
  rcases Nat.lt_or_ge (k + 1) (nDigits n) with h1 | h1
  · exfalso
    have : ∀ (m n : Nat), n < 10 ^ (m + 1) → nDigits n ≤ m + 1 := by
      intro m
      induction m with
      | zero => intro n hn; rw [nDigits_small (by simpa using hn)]; omega
      | succ m ih =>
        intro n hn
        by_cases h10 : n < 10
        · rw [nDigits_small h10]; omega
        · rw [nDigits_big h10]
          have := ih (n / 10) (by rw [Nat.pow_succ] at hn; omega)
          omega
    have := this k n h
    omega
  · exact h1
/-- The program's padding is the reference's. -/
theorem pad_eq {k n : Nat} (h : n < 10 ^ (k + 1)) : repeatL [48] (k + 1 - (decDigits n).length) ++ decDigits n = lastD (k + 1) n := by
  rw [rep_zero, decDigits_length, lastD_pad _ _ (nDigits_le h)]
theorem lastD_mod (n : Nat) : lastD 3 n = lastD 3 (n % 1000) := by
  have h1 : n % 1000 % 10 = n % 10 := by omega
  have h2 : n % 1000 / 10 % 10 = n / 10 % 10 := by omega
  have h3 : n % 1000 / 10 / 10 % 10 = n / 10 / 10 % 10 := by omega
  simp only [lastD, h1, h2, h3]
/-- The text of a time. -/
def tmL (t : Nat) : List UInt8 := decDigits (t / 60000) ++ (58 :: (lastD 2 (t / 1000 % 60) ++ (46 :: lastD 3 (t % 1000))))
/-- A list of bytes as a string of the model. -/
def bs (l : List UInt8) : ByteArray := ⟨l.toArray⟩
theorem bs_data (l : List UInt8) : (bs l).data.toList = l := by simp [bs]
theorem bs_size (l : List UInt8) : (bs l).size = l.length := by simp [bs, ByteArray.size]
theorem bs_eta (s : ByteArray) : bs s.data.toList = s := by
  obtain ⟨a⟩ := s
  simp [bs]
theorem bs_app (a b : List UInt8) : bs a ++ bs b = bs (a ++ b) := by
  have : (bs a ++ bs b).data = (bs (a ++ b)).data := by
    rw [ByteArray.data_append]
    simp [bs]
  cases h : bs a ++ bs b
  cases h2 : bs (a ++ b)
  rw [h, h2] at this
  simp only at this
  rw [this]
theorem bs_inj {a b : List UInt8} (h : bs a = bs b) : a = b := by rw [← bs_data a, h, bs_data]
end Go.Proofs.YtkpdoikjfibflaaGreatDoor
namespace Go.Proofs.YtkpdoikjfibflaaGreatDoor
open Go.RowKit Go.WideShapes Go.ChangeShapes
/-- The library's table of powers of ten is as its text lays it. -/
def Tbl (w : World) : Prop := Lib.TabIs Tryz.prog w "internal/strconv.uint64pow10" .u64 Lib.pow10Tab
theorem gPow : Tryz.prog.globalNamed "internal/strconv.uint64pow10" = some 0 := by kernel_rfl
theorem Tbl.q {w w' : World} (h : Tbl w) (hq : Q w w') : Tbl w' := Go.Joins.tab_stays gPow h hq (Nat.le_refl _)
theorem impl_text (n : Int) (h0 : -9223372036854775808 ≤ n) (h1 : n ≤ 9223372036854775807) (w : World) (hT : Tbl w) :
    Calls Tryz.prog 32 #[.int .i64 n] w fun e w' => e = .returned (.string (bs (Lib.itoa n))) ∧ Q w w' := by
  go_enter Tryz.func32, Tryz.ntmps32
  go_wp2_with (go_at_call 50; refine (Tryz.strconv_FormatInt_10 n h0 h1 _ hT).mono ?_; rintro e w' ⟨rfl, k, os, rfl⟩)
  go_ret
  exact ⟨rfl, Lib.below_grow _ _ (Nat.le_refl _) _ _⟩
theorem itoa_nat (n : Nat) : Lib.itoa (n : Int) = Lib.decDigits n := by
  unfold Lib.itoa
  rw [if_neg (by omega), Int.toNat_natCast]
theorem byte_nat (n : Nat) (h : n < 10) : 48 + (n : Int) = ((dgB n).toNat : Int) := by
  unfold dgB
  rw [UInt8.toNat_ofNat']
  omega
/-- A slice of one byte, just made, read as a string. -/
theorem one_byte (w : World) (x : Int) (b : UInt8) (hx : x = (b.toNat : Int)) : (convert 22 9 (.slice (some ⟨w.heap.size, 0, none⟩) 1 1)).run Tryz.prog (w.alloc (.cells #[.int .u8 x] 5)) = .ok (.string (bs [b])) (w.alloc (.cells #[.int .u8 x] 5)) := by
  subst hx
  exact run_convert_bytes_back (P := Tryz.prog) _ 22 9 5 ⟨w.heap.size, 0, none⟩ 1 [b] Tryz.underlying22 Tryz.underlying5 Tryz.underlying9 (fun j hj => by
    have hj : j < 1 := hj
    obtain rfl : j = 0 := by omega
    simp [Addr.add])
theorem one_byteC (w : World) (g : Nat) (x : Int) (b : UInt8) (hx : x = (b.toNat : Int)) (hc : w.cell? ⟨g, 0, none⟩ = some (.int .u8 x)) : (convert 22 9 (.slice (some ⟨g, 0, none⟩) 1 1)).run Tryz.prog w = .ok (.string (bs [b])) w := by
  subst hx
  exact run_convert_bytes_back (P := Tryz.prog) _ 22 9 5 ⟨g, 0, none⟩ 1 [b] Tryz.underlying22 Tryz.underlying5 Tryz.underlying9 (fun j hj => by
    have hj : j < 1 := hj
    obtain rfl : j = 0 := by omega
    simpa [Addr.add] using hc)
end Go.Proofs.YtkpdoikjfibflaaGreatDoor
namespace Go.Proofs.YtkpdoikjfibflaaGreatDoor
open Go.RowKit Go.WideShapes Go.ChangeShapes
set_option maxRecDepth 100000 in
set_option maxHeartbeats 1000000 in
theorem impl_digits (k n : Nat) (hk : k ≤ 3) (hn : n < 10 ^ k) (hn2 : n ≤ 1000) (hk1 : 0 < k) (w : World) (hT : Tbl w) : Calls Tryz.prog 49 #[.int .i64 n, .int .i64 k] w fun e w' => e = .returned (.string (bs (lastD k n))) ∧ Q w w' := by
  have k1 := fun wv (h : Tbl wv) => impl_text n (by omega) (by omega) wv h
  rw [itoa_nat] at k1
  obtain ⟨L, hL⟩ : ∃ L, L = (Lib.decDigits n).length := ⟨_, rfl⟩
  have hL1 : 1 ≤ L ∧ L ≤ k := by
    rw [hL, Lib.decDigits_length]
    obtain ⟨j, rfl⟩ : ∃ j, k = j + 1 := ⟨k - 1, by omega⟩
    exact ⟨Lib.nDigits_pos n, nDigits_le hn⟩
  have hs : (bs (Lib.decDigits n)).size = L := by rw [bs_size, hL]
  have HE : Hid (bs (lastD k n) = bs (Lib.repeatL [48] (k - L)) ++ bs (Lib.decDigits n)) := Lib.hid (by
    obtain ⟨j, rfl⟩ : ∃ j, k = j + 1 := ⟨k - 1, by omega⟩
    rw [bs_app, hL, pad_eq hn])
  have hr : (bs (Lib.repeatL [48] (k - L))).size = k - L := by rw [bs_size, Lib.repeatL_length]; simp
  have k2 := fun wv => Tryz.strings_Repeat (bs [48]) (k - L) wv (by omega) (by rw [bs_size]; simp; omega)
  rw [bs_data] at k2
  have hm : max 0 ((k : Int) - (L : Int)) = ((k - L : Nat) : Int) := by omega
  have hm2 : max ((k : Int) - (L : Int)) 0 = ((k - L : Nat) : Int) := by omega
  generalize bs (lastD k n) = E at *
  have K2 := Lib.hid (show ∀ wv : World, Calls Tryz.prog 65 #[.string (bs [48]), .int .i64 ((k - L : Nat) : Int)] wv fun e w' => e = .returned (.string (bs (Lib.repeatL [48] (k - L)))) ∧ Q wv w' from k2)
  generalize bs (Lib.repeatL [48] (k - L)) = R at *
  generalize bs (Lib.decDigits n) = D at *
  have K1 := Lib.hid k1
  have hkL : (k : Int) ≤ 3 := by omega
  have hLk : (L : Int) ≤ (k : Int) := by omega
  clear k1 k2 hL hn hk1
  go_enter Tryz.func49, Tryz.ntmps49
  go_wp2_with (first | (go_at_call 32; refine (K1.out _ hT).mono ?_; rintro e w1 ⟨rfl, q1⟩) | (go_at_call 65; refine (K2.out _).mono ?_; rintro e w2 ⟨rfl, q2⟩))
  go_ret
  exact ⟨by rw [HE.out]; rfl, q1.trans q2⟩
/-- The text of a time, or none. -/
def tmS (t : Int) : ByteArray := if 0 ≤ t ∧ t ≤ 1000000000 then bs (tmL t.toNat) else ⟨#[]⟩
theorem tmS_nat {t : Nat} (h : t ≤ 1000000000) : tmS (t : Int) = bs (tmL t) := by
  unfold tmS
  rw [if_pos (by omega), Int.toNat_natCast]
theorem tmS_no {t : Int} (h : ¬ (0 ≤ t ∧ t ≤ 1000000000)) : tmS t = ⟨#[]⟩ := by unfold tmS; rw [if_neg h]
theorem tmL_len {t : Nat} (h : t ≤ 1000000000) : 8 ≤ (tmL t).length ∧ (tmL t).length ≤ 12 := by
  have h1 := nDigits_le (k := 4) (n := t / 60000) (by omega)
  have h2 := Lib.nDigits_pos (t / 60000)
  unfold tmL
  simp only [List.length_append, List.length_cons, lastD_len, Lib.decDigits_length]
  omega
set_option maxRecDepth 100000 in
set_option maxHeartbeats 1000000 in
theorem impl_TimeText (t : Int) (w : World) (hT : Tbl w) : Calls Tryz.prog 31 #[.int .i64 t] w fun e w' => e = .returned (.string (tmS t)) ∧ Q w w' := by
  by_cases h : 0 ≤ t ∧ t ≤ 1000000000
  · obtain ⟨n, rfl⟩ := Int.eq_ofNat_of_zero_le h.1
    have hn : n ≤ 1000000000 := by omega
    have k1 := fun wv (h : Tbl wv) => impl_text ((n / 60000 : Nat) : Int) (by omega) (by omega) wv h
    have k2 := fun wv (h : Tbl wv) => impl_digits 2 (n / 1000 % 60) (by omega) (by omega) (by omega) (by omega) wv h
    have k3 := fun wv (h : Tbl wv) => impl_digits 3 (n % 1000) (by omega) (by omega) (by omega) (by omega) wv h
    rw [itoa_nat] at k1
    have hs1 : (bs (Lib.decDigits (n / 60000))).size ≤ 20 := by rw [bs_size, Lib.decDigits_length]; exact Lib.nDigits_le20 _ (by omega)
    have hs2 : (bs (lastD 2 (n / 1000 % 60))).size ≤ 2 := by rw [bs_size, lastD_len]; exact Nat.le_refl _
    have hs3 : (bs (lastD 3 (n % 1000))).size ≤ 3 := by rw [bs_size, lastD_len]; exact Nat.le_refl _
    have HE : Hid (tmS (n : Int) = bs (Lib.decDigits (n / 60000)) ++ bs [58] ++ bs (lastD 2 (n / 1000 % 60)) ++ bs [46] ++ bs (lastD 3 (n % 1000))) := Lib.hid (by
      rw [tmS_nat hn, bs_app, bs_app, bs_app, bs_app]
      unfold tmL
      simp)
    generalize tmS (n : Int) = E at *
    rw [show ((n / 60000 : Nat) : Int) = (n : Int) / 60000 by omega] at k1
    rw [show ((n / 1000 % 60 : Nat) : Int) = (n : Int) / 1000 % 60 by omega] at k2
    rw [show ((n % 1000 : Nat) : Int) = (n : Int) % 1000 by omega] at k3
    generalize bs (Lib.decDigits (n / 60000)) = S1 at *
    generalize bs (lastD 2 (n / 1000 % 60)) = S2 at *
    generalize bs (lastD 3 (n % 1000)) = S3 at *
    have K1 := Lib.hid k1
    have K2 := Lib.hid k2
    have K3 := Lib.hid k3
    clear k1 k2 k3
    go_enter Tryz.func31, Tryz.ntmps31
    go_wp2_with (first | (go_at_call 48; refine (impl_isTime _ _).mono ?_; rintro e w' ⟨rfl, rfl⟩) | (go_at_call 32; refine (K1.out _ hT).mono ?_; rintro e w1 ⟨rfl, q1⟩) | (have q20 := q2; go_at_call 49; refine (K3.out _ ((hT.q q1).q q20)).mono ?_; rintro e w3 ⟨rfl, q3⟩) | (go_at_call 49; refine (K2.out _ (hT.q q1)).mono ?_; rintro e w2 ⟨rfl, q2⟩))
    go_ret
    exact ⟨by rw [HE.out]; rfl, (q1.trans q2).trans q3⟩
  · rw [tmS_no h]
    go_enter Tryz.func31, Tryz.ntmps31
    go_wp2_with (go_at_call 48; refine (impl_isTime _ _).mono ?_; rintro e w' ⟨rfl, rfl⟩)
    go_ret
    exact ⟨rfl, Q.refl _⟩
theorem tmS_le (t : Int) : (tmS t).size ≤ 12 := by
  by_cases h : 0 ≤ t ∧ t ≤ 1000000000
  · obtain ⟨n, rfl⟩ := Int.eq_ofNat_of_zero_le h.1
    rw [tmS_nat (by omega), bs_size]
    exact (tmL_len (by omega)).2
  · rw [tmS_no h]
    decide
def limT (a b c : Int) : ByteArray := if isLim a b c then tmS a ++ bs [32] ++ tmS b ++ bs [32] ++ tmS c else ⟨#[]⟩
end Go.Proofs.YtkpdoikjfibflaaGreatDoor
