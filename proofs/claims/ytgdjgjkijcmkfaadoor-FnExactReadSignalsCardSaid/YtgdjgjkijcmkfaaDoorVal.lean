/- Walks: decimal numerals, as the reference reads them. No condition. -/
import Derived.Test.YtgdjgjkijcmkfaaDoorValP
import Derived.Deep.Cut
import Derived.Deep.CutBlock
namespace Go.Proofs.YtgdjgjkijcmkfaaDoor
open Go.RowKit Go.WideShapes Go.ChangeShapes Go.Deep
set_option maxRecDepth 100000 in
set_option maxHeartbeats 1000000 in
theorem spec_Signed (n : Int) (h : -1000000000000000 < n ∧ n < 1000000000000000) (w : World) : Calls Tryd.prog 92 #[.int .i64 n] w fun e w' => e = .returned (.string (bs (Lib.itoa n))) ∧ Q w w' := by
  by_cases hn : n < 0
  · obtain ⟨m, hm⟩ : ∃ m : Nat, -n = m := ⟨(-n).toNat, by omega⟩
    have K1 := Lib.hid (fun wv => spec_Number m m (Nat.le_refl _) (by omega) wv)
    rw [← hm] at K1
    have hs1 : (bs (Lib.decDigits m)).size ≤ 20 := by rw [bs_size, Lib.decDigits_length]; exact Lib.nDigits_le20 _ (by omega)
    have HE : Hid (bs (Lib.itoa n) = bs [45] ++ bs (Lib.decDigits m)) := Lib.hid (by
      rw [bs_app]
      unfold Lib.itoa
      rw [if_pos hn, show n.natAbs = m by omega]
      rfl)
    have hs2 : (bs [45]).size = 1 := rfl
    generalize bs (Lib.itoa n) = E at *
    generalize bs (Lib.decDigits m) = S1 at *
    clear hm
    go_enter Tryd.func92, Tryd.ntmps92
    go_wp2_with fail
    refine (K1.out _).mono ?_
    rintro e w1 ⟨rfl, q1⟩
    go_wp2_with fail
    go_ret
    exact ⟨by rw [HE.out]; rfl, q1⟩
  · obtain ⟨m, rfl⟩ := Int.eq_ofNat_of_zero_le (show 0 ≤ n by omega)
    have K1 := Lib.hid (fun wv => spec_Number m m (Nat.le_refl _) (by omega) wv)
    rw [itoa_nat']
    go_enter Tryd.func92, Tryd.ntmps92
    go_wp2_with fail
    refine (K1.out _).mono ?_
    rintro e w1 ⟨rfl, q1⟩
    go_wp2_with fail
    go_ret
    exact ⟨rfl, q1⟩
set_option maxRecDepth 100000 in
set_option maxHeartbeats 2000000 in
theorem spec_Value (s : ByteArray) (v : Int) (k : Bool) (h : NumR pS s v k) (hs : s.size ≤ 1048576) (w : World) :
    Calls Tryd.prog 70 #[.string s] w fun e w' => e = .returned (.tuple #[.int .i64 v, .bool k]) ∧ Q w w' := by
  have hsI : (s.size : Int) ≤ 1048576 := by omega
  obtain ⟨sz1, sz2⟩ := dS_size s
  have HSZ : Hid ((negS s = true → (dS s).size + 1 = s.size) ∧ (negS s = false → (dS s).size = s.size)) := Lib.hid ⟨sz1, fun h => by rw [sz2 h]⟩
  have HL := Lib.hid (val_no_len h)
  have HD := Lib.hid (fun i b => val_no_digit (i := i) (b := b) h)
  have HE := Lib.hid (fun n m => val_end (n := n) (m := m) h)
  have HX : Hid (negS s = true → dS s = s.extract 1 s.size) := Lib.hid (fun h => by unfold dS; rw [if_pos h])
  have HY : Hid (negS s = false → dS s = s) := Lib.hid sz2
  have HH : Hid (∀ h : 0 < s.size, negS s = (s[0] == 45)) := Lib.hid (fun h => by
    have hl : 0 < s.data.toList.length := by rw [← Lib.size_eq]; exact h
    have hg : s.data.toList.head? = some s[0] := by
      rw [List.head?_eq_getElem?, List.getElem?_eq_getElem hl]
      show some s.data.toList[0] = some s.data[0]
      simp
    unfold negS
    rw [hg]
    simp)
  have HZ : Hid (s.size = 0 → negS s = false) := Lib.hid (fun h => by
    have hl : s.data.toList = [] := List.length_eq_zero_iff.1 (by rw [← Lib.size_eq]; exact h)
    unfold negS
    rw [hl]
    rfl)
  clear h sz1 sz2
  generalize dS s = d at *
  generalize negS s = ng at *
  by_cases h0 : 0 < s.size
  · have h0I : (0 : Int) < (s.size : Int) := by omega
    have hh := HH.out h0
    by_cases hb : s[0] = 45
    · have hb2 : ((s[0].toNat : Int) == 45) = true := by rw [hb]; rfl
      rw [hb] at hh
      obtain rfl : ng = true := by rw [hh]; rfl
      have hx : s.extract 1 s.size = d := (HX.out rfl).symm
      have hsz := HSZ.out.1 rfl
      have hszI : (d.size : Int) < (s.size : Int) := by omega
      clear hh HX HY HSZ HH HZ
      go_enter Tryd.func70, Tryd.ntmps70
      by_cases hlen : 1 ≤ d.size ∧ d.size ≤ 15
      · have hl1 : ¬ (d.size : Int) < 1 := by omega
        have hl2 : ¬ (15 : Int) < (d.size : Int) := by omega
        have hl3 : (d.size : Int) ≤ 15 := by omega
        go_wp2_with fail
        go_loopw [5, 6] (fun x i wr => ∃ j n : Nat, j ≤ d.size ∧ i = .int .i64 j ∧ x = .int .i64 n ∧ Hid (dTo d j n) ∧ n < 10 ^ j ∧ wr = w) (fun _ i _ => d.size - (intOf i).toNat)
        case atStart => exact ⟨0, 0, by omega, rfl, rfl, Lib.hid (dTo_zero _), by omega, rfl⟩
        case round =>
          obtain ⟨j, n, hj, rfl, rfl, HT, hn, rfl⟩ := hrel
          have hn15 := pow15 (show j ≤ 15 by omega) hn
          have hn15I : (n : Int) < 1000000000000000 := by omega
          by_cases hlt : j < d.size
          · have hltI : (j : Int) < (d.size : Int) := by omega
            have hget : d.data.toList[j]? = some d[j] := by
              show d.data.toList[j]? = some d.data[j]
              simp
            by_cases hb : 48 ≤ d[j].toNat ∧ d[j].toNat ≤ 57
            · have HT' := Lib.hid (dTo_succ HT.out hget hb)
              have hb1 : ¬ ((d[j].toNat : Nat) : Int) < 48 := by omega
              have hb2 : ¬ (57 : Int) < ((d[j].toNat : Nat) : Int) := by omega
              have hb3 : ((d[j].toNat : Nat) : Int) ≤ 57 := by omega
              have hb4 : (48 : Int) ≤ ((d[j].toNat : Nat) : Int) := by omega
              have hp : 10 * n + (d[j].toNat - 48) < 10 ^ (j + 1) := by rw [Nat.pow_succ]; omega
              have hn2 : 10 * n + (d[j].toNat - 48) < 10000000000000000 := by omega
              clear hget hn
              go_wp2_with fail
              go_roundw
              case rel => exact ⟨j + 1, _, by omega, by go_num, by go_num, HT', hp, by first | rfl | trivial⟩
              case measure => simp [intOf]; omega
            · obtain ⟨rfl, rfl⟩ := HD.out j _ hget hb
              clear hget
              by_cases hb1 : d[j].toNat < 48
              · have hb1I : ((d[j].toNat : Nat) : Int) < 48 := by omega
                go_wp2_with fail
                go_ret2
                exact ⟨rfl, Q.refl _⟩
              · have hb1I : ¬ ((d[j].toNat : Nat) : Int) < 48 := by omega
                have hb2I : (57 : Int) < ((d[j].toNat : Nat) : Int) := by omega
                go_wp2_with fail
                go_ret2
                exact ⟨rfl, Q.refl _⟩
          · obtain rfl : j = d.size := by omega
            have KS := Lib.hid (fun wv => spec_Signed (-(n : Int)) (by omega) wv)
            rcases HE.out n (-(n : Int)) HT.out hn15 (by simp) with ⟨he, rfl, rfl⟩ | ⟨he, rfl, rfl⟩
            · rw [he] at KS
              clear HE he
              go_wp2_with fail
              refine (KS.out _).mono ?_
              rintro e w1 ⟨rfl, q1⟩
              go_wp2_with fail
              go_ret2
              exact ⟨rfl, q1⟩
            · have he2 : ((bs (Lib.itoa (-(n : Int)))).toList == s.toList) = false := by
                rw [beq_eq_false_iff_ne]
                intro hh
                exact he (bytes_eq (by simpa using hh))
              generalize bs (Lib.itoa (-(n : Int))) = S at *
              clear HE he
              go_wp2_with fail
              refine (KS.out _).mono ?_
              rintro e w1 ⟨rfl, q1⟩
              go_wp2_with fail
              go_ret2
              exact ⟨rfl, q1⟩
      · obtain ⟨rfl, rfl⟩ := HL.out hlen
        by_cases hl1 : d.size < 1
        · have hl1I : (d.size : Int) < 1 := by omega
          go_wp2_with fail
          go_ret2
          exact ⟨rfl, Q.refl _⟩
        · have hl1I : ¬ (d.size : Int) < 1 := by omega
          have hl2I : (15 : Int) < (d.size : Int) := by omega
          go_wp2_with fail
          go_ret2
          exact ⟨rfl, Q.refl _⟩
    · have hb2 : ((s[0].toNat : Int) == 45) = false := by
        rw [beq_eq_false_iff_ne]
        intro e
        exact hb (UInt8.toNat_inj.1 (by show s[0].toNat = 45; omega))
      obtain rfl : ng = false := by rw [hh]; simpa using hb
      obtain rfl := HY.out rfl
      clear hh hb HX HY HSZ HH HZ
      go_enter Tryd.func70, Tryd.ntmps70
      by_cases hlen : 1 ≤ d.size ∧ d.size ≤ 15
      · have hl1 : ¬ (d.size : Int) < 1 := by omega
        have hl2 : ¬ (15 : Int) < (d.size : Int) := by omega
        have hl3 : (d.size : Int) ≤ 15 := by omega
        go_wp2_with fail
        go_loopw [5, 6] (fun x i wr => ∃ j n : Nat, j ≤ d.size ∧ i = .int .i64 j ∧ x = .int .i64 n ∧ Hid (dTo d j n) ∧ n < 10 ^ j ∧ wr = w) (fun _ i _ => d.size - (intOf i).toNat)
        case atStart => exact ⟨0, 0, by omega, rfl, rfl, Lib.hid (dTo_zero _), by omega, rfl⟩
        case round =>
          obtain ⟨j, n, hj, rfl, rfl, HT, hn, rfl⟩ := hrel
          have hn15 := pow15 (show j ≤ 15 by omega) hn
          have hn15I : (n : Int) < 1000000000000000 := by omega
          by_cases hlt : j < d.size
          · have hltI : (j : Int) < (d.size : Int) := by omega
            have hget : d.data.toList[j]? = some d[j] := by
              show d.data.toList[j]? = some d.data[j]
              simp
            by_cases hb : 48 ≤ d[j].toNat ∧ d[j].toNat ≤ 57
            · have HT' := Lib.hid (dTo_succ HT.out hget hb)
              have hb1 : ¬ ((d[j].toNat : Nat) : Int) < 48 := by omega
              have hb2 : ¬ (57 : Int) < ((d[j].toNat : Nat) : Int) := by omega
              have hb3 : ((d[j].toNat : Nat) : Int) ≤ 57 := by omega
              have hb4 : (48 : Int) ≤ ((d[j].toNat : Nat) : Int) := by omega
              have hp : 10 * n + (d[j].toNat - 48) < 10 ^ (j + 1) := by rw [Nat.pow_succ]; omega
              have hn2 : 10 * n + (d[j].toNat - 48) < 10000000000000000 := by omega
              clear hget hn
              go_wp2_with fail
              go_roundw
              case rel => exact ⟨j + 1, _, by omega, by go_num, by go_num, HT', hp, by first | rfl | trivial⟩
              case measure => simp [intOf]; omega
            · obtain ⟨rfl, rfl⟩ := HD.out j _ hget hb
              clear hget
              by_cases hb1 : d[j].toNat < 48
              · have hb1I : ((d[j].toNat : Nat) : Int) < 48 := by omega
                go_wp2_with fail
                go_ret2
                exact ⟨rfl, Q.refl _⟩
              · have hb1I : ¬ ((d[j].toNat : Nat) : Int) < 48 := by omega
                have hb2I : (57 : Int) < ((d[j].toNat : Nat) : Int) := by omega
                go_wp2_with fail
                go_ret2
                exact ⟨rfl, Q.refl _⟩
          · obtain rfl : j = d.size := by omega
            have KS := Lib.hid (fun wv => spec_Signed (n : Int) (by omega) wv)
            rcases HE.out n (n : Int) HT.out hn15 (by simp) with ⟨he, rfl, rfl⟩ | ⟨he, rfl, rfl⟩
            · rw [he] at KS
              clear HE he
              go_wp2_with fail
              refine (KS.out _).mono ?_
              rintro e w1 ⟨rfl, q1⟩
              go_wp2_with fail
              go_ret2
              exact ⟨rfl, q1⟩
            · have he2 : ((bs (Lib.itoa (n : Int))).toList == d.toList) = false := by
                rw [beq_eq_false_iff_ne]
                intro hh
                exact he (bytes_eq (by simpa using hh))
              generalize bs (Lib.itoa (n : Int)) = S at *
              clear HE he
              go_wp2_with fail
              refine (KS.out _).mono ?_
              rintro e w1 ⟨rfl, q1⟩
              go_wp2_with fail
              go_ret2
              exact ⟨rfl, q1⟩
      · obtain ⟨rfl, rfl⟩ := HL.out hlen
        by_cases hl1 : d.size < 1
        · have hl1I : (d.size : Int) < 1 := by omega
          go_wp2_with fail
          go_ret2
          exact ⟨rfl, Q.refl _⟩
        · have hl1I : ¬ (d.size : Int) < 1 := by omega
          have hl2I : (15 : Int) < (d.size : Int) := by omega
          go_wp2_with fail
          go_ret2
          exact ⟨rfl, Q.refl _⟩
  · have h0I : ¬ (0 : Int) < (s.size : Int) := by omega
    obtain rfl : ng = false := HZ.out (by omega)
    obtain rfl := HY.out rfl
    obtain ⟨rfl, rfl⟩ := HL.out (by omega)
    clear HX HY HSZ HH HZ HD HE HL
    go_enter Tryd.func70, Tryd.ntmps70
    go_wp2_with fail
    go_ret2
    exact ⟨rfl, Q.refl _⟩
end Go.Proofs.YtgdjgjkijcmkfaaDoor
