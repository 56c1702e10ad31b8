/- Walks: names of marks, as the program and the reference tell them; strings.Trim at a set of ASCII bytes. No condition. -/
import Derived.Test.YteofhfefbphjdaaGreatDoorK
import Derived.Test.YteofhfefbphjdaaGreatDoorShelf
import Derived.Deep.Cut
import Derived.Deep.WholeRow
namespace Go.Proofs.YteofhfefbphjdaaGreatDoor
open Go.RowKit Go.WideShapes Go.ChangeShapes
/-- A byte of a name. -/
def chB (n : Nat) : Bool := (decide (97 ≤ n) && decide (n ≤ 122)) || (decide (48 ≤ n) && decide (n ≤ 57))
def nmAll (s : ByteArray) : Bool := s.data.toList.all fun b => chB b.toNat
def nm0 (s : ByteArray) : Nat := match s.data.toList with | [] => 0 | b :: _ => b.toNat
def nmB (s : ByteArray) : Bool := decide (1 ≤ s.size) && (decide (s.size ≤ 8) && (decide (97 ≤ nm0 s) && (decide (nm0 s ≤ 122) && nmAll s)))
theorem ex_list (c : ByteArray) (a b : Nat) : (c.extract a b).data.toList = (c.data.toList.drop a).take (b - a) := by
  rw [ByteArray.data_extract, Array.toList_extract]
theorem get_list (c : ByteArray) (i : Nat) (h : i < c.size) : c.data.toList[i]? = some c[i] := by
  have h' : i < c.data.size := h
  rw [Array.getElem?_toList, Array.getElem?_eq_getElem h']
  rfl
theorem size_list (c : ByteArray) : c.data.toList.length = c.size := rfl
theorem nmAll_0 {c : ByteArray} (h : c.size = 0) : nmAll c = true := by
  have : c.data.toList = [] := List.length_eq_zero_iff.1 (by rw [size_list]; exact h)
  unfold nmAll
  rw [this]
  rfl
theorem nmAll_at {c : ByteArray} {i : Nat} (h : i < c.size) (hb : chB c[i].toNat = false) : nmAll c = false := by
  unfold nmAll
  rw [List.all_eq_false]
  exact ⟨c[i], List.mem_of_getElem? (get_list c i h), by rw [hb]; decide⟩
theorem nmAll_cut {c : ByteArray} (h : 0 < c.size) (hb : chB c[0].toNat = true) : nmAll (c.extract 1 c.size) = nmAll c := by
  unfold nmAll
  rw [ex_list]
  have hg := get_list c 0 h
  have hl := size_list c
  cases hc : c.data.toList with
  | nil => rw [hc] at hg; cases hg
  | cons x l =>
    rw [hc] at hg hl
    injection hg with hg
    simp only [List.drop_succ_cons, List.drop_zero, List.all_cons]
    rw [List.take_of_length_le (by simp at hl; omega), hg, hb]
    rfl
theorem nmAll_rcut {c : ByteArray} (h : 0 < c.size) (hb : chB (c[c.size - 1]'(by omega)).toNat = true) : nmAll (c.extract 0 (c.size - 1)) = nmAll c := by
  unfold nmAll
  rw [ex_list]
  have hg := get_list c (c.size - 1) (by omega)
  have hl := size_list c
  have e : c.data.toList = c.data.toList.take (c.size - 1) ++ [c[c.size - 1]'(by omega)] := by
    conv => lhs; rw [← List.take_append_drop (c.size - 1) c.data.toList]
    congr 1
    refine List.ext_getElem? fun i => ?_
    rw [List.getElem?_drop]
    cases i with
    | zero => rw [Nat.add_zero, hg]; rfl
    | succ i => rw [List.getElem?_eq_none (by omega)]; rfl
  rw [List.drop_zero, Nat.sub_zero]
  conv => rhs; rw [e]
  rw [List.all_append]
  simp [hb]
theorem emp_size (c : ByteArray) : c.toList.isEmpty = decide (c.size = 0) := by
  rw [ByteArray.toList_eq]
  cases h : c.data.toList with
  | nil =>
    have : c.size = 0 := by rw [← size_list, h]; rfl
    rw [decide_eq_true this]; rfl
  | cons x l =>
    have : ¬ c.size = 0 := by rw [← size_list, h]; simp
    rw [decide_eq_false this]; rfl
/-! ### The set of the name's bytes -/
def nmSet : ByteArray := ⟨#[97, 98, 99, 100, 101, 102, 103, 104, 105, 106, 107, 108, 109, 110, 111, 112, 113, 114, 115, 116, 117, 118, 119, 120, 121, 122, 48, 49, 50, 51, 52, 53, 54, 55, 56, 57]⟩
/-- Block b holds the set. -/
def SetB (w : World) (b : Nat) : Prop := ∀ x : UInt8, w.cell? ⟨b, x.toNat, none⟩ = some (.bool (chB x.toNat))
theorem set_cells (x : UInt8) : (Lib.setCells nmSet.data.toList)[x.toNat]? = some (.bool (chB x.toNat)) := by
  have h : Lib.setCells nmSet.data.toList = ((List.range 256).map fun n => Value.bool (chB n)).toArray := by kernel_rfl
  rw [h, List.getElem?_toArray, List.getElem?_map, List.getElem?_range x.toNat_lt]
  rfl
set_option maxRecDepth 100000 in
set_option maxHeartbeats 1000000 in
theorem lib_trimL (s : ByteArray) (b : Nat) (w : World) (hb : SetB w b) (_hs : s.size ≤ 1048576) :
    Calls Tryz.prog 121 #[.string s, .pointer (some ⟨b, 0, none⟩)] w fun e w' => ∃ r, e = .returned (.string r) ∧ r.toList.isEmpty = nmAll s ∧ w = w' := by
  obtain ⟨R, hR⟩ : ∃ R, R = nmAll s := ⟨_, rfl⟩
  rw [← hR]
  have HR := Lib.hid hR
  clear hR
  go_enter Tryz.func121, Tryz.ntmps121
  go_wp2_with fail
  go_loopw [0] (fun x wr => ∃ c : ByteArray, x = .string c ∧ c.size ≤ s.size ∧ Hid (nmAll c = nmAll s) ∧ wr = w) (fun x _ => match x with | .string c => c.size | _ => 0)
  case atStart => exact ⟨s, rfl, Nat.le_refl _, Lib.hid rfl, rfl⟩
  case round =>
    obtain ⟨c, rfl, hc, HN, rfl⟩ := hrel
    by_cases h0 : 0 < c.size
    · have h0I : (0 : Int) < (c.size : Int) := by omega
      have h1I : (1 : Int) ≤ (c.size : Int) := by omega
      have k1 := fun wv (h : SetB wv b) => Tryz.asciiSet_contains b c[0] (chB c[0].toNat) wv (h c[0])
      by_cases hch : chB c[0].toNat = true
      · have HC := Lib.hid (nmAll_cut h0 hch)
        rw [hch] at k1
        have K1 := Lib.hid k1
        clear k1 hch
        have hsz : (c.extract 1 c.size).size = c.size - 1 := by rw [ByteArray.size_extract]; omega
        have HSZ := Lib.hid hsz
        clear hsz
        go_wp2_with fail
        refine (K1.out _ hb).mono ?_
        rintro e w2 ⟨rfl, rfl⟩
        go_wp2_with fail
        go_roundw
        case rel => exact ⟨_, rfl, by rw [HSZ.out]; omega, Lib.hid (HC.out.trans HN.out), trivial⟩
        case measure => simp only [HSZ.out]; omega
      · have hch' : chB c[0].toNat = false := by simpa using hch
        have HC := Lib.hid (nmAll_at h0 hch')
        rw [hch'] at k1
        have K1 := Lib.hid k1
        clear k1 hch hch'
        go_wp2_with fail
        refine (K1.out _ hb).mono ?_
        rintro e w2 ⟨rfl, rfl⟩
        go_wp2_with fail
        go_ret
        exact ⟨c, rfl, by rw [emp_size, HR.out, ← HN.out, HC.out]; exact decide_eq_false (by omega), rfl⟩
    · have h0I : ¬ (0 : Int) < (c.size : Int) := by omega
      have HC := Lib.hid (nmAll_0 (show c.size = 0 by omega))
      go_wp2_with fail
      go_ret
      exact ⟨c, rfl, by rw [emp_size, HR.out, ← HN.out, HC.out]; exact decide_eq_true (by omega), rfl⟩
set_option maxRecDepth 100000 in
set_option maxHeartbeats 1000000 in
theorem lib_trimR (s : ByteArray) (b : Nat) (w : World) (hb : SetB w b) (hs : s.size ≤ 1048576) :
    Calls Tryz.prog 122 #[.string s, .pointer (some ⟨b, 0, none⟩)] w fun e w' => ∃ r, e = .returned (.string r) ∧ nmAll r = nmAll s ∧ r.size ≤ s.size ∧ w = w' := by
  obtain ⟨R, hR⟩ : ∃ R, R = nmAll s := ⟨_, rfl⟩
  rw [← hR]
  have HR := Lib.hid hR
  clear hR
  go_enter Tryz.func122, Tryz.ntmps122
  go_wp2_with fail
  go_loopw [0] (fun x wr => ∃ c : ByteArray, x = .string c ∧ c.size ≤ s.size ∧ Hid (nmAll c = nmAll s) ∧ wr = w) (fun x _ => match x with | .string c => c.size | _ => 0)
  case atStart => exact ⟨s, rfl, Nat.le_refl _, Lib.hid rfl, rfl⟩
  case round =>
    obtain ⟨c, rfl, hc, HN, rfl⟩ := hrel
    by_cases h0 : 0 < c.size
    · have h0I : (0 : Int) < (c.size : Int) := by omega
      have hci : (c.size : Int) ≤ 1048576 := by omega
      have h1w : IntKind.i64.wrap ((c.size : Int) - 1) = (c.size : Int) - 1 := by rw [IntKind.wrap_i64]; omega
      have hl1 : c.size - 1 < c.size := by omega
      have k1 := fun wv (h : SetB wv b) => Tryz.asciiSet_contains b (c[c.size - 1]'hl1) (chB (c[c.size - 1]'hl1).toNat) wv (h _)
      by_cases hch : chB (c[c.size - 1]'hl1).toNat = true
      · have HC := Lib.hid (nmAll_rcut h0 hch)
        rw [hch] at k1
        have K1 := Lib.hid k1
        clear k1 hch
        have hsz : (c.extract 0 (c.size - 1)).size = c.size - 1 := by rw [ByteArray.size_extract]; omega
        have HSZ := Lib.hid hsz
        clear hsz
        go_wp2_with fail
        refine (K1.out _ hb).mono ?_
        rintro e w2 ⟨rfl, rfl⟩
        go_wp2_with fail
        go_roundw
        case rel => exact ⟨_, rfl, by rw [HSZ.out]; omega, Lib.hid (HC.out.trans HN.out), trivial⟩
        case measure => simp only [HSZ.out]; omega
      · have hch' : chB (c[c.size - 1]'hl1).toNat = false := by simpa using hch
        rw [hch'] at k1
        have K1 := Lib.hid k1
        clear k1 hch hch'
        go_wp2_with fail
        refine (K1.out _ hb).mono ?_
        rintro e w2 ⟨rfl, rfl⟩
        go_wp2_with fail
        go_ret
        exact ⟨c, rfl, by rw [HR.out, HN.out], hc, rfl⟩
    · have h0I : ¬ (0 : Int) < (c.size : Int) := by omega
      go_wp2_with fail
      go_ret
      exact ⟨c, rfl, by rw [HR.out, HN.out], hc, rfl⟩
theorem nm_ascii : ∀ b ∈ nmSet.data.toList, b.toNat < 128 := by decide
set_option maxRecDepth 100000 in
set_option maxHeartbeats 1000000 in
theorem lib_Trim (s : ByteArray) (w : World) (h1 : 1 ≤ s.size) (hs : s.size ≤ 1048576) :
    Calls Tryz.prog 105 #[.string s, .string nmSet] w fun e w' => ∃ r, e = .returned (.string r) ∧ r.toList.isEmpty = nmAll s ∧ Q w w' := by
  have K1 := Lib.hid (fun wv => Tryz.strings_makeASCIISet (fun _ => by kernel_rfl) nmSet wv (by decide) (fun j b h => nm_ascii b (List.mem_of_getElem? h)))
  have HS := Lib.hid set_cells
  have he : s.toList.isEmpty = false := by rw [emp_size]; exact decide_eq_false (by omega)
  have he2 : nmSet.toList.isEmpty = false := by rw [emp_size]; rfl
  have he3 : nmSet.size = 36 := rfl
  have he4 : (Lib.setCells nmSet.data.toList).size = 256 := by kernel_rfl
  have he5 : (Lib.setCells nmSet.data.toList).all (·.oneCell') = true := by kernel_rfl
  generalize Lib.setCells nmSet.data.toList = SC at *
  have kst : (storeCells ⟨w.heap.size + 1, 0, none⟩ SC.toList).run Tryz.prog ((w.alloc (.cells SC 152)).alloc (.cells Tryz.zeroCells152 152)) = .ok () ((w.alloc (.cells SC 152)).alloc (.cells SC 152)) := by
    have h := run_storeCells_new (P := Tryz.prog) (w.alloc (.cells SC 152)) 152 Tryz.zeroCells152 SC (by rw [he4]; kernel_rfl) (by rw [he4]; kernel_rfl) he5
    rwa [World.size_alloc] at h
  have hb := (Blk.new (w.alloc (.cells SC 152)) 152 SC)
  rw [World.size_alloc] at hb
  have hset : SetB ((w.alloc (.cells SC 152)).alloc (.cells SC 152)) (w.heap.size + 1) := fun x => by rw [hb.cell]; exact HS.out x
  have K2 := Lib.hid (fun wv h => lib_trimR s (w.heap.size + 1) wv h hs)
  have K3 := Lib.hid (fun r wv h hr => lib_trimL r (w.heap.size + 1) wv h hr)
  have HT := Lib.hid hset
  clear hset hb he5 HS
  go_enter Tryz.func105, Tryz.ntmps105
  go_wp2_with fail
  refine (K1.out _).mono ?_
  rintro e w1 ⟨rfl, rfl⟩
  go_wp2_with fail
  refine (K2.out _ HT.out).mono ?_
  rintro e w2 ⟨r, rfl, hr1, hr2, rfl⟩
  have HR1 := Lib.hid hr1
  clear hr1 K2
  go_wp2_with fail
  refine (K3.out r _ HT.out (by omega)).mono ?_
  rintro e w3 ⟨r3, rfl, hr3, rfl⟩
  go_wp2_with fail
  go_ret
  exact ⟨r3, rfl, by rw [hr3, HR1.out], ((Q.refl w).alloc _).alloc _⟩
theorem nm0_get {s : ByteArray} (h : 0 < s.size) : nm0 s = s[0].toNat := by
  have hg := get_list s 0 h
  unfold nm0
  cases hl : s.data.toList with
  | nil => rw [hl] at hg; cases hg
  | cons x l =>
    rw [hl] at hg
    injection hg with hg
    rw [← hg]
theorem nmB_no {s : ByteArray} (h : ¬ (1 ≤ s.size ∧ s.size ≤ 8 ∧ 97 ≤ nm0 s ∧ nm0 s ≤ 122)) : nmB s = false := by
  unfold nmB
  cases h1 : (decide (1 ≤ s.size) && (decide (s.size ≤ 8) && (decide (97 ≤ nm0 s) && (decide (nm0 s ≤ 122) && nmAll s))))
  · rfl
  · simp only [Bool.and_eq_true, decide_eq_true_eq] at h1
    exact absurd ⟨h1.1, h1.2.1, h1.2.2.1, h1.2.2.2.1⟩ h
theorem nmB_yes {s : ByteArray} (h1 : 1 ≤ s.size) (h2 : s.size ≤ 8) (h3 : 97 ≤ nm0 s) : nmB s = nmAll s := by
  unfold nmB
  rw [decide_eq_true h1, decide_eq_true h2, decide_eq_true h3]
  by_cases h4 : nm0 s ≤ 122
  · rw [decide_eq_true h4]; simp
  · have h0 : 0 < s.size := h1
    have : nmAll s = false := nmAll_at h0 (by rw [← nm0_get h0]; unfold chB; simp; omega)
    rw [decide_eq_false h4, this]
    rfl
set_option maxRecDepth 100000 in
set_option maxHeartbeats 1000000 in
theorem impl_isMarkName (s : ByteArray) (hs : s.size ≤ maxLen) (w : World) : Calls Tryz.prog 77 #[.string s] w fun e w' => e = .returned (.bool (nmB s)) ∧ Q w w' := by
  have hs' : s.size ≤ 9223372036854775807 := by unfold maxLen at hs; omega
  by_cases h1 : 1 ≤ s.size
  · by_cases h8 : s.size ≤ 8
    · have h0 : 0 < s.size := h1
      have h0I : (0 : Int) < (s.size : Int) := by omega
      have h1I : (1 : Int) ≤ (s.size : Int) := by omega
      have h8I : (s.size : Int) ≤ 8 := by omega
      have hg := nm0_get h0
      by_cases h97 : 97 ≤ nm0 s
      · have HE := Lib.hid (nmB_yes h1 h8 h97)
        have K1 := Lib.hid (fun wv => lib_Trim s wv h1 (by omega))
        have h97I : ¬ ((s[0].toNat : Int) < 97) := by omega
        have h97D : decide ((s[0].toNat : Int) < 97) = false := decide_eq_false h97I
        have h97N : ¬ s[0].toNat < 97 := by omega
        clear hg h97
        go_enter Tryz.func77, Tryz.ntmps77
        go_wp2_with fail
        refine (K1.out _).mono ?_
        rintro e w1 ⟨r, rfl, hr, q1⟩
        go_wp2_with fail
        go_ret
        exact ⟨ret_bool (by rw [HE.out]), q1⟩
      · have HE := Lib.hid (nmB_no (s := s) (fun h => h97 h.2.2.1))
        have h97I : ((s[0].toNat : Int) < 97) := by omega
        have h97D : decide ((s[0].toNat : Int) < 97) = true := decide_eq_true h97I
        have h97N : s[0].toNat < 97 := by omega
        clear hg h97
        go_enter Tryz.func77, Tryz.ntmps77
        go_wp2_with fail
        go_ret
        exact ⟨ret_bool HE.out.symm, by (repeat (first | assumption | exact Q.refl _ | refine Q.alloc ?_ _ | refine Q.drewN ?_ _ | refine Q.drew ?_))⟩
    · have HE := Lib.hid (nmB_no (s := s) (fun h => h8 h.2.1))
      have h8I : ¬ (s.size : Int) ≤ 8 := by omega
      have h8J : (8 : Int) < (s.size : Int) := by omega
      have h1I : (1 : Int) ≤ (s.size : Int) := by omega
      go_enter Tryz.func77, Tryz.ntmps77
      go_wp2_with fail
      go_ret
      exact ⟨ret_bool HE.out.symm, by (repeat (first | assumption | exact Q.refl _ | refine Q.alloc ?_ _ | refine Q.drewN ?_ _ | refine Q.drew ?_))⟩
  · have HE := Lib.hid (nmB_no (s := s) (fun h => h1 h.1))
    have h1I : (s.size : Int) < 1 := by omega
    go_enter Tryz.func77, Tryz.ntmps77
    go_wp2_with fail
    go_ret
    exact ⟨ret_bool HE.out.symm, by (repeat (first | assumption | exact Q.refl _ | refine Q.alloc ?_ _ | refine Q.drewN ?_ _ | refine Q.drew ?_))⟩
/-- The first k bytes are bytes of a name. -/
def nmTo (s : ByteArray) (k : Nat) : Prop := ∀ i (h : i < s.size), i < k → chB s[i].toNat = true
theorem nmAll_to {s : ByteArray} (h : nmTo s s.size) : nmAll s = true := by
  unfold nmAll
  rw [List.all_eq_true]
  intro b hb
  obtain ⟨i, hi, rfl⟩ := List.mem_iff_getElem.1 hb
  have hi' : i < s.size := by rw [← size_list]; exact hi
  have hg := get_list s i hi'
  rw [List.getElem?_eq_getElem hi] at hg
  injection hg with hg
  rw [hg]
  exact h i hi' hi'
set_option maxRecDepth 100000 in
set_option maxHeartbeats 2000000 in
theorem spec_Name (s : ByteArray) (hs : s.size ≤ maxLen) (w : World) : Calls Tryz.prog 73 #[.string s] w fun e w' => e = .returned (.bool (nmB s)) ∧ Q w w' := by
  have hs' : s.size ≤ 9223372036854775807 := by unfold maxLen at hs; omega
  by_cases h1 : 1 ≤ s.size
  · by_cases h8 : s.size ≤ 8
    · have h0 : 0 < s.size := h1
      have h0I : (0 : Int) < (s.size : Int) := by omega
      have h1I : (1 : Int) ≤ (s.size : Int) := by omega
      have h8I : (s.size : Int) ≤ 8 := by omega
      have hg := nm0_get h0
      by_cases h97 : 97 ≤ nm0 s
      · by_cases h122 : nm0 s ≤ 122
        · have HE := Lib.hid (nmB_yes h1 h8 h97)
          have f1I : ¬ ((s[0].toNat : Int) < 97) := by omega
          have f1D : decide ((s[0].toNat : Int) < 97) = false := decide_eq_false f1I
          have f1N : ¬ s[0].toNat < 97 := by omega
          have f2I : ¬ ((122 : Int) < (s[0].toNat : Int)) := by omega
          have f2D : decide ((122 : Int) < (s[0].toNat : Int)) = false := decide_eq_false f2I
          have f2N : ¬ 122 < s[0].toNat := by omega
          clear hg h97 h122
          go_enter Tryz.func73, Tryz.ntmps73
          go_wp2_with fail
          clear f1I f1D f1N f2I f2D f2N
          go_loopw [3] (fun i wr => ∃ k : Nat, k ≤ s.size ∧ i = .int .i64 k ∧ Hid (nmTo s k) ∧ wr = w) (fun i _ => s.size - (intOf i).toNat)
          case atStart => exact ⟨0, Nat.zero_le _, rfl, Lib.hid (fun i h hi => absurd hi (Nat.not_lt_zero _)), rfl⟩
          case round =>
            obtain ⟨k, hk, rfl, HN, rfl⟩ := hrel
            by_cases hlt : k < s.size
            · have hltI : (k : Int) < (s.size : Int) := by omega
              by_cases ha : s[k].toNat < 97
              · by_cases hb : s[k].toNat < 48
                · skip
                  have f3I : ((s[k].toNat : Int) < 97) := by omega
                  have f3D : decide ((s[k].toNat : Int) < 97) = true := decide_eq_true f3I
                  have f3N : s[k].toNat < 97 := by omega
                  have f4I : ((s[k].toNat : Int) < 48) := by omega
                  have f4D : decide ((s[k].toNat : Int) < 48) = true := decide_eq_true f4I
                  have f4N : s[k].toNat < 48 := by omega
                  have HC := Lib.hid (nmAll_at hlt (show chB s[k].toNat = false by unfold chB; simp; omega))
                  go_wp2_with fail
                  go_ret
                  exact ⟨ret_bool (by rw [HE.out, HC.out]), Q.refl _⟩
                · by_cases hd : 57 < s[k].toNat
                  · skip
                    have f5I : ((s[k].toNat : Int) < 97) := by omega
                    have f5D : decide ((s[k].toNat : Int) < 97) = true := decide_eq_true f5I
                    have f5N : s[k].toNat < 97 := by omega
                    have f6I : ¬ ((s[k].toNat : Int) < 48) := by omega
                    have f6D : decide ((s[k].toNat : Int) < 48) = false := decide_eq_false f6I
                    have f6N : ¬ s[k].toNat < 48 := by omega
                    have f7I : ((57 : Int) < (s[k].toNat : Int)) := by omega
                    have f7D : decide ((57 : Int) < (s[k].toNat : Int)) = true := decide_eq_true f7I
                    have f7N : 57 < s[k].toNat := by omega
                    have HC := Lib.hid (nmAll_at hlt (show chB s[k].toNat = false by unfold chB; simp; omega))
                    go_wp2_with fail
                    go_ret
                    exact ⟨ret_bool (by rw [HE.out, HC.out]), Q.refl _⟩
                  · skip
                    have f8I : ((s[k].toNat : Int) < 97) := by omega
                    have f8D : decide ((s[k].toNat : Int) < 97) = true := decide_eq_true f8I
                    have f8N : s[k].toNat < 97 := by omega
                    have f9I : ¬ ((s[k].toNat : Int) < 48) := by omega
                    have f9D : decide ((s[k].toNat : Int) < 48) = false := decide_eq_false f9I
                    have f9N : ¬ s[k].toNat < 48 := by omega
                    have f10I : ¬ ((57 : Int) < (s[k].toNat : Int)) := by omega
                    have f10D : decide ((57 : Int) < (s[k].toNat : Int)) = false := decide_eq_false f10I
                    have f10N : ¬ 57 < s[k].toNat := by omega
                    have HC := Lib.hid (show chB s[k].toNat = true by unfold chB; simp; omega)
                    go_wp2_with fail
                    go_roundw
                    case rel => exact ⟨k + 1, by omega, by go_num, Lib.hid (fun i h hi => if h' : i < k then HN.out i h h' else by obtain rfl : i = k := (by omega); exact HC.out), trivial⟩
                    case measure => simp [intOf]; omega
              · by_cases hb : 122 < s[k].toNat
                · skip
                  have f11I : ¬ ((s[k].toNat : Int) < 97) := by omega
                  have f11D : decide ((s[k].toNat : Int) < 97) = false := decide_eq_false f11I
                  have f11N : ¬ s[k].toNat < 97 := by omega
                  have f12I : ((122 : Int) < (s[k].toNat : Int)) := by omega
                  have f12D : decide ((122 : Int) < (s[k].toNat : Int)) = true := decide_eq_true f12I
                  have f12N : 122 < s[k].toNat := by omega
                  have f13I : ¬ ((s[k].toNat : Int) < 48) := by omega
                  have f13D : decide ((s[k].toNat : Int) < 48) = false := decide_eq_false f13I
                  have f13N : ¬ s[k].toNat < 48 := by omega
                  have f14I : ((57 : Int) < (s[k].toNat : Int)) := by omega
                  have f14D : decide ((57 : Int) < (s[k].toNat : Int)) = true := decide_eq_true f14I
                  have f14N : 57 < s[k].toNat := by omega
                  have HC := Lib.hid (nmAll_at hlt (show chB s[k].toNat = false by unfold chB; simp; omega))
                  go_wp2_with fail
                  go_ret
                  exact ⟨ret_bool (by rw [HE.out, HC.out]), Q.refl _⟩
                · skip
                  have f15I : ¬ ((s[k].toNat : Int) < 97) := by omega
                  have f15D : decide ((s[k].toNat : Int) < 97) = false := decide_eq_false f15I
                  have f15N : ¬ s[k].toNat < 97 := by omega
                  have f16I : ¬ ((122 : Int) < (s[k].toNat : Int)) := by omega
                  have f16D : decide ((122 : Int) < (s[k].toNat : Int)) = false := decide_eq_false f16I
                  have f16N : ¬ 122 < s[k].toNat := by omega
                  have HC := Lib.hid (show chB s[k].toNat = true by unfold chB; simp; omega)
                  go_wp2_with fail
                  go_roundw
                  case rel => exact ⟨k + 1, by omega, by go_num, Lib.hid (fun i h hi => if h' : i < k then HN.out i h h' else by obtain rfl : i = k := (by omega); exact HC.out), trivial⟩
                  case measure => simp [intOf]; omega
            · obtain rfl : k = s.size := by omega
              have HC := Lib.hid (nmAll_to HN.out)
              go_wp2_with fail
              go_ret
              exact ⟨ret_bool (by rw [HE.out, HC.out]), Q.refl _⟩
        · have HE := Lib.hid (nmB_no (s := s) (fun h => h122 h.2.2.2))
          have f17I : ¬ ((s[0].toNat : Int) < 97) := by omega
          have f17D : decide ((s[0].toNat : Int) < 97) = false := decide_eq_false f17I
          have f17N : ¬ s[0].toNat < 97 := by omega
          have f18I : ((122 : Int) < (s[0].toNat : Int)) := by omega
          have f18D : decide ((122 : Int) < (s[0].toNat : Int)) = true := decide_eq_true f18I
          have f18N : 122 < s[0].toNat := by omega
          go_enter Tryz.func73, Tryz.ntmps73
          go_wp2_with fail
          go_ret
          exact ⟨ret_bool HE.out.symm, Q.refl _⟩
      · have HE := Lib.hid (nmB_no (s := s) (fun h => h97 h.2.2.1))
        have f19I : ((s[0].toNat : Int) < 97) := by omega
        have f19D : decide ((s[0].toNat : Int) < 97) = true := decide_eq_true f19I
        have f19N : s[0].toNat < 97 := by omega
        go_enter Tryz.func73, Tryz.ntmps73
        go_wp2_with fail
        go_ret
        exact ⟨ret_bool HE.out.symm, Q.refl _⟩
    · have HE := Lib.hid (nmB_no (s := s) (fun h => h8 h.2.1))
      have h8I : ¬ (s.size : Int) ≤ 8 := by omega
      have h8J : (8 : Int) < (s.size : Int) := by omega
      have h1I : (1 : Int) ≤ (s.size : Int) := by omega
      go_enter Tryz.func73, Tryz.ntmps73
      go_wp2_with fail
      go_ret
      exact ⟨ret_bool HE.out.symm, Q.refl _⟩
  · have HE := Lib.hid (nmB_no (s := s) (fun h => h1 h.1))
    have h1I : (s.size : Int) < 1 := by omega
    go_enter Tryz.func73, Tryz.ntmps73
    go_wp2_with fail
    go_ret
    exact ⟨ret_bool HE.out.symm, Q.refl _⟩
end Go.Proofs.YteofhfefbphjdaaGreatDoor
