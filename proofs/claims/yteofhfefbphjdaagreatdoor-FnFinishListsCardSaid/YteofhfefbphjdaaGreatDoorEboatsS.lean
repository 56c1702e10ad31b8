/- Walks: the boats that are early, as the program and the reference list them, for all arguments. No condition. Walks: the boats that are early, as the reference lists them; and the recall, for all arguments. No condition. -/
import Derived.Test.YteofhfefbphjdaaGreatDoorTdsT
import Derived.Test.YteofhfefbphjdaaGreatDoorEarly
namespace Go.Proofs.YteofhfefbphjdaaGreatDoor
open Go.RowKit Go.WideShapes Go.ChangeShapes
def allB (D : List (Nat × List Int)) : Bool := D.all fun d => isTrk d.2 d.1
theorem all_dat (ts : List Tk) : ts.all Tk.trk = allB (ts.map Tk.dat) := by
  unfold allB
  rw [List.all_map]
  rfl
theorem allB_at {D : List (Nat × List Int)} {k : Nat} (h : allB D = true) (hk : k < D.length) : isTrk (dx D k) (dn D k) = true := by
  unfold allB at h
  rw [List.all_eq_true] at h
  have := h D[k] (List.getElem_mem hk)
  simpa [dx, dn, List.getD_eq_getElem?_getD, List.getElem?_eq_getElem hk] using this
def scD (a b c d : Int) (D : List (Nat × List Int)) (t : Int) : Int := if lnB a b c d = true ∧ allB D = true then (if inR t 0 1000000000 = true then 0 else 2) else 1
theorem impl_startD (a b c d : Int) (A : Option Addr) (m cc : Nat) (D : List (Nat × List Int)) (t : Int) (w : World) (ha : RdD w A D) (hm : D.length = m) (hm2 : m ≤ 9223372036854775807) :
    Calls Tryz.prog 21 #[.agg #[.int .i64 a, .int .i64 b, .int .i64 c, .int .i64 d], .slice A m cc, .int .i64 t, .int .i64 0] w fun e w' => e = .returned (.int .i64 (scD a b c d D t)) ∧ Q w w' := by
  obtain ⟨ts, h1, rfl⟩ := ha
  have := impl_startCode a b c d A m cc ts t 0 w h1 (by simpa using hm) hm2
  rwa [show scC a b c d ts t 0 = scD a b c d (ts.map Tk.dat) t by unfold scC scD; rw [all_dat]; simp [inR]] at this
def allC (a b c d : Int) (D : List (Nat × List Int)) (t : Int) : Int := if 16 < D.length then 3 else scD a b c d D t
def erB (a b c d t : Int) (D : List (Nat × List Int)) (k : Nat) : Bool := sideV a b c d (dx D k) (dn D k) t == 1
def erTo (a b c d t : Int) (D : List (Nat × List Int)) (k : Nat) : List Int := ((List.range k).filter (erB a b c d t D)).map Int.ofNat
theorem erTo_yes {a b c d t : Int} {D : List (Nat × List Int)} {k : Nat} (h : erB a b c d t D k = true) : erTo a b c d t D (k + 1) = erTo a b c d t D k ++ [(k : Int)] := by simp [erTo, List.range_succ, h]
theorem erTo_no {a b c d t : Int} {D : List (Nat × List Int)} {k : Nat} (h : erB a b c d t D k = false) : erTo a b c d t D (k + 1) = erTo a b c d t D k := by simp [erTo, List.range_succ, h]
theorem erTo_len (a b c d t : Int) (D : List (Nat × List Int)) (k : Nat) : (erTo a b c d t D k).length ≤ k := by
  unfold erTo
  rw [List.length_map]
  exact Nat.le_trans (List.length_filter_le _ _) (by simp)
def ebL (a b c d : Int) (D : List (Nat × List Int)) (t : Int) : List Int := if allC a b c d D t = 0 then erTo a b c d t D D.length else []
theorem allC_0 {a b c d : Int} {D : List (Nat × List Int)} {t : Int} (h : allC a b c d D t = 0) : D.length ≤ 16 ∧ scD a b c d D t = 0 ∧ lnB a b c d = true ∧ allB D = true ∧ inR t 0 1000000000 = true := by
  unfold allC at h
  split at h
  · cases h
  · refine ⟨by omega, h, ?_⟩
    unfold scD at h
    split at h
    · rename_i h1
      split at h
      · rename_i h2; exact ⟨h1.1, h1.2, h2⟩
      · cases h
    · cases h
theorem ebL_len (a b c d : Int) (D : List (Nat × List Int)) (t : Int) : (ebL a b c d D t).length ≤ 16 := by
  unfold ebL
  split
  · rename_i h
    have h1 := (allC_0 h).1
    have h2 := erTo_len a b c d t D D.length
    omega
  · simp
theorem ebL_no {a b c d : Int} {D : List (Nat × List Int)} {t : Int} (h : allC a b c d D t ≠ 0) : ebL a b c d D t = [] := by simp [ebL, h]
end Go.Proofs.YteofhfefbphjdaaGreatDoor
namespace Go.Proofs.YteofhfefbphjdaaGreatDoor
open Go.RowKit Go.WideShapes Go.ChangeShapes
theorem allB_take {D : List (Nat × List Int)} {k : Nat} (hk : k < D.length) : allB (D.take (k + 1)) = (allB (D.take k) && isTrk (dx D k) (dn D k)) := by
  unfold allB
  rw [List.take_succ_eq_append_getElem hk, List.all_append]
  simp [dx, dn, List.getD_eq_getElem?_getD, List.getElem?_eq_getElem hk]
theorem allB_no {D : List (Nat × List Int)} {k : Nat} (hk : k < D.length) (h : isTrk (dx D k) (dn D k) = false) : allB D = false := by
  cases hB : allB D
  · rfl
  · rw [allB_at hB hk] at h; cases h
/-- Whether the start is recalled as a whole. -/
def rcB (a b c d : Int) (D : List (Nat × List Int)) (t : Int) : Bool := decide (D.length < 2 * (ebL a b c d D t).length) && decide (allC a b c d D t = 0)
end Go.Proofs.YteofhfefbphjdaaGreatDoor
