/- Walks: slices.Index and slices.Contains at int64, for every slice and value. No condition. -/
import Derived.Test.YthlfadkpeogajaaSl
namespace Go.Proofs.Ythlfadkpeogajaa
open Go.RowKit Go.WideShapes Go.ChangeShapes
theorem mem_take_step {xs : List Int} {v : Int} {k : Nat} (hk : k < xs.length) (h : v ∉ xs.take k) (hne : v ≠ xs.getD k 0) : v ∉ xs.take (k + 1) := by
  rw [List.take_succ_eq_append_getElem hk]
  rw [List.getD_eq_getElem?_getD, List.getElem?_eq_getElem hk] at hne
  simp only [List.mem_append, List.mem_cons, List.not_mem_nil, or_false, not_or]
  exact ⟨h, by simpa using hne⟩
theorem mem_getD {xs : List Int} {v : Int} {k : Nat} (hk : k < xs.length) (h : v = xs.getD k 0) : v ∈ xs := by
  rw [List.getD_eq_getElem?_getD, List.getElem?_eq_getElem hk] at h
  simp only [Option.getD_some] at h
  rw [h]
  exact List.getElem_mem hk
def IxPost (xs : List Int) (v : Int) (w : World) (e : Ending) (w' : World) : Prop := ∃ i : Int, e = .returned (.int .i64 i) ∧ -1 ≤ i ∧ (0 ≤ i ↔ v ∈ xs) ∧ Q w w'
theorem index_any (A : Option Addr) (n c : Nat) (xs : List Int) (v : Int) (w : World) (ha : Rd w A xs) (hn : xs.length = n) (hn2 : n ≤ 9223372036854775807) :
    Calls Try.prog 94 #[.slice A n c, .int .i64 v] w (IxPost xs v w) := by
  obtain ⟨b, o, hA, hc⟩ := ha
  have HN := Lib.hid hn
  rw [hn] at hA hc
  clear hn
  go_enter Try.func94, Try.ntmps94
  go_wp2_with fail
  go_loopw [8] (fun i wr => ∃ k : Nat, k ≤ n ∧ i = .int .i64 k ∧ v ∉ xs.take k ∧ Q w wr) (fun i _ => n - (intOf i).toNat)
  case atStart => exact ⟨0, by omega, rfl, by simp, Q.refl _⟩
  case round =>
    obtain ⟨k, hk, rfl, ht, hq⟩ := hrel
    have HT := Lib.hid ht
    clear ht
    by_cases hlt : k < n
    · obtain rfl := hA (by omega)
      obtain ⟨x, hx⟩ : ∃ x, x = xs.getD k 0 := ⟨_, rfl⟩
      have g0 := hq.cell (hc k hlt)
      rw [← hx] at g0
      have HX := Lib.hid hx
      clear hx hc hA
      by_cases hv : v = x
      · subst hv
        go_wp2_with fail
        go_ret
        exact ⟨k, rfl, by omega, ⟨fun _ => mem_getD (by rw [HN.out]; exact hlt) HX.out, fun _ => by omega⟩, hq⟩
      · have hb : (v == x) = false := by simpa using hv
        have HV := Lib.hid hv
        clear hv
        go_wp2_with fail
        go_roundw
        case rel => exact ⟨k + 1, by omega, by go_num, mem_take_step (by rw [HN.out]; exact hlt) HT.out (by rw [← HX.out]; exact HV.out), hq⟩
        case measure => simp [intOf]; omega
    · obtain rfl : k = n := by omega
      go_wp2_with fail
      go_ret
      exact ⟨-1, rfl, by omega, ⟨fun h => absurd h (by omega), fun h => absurd h (by have := HT.out; rwa [List.take_of_length_le (by rw [HN.out]; omega)] at this)⟩, hq⟩
theorem contains_any (A : Option Addr) (n c : Nat) (xs : List Int) (v : Int) (w : World) (ha : Rd w A xs) (hn : xs.length = n) (hn2 : n ≤ 9223372036854775807) :
    Calls Try.prog 71 #[.slice A n c, .int .i64 v] w fun e w' => e = .returned (.bool (decide (v ∈ xs))) ∧ Q w w' := by
  go_enter Try.func71, Try.ntmps71
  go_wp2_with fail
  refine (index_any A n c xs v _ ha hn hn2).mono ?_
  rintro e w1 ⟨i, rfl, h1, h2, q1⟩
  by_cases hv : v ∈ xs
  · have h3 : 0 ≤ i := h2.2 hv
    have H := Lib.hid hv
    clear h2 hv hn
    go_wp2_with fail
    go_ret
    exact ⟨ret_bool (by simp [H.out]), q1⟩
  · have h3 : ¬ 0 ≤ i := fun h => hv (h2.1 h)
    have H := Lib.hid hv
    clear h2 hv hn
    go_wp2_with fail
    go_ret
    exact ⟨ret_bool (by simp [H.out]; omega), q1⟩
end Go.Proofs.Ythlfadkpeogajaa
