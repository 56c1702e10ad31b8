/- Walks: whether a track is early, as the program and the reference compute it. Walks: the codes of a start, as the program and the reference compute them. Walks: whether a track is early, with its code, as the reference computes it. Words: slices of tracks; and the walk of the program's areTracks over any such slice. Walks: the program's startCode, and its IsEarly. Walks: the program's IsEarly, for all arguments; and the law's own walk. -/
import Derived.Test.YtkpdoikjfibflaaGreatLine
namespace Go.Proofs.YtkpdoikjfibflaaGreat
open Go.RowKit Go.WideShapes Go.ChangeShapes
theorem posC_in {a b g d : Int} (hg : 0 ≤ g ∧ g ≤ d) (hd : 0 < d) (ha : -1000000 ≤ a ∧ a ≤ 1000000) (hb : -1000000 ≤ b ∧ b ≤ 1000000) : -1000000 ≤ posC a b g d ∧ posC a b g d ≤ 1000000 := by
  unfold posC
  rcases Int.le_total 0 (b - a) with h | h
  · have h1 := posC_bd (a := a) (b := b) (V := b - a) hg hd (by omega)
    have h2 : 0 ≤ (b - a) * g / d := Int.ediv_nonneg (Int.mul_nonneg h hg.1) (by omega)
    omega
  · have h1 := posC_bd (a := a) (b := b) (V := a - b) hg hd (by omega)
    have h2 : (b - a) * g ≤ 0 := Int.mul_nonpos_of_nonpos_of_nonneg h hg.1
    have h3 : (b - a) * g / d ≤ 0 := by
      have := Int.ediv_le_ediv hd h2
      rwa [Int.zero_ediv] at this
    omega
theorem pos_pt {xs : List Int} {n : Nat} {t : Int} (hT : isTrk xs n = true) (hl : lastsB xs n t = true) : pt (atX xs n t) (atY xs n t) := by
  obtain ⟨hk, ht1, ht2⟩ := leg_facts hT hl
  obtain ⟨⟨f1, f2, f3⟩, f4, f5, f6, f7⟩ := trk_two hT hk
  unfold atX atY
  exact ⟨posC_in (by omega) (by omega) f4 f6, posC_in (by omega) (by omega) f5 f7⟩
def sideV (a b c d : Int) (xs : List Int) (n : Nat) (t : Int) : Int := if lastsB xs n t = true then sgn (crossV a b c d (atX xs n t) (atY xs n t)) else 0
end Go.Proofs.YtkpdoikjfibflaaGreat
namespace Go.Proofs.YtkpdoikjfibflaaGreat
open Go.RowKit Go.WideShapes Go.ChangeShapes
def stC (a b c d : Int) (xs : List Int) (n : Nat) (t : Int) : Int := if lnB a b c d = true ∧ isTrk xs n = true then (if 0 ≤ t ∧ t ≤ 1000000000 then 0 else 2) else 1
end Go.Proofs.YtkpdoikjfibflaaGreat
namespace Go.Proofs.YtkpdoikjfibflaaGreat
open Go.RowKit Go.WideShapes Go.ChangeShapes
def earB (a b c d : Int) (xs : List Int) (n : Nat) (t : Int) : Bool := decide (stC a b c d xs n t = 0) && (sideV a b c d xs n t == 1)
theorem stC_0 {a b c d : Int} {xs : List Int} {n : Nat} {t : Int} (h : stC a b c d xs n t = 0) : lnB a b c d = true ∧ isTrk xs n = true := by
  unfold stC at h
  split at h
  · assumption
  · cases h
end Go.Proofs.YtkpdoikjfibflaaGreat
namespace Go.Proofs.YtkpdoikjfibflaaGreat
open Go.RowKit Go.WideShapes Go.ChangeShapes
/-- A track as it lies in memory: its slice, and the numbers of its fixes. -/
structure Tk where
  A : Option Addr
  n : Nat
  c : Nat
  xs : List Int
def Tk.ok (w : World) (T : Tk) : Prop := Rd w T.A T.xs ∧ T.xs.length = T.n * 3 ∧ T.n ≤ 9223372036854775807
def Tk.trk (T : Tk) : Bool := isTrk T.xs T.n
def RdT (w : World) (A : Option Addr) (ts : List Tk) : Prop := ∃ b o, (0 < ts.length → A = some ⟨b, o, none⟩) ∧ ∀ j (h : j < ts.length), w.cell? ⟨b, o + j, none⟩ = some (.slice ts[j].A ts[j].n ts[j].c) ∧ ts[j].ok w
theorem RdT.q {w w' : World} {A : Option Addr} {ts : List Tk} (h : RdT w A ts) (hq : Q w w') : RdT w' A ts := by
  obtain ⟨b, o, hA, hc⟩ := h
  exact ⟨b, o, hA, fun j hj => ⟨hq.cell (hc j hj).1, (hc j hj).2.1.q hq, (hc j hj).2.2⟩⟩
theorem RdT.at_ {w : World} {A : Option Addr} {ts : List Tk} {m k : Nat} (h : RdT w A ts) (hm : ts.length = m) (hk : k < m) : ∃ b o T, A = some ⟨b, o, none⟩ ∧ ts[k]? = some T ∧ w.cell? ⟨b, o + k, none⟩ = some (.slice T.A T.n T.c) ∧ T.ok w := by
  subst hm
  obtain ⟨b, o, hA, hc⟩ := h
  exact ⟨b, o, ts[k], hA (by omega), List.getElem?_eq_getElem hk, (hc k hk).1, (hc k hk).2⟩
theorem all_take {ts : List Tk} {k : Nat} {T : Tk} (h : ts[k]? = some T) : (ts.take (k + 1)).all Tk.trk = ((ts.take k).all Tk.trk && T.trk) := by
  rw [List.take_add_one, h, List.all_append]
  simp
theorem all_no {ts : List Tk} {k : Nat} {T : Tk} (h : ts[k]? = some T) (hT : T.trk = false) : ts.all Tk.trk = false := by
  rw [List.all_eq_false]
  exact ⟨T, List.mem_of_getElem? h, by simp [hT]⟩
set_option maxHeartbeats 1000000 in
theorem impl_areTracks (A : Option Addr) (m c : Nat) (ts : List Tk) (w : World) (ha : RdT w A ts) (hm : ts.length = m) (hm2 : m ≤ 9223372036854775807) :
    Calls Tryz.prog 52 #[.slice A m c] w fun e w' => e = .returned (.bool (ts.all Tk.trk)) ∧ Q w w' := by
  have HM := Lib.hid hm
  go_enter Tryz.func52, Tryz.ntmps52
  go_wp2_with fail
  go_loopw [7] (fun i wr => ∃ k : Nat, k ≤ m ∧ i = .int .i64 k ∧ Hid ((ts.take k).all Tk.trk = true) ∧ Q w wr) (fun i _ => m - (intOf i).toNat)
  case atStart => exact ⟨0, Nat.zero_le _, rfl, Lib.hid rfl, Q.refl _⟩
  case round =>
    obtain ⟨k, hk, rfl, HT, hq⟩ := hrel
    by_cases hlt : k < m
    · have hltI : (k : Int) < (m : Int) := by omega
      obtain ⟨b, o, T, rfl, hT, g0, hok⟩ := (ha.q hq).at_ HM.out hlt
      have K1 := (fun wv (h : Rd wv T.A T.xs) => impl_IsTrack T.A T.n T.c T.xs wv h hok.2.1 hok.2.2)
      have hR := hok.1
      obtain ⟨B, hB⟩ : ∃ B, B = T.trk := ⟨_, rfl⟩
      rw [show isTrk T.xs T.n = B from hB.symm] at K1
      have K1 := Lib.hid K1
      have HB := Lib.hid hB
      have HX := Lib.hid hT
      clear hB hT hok hm
      cases B
      · go_wp2_with (go_at_call 41; refine (K1.out _ (hR.q (by (repeat (first | assumption | exact Q.refl _ | refine Q.alloc ?_ _ | refine Q.drewN ?_ _ | refine Q.drew ?_))))).mono ?_; rintro e w1 ⟨rfl, q1⟩)
        go_ret
        exact ⟨ret_bool (by rw [all_no HX.out HB.out.symm]), hq.trans (Q.trans (by (repeat (first | assumption | exact Q.refl _ | refine Q.alloc ?_ _ | refine Q.drewN ?_ _ | refine Q.drew ?_))) q1)⟩
      · go_wp2_with (go_at_call 41; refine (K1.out _ (hR.q (by (repeat (first | assumption | exact Q.refl _ | refine Q.alloc ?_ _ | refine Q.drewN ?_ _ | refine Q.drew ?_))))).mono ?_; rintro e w1 ⟨rfl, q1⟩)
        go_roundw
        case rel => exact ⟨k + 1, by omega, by go_num, Lib.hid (by rw [all_take HX.out, HT.out, ← HB.out]; rfl), hq.trans (Q.trans (by (repeat (first | assumption | exact Q.refl _ | refine Q.alloc ?_ _ | refine Q.drewN ?_ _ | refine Q.drew ?_))) q1)⟩
        case measure => simp [intOf]; omega
    · obtain rfl : k = m := by omega
      go_wp2_with fail
      go_ret
      exact ⟨ret_bool (by have := HT.out; rw [List.take_of_length_le (by rw [HM.out]; omega)] at this; exact this.symm), hq⟩
end Go.Proofs.YtkpdoikjfibflaaGreat
namespace Go.Proofs.YtkpdoikjfibflaaGreat
open Go.RowKit Go.WideShapes Go.ChangeShapes
def scC (a b c d : Int) (ts : List Tk) (t fl : Int) : Int := if lnB a b c d = true ∧ ts.all Tk.trk = true then (if inR t 0 1000000000 = true ∧ inR fl 0 3 = true then 0 else 2) else 1
end Go.Proofs.YtkpdoikjfibflaaGreat
namespace Go.Proofs.YtkpdoikjfibflaaGreat
open Go.RowKit Go.WideShapes Go.ChangeShapes
theorem scC_one (a b c d : Int) (A : Option Addr) (n cc : Nat) (xs : List Int) (t : Int) : scC a b c d [⟨A, n, cc, xs⟩] t 0 = stC a b c d xs n t := by
  simp [scC, stC, inR, Tk.trk]
theorem rdT_one {w : World} {A : Option Addr} {n cc : Nat} {xs : List Int} (T : TypeId) (ha : Rd w A xs) (hn : xs.length = n * 3) (hn2 : n ≤ 9223372036854775807) : RdT (w.alloc (.cells #[.slice A n cc] T)) (some ⟨w.heap.size, 0, none⟩) [⟨A, n, cc, xs⟩] := by
  refine ⟨_, _, fun _ => rfl, fun j hj => ?_⟩
  obtain rfl : j = 0 := by simp at hj; omega
  exact ⟨(Blk.new w T #[.slice A n cc]).cell 0, ha.q ((Q.refl w).alloc _), hn, hn2⟩
end Go.Proofs.YtkpdoikjfibflaaGreat
