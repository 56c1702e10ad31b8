/- Words: slices of tracks; and the walk of the program's areTracks over any such slice. -/
import Derived.Test.YtlmaecmjpbgegaaEarlyS
namespace Go.Proofs.Ytlmaecmjpbgegaa
open Go.RowKit Go.WideShapes Go.ChangeShapes
/-- A track as it lies in memory: its slice, and the numbers of its fixes. -/
structure Tk where
  A : Option Addr
  n : Nat
  c : Nat
  xs : List Int
def Tk.ok (w : World) (T : Tk) : Prop := Rd w T.A T.xs ∧ T.xs.length = T.n * 3 ∧ T.n ≤ 9223372036854775807
def Tk.trk (T : Tk) : Bool := isTrk T.xs T.n
def RdT (w : World) (A : Option Addr) (ts : List Tk) : Prop := ∃ b o, (0 < ts.length → A = some ⟨b, o, none⟩) ∧ ∀ j (h : j < ts.length), w.cell? ⟨b, o + j, none⟩ = some (.slice ts[j].A ts[j].n ts[j].c) ∧ ts[j].ok w
theorem RdT.q {w w' : World} {A : Option Addr} {ts : List Tk} (h : RdT w A ts) (hq : Q w w') : RdT w' A ts := by
  obtain ⟨b, o, hA, hc⟩ := h
  exact ⟨b, o, hA, fun j hj => ⟨hq.cell (hc j hj).1, (hc j hj).2.1.q hq, (hc j hj).2.2⟩⟩
theorem RdT.at_ {w : World} {A : Option Addr} {ts : List Tk} {m k : Nat} (h : RdT w A ts) (hm : ts.length = m) (hk : k < m) : ∃ b o T, A = some ⟨b, o, none⟩ ∧ ts[k]? = some T ∧ w.cell? ⟨b, o + k, none⟩ = some (.slice T.A T.n T.c) ∧ T.ok w := by
  subst hm
  obtain ⟨b, o, hA, hc⟩ := h
  exact ⟨b, o, ts[k], hA (by omega), List.getElem?_eq_getElem hk, (hc k hk).1, (hc k hk).2⟩
theorem all_take {ts : List Tk} {k : Nat} {T : Tk} (h : ts[k]? = some T) : (ts.take (k + 1)).all Tk.trk = ((ts.take k).all Tk.trk && T.trk) := by
  rw [List.take_add_one, h, List.all_append]
  simp
theorem all_no {ts : List Tk} {k : Nat} {T : Tk} (h : ts[k]? = some T) (hT : T.trk = false) : ts.all Tk.trk = false := by
  rw [List.all_eq_false]
  exact ⟨T, List.mem_of_getElem? h, by simp [hT]⟩
set_option maxHeartbeats 1000000 in
theorem impl_areTracks (A : Option Addr) (m c : Nat) (ts : List Tk) (w : World) (ha : RdT w A ts) (hm : ts.length = m) (hm2 : m ≤ 9223372036854775807) :
    Calls Try.prog 95 #[.slice A m c] w fun e w' => e = .returned (.bool (ts.all Tk.trk)) ∧ Q w w' := by
  have HM := Lib.hid hm
  go_enter Try.func95, Try.ntmps95
  go_wp2_with fail
  go_loopw [7] (fun i wr => ∃ k : Nat, k ≤ m ∧ i = .int .i64 k ∧ Hid ((ts.take k).all Tk.trk = true) ∧ Q w wr) (fun i _ => m - (intOf i).toNat)
  case atStart => exact ⟨0, Nat.zero_le _, rfl, Lib.hid rfl, Q.refl _⟩
  case round =>
    obtain ⟨k, hk, rfl, HT, hq⟩ := hrel
    by_cases hlt : k < m
    · have hltI : (k : Int) < (m : Int) := by omega
      obtain ⟨b, o, T, rfl, hT, g0, hok⟩ := (ha.q hq).at_ HM.out hlt
      have K1 := (fun wv (h : Rd wv T.A T.xs) => impl_IsTrack T.A T.n T.c T.xs wv h hok.2.1 hok.2.2)
      have hR := hok.1
      obtain ⟨B, hB⟩ : ∃ B, B = T.trk := ⟨_, rfl⟩
      rw [show isTrk T.xs T.n = B from hB.symm] at K1
      have K1 := Lib.hid K1
      have HB := Lib.hid hB
      have HX := Lib.hid hT
      clear hB hT hok hm
      cases B
      · go_wp2_with (go_at_call 59; refine (K1.out _ (hR.q (by (repeat (first | assumption | exact Q.refl _ | refine Q.alloc ?_ _ | refine Q.drewN ?_ _ | refine Q.drew ?_))))).mono ?_; rintro e w1 ⟨rfl, q1⟩)
        go_ret
        exact ⟨ret_bool (by rw [all_no HX.out HB.out.symm]), hq.trans (Q.trans (by (repeat (first | assumption | exact Q.refl _ | refine Q.alloc ?_ _ | refine Q.drewN ?_ _ | refine Q.drew ?_))) q1)⟩
      · go_wp2_with (go_at_call 59; refine (K1.out _ (hR.q (by (repeat (first | assumption | exact Q.refl _ | refine Q.alloc ?_ _ | refine Q.drewN ?_ _ | refine Q.drew ?_))))).mono ?_; rintro e w1 ⟨rfl, q1⟩)
        go_roundw
        case rel => exact ⟨k + 1, by omega, by go_num, Lib.hid (by rw [all_take HX.out, HT.out, ← HB.out]; rfl), hq.trans (Q.trans (by (repeat (first | assumption | exact Q.refl _ | refine Q.alloc ?_ _ | refine Q.drewN ?_ _ | refine Q.drew ?_))) q1)⟩
        case measure => simp [intOf]; omega
    · obtain rfl : k = m := by omega
      go_wp2_with fail
      go_ret
      exact ⟨ret_bool (by have := HT.out; rw [List.take_of_length_le (by rw [HM.out]; omega)] at this; exact this.symm), hq⟩
end Go.Proofs.Ytlmaecmjpbgegaa
