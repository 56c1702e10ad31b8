/- Walks: the program's startCode, and its IsEarly. -/
import Derived.Test.YtlmaecmjpbgegaaTks
namespace Go.Proofs.Ytlmaecmjpbgegaa
open Go.RowKit Go.WideShapes Go.ChangeShapes
theorem impl_isFlag (n : Int) (w : World) : Calls Try.prog 96 #[.int .i64 n] w fun e w' => e = .returned (.bool (inR n 0 3)) ∧ w = w' := by
  have K := Lib.hid (fun wv => impl_inR n 0 3 wv)
  generalize inR n 0 3 = B at *
  go_enter Try.func96, Try.ntmps96
  go_wp2_with (go_at_call 84; refine (K.out _).mono ?_; rintro e w' ⟨rfl, rfl⟩)
  go_ret
  exact ⟨rfl, rfl⟩
def scC (a b c d : Int) (ts : List Tk) (t fl : Int) : Int := if lnB a b c d = true ∧ ts.all Tk.trk = true then (if inR t 0 1000000000 = true ∧ inR fl 0 3 = true then 0 else 2) else 1
set_option maxHeartbeats 2000000 in
theorem impl_startCode (a b c d : Int) (A : Option Addr) (m cc : Nat) (ts : List Tk) (t fl : Int) (w : World) (ha : RdT w A ts) (hm : ts.length = m) (hm2 : m ≤ 9223372036854775807) :
    Calls Try.prog 66 #[.agg #[.int .i64 a, .int .i64 b, .int .i64 c, .int .i64 d], .slice A m cc, .int .i64 t, .int .i64 fl] w fun e w' => e = .returned (.int .i64 (scC a b c d ts t fl)) ∧ Q w w' := by
  have K1 := (fun wv => impl_IsLine a b c d wv)
  have K2 := (fun wv (h : RdT wv A ts) => impl_areTracks A m cc ts wv h hm hm2)
  have K3 := (fun wv => (show Calls Try.prog 85 #[.int .i64 t] wv fun e w' => e = .returned (.bool (inR t 0 1000000000)) ∧ wv = w' from impl_isTime t wv))
  have K4 := (fun wv => impl_isFlag fl wv)
  have HS := Lib.hid (show scC a b c d ts t fl = if lnB a b c d = true ∧ ts.all Tk.trk = true then (if inR t 0 1000000000 = true ∧ inR fl 0 3 = true then 0 else 2) else 1 from rfl)
  generalize scC a b c d ts t fl = C at *
  generalize lnB a b c d = p1 at *
  generalize ts.all Tk.trk = p2 at *
  generalize inR t 0 1000000000 = p3 at *
  generalize inR fl 0 3 = p4 at *
  cases p1 <;> cases p2 <;> cases p3 <;> cases p4
  all_goals (have K1 := Lib.hid K1; have K2 := Lib.hid K2; have K3 := Lib.hid K3; have K4 := Lib.hid K4)
  all_goals go_enter Try.func66, Try.ntmps66
  all_goals go_wp2_with (first | (have q0 := q1; go_at_call 95; refine (K2.out _ (ha.q (Q.trans (by (repeat (first | assumption | exact Q.refl _ | refine Q.alloc ?_ _ | refine Q.drewN ?_ _ | refine Q.drew ?_))) q0))).mono ?_; rintro e w2 ⟨rfl, q2⟩) | (go_at_call 85; refine (K3.out _).mono ?_; rintro e w' ⟨rfl, rfl⟩) | (go_at_call 96; refine (K4.out _).mono ?_; rintro e w' ⟨rfl, rfl⟩) | (go_at_call 94; refine (K1.out _).mono ?_; rintro e w1 ⟨rfl, q1⟩))
  all_goals go_ret
  all_goals first
    | exact ⟨ret_int (by rw [HS.out]; simp), Q.trans (Q.trans (by (repeat (first | assumption | exact Q.refl _ | refine Q.alloc ?_ _ | refine Q.drewN ?_ _ | refine Q.drew ?_))) q1) q2⟩
    | exact ⟨ret_int (by rw [HS.out]; simp), Q.trans (by (repeat (first | assumption | exact Q.refl _ | refine Q.alloc ?_ _ | refine Q.drewN ?_ _ | refine Q.drew ?_))) q1⟩
end Go.Proofs.Ytlmaecmjpbgegaa
