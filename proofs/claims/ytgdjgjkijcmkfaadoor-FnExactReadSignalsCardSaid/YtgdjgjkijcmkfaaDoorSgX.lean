/- Walks: the law that the program's ReadSignals returns what the reference's returns. Condition: what the library's variables hold (Env). -/
import Derived.Test.YtgdjgjkijcmkfaaDoorSgV
namespace Go.Proofs.YtgdjgjkijcmkfaaDoor
open Go.RowKit Go.WideShapes Go.ChangeShapes
/-- What a string is read as. -/
noncomputable def sgX (s : ByteArray) : List Int := (SigR.ex s).choose
noncomputable def sgN (s : ByteArray) : Nat := (SigR.ex s).choose_spec.choose
noncomputable def sgK (s : ByteArray) : Bool := (SigR.ex s).choose_spec.choose_spec.choose
theorem sgR (s : ByteArray) : SigR s (sgX s) (sgN s) (sgK s) := (SigR.ex s).choose_spec.choose_spec.choose_spec
theorem sgN_le (s : ByteArray) : sgN s ≤ 1048576 := by
  rcases sgR s with ⟨_, _, h, _⟩ | ⟨_, h, _⟩
  · have := sig_n h; omega
  · omega
theorem spec_RdSg (s : ByteArray) (hs : s.size ≤ 1048576) (w : World) : Calls Tryd.prog 29 #[.string s] w (RSg w (sgN s) (sgX s) (sgK s)) := spec_ReadSignals s _ _ _ (sgR s) hs w
theorem impl_RdSg (s : ByteArray) (hs : s.size ≤ 1048576) (w : World) (hE : Env w) : Calls Tryd.prog 30 #[.string s] w (RSg w (sgN s) (sgX s) (sgK s)) := impl_ReadSignals s _ _ _ (sgR s) hs w hE
set_option maxRecDepth 100000 in
set_option maxHeartbeats 4000000 in
theorem law_RdSg (a0 : ByteArray) (ha0 : (a0.size : Int) ≤ 1048576) (w : World) (hE : Env w) :
    Calls Tryd.prog 7 #[.string a0] w fun e w' => e = .returned (.bool true) ∧ Below w.heap.size w w' := by
  have k0 := fun wv => spec_RdSg a0 (by omega) wv
  have k1 := fun wv hv => impl_RdSg a0 (by omega) wv hv
  obtain ⟨n0, hn0⟩ : ∃ n0, n0 = sgN a0 := ⟨_, rfl⟩
  obtain ⟨L0, hL0⟩ : ∃ L0, L0 = sgX a0 := ⟨_, rfl⟩
  obtain ⟨r1, hr1⟩ : ∃ r1, r1 = sgK a0 := ⟨_, rfl⟩
  have hs0 : n0 ≤ 1048576 := by rw [hn0]; exact sgN_le a0
  rw [← hn0, ← hL0, ← hr1] at k0 k1
  have K0 := Lib.hid k0
  have K1 := Lib.hid k1
  clear k0 k1 hn0 hL0 hr1
  go_enter Tryd.func7, Tryd.ntmps7
  have Q0 : Q w w := by (repeat (first | assumption | exact Q.refl _ | refine Q.alloc ?_ _ | refine Q.drewN ?_ _ | refine Q.drew ?_))
  have z0 : w.heap.size + 0 ≤ (w).heap.size := by simp
  go_wp2_with fail
  go_wp2_with fail
  refine (K0.out  _ ).mono ?_
  rintro e w1 ⟨Gs, ds, rfl, gs, q1⟩
  replace Q0 := Q0.trans q1
  have z1 := q1.size
  have fgs := gs.from
  have HGs := Lib.hid (show L0.length = n0 * 2 by simpa using gs.1)
  go_wp2_with fail
  refine (K1.out  _  (hE.q Q0)).mono ?_
  rintro e w2 ⟨Gi, di, rfl, gi, q2⟩
  replace Q0 := Q0.trans q2
  replace gs := gs.q q2
  have z2 := q2.size
  have fgi := gi.from
  have HGi := Lib.hid (show L0.length = n0 * 2 by simpa using gi.1)
  go_wp2_with fail
  refine (eqSignalS_same Gi Gs n0 di ds L0 _ gi.rd gs.rd HGi.out (by omega)).mono ?_
  rintro e w3 ⟨rfl, q3⟩
  replace Q0 := Q0.trans q3
  replace gs := gs.q q3
  replace gi := gi.q q3
  have z3 := q3.size
  go_wp2_with fail
  refine (markSignalS_any Gi n0 di _ L0 1 _ gi (by omega) (by omega)).mono ?_
  rintro e w4 ⟨rfl, mgi, G4⟩
  have z4 := G4.size
  replace Q0 := Q0.markU fgi (by omega) G4
  replace gs := gs.far G4 (by first | exact far_lt fgs fgi (by omega) | exact (far_lt fgi fgs (by omega)).symm)
  replace gi := mgi
  go_wp2_with fail
  refine (heldSignalS_any Gi n0 di 1 _ gi.rd (by omega) (by omega)).mono ?_
  rintro e w5 ⟨rfl, q5⟩
  replace Q0 := Q0.trans q5
  replace gs := gs.q q5
  replace gi := gi.q q5
  have z5 := q5.size
  go_wp2_with fail
  refine (K1.out  _  (hE.q Q0)).mono ?_
  rintro e w6 ⟨Gh, dh, rfl, gh, q6⟩
  replace Q0 := Q0.trans q6
  replace gs := gs.q q6
  replace gi := gi.q q6
  have z6 := q6.size
  have fgh := gh.from
  have HGh := Lib.hid (show L0.length = n0 * 2 by simpa using gh.1)
  go_wp2_with fail
  refine (eqSignalS_same Gh Gs n0 dh ds L0 _ gh.rd gs.rd HGh.out (by omega)).mono ?_
  rintro e w7 ⟨rfl, q7⟩
  replace Q0 := Q0.trans q7
  replace gs := gs.q q7
  replace gi := gi.q q7
  replace gh := gh.q q7
  have z7 := q7.size
  go_wp2_with fail
  refine (heldSignalS_any Gi n0 di 1 _ gi.rd (by omega) (by omega)).mono ?_
  rintro e w8 ⟨rfl, q8⟩
  replace Q0 := Q0.trans q8
  replace gs := gs.q q8
  replace gi := gi.q q8
  replace gh := gh.q q8
  have z8 := q8.size
  go_wp2_with fail
  go_ret
  exact ⟨rfl, Q0⟩
set_option maxHeartbeats 1000000 in
theorem law_FnExactReadSignals (s : ByteArray) (hs : s.size ≤ maxLen) (w : World) (hE : Env w) :
    Calls Tryd.prog 7 #[.string s] w fun e w' => e = .returned (.bool true) ∧ Below w.heap.size w w' := by
  unfold maxLen at hs
  by_cases hb : (s.size : Int) ≤ 1048576
  · exact law_RdSg s hb w hE
  · go_enter Tryd.func7, Tryd.ntmps7
    go_wp2_with fail
    go_ret
    exact ⟨rfl, Q.refl _⟩
end Go.Proofs.YtgdjgjkijcmkfaaDoor
