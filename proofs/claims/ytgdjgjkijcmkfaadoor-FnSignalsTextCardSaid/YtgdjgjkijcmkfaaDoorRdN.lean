/- Walks: numbers, times and words, as the program reads them. Condition: what the library's variables hold (Env). -/
import Derived.Test.YtgdjgjkijcmkfaaDoorRdF
import Derived.Lib.ParseIntBTie
namespace Go.Proofs.YtgdjgjkijcmkfaaDoor
open Go.RowKit Go.WideShapes Go.ChangeShapes
/-- A variable that holds an error or nil. -/
def Ev (w : World) (g : Nat) : Prop := ∃ ev, w.cell? ⟨g, 0, none⟩ = some ev ∧ (ev = .nilIface ∨ ∃ te pe, ev = .iface te pe)
theorem Ev.q {w w' : World} {g : Nat} (h : Ev w g) (hq : Q w w') : Ev w' g := by
  obtain ⟨ev, h1, h2⟩ := h
  exact ⟨ev, hq.cell h1, h2⟩
/-- What the library's variables hold. -/
structure Env (w : World) : Prop where
  tbl : Tbl w
  mx : ∃ m, w.cell? ⟨0, 0, none⟩ = some (.int .i64 m)
  es : Ev w 2
  er : Ev w 3
theorem Env.q {w w' : World} (h : Env w) (hq : Q w w') : Env w' := by
  obtain ⟨m, hm⟩ := h.mx
  exact ⟨h.tbl.q hq, ⟨m, hq.cell hm⟩, h.es.q hq, h.er.q hq⟩
theorem q_of_bytes {w w' : World} {t : TypeId} (h : w' = w ∨ ∃ k, w' = Lib.bytesWorld w t k) : Q w w' := by
  rcases h with rfl | ⟨k, rfl⟩
  · exact Q.refl _
  · exact Lib.bytesWorld_below _ _ _
/-- What a library's reading of a number returns: a number and an error or none. -/
def Got (R : Lib.NumEnd Int) (x : Int) (E : Value) : Prop := (-9223372036854775808 ≤ x ∧ x ≤ 9223372036854775807) ∧ ((E = .nilIface ∧ R = .ok x) ∨ ((∃ T a, E = .iface T (.pointer (some a))) ∧ ∀ y, R ≠ .ok y))
theorem lib_ParseInt (s : ByteArray) (hs : s.size ≤ 1048576) (w : World) (hE : Env w) :
    Calls Tryd.prog 95 #[.string s, .int .i64 10, .int .i64 64] w fun e w' => ∃ x E, e = .returned (.tuple #[.int .i64 x, E]) ∧ Got (Lib.parseIntB 64 s.data.toList) x E ∧ Q w w' := by
  cases hp : Lib.parseIntB 64 s.data.toList with
  | ok x =>
    refine (Tryd.strconv_ParseInt_10_at64_ok s (by omega) x hp w).mono ?_
    rintro e w' ⟨rfl, h⟩
    have hb := Lib.parseIntB_bounds hp
    exact ⟨x, _, rfl, ⟨by omega, Or.inl ⟨rfl, rfl⟩⟩, q_of_bytes h⟩
  | «syntax» =>
    obtain ⟨ev, h1, h2⟩ := hE.es
    refine (Tryd.strconv_ParseInt_10_at64_syntax s (by omega) hp ev w h1 h2).mono ?_
    rintro e w' ⟨N, rfl, _, _, h⟩
    exact ⟨0, _, rfl, ⟨by omega, Or.inr ⟨⟨_, _, rfl⟩, fun y h => by cases h⟩⟩, h⟩
  | range =>
    obtain ⟨ev, h1, h2⟩ := hE.er
    refine (Tryd.strconv_ParseInt_10_at64_range s (by omega) hp ev w h1 h2).mono ?_
    rintro e w' ⟨N, rfl, _, _, h⟩
    have hb : -9223372036854775808 ≤ Lib.intSat 64 s.data.toList ∧ Lib.intSat 64 s.data.toList ≤ 9223372036854775807 := by
      unfold Lib.intSat
      split <;> decide
    exact ⟨_, _, rfl, ⟨hb, Or.inr ⟨⟨_, _, rfl⟩, fun y h => by cases h⟩⟩, h⟩
theorem lib_Atoi (s : ByteArray) (hs : s.size ≤ 1048576) (w : World) (hE : Env w) :
    Calls Tryd.prog 98 #[.string s] w fun e w' => ∃ x E, e = .returned (.tuple #[.int .i64 x, E]) ∧ Got (Lib.atoiAll s.data.toList) x E ∧ Q w w' := by
  cases hp : Lib.atoiAll s.data.toList with
  | ok x =>
    refine (Tryd.strconv_Atoi_ok s (by omega) x hp w).mono ?_
    rintro e w' ⟨rfl, h⟩
    exact ⟨x, _, rfl, ⟨Lib.atoiAll_bounds hp, Or.inl ⟨rfl, rfl⟩⟩, q_of_bytes h⟩
  | «syntax» =>
    obtain ⟨ev, h1, h2⟩ := hE.es
    refine (Tryd.strconv_Atoi_syntax s (by omega) hp ev w h1 h2).mono ?_
    rintro e w' ⟨N, rfl, _, _, h⟩
    exact ⟨0, _, rfl, ⟨by omega, Or.inr ⟨⟨_, _, rfl⟩, fun y h => by cases h⟩⟩, h⟩
  | range =>
    obtain ⟨ev, h1, h2⟩ := hE.er
    refine (Tryd.strconv_Atoi_range s (by omega) hp ev w h1 h2).mono ?_
    rintro e w' ⟨N, rfl, _, _, h⟩
    exact ⟨_, _, rfl, ⟨Lib.atoiSat_bounds _, Or.inr ⟨⟨_, _, rfl⟩, fun y h => by cases h⟩⟩, h⟩
set_option maxRecDepth 100000 in
set_option maxHeartbeats 1000000 in
theorem impl_number (s : ByteArray) (v : Int) (k : Bool) (h : NumR pI s v k) (hs : s.size ≤ 1048576) (w : World) (hE : Env w) :
    Calls Tryd.prog 73 #[.string s] w fun e w' => e = .returned (.tuple #[.int .i64 v, .bool k]) ∧ Q w w' := by
  have HB := Lib.hid (fun hb => num_bad h hb)
  have HO := Lib.hid (fun x hx hs he => num_ok (x := x) h hx hs he)
  clear h
  go_enter Tryd.func73, Tryd.ntmps73
  go_wp2_with fail
  refine (lib_ParseInt s hs _ hE).mono ?_
  rintro e w1 ⟨x, E, rfl, ⟨hx, hG⟩, q1⟩
  rcases hG with ⟨rfl, hp⟩ | ⟨⟨T, a, rfl⟩, hp⟩
  · by_cases h19 : 19 < s.size
    · have h19' : (19 : Int) < (s.size : Int) := by omega
      obtain ⟨rfl, rfl⟩ := HB.out fun x _ _ hs _ => by omega
      go_wp2_with fail
      go_ret2
      exact ⟨rfl, q1⟩
    · have h19' : ¬ (19 : Int) < (s.size : Int) := by omega
      have HP := Lib.hid hp
      clear hp
      go_wp2_with fail
      refine (impl_text x hx.1 hx.2 _ (hE.tbl.q q1)).mono ?_
      rintro e w2 ⟨rfl, q2⟩
      by_cases he : bs (Lib.itoa x) = s
      · obtain ⟨rfl, rfl⟩ := HO.out x hx (by omega) he
        rw [he]
        go_wp2_with fail
        go_ret2
        exact ⟨rfl, q1.trans q2⟩
      · obtain ⟨rfl, rfl⟩ := HB.out fun y _ hy _ => by rw [HP.out] at hy; injection hy with hy; subst hy; exact he
        have he2 : ((bs (Lib.itoa x)).toList == s.toList) = false := by
          rw [beq_eq_false_iff_ne]
          intro hh
          exact he (bytes_eq (by simpa using hh))
        go_wp2_with fail
        go_ret2
        exact ⟨rfl, q1.trans q2⟩
  · obtain ⟨rfl, rfl⟩ := HB.out fun y _ hy _ => absurd hy (hp y)
    clear hp
    go_wp2_with fail
    go_ret2
    exact ⟨rfl, q1⟩
theorem impl_wordsOf (s : ByteArray) (hs : s.size ≤ 1048576) (w : World) (hE : Env w) :
    Calls Tryd.prog 71 #[.string s] w fun e w' => e = .returned (.slice (some ⟨w.heap.size, 0, none⟩) (pcs 32 s).length (pcs 32 s).length) ∧ w' = w.alloc (.cells ((pcs 32 s).map Value.string).toArray 9) := by
  obtain ⟨m, hm⟩ := hE.mx
  have K := Tryd.strings_Split s (bs [32]) m w (by omega) hm (by rw [bs_size]; exact Nat.le_refl _)
  rw [splitB_pcs, countB_pcs] at K
  go_enter Tryd.func71, Tryd.ntmps71
  go_wp2_with fail
  refine K.mono ?_
  rintro e w' ⟨rfl, rfl⟩
  go_wp2_with fail
  go_ret
  exact ⟨rfl, rfl⟩
end Go.Proofs.YtgdjgjkijcmkfaaDoor
