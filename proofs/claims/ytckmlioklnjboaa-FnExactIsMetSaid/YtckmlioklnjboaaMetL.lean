/- Walks: the law that the program's IsMet returns what the reference's returns; how a demand is copied, measured and compared. No condition. -/
import Derived.Test.YtckmlioklnjboaaMetM
import Derived.Test.YtckmlioklnjboaaTrk
import Derived.Deep.RegionHeld3
namespace Go.Proofs.Ytckmlioklnjboaa
open Go.RowKit Go.WideShapes Go.ChangeShapes Go.Deep
theorem szInt64S_any (A : Option Addr) (n c : Nat) (l : Int) (w : World) (h0 : 0 ≤ l) (h1 : l ≤ 1048576) (hn : n ≤ 9223372036854775807) : Calls Try.prog 50 #[.slice A n c, .int .i64 l] w fun r w' => r = .returned (.int .i64 (if (n : Int) ≤ l then l - n else -1)) ∧ w = w' := by
  by_cases h : (n : Int) ≤ l
  · rw [if_pos h]
    go_enter Try.func50, Try.ntmps50
    go_wp2
    go_ret
    exact ⟨rfl, rfl⟩
  · rw [if_neg h]
    go_enter Try.func50, Try.ntmps50
    go_wp2
    go_ret
    exact ⟨rfl, rfl⟩
theorem szDemand_any (A : Option Addr) (n c : Nat) (o l : Int) (w : World) (h0 : 0 ≤ l) (h1 : l ≤ 1048576) (hn : n ≤ 9223372036854775807) : Calls Try.prog 25 #[.agg #[.slice A n c, .int .i64 o], .int .i64 l] w fun r w' => r = .returned (.int .i64 (if (n : Int) ≤ l then l - n else -1)) ∧ Q w w' := by
  by_cases h : (n : Int) ≤ l
  · have k0 := szInt64S_any A n c l
    rw [if_pos h] at k0 ⊢
    go_enter Try.func25, Try.ntmps25
    go_wp2_with (go_at_call 50; refine (k0 _ h0 h1 hn).mono ?_; rintro e w' ⟨rfl, rfl⟩)
    go_ret
    exact ⟨rfl, by (repeat (first | assumption | exact Q.refl _ | refine Q.alloc ?_ _ | refine Q.drewN ?_ _ | refine Q.drew ?_))⟩
  · have k0 := szInt64S_any A n c l
    rw [if_neg h] at k0 ⊢
    go_enter Try.func25, Try.ntmps25
    go_wp2_with (go_at_call 50; refine (k0 _ h0 h1 hn).mono ?_; rintro e w' ⟨rfl, rfl⟩)
    go_ret
    exact ⟨rfl, by (repeat (first | assumption | exact Q.refl _ | refine Q.alloc ?_ _ | refine Q.drewN ?_ _ | refine Q.drew ?_))⟩
theorem toDemand_any (A : Option Addr) (n c : Nat) (xs : List Int) (o : Int) (w : World) (ha : Rd w A xs) (hn : xs.length = n) (hn2 : n ≤ 1048576) :
    Calls Try.prog 28 #[.agg #[.slice A n c, .int .i64 o]] w fun e w' => ∃ A' c', e = .returned (.agg #[.slice A' n c', .int .i64 o]) ∧ Own w' w.heap.size 2 1 (.slice A' n c') n xs ∧ Q w w' := by
  have hh : ∀ w1, Q (((w.alloc (.cells #[.slice A n c, .int .i64 o] 70)).alloc (.cells #[.slice none 0 0, .int .i64 0] 74)).alloc (.cells #[.slice none 0 0, .int .i64 0] 74)) w1 →
      Blk w1 w.heap.size 70 #[.slice A n c, .int .i64 o] ∧ Blk w1 (w.heap.size + 1) 74 #[.slice none 0 0, .int .i64 0] ∧ Blk w1 (w.heap.size + 2) 74 #[.slice none 0 0, .int .i64 0] := fun w1 q => ⟨q.boxB3, by simpa using q.boxB2, by simpa using q.boxB⟩
  go_enter Try.func28, Try.ntmps28
  go_wp2_with (go_at_call 27; refine (toInt64S_any A n c xs _ (ha.q (by (repeat (first | assumption | exact Q.refl _ | refine Q.alloc ?_ _ | refine Q.drewN ?_ _ | refine Q.drew ?_)))) hn hn2).mono ?_; rintro e w1 ⟨A1, c1, rfl, o1, q1⟩; have c2 := (hh _ q1).2.2.cell; have f2 := (hh _ q1).2.2.frozen; have c3 := (hh _ q1).2.1.cell; have f3 := (hh _ q1).2.1.frozen; have c1' := (hh _ q1).1.cell)
  have f1 := o1.from
  have hz : (((w.alloc (.cells #[.slice A n c, .int .i64 o] 70)).alloc (.cells #[.slice none 0 0, .int .i64 0] 74)).alloc (.cells #[.slice none 0 0, .int .i64 0] 74)).heap.size = w.heap.size + 3 := by simp
  rw [hz] at f1 o1
  have R := ((((hh _ q1).2.1.far (p := ⟨w.heap.size + 1 + 1, 0, none⟩) (by simp) (.slice A1 n c1)).far (p := ⟨w.heap.size + 1 + 1, 1, none⟩) (by simp) (.int .i64 o)).set_ 0 (.slice A1 n c1)).set_ 1 (.int .i64 o)
  have F := R.cell
  refine bodyPost_ret (v := .agg #[.slice A1 n c1, .int .i64 o]) (by simp [results, Try.results28, go_sem, F]) rfl ⟨A1, c1, rfl, ?_, ?_⟩
  · exact ((((o1.setFar (fun a h => by have := f1 a h; omega) 0 _).setFar (fun a h => by have := f1 a h; omega) 1 _).setFar (fun a h => by have := f1 a h; omega) 0 _).setFar (fun a h => by have := f1 a h; omega) 1 _).mono (by omega)
  · exact (((Q.setCell (Q.trans (by (repeat (first | assumption | exact Q.refl _ | refine Q.alloc ?_ _ | refine Q.drewN ?_ _ | refine Q.drew ?_))) q1) (p := ⟨w.heap.size + 1 + 1, 0, none⟩) (by simp only; omega) _).setCell (p := ⟨w.heap.size + 1 + 1, 1, none⟩) (by simp only; omega) _).setCell (p := ⟨w.heap.size + 1, 0, none⟩) (by simp only; omega) _).setCell (p := ⟨w.heap.size + 1, 1, none⟩) (by simp only; omega) _
theorem eqDemand_same (A B : Option Addr) (n c d : Nat) (xs : List Int) (o : Int) (w : World) (ha : Rd w A xs) (hb : Rd w B xs) (hn : xs.length = n) (hn2 : n ≤ 9223372036854775807) :
    Calls Try.prog 31 #[.agg #[.slice A n c, .int .i64 o], .agg #[.slice B n d, .int .i64 o]] w fun e w' => e = .returned (.bool true) ∧ Q w w' := by
  have Q2 : Q w ((w.alloc (.cells #[.slice A n c, .int .i64 o] 74)).alloc (.cells #[.slice B n d, .int .i64 o] 74)) := by (repeat (first | assumption | exact Q.refl _ | refine Q.alloc ?_ _ | refine Q.drewN ?_ _ | refine Q.drew ?_))
  have hh : ∀ w1, Q ((w.alloc (.cells #[.slice A n c, .int .i64 o] 74)).alloc (.cells #[.slice B n d, .int .i64 o] 74)) w1 → Blk w1 (w.heap.size + 1) 74 #[.slice B n d, .int .i64 o] := fun w1 q => by simpa using q.boxB
  go_enter Try.func31, Try.ntmps31
  go_wp2_with (go_at_call 30; refine (eqInt64S_same A B n c d xs _ (ha.q Q2) (hb.q Q2) hn hn2).mono ?_; rintro e w1 ⟨rfl, q1⟩; have b1 := (hh _ q1).cell; have b2 := q1.boxB2.cell)
  go_ret
  exact ⟨rfl, Q2.trans q1⟩
set_option maxRecDepth 100000 in
theorem open_demand {H : Type} {enc : TypeId × Value → H} {w : World} {base : Nat} {spare : Nat → Bool} {held : Bool} {r : Reach} {b0 : Nat} {v : Value} {d : DataW H} {p : List MemPlace}
    (hv : Value.okWide Try.prog w r b0 70 v) (h : DataW.Trod enc Try.prog w base spare held 70 v d p) :
    ∃ A len cap xs o, v = .agg #[.slice A len cap, .int .i64 o] ∧ xs.length = len ∧ Rd w A xs ∧ len ≤ cap ∧ cap ≤ maxLen := by
  obtain ⟨cs, rfl, hsz⟩ := okWide_struct Try.underlying70 hv
  obtain ⟨l⟩ := cs
  have h1 : l.length = 2 := hsz.trans (by kernel_rfl)
  match l, h1 with
  | [c0, c1], _ =>
    obtain ⟨fuel, hf⟩ := h
    obtain ⟨xs, n, _, hx, _, hlen, hg⟩ := DataW.trod_struct Try.underlying70 hf
    have h0 := hg 0 _ rfl
    have h1 := hg 1 _ rfl
    cases hx0 : xs[0]? with
    | none => simp at hx0; simp [hx0] at hlen
    | some y =>
      cases hx1 : xs[1]? with
      | none =>
        have h2 : xs.length = 2 := by simpa using hlen
        rw [List.getElem?_eq_getElem (by omega)] at hx1; cases hx1
      | some z =>
        rw [hx0] at h0
        rw [hx1] at h1
        obtain ⟨A, len, cap, ys, hc, hl, hR, _, hcc⟩ := open_rows0 Try.underlying63 (FlatE.int Try.underlying2) (by kernel_rfl) (by decide) h0
        obtain ⟨o, ho, _⟩ := DataW.trod_int Try.underlying2 h1
        have h24 : Try.prog.cellsOf 63 = 1 := by kernel_rfl
        have h25 : Try.prog.cellsOf 2 = 1 := by kernel_rfl
        have hc' : c0 = .slice A len cap := by simpa [Value.cells, h24] using hc
        have ho' : c1 = .int .i64 o := by simpa [Value.cells, h25] using ho
        subst hc' ho'
        exact ⟨A, len, cap, ys, o, rfl, by rw [hl, Nat.mul_one], hR, hcc⟩
set_option maxRecDepth 100000 in
set_option maxHeartbeats 4000000 in
theorem law_FnExactIsMet (a0A : Option Addr) (a0n a0c : Nat) (a0xs : List Int) (ha0l : a0xs.length = a0n * 1) (_ha0b : ∀ y ∈ a0xs, -9223372036854775808 ≤ y ∧ y ≤ 9223372036854775807) (ha0c : a0n ≤ a0c ∧ a0c ≤ maxLen)
    (a1A : Option Addr) (a1n a1c : Nat) (a1xs : List Int) (a1o : Int) (ha1l : a1xs.length = a1n) (ha1c : a1n ≤ a1c ∧ a1c ≤ maxLen) (w : World) (ha0 : Rd w a0A a0xs) (ha1 : Rd w a1A a1xs) :
    Calls Try.prog 6 #[.slice a0A a0n a0c, .agg #[.slice a1A a1n a1c, .int .i64 a1o]] w fun e w' => e = .returned (.bool true) ∧ Below w.heap.size w w' := by
  have hn0 : a0n ≤ 9223372036854775807 := by have := ha0c; unfold maxLen at this; omega
  have hn1 : a1n ≤ 9223372036854775807 := by have := ha1c; unfold maxLen at this; omega
  have HL0 : Hid (a0xs.length = a0n) := Lib.hid (by rw [ha0l, Nat.mul_one])
  have HL1 := Lib.hid ha1l
  clear ha0c ha1c ha0l ha1l _ha0b
  have Q0 : Q w (w.alloc (.cells #[.slice a1A a1n a1c, .int .i64 a1o] 70)) := by (repeat (first | assumption | exact Q.refl _ | refine Q.alloc ?_ _ | refine Q.drewN ?_ _ | refine Q.drew ?_))
  have B := Blk.new w 70 #[.slice a1A a1n a1c, .int .i64 a1o]
  by_cases h0 : 1048576 < a0n
  · have hI : (1048576 : Int) < (a0n : Int) := by omega
    go_enter Try.func6, Try.ntmps6
    go_wp2_with fail
    go_ret
    exact ⟨rfl, Q0⟩
  · have hI : ¬ (1048576 : Int) < (a0n : Int) := by omega
    by_cases h1 : 1048576 < a1n
    · go_enter Try.func6, Try.ntmps6
      go_wp2_with fail
      refine (szDemand_any a1A a1n a1c a1o 1048576 _ (by omega) (by omega) hn1).mono ?_
      rintro e wz ⟨rfl, qz⟩
      rw [if_neg (by omega)]
      go_wp2_with fail
      go_ret
      exact ⟨rfl, Q0.trans qz⟩
    · have k0 := fun (A : Option Addr) (c : Nat) (A2 : Option Addr) (c2 : Nat) => spec_IsMet A a0n c a0xs A2 a1n c2 a1xs a1o
      have k1 := fun (A : Option Addr) (c : Nat) (A2 : Option Addr) (c2 : Nat) => impl_IsMet A a0n c a0xs A2 a1n c2 a1xs a1o
      obtain ⟨r0, hr0⟩ : ∃ r, r = metB a0xs a0n a1xs a1n a1o := ⟨_, rfl⟩
      rw [← hr0] at k0 k1
      have K0 := Lib.hid k0
      have K1 := Lib.hid k1
      clear k0 k1 hr0
      have I0 := ha0.q Q0
      have I1 := ha1.q Q0
      go_enter Try.func6, Try.ntmps6
      go_wp2_with fail
      refine (szDemand_any a1A a1n a1c a1o 1048576 _ (by omega) (by omega) hn1).mono ?_
      rintro e wz ⟨rfl, qz⟩
      rw [if_pos (by omega)]
      replace Q0 := Q0.trans qz
      replace I0 := I0.q qz
      replace I1 := I1.q qz
      replace B := B.q qz
      have cB := B.cell
      have lB := B.lt
      go_wp2_with fail
      clear cB lB
      have hS1 : ∀ w', Q wz w' → (Q wz w' ∧ w'.cell? ⟨w.heap.size, 0, none⟩ = some (.slice a1A a1n a1c) ∧ w'.cell? ⟨w.heap.size, 1, none⟩ = some (.int .i64 a1o)) := fun w' q => ⟨q, (B.q q).cell 0, (B.q q).cell 1⟩
      go_region_held3 (fun w' => Q wz w' ∧ w'.cell? ⟨w.heap.size, 0, none⟩ = some (.slice a1A a1n a1c) ∧ w'.cell? ⟨w.heap.size, 1, none⟩ = some (.int .i64 a1o)) (first | exact hS1 _ (by first | assumption | exact QR | exact (Q.refl _).drew) | (go_split_ands; exact hS1 _ (by first | assumption | exact QR | exact (Q.refl _).drew))) (first | (go_at_call 27; refine (toInt64S_any a0A a0n a0c a0xs _ (I0.q (by first | assumption | exact (Q.refl _).drew)) HL0.out (by omega)).mono ?_; rintro e wr0 ⟨A0s, c0s, rfl, o0s, qr0⟩; have QR : Q wz _ := Q.trans (by first | assumption | exact (Q.refl _).drew) qr0) | (go_at_call 28; refine (toDemand_any a1A a1n a1c a1xs a1o _ (I1.q (by first | assumption | exact (Q.refl _).drew)) HL1.out (by omega)).mono ?_; rintro e wr1 ⟨A1s, c1s, rfl, o1s, qr1⟩; have QR : Q wz _ := Q.trans (by first | assumption | exact (Q.refl _).drew) qr1) | (go_at_call 26; refine (K0.out A0s c0s A1s c1s _ (o0s.q (by first | exact Q.refl _ | assumption)).rd HL0.out hn0 (o1s.q (by first | exact Q.refl _ | assumption)).rd HL1.out hn1).mono ?_; rintro e w2 ⟨rfl, qf⟩; have QR : Q wz _ := Q.trans (by first | assumption | exact (Q.refl _).drew) qf))
      replace Q0 := Q0.trans QR
      replace I0 := I0.q QR
      replace I1 := I1.q QR
      replace B := B.q QR
      clear QR hS1
      have cB := B.cell
      have lB := B.lt
      go_wp2_with fail
      clear cB lB
      refine (toInt64S_any a0A a0n a0c a0xs _ I0 HL0.out (by omega)).mono ?_
      rintro e w3 ⟨A0i, c0i, rfl, o0i, q3⟩
      replace Q0 := Q0.trans q3
      replace I0 := I0.q q3
      replace I1 := I1.q q3
      replace B := B.q q3
      have cB := B.cell
      have lB := B.lt
      go_wp2_with fail
      clear cB lB
      refine (toDemand_any a1A a1n a1c a1xs a1o _ I1 HL1.out (by omega)).mono ?_
      rintro e w4 ⟨A1i, c1i, rfl, o1i, q4⟩
      replace Q0 := Q0.trans q4
      replace I0 := I0.q q4
      replace I1 := I1.q q4
      replace B := B.q q4
      replace o0i := o0i.q q4
      have cB := B.cell
      have lB := B.lt
      go_wp2_with fail
      clear cB lB
      have BX := Blk.new w4 74 #[.slice A1i a1n c1i, .int .i64 a1o]
      have qa : Q w4 (w4.alloc (.cells #[.slice A1i a1n c1i, .int .i64 a1o] 74)) := (Q.refl _).alloc _
      replace Q0 := Q0.trans qa
      replace I0 := I0.q qa
      replace I1 := I1.q qa
      replace B := B.q qa
      replace o0i := o0i.q qa
      have hcap := o1i.cap
      replace o1i := o1i.q qa
      clear qa
      refine (K1.out _ _ _ _ _ o0i.rd HL0.out hn0 o1i.rd HL1.out hcap hn1).mono ?_
      rintro e w5 ⟨rfl, q5⟩
      replace Q0 := Q0.trans q5
      replace I0 := I0.q q5
      replace I1 := I1.q q5
      replace B := B.q q5
      replace BX := BX.q q5
      replace o0i := o0i.q q5
      replace o1i := o1i.q q5
      go_wp2_with fail
      refine (toInt64S_any a0A a0n a0c a0xs _ I0 HL0.out (by omega)).mono ?_
      rintro e w6 ⟨A0e, c0e, rfl, o0e, q6⟩
      replace Q0 := Q0.trans q6
      replace I0 := I0.q q6
      replace I1 := I1.q q6
      replace B := B.q q6
      replace BX := BX.q q6
      replace o0i := o0i.q q6
      replace o1i := o1i.q q6
      go_wp2_with fail
      refine (eqInt64S_same _ _ _ _ _ _ _ o0i.rd o0e.rd HL0.out (by omega)).mono ?_
      rintro e w7 ⟨rfl, q7⟩
      replace Q0 := Q0.trans q7
      replace I1 := I1.q q7
      replace B := B.q q7
      replace BX := BX.q q7
      replace o1i := o1i.q q7
      have cB := B.cell
      have lB := B.lt
      have cX := BX.cell
      have lX := BX.lt
      go_wp2_with fail
      clear cB lB cX lX
      generalize w4.heap.size = gx at *
      have hS2 : ∀ w', Q w7 w' → (Q w7 w' ∧ w'.cell? ⟨w.heap.size, 0, none⟩ = some (.slice a1A a1n a1c) ∧ w'.cell? ⟨w.heap.size, 1, none⟩ = some (.int .i64 a1o) ∧ w'.cell? ⟨gx, 0, none⟩ = some (.slice A1i a1n c1i) ∧ w'.cell? ⟨gx, 1, none⟩ = some (.int .i64 a1o)) := fun w' q => ⟨q, (B.q q).cell 0, (B.q q).cell 1, (BX.q q).cell 0, (BX.q q).cell 1⟩
      go_region_held3 (fun w' => Q w7 w' ∧ w'.cell? ⟨w.heap.size, 0, none⟩ = some (.slice a1A a1n a1c) ∧ w'.cell? ⟨w.heap.size, 1, none⟩ = some (.int .i64 a1o) ∧ w'.cell? ⟨gx, 0, none⟩ = some (.slice A1i a1n c1i) ∧ w'.cell? ⟨gx, 1, none⟩ = some (.int .i64 a1o)) (first | exact hS2 _ (by first | assumption | exact QR | exact (Q.refl _).drew) | (go_split_ands; exact hS2 _ (by first | assumption | exact QR | exact (Q.refl _).drew))) (first | (go_at_call 28; refine (toDemand_any a1A a1n a1c a1xs a1o _ (I1.q (by first | assumption | exact (Q.refl _).drew)) HL1.out (by omega)).mono ?_; rintro e wr1 ⟨A1e, c1e, rfl, o1e, qr1⟩; have QR : Q w7 _ := Q.trans (by first | assumption | exact (Q.refl _).drew) qr1) | (go_at_call 31; refine (eqDemand_same _ _ _ _ _ a1xs _ _ (o1i.q (by first | assumption | exact (Q.refl _).drew)).rd (o1e.q (by first | exact Q.refl _ | assumption)).rd HL1.out hn1).mono ?_; rintro e w8 ⟨rfl, qf⟩; have QR : Q w7 _ := Q.trans (by first | assumption | exact (Q.refl _).drew) qf))
      go_wp2_with fail
      go_ret
      exact ⟨rfl, Q0.trans QR⟩
end Go.Proofs.Ytckmlioklnjboaa
