/- Walks: the heading of a track at a time, as the program tells it. No condition. -/
import Derived.Test.YtkpdoikjfibflaaGreatDoorNrJ
import Derived.Deep.CutBlock
namespace Go.Proofs.YtkpdoikjfibflaaGreatDoor
open Go.RowKit Go.WideShapes Go.ChangeShapes
set_option maxRecDepth 100000 in
set_option maxHeartbeats 2000000 in
theorem impl_HeadingAt (A : Option Addr) (n c : Nat) (xs : List Int) (t : Int) (w : World) (ha : Rd w A xs) (hn : xs.length = n * 3) (hT : isTrk xs n = true) :
    Calls Tryz.prog 68 #[.agg #[.slice A n c], .int .i64 t] w fun e w' => e = .returned (.tuple #[.agg #[.int .i64 (if hdC xs n t = 0 then hdX xs n t else 0), .int .i64 (if hdC xs n t = 0 then hdY xs n t else 0)], .int .i64 (hdC xs n t)]) ∧ Q w w' := by
  have B1 : Blk ((w.alloc (.cells #[.slice A n c] 37)).alloc (.cells #[.int .i64 0, .int .i64 0] 78)) w.heap.size 37 #[.slice A n c] := (Blk.new _ _ _).alloc _
  have B2 : Blk ((w.alloc (.cells #[.slice A n c] 37)).alloc (.cells #[.int .i64 0, .int .i64 0] 78)) (w.heap.size + 1) 78 #[.int .i64 0, .int .i64 0] := by simpa using Blk.new (w.alloc (.cells #[.slice A n c] 37)) 78 #[.int .i64 0, .int .i64 0]
  have Q0 : Q w ((w.alloc (.cells #[.slice A n c] 37)).alloc (.cells #[.int .i64 0, .int .i64 0] 78)) := by (repeat (first | assumption | exact Q.refl _ | refine Q.alloc ?_ _ | refine Q.drewN ?_ _ | refine Q.drew ?_))
  have k1 := fun wv (h : Rd wv A xs) => impl_trackCode A n c xs t wv h hn hT
  unfold tmC at k1
  cases hl : lastsB xs n t with
  | false =>
    rw [hl] at k1
    have K1 := Lib.hid k1
    rw [hdC_2 hT hl, if_neg (by decide), if_neg (by decide)]
    clear k1 hl hT hn
    go_enter Tryz.func68, Tryz.ntmps68
    go_wp2_with fail
    refine (K1.out _ (ha.q Q0)).mono ?_
    rintro e1 w1 ⟨rfl, q1⟩
    have c2 := (B2.q q1).cell
    have f2 := (B2.q q1).frozen
    have l2 := (B2.q q1).lt
    go_wp2_with fail
    have F := (((B2.q q1).set_ 0 (.int .i64 0)).set_ 1 (.int .i64 0)).cell
    exact bodyPost_ret (v := .tuple #[.agg #[.int .i64 0, .int .i64 0], .int .i64 2]) (by simp [results, Tryz.results68, go_sem, F]) rfl ⟨rfl, (((Q0.trans q1).setCell (by simp) _).setCell (by simp) _)⟩
  | true =>
    rw [hl] at k1
    have hk := (leg_facts hT hl).1
    have k2 := fun wv (h : Rd wv A xs) => impl_wayOf A n c xs (legS xs t (n - 1)) wv h hn hT hk
    have k3 := fun wv (h : Rd wv A xs) => impl_legAt A n c xs t wv h hn hT
    have eX : el xs ((legS xs t (n - 1) + 1) * 3 + 1) - el xs (legS xs t (n - 1) * 3 + 1) = hdX xs n t := rfl
    have eY : el xs ((legS xs t (n - 1) + 1) * 3 + 2) - el xs (legS xs t (n - 1) * 3 + 2) = hdY xs n t := rfl
    rw [eX, eY] at k2
    have h5 := @hdC_5 xs n t hT hl
    have h0 := @hdC_0 xs n t hT hl
    generalize hdX xs n t = X at *
    generalize hdY xs n t = Y at *
    generalize hdC xs n t = C at *
    generalize legS xs t (n - 1) = k at *
    have K1 := Lib.hid k1
    have KW := Lib.hid k2
    have KL := Lib.hid k3
    clear k1 k2 k3 hl hT hn hk eX eY
    obtain ⟨RX, hRX⟩ : ∃ q, q = if C = 0 then X else 0 := ⟨_, rfl⟩
    obtain ⟨RY, hRY⟩ : ∃ q, q = if C = 0 then Y else 0 := ⟨_, rfl⟩
    rw [← hRX, ← hRY]
    have HC : Hid ((X = 0 ∧ Y = 0 ∧ C = 5 ∧ RX = 0 ∧ RY = 0) ∨ (¬ (X = 0 ∧ Y = 0) ∧ C = 0 ∧ RX = X ∧ RY = Y)) := Lib.hid (by
      by_cases h : X = 0 ∧ Y = 0
      · have := h5 h
        rw [this, if_neg (by decide)] at hRX hRY
        exact .inl ⟨h.1, h.2, this, hRX, hRY⟩
      · have := h0 h
        rw [this, if_pos rfl] at hRX hRY
        exact .inr ⟨h, this, hRX, hRY⟩)
    clear hRX hRY
    clear h5 h0
    go_enter Tryz.func68, Tryz.ntmps68
    go_wp2_with fail
    refine (K1.out _ (ha.q Q0)).mono ?_
    rintro e1 w1 ⟨rfl, q1⟩
    go_upto_region 4 with (fail)
    replace B1 := B1.q q1
    replace B2 := B2.q q1
    replace Q0 := Q0.trans q1
    have hx := ha.q Q0
    have c1 := B1.cell
    have l1 := B1.lt
    have l2 := B2.lt
    clear q1 K1
    go_cut [7] from 15 (fun v wc => ∃ b7, v = .pointer (some ⟨b7, 0, none⟩) ∧ w.heap.size + 1 < b7 ∧ Blk wc b7 78 #[.int .i64 X, .int .i64 Y] ∧ Blk wc (w.heap.size + 1) 78 #[.int .i64 0, .int .i64 0] ∧ Q w wc)
    case first =>
      go_region_with (first | (go_at_call 103; refine (KW.out _ (hx2.q (by (repeat (first | assumption | exact Q.refl _ | refine Q.alloc ?_ _ | refine Q.drewN ?_ _ | refine Q.drew ?_))))).mono ?_; rintro e3 w3 ⟨rfl, q3⟩; (first | (have BX := BX.q (Q.trans (by ((repeat (first | assumption | exact Q.refl _ | refine Q.alloc ?_ _ | refine Q.drewN ?_ _ | refine Q.drew ?_)); done)) q3)) | (have BX : Blk w3 w2.heap.size 78 #[.int .i64 0, .int .i64 0] := ((Blk.new w2 78 #[.int .i64 0, .int .i64 0]).drew).q q3) | (have BX : Blk w3 w2.heap.size 78 #[.int .i64 0, .int .i64 0] := (Blk.new w2 78 #[.int .i64 0, .int .i64 0]).q q3) | skip); (first | (have cX := BX.cell; have fX := BX.frozen; have lX := BX.lt) | skip); have B2b := B2a.q (Q.trans (by (repeat (first | assumption | exact Q.refl _ | refine Q.alloc ?_ _ | refine Q.drewN ?_ _ | refine Q.drew ?_))) q3); have Q3 := Q2.trans (Q.trans (by (repeat (first | assumption | exact Q.refl _ | refine Q.alloc ?_ _ | refine Q.drewN ?_ _ | refine Q.drew ?_))) q3); have l3 := B2b.lt) | (go_at_call 104; refine (KL.out _ (hx.q (by (repeat (first | assumption | exact Q.refl _ | refine Q.alloc ?_ _ | refine Q.drewN ?_ _ | refine Q.drew ?_))))).mono ?_; rintro e2 w2 ⟨rfl, q2⟩; have Q2 := Q0.trans (Q.trans (by (repeat (first | assumption | exact Q.refl _ | refine Q.alloc ?_ _ | refine Q.drewN ?_ _ | refine Q.drew ?_))) q2); have hx2 := hx.q (Q.trans (by (repeat (first | assumption | exact Q.refl _ | refine Q.alloc ?_ _ | refine Q.drewN ?_ _ | refine Q.drew ?_))) q2); have B2a := B2.q (Q.trans (by (repeat (first | assumption | exact Q.refl _ | refine Q.alloc ?_ _ | refine Q.drewN ?_ _ | refine Q.drew ?_))) q2); have B1a := B1.q (Q.trans (by (repeat (first | assumption | exact Q.refl _ | refine Q.alloc ?_ _ | refine Q.drewN ?_ _ | refine Q.drew ?_))) q2); have c1a := B1a.cell; have l1a := B1a.lt; have l2a := B2a.lt; (first | (have BX : Blk w2 w1.heap.size 78 #[.int .i64 0, .int .i64 0] := ((Blk.new w1 78 #[.int .i64 0, .int .i64 0]).drew).q q2) | (have BX : Blk w2 w1.heap.size 78 #[.int .i64 0, .int .i64 0] := (Blk.new w1.drew 78 #[.int .i64 0, .int .i64 0]).q q2) | skip)))
      all_goals go_wp2_with fail
      all_goals go_meet
      all_goals first
        | exact ⟨_, rfl, l3, Blk.new _ _ _, B2b.alloc _, Q3.alloc _⟩
        | (with_reducible exact ⟨_, rfl, by omega, by simpa using (BX.set_ 0 (.int .i64 X)).set_ 1 (.int .i64 Y), (B2b.far (p := ⟨_, 0, none⟩) (by simp only; omega) _).far (p := ⟨_, 1, none⟩) (by simp only; omega) _, (Q3.setCell (by simp only; omega) _).setCell (by simp only; omega) _⟩)
    case rest =>
      clear B1 B2 Q0 c1 l1 l2 hx
      obtain ⟨b7, rfl, hb7, B7, B2, Q7⟩ := hcut
      have c7 := B7.cell
      have l7 := B7.lt
      have c2 := B2.cell
      have f2 := B2.frozen
      have l2 := B2.lt
      rcases HC.out with ⟨rfl, rfl, rfl, rfl, rfl⟩ | ⟨hne, rfl, rfl, rfl⟩
      · go_wp2_with fail
        have F := ((B2.set_ 0 (.int .i64 0)).set_ 1 (.int .i64 0)).cell
        exact bodyPost_ret (v := .tuple #[.agg #[.int .i64 0, .int .i64 0], .int .i64 5]) (by simp [results, Tryz.results68, go_sem, F]) rfl ⟨rfl, (Q7.setCell (by simp) _).setCell (by simp) _⟩
      · have F := ((B2.set_ 0 (.int .i64 RX)).set_ 1 (.int .i64 RY)).cell
        by_cases hx : RX = 0
        · have hy : (RY == 0) = false := by simpa using fun e => hne ⟨hx, e⟩
          subst hx
          go_wp2_with fail
          exact bodyPost_ret (v := .tuple #[.agg #[.int .i64 0, .int .i64 RY], .int .i64 0]) (by simp [results, Tryz.results68, go_sem, F]) rfl ⟨rfl, (Q7.setCell (by simp) _).setCell (by simp) _⟩
        · have hxb : (RX == 0) = false := by simpa using hx
          go_wp2_with fail
          exact bodyPost_ret (v := .tuple #[.agg #[.int .i64 RX, .int .i64 RY], .int .i64 0]) (by simp [results, Tryz.results68, go_sem, F]) rfl ⟨rfl, (Q7.setCell (by simp) _).setCell (by simp) _⟩
end Go.Proofs.YtkpdoikjfibflaaGreatDoor
