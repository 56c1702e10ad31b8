/- Walks: the exact time of a crossing, as the reference finds it. Walks: the list of the crossings of a line by a track, as the reference makes it. -/
import Derived.Test.YteofhfefbphjdaaGreatDoorCrs
import Derived.Deep.RegionWith
import Derived.Deep.RegionHeld3
namespace Go.Proofs.YteofhfefbphjdaaGreatDoor
open Go.RowKit Go.WideShapes Go.ChangeShapes
set_option maxHeartbeats 4000000 in
theorem spec_Exact (A : Option Addr) (n cc : Nat) (xs : List Int) (k dt N D : Nat) (z wy : Int) (w : World) (ha : Rd w A xs) (hn : xs.length = n * 3) (hk : k + 1 < n) (hn40 : n ≤ 40) (ht : (0 ≤ el xs (k * 3) ∧ el xs (k * 3) < el xs ((k + 1) * 3) ∧ el xs ((k + 1) * 3) ≤ 1000000000))
    (hdt : el xs ((k + 1) * 3) - el xs (k * 3) = (dt : Int)) (hND : N ≤ D) (hD0 : 0 < D) (hD : D ≤ 16000000000000) :
    Calls Tryz.prog 71 #[.agg #[.slice A n cc], .agg #[.int .i64 z, .int .i64 k, .int .i64 wy, .int .i64 N, .int .i64 D]] w fun e w' => e = .returned (.tuple #[.int .i64 (el xs (k * 3) + ((dt * N / D : Nat) : Int)), .agg #[.int .i64 ((dt * N % D : Nat) : Int), .int .i64 D]]) ∧ Q w w' := by
  obtain ⟨ht0, ht1, ht2⟩ := ht
  have k1 := fun wv => spec_Divide dt N D (by omega) hND hD0 (by omega) wv
  have hqb : dt * N / D ≤ 1000000000 := by
    refine Nat.le_trans (Nat.div_le_div_right (Nat.mul_le_mul_left _ hND)) ?_
    rw [Nat.mul_div_cancel _ hD0]
    omega
  obtain ⟨bl, o, rfl, g0, g1, g2⟩ := ha.at3 hn (show k < n by omega)
  obtain ⟨_, _, hA, j0, j1, j2⟩ := ha.at3 hn hk
  cases hA
  have hkI : (k : Int) < (n : Int) := by omega
  have hkJ : (k : Int) + 1 < (n : Int) := by omega
  generalize dt * N / D = qo at *
  generalize dt * N % D = rm at *
  generalize el xs (k * 3) = t0 at *
  generalize el xs (k * 3 + 1) = x0 at *
  generalize el xs (k * 3 + 2) = y0 at *
  generalize el xs ((k + 1) * 3) = t1 at *
  generalize el xs ((k + 1) * 3 + 1) = x1 at *
  generalize el xs ((k + 1) * 3 + 2) = y1 at *
  have K1 := Lib.hid k1
  clear k1 hn ha hND hD0
  have hkb : (k : Int) ≤ 40 := by omega
  obtain ⟨W, hW⟩ : ∃ W, W = ((w.alloc (.cells #[.slice (some ⟨bl, o, none⟩) n cc] 43)).alloc (.cells #[.int .i64 z, .int .i64 k, .int .i64 wy, .int .i64 N, .int .i64 D] 79)).alloc (.cells #[.int .i64 0, .int .i64 0] 77) := ⟨_, rfl⟩
  have B1 : Blk W w.heap.size 43 #[.slice (some ⟨bl, o, none⟩) n cc] := by rw [hW]; exact ((Blk.new _ _ _).alloc _).alloc _
  have B2 : Blk W (w.heap.size + 1) 79 #[.int .i64 z, .int .i64 k, .int .i64 wy, .int .i64 N, .int .i64 D] := by rw [hW]; exact Blk.alloc (by simpa using Blk.new (w.alloc (.cells #[.slice (some ⟨bl, o, none⟩) n cc] 43)) 79 #[.int .i64 z, .int .i64 k, .int .i64 wy, .int .i64 N, .int .i64 D]) _
  have B3 : Blk W (w.heap.size + 2) 77 #[.int .i64 0, .int .i64 0] := by rw [hW]; exact (by simpa using Blk.new ((w.alloc (.cells #[.slice (some ⟨bl, o, none⟩) n cc] 43)).alloc (.cells #[.int .i64 z, .int .i64 k, .int .i64 wy, .int .i64 N, .int .i64 D] 79)) 77 #[.int .i64 0, .int .i64 0])
  have Q0 : Q w W := by rw [hW]; exact (((Q.refl w).alloc _).alloc _).alloc _
  have HW := Lib.hid hW
  go_enter Tryz.func71, Tryz.ntmps71
  go_wp2_with fail
  rw [← HW.out]
  clear hW HW
  replace g0 := Q0.cell g0
  replace g1 := Q0.cell g1
  replace g2 := Q0.cell g2
  replace j0 := Q0.cell j0
  replace j1 := Q0.cell j1
  replace j2 := Q0.cell j2
  have lb := World.block_lt_of_cell? W _ j2
  have c1 := B1.cell
  have c2 := B2.cell
  have m1 := B1.lt
  have m2 := B2.lt
  go_cut [6, 7] from 6 (fun p q wc => ∃ b6 b7, p = .pointer (some ⟨b6, 0, none⟩) ∧ q = .pointer (some ⟨b7, 0, none⟩) ∧ Blk wc b6 98 #[.int .i64 t0, .int .i64 x0, .int .i64 y0] ∧ Blk wc b7 98 #[.int .i64 t1, .int .i64 x1, .int .i64 y1] ∧ Q W wc)
  case first =>
    go_region
    all_goals (go_wp2_with fail; go_meet)
    · refine ⟨_, _, rfl, rfl, ?_, ?_, by (repeat (first | assumption | exact Q.refl _ | refine Q.alloc ?_ _ | refine Q.drewN ?_ _ | refine Q.drew ?_))⟩
      · exact ((Blk.new W _ _).alloc _).drew
      · exact Blk.drew (by simpa using Blk.new (W.alloc _) 98 #[.int .i64 t1, .int .i64 x1, .int .i64 y1])
    · refine ⟨_, _, rfl, rfl, ?_, ?_, by (repeat (first | assumption | exact Q.refl _ | refine Q.alloc ?_ _ | refine Q.drewN ?_ _ | refine Q.drew ?_))⟩
      · exact Blk.drew (by simpa using Blk.new (W.alloc _) 98 #[.int .i64 t0, .int .i64 x0, .int .i64 y0])
      · exact ((Blk.new W _ _).alloc _).drew
  case rest =>
    clear c1 c2 m1 m2 g0 g1 g2 j0 j1 j2 lb
    obtain ⟨b6, b7, rfl, rfl, B6, B7, QC⟩ := hcut
    have d6 := B6.cell
    have d7 := B7.cell
    have d2 := (B2.q QC).cell
    go_wp2_with fail
    refine (K1.out _).mono ?_
    rintro e w2 ⟨rfl, q2⟩
    have e6 := (B6.q q2).cell
    have e2 := ((B2.q QC).q q2).cell
    have BR := (B3.q QC).q q2
    have e3 := BR.cell
    have f3 := BR.frozen
    have QR := (Q0.trans QC).trans q2
    clear d6 d7 d2
    go_wp2_with fail
    go_region
    all_goals go_wp2_with fail
    have F := (((BR.set_ 0 (.int .i64 rm)).set_ 1 (.int .i64 D)).drew).cell
    exact bodyPost_ret (v := .tuple #[.int .i64 (t0 + (qo : Int)), .agg #[.int .i64 rm, .int .i64 D]]) (by simp [results, Tryz.results71, go_sem, F]) rfl ⟨rfl, ((QR.setCell (by simp <;> omega) _).setCell (by simp <;> omega) _).drew⟩
end Go.Proofs.YteofhfefbphjdaaGreatDoor
namespace Go.Proofs.YteofhfefbphjdaaGreatDoor
open Go.RowKit Go.WideShapes Go.ChangeShapes
theorem Blk.sc2_0 {w : World} {b : Nat} {T : TypeId} {x y : Value} (h : Blk w b T #[x, y]) (v : Value) : Blk (w.setCell ⟨b, 0, none⟩ v) b T #[v, y] := by
  have := h.set_ 0 v
  simpa using this
theorem Blk.sc2_1 {w : World} {b : Nat} {T : TypeId} {x y : Value} (h : Blk w b T #[x, y]) (v : Value) : Blk (w.setCell ⟨b, 1, none⟩ v) b T #[x, v] := by
  have := h.set_ 1 v
  simpa using this
/-- Two points lie where two pointers lead. -/
def PtsAt (wo wf : World) (T : TypeId) (x0 y0 x1 y1 p q : Value) : Prop := ∃ b7 b8, p = .pointer (some ⟨b7, 0, none⟩) ∧ q = .pointer (some ⟨b8, 0, none⟩) ∧ Blk wf b7 T #[x0, y0] ∧ Blk wf b8 T #[x1, y1] ∧ Q wo wf
theorem pt_s0a {wo w6 : World} {T : TypeId} {x0 y0 x1 y1 : Value} (q : Q wo w6) : PtsAt wo ((w6.alloc (.cells #[x0, y0] T)).alloc (.cells #[x1, y1] T)) T x0 y0 x1 y1 (.pointer (some ⟨w6.heap.size, 0, none⟩)) (.pointer (some ⟨w6.heap.size + 1, 0, none⟩)) :=
  ⟨_, _, rfl, rfl, (Blk.new _ _ _).alloc _, by simpa using Blk.new (w6.alloc (.cells #[x0, y0] T)) T #[x1, y1], (q.alloc _).alloc _⟩
theorem pt_s0b {wo w6 : World} {T : TypeId} {x0 y0 x1 y1 : Value} (q : Q wo w6) : PtsAt wo ((w6.alloc (.cells #[x1, y1] T)).alloc (.cells #[x0, y0] T)) T x0 y0 x1 y1 (.pointer (some ⟨w6.heap.size + 1, 0, none⟩)) (.pointer (some ⟨w6.heap.size, 0, none⟩)) :=
  ⟨_, _, rfl, rfl, by simpa using Blk.new (w6.alloc (.cells #[x1, y1] T)) T #[x0, y0], (Blk.new _ _ _).alloc _, (q.alloc _).alloc _⟩
theorem pt_s1a {wo w6 : World} {T : TypeId} {x0 y0 x1 y1 u v : Value} {b : Nat} (h : Blk w6 b T #[u, v]) (q : Q wo w6) (hb : wo.heap.size ≤ b) : PtsAt wo (((w6.setCell ⟨b, 0, none⟩ x0).setCell ⟨b, 1, none⟩ y0).alloc (.cells #[x1, y1] T)) T x0 y0 x1 y1 (.pointer (some ⟨b, 0, none⟩)) (.pointer (some ⟨w6.heap.size, 0, none⟩)) :=
  ⟨_, _, rfl, rfl, ((h.sc2_0 x0).sc2_1 y0).alloc _, by simpa [World.setCell] using Blk.new ((w6.setCell ⟨b, 0, none⟩ x0).setCell ⟨b, 1, none⟩ y0) T #[x1, y1], ((q.setCell (p := ⟨b, 0, none⟩) hb _).setCell (p := ⟨b, 1, none⟩) hb _).alloc _⟩
theorem pt_s1b {wo w6 : World} {T : TypeId} {x0 y0 x1 y1 u v : Value} {b : Nat} (h : Blk w6 b T #[u, v]) (q : Q wo w6) (hb : wo.heap.size ≤ b) : PtsAt wo (((w6.setCell ⟨b, 0, none⟩ x1).setCell ⟨b, 1, none⟩ y1).alloc (.cells #[x0, y0] T)) T x0 y0 x1 y1 (.pointer (some ⟨w6.heap.size, 0, none⟩)) (.pointer (some ⟨b, 0, none⟩)) :=
  ⟨_, _, rfl, rfl, by simpa [World.setCell] using Blk.new ((w6.setCell ⟨b, 0, none⟩ x1).setCell ⟨b, 1, none⟩ y1) T #[x0, y0], ((h.sc2_0 x1).sc2_1 y1).alloc _, ((q.setCell (p := ⟨b, 0, none⟩) hb _).setCell (p := ⟨b, 1, none⟩) hb _).alloc _⟩
theorem pt_s2 {wo w6 : World} {T : TypeId} {x0 y0 x1 y1 u v u' v' : Value} {b b' : Nat} (h : Blk w6 b T #[u, v]) (h' : Blk w6 b' T #[u', v']) (q : Q wo w6) (hb : wo.heap.size ≤ b) (hb' : wo.heap.size ≤ b') (hne : b ≠ b') : PtsAt wo ((((w6.setCell ⟨b, 0, none⟩ x0).setCell ⟨b, 1, none⟩ y0).setCell ⟨b', 0, none⟩ x1).setCell ⟨b', 1, none⟩ y1) T x0 y0 x1 y1 (.pointer (some ⟨b, 0, none⟩)) (.pointer (some ⟨b', 0, none⟩)) :=
  ⟨_, _, rfl, rfl, (((h.sc2_0 x0).sc2_1 y0).far (p := ⟨b', 0, none⟩) (fun e => hne e) _).far (p := ⟨b', 1, none⟩) (fun e => hne e) _, (((h'.far (p := ⟨b, 0, none⟩) (fun e => hne e.symm) _).far (p := ⟨b, 1, none⟩) (fun e => hne e.symm) _).sc2_0 x1).sc2_1 y1, (((q.setCell (p := ⟨b, 0, none⟩) hb _).setCell (p := ⟨b, 1, none⟩) hb _).setCell (p := ⟨b', 0, none⟩) hb' _).setCell (p := ⟨b', 1, none⟩) hb' _⟩
set_option maxRecDepth 100000 in
set_option maxHeartbeats 8000000 in
theorem spec_Crossings (A : Option Addr) (n cc : Nat) (xs : List Int) (a b c d : Int) (w : World) (ha : Rd w A xs) (hn : xs.length = n * 3) (hT : isTrk xs n = true) (hl : lnB a b c d = true) :
    Calls Tryz.prog 31 #[.agg #[.slice A n cc], .agg #[.int .i64 a, .int .i64 b, .int .i64 c, .int .i64 d]] w (RC w (crL a b c d xs (n - 1))) := by
  have hn24 : 2 ≤ n ∧ n ≤ 40 := by unfold isTrk at hT; rw [Bool.and_eq_true, decide_eq_true_eq] at hT; exact hT.1
  obtain ⟨hn2, hn40⟩ := hn24
  have HT := Lib.hid hT
  have HL := Lib.hid hl
  have HN := Lib.hid hn
  obtain ⟨W, hW⟩ : ∃ W, W = (w.alloc (.cells #[.slice A n cc] 43)).alloc (.cells #[.int .i64 a, .int .i64 b, .int .i64 c, .int .i64 d] 27) := ⟨_, rfl⟩
  have B1 : Blk W w.heap.size 43 #[.slice A n cc] := by rw [hW]; exact (Blk.new _ _ _).alloc _
  have B2 : Blk W (w.heap.size + 1) 27 #[.int .i64 a, .int .i64 b, .int .i64 c, .int .i64 d] := by rw [hW]; exact (by simpa using Blk.new (w.alloc (.cells #[.slice A n cc] 43)) 27 #[.int .i64 a, .int .i64 b, .int .i64 c, .int .i64 d])
  have Q0 : Q w W := by rw [hW]; exact ((Q.refl w).alloc _).alloc _
  have zW : W.heap.size = w.heap.size + 2 := by rw [hW]; simp
  have HW := Lib.hid hW
  have c1 := B1.cell
  clear hT hl hn
  rw [hW] at c1
  clear hW
  go_enter Tryz.func31, Tryz.ntmps31
  go_wp2_with fail
  rw [← HW.out]
  go_loopw [5, 6] (fun v i wr => ∃ k : Nat, k + 1 ≤ n ∧ i = .int .i64 k ∧ OwnL wr W.heap.size 79 5 v (crL a b c d xs k) ∧ Q W wr) (fun _ i _ => n - (intOf i).toNat)
  case atStart => exact ⟨0, by omega, rfl, (by have h := OwnL.new W 79 5 (Nat.le_refl W.heap.size); rw [zW] at h ⊢; exact h), by (repeat (first | assumption | exact Q.refl _ | refine Q.alloc ?_ _ | refine Q.drewN ?_ _ | refine Q.drew ?_))⟩
  case round =>
    clear c1
    obtain ⟨k, hk, rfl, ⟨A1, m, d1, rfl, hown⟩, hq⟩ := hrel
    obtain ⟨wo, rfl⟩ : ∃ wo, wo = wr := ⟨_, rfl⟩
    have hqw : Q w wo := Q0.trans hq
    have C1 := B1.q hq
    have C2 := B2.q hq
    have c1 := C1.cell
    have c2 := C2.cell
    have m1 := C1.lt
    have m2 := C2.lt
    have hk40 : (k : Int) ≤ 40 := by omega
    by_cases hlt : k + 1 < n
    · obtain ⟨_, ⟨ht0, ht1, ht2⟩, hpp, hpq⟩ := trk_facts HT.out hlt
      have hlen : m ≤ k := by obtain ⟨m2, h1, h2⟩ := crL_len a b c d xs k; have := hown.len; omega
      have hltI : (k : Int) + 1 < (n : Int) := by omega
      have hkI : (k : Int) < (n : Int) := by omega
      have hk0 : (0 : Int) ≤ (k : Int) + 1 := by omega
      have hkw : wrap64 ((k : Int) + 1) = (k : Int) + 1 := by unfold wrap64; omega
      have hkw2 : IntKind.i64.wrap ((k : Int) + 1) = (k : Int) + 1 := by rw [IntKind.wrap_i64]; omega
      have K2 := Lib.hid (fun wv => (show Calls Tryz.prog 69 #[.agg #[.int .i64 a, .int .i64 b, .int .i64 c, .int .i64 d], .agg #[.int .i64 (el xs (k * 3 + 1)), .int .i64 (el xs (k * 3 + 2))], .agg #[.int .i64 (el xs ((k + 1) * 3 + 1)), .int .i64 (el xs ((k + 1) * 3 + 2))]] wv fun r w' => r = .returned (.int .i64 (wyK a b c d xs k)) ∧ Q wv w' from spec_Way _ _ _ _ _ _ _ _ wv (lnB_pts HL.out).1 (lnB_pts HL.out).2 (pt_of hpp) (pt_of hpq)))
      have hR := ha.q hqw
      obtain ⟨bl, o, hAe, g0, g1, g2⟩ := hR.at3 HN.out (show k < n by omega)
      obtain ⟨bl2, o2, hAe2, j0, j1, j2⟩ := hR.at3 HN.out hlt
      subst hAe
      cases hAe2
      have lb := World.block_lt_of_cell? wo _ j2
      go_wp2_with fail
      go_cut [7, 8] from 16 to 76 (fun p q wc => PtsAt wo wc 25 (.int .i64 (el xs (k * 3 + 1))) (.int .i64 (el xs (k * 3 + 2))) (.int .i64 (el xs ((k + 1) * 3 + 1))) (.int .i64 (el xs ((k + 1) * 3 + 2))) p q)
      case first =>
        have hS : ∀ w', Q wo w' → (Q wo w' ∧ w'.cell? ⟨w.heap.size, 0, none⟩ = some (.slice (some ⟨bl, o, none⟩) n cc) ∧ w'.cell? ⟨bl, o + k * 3, none⟩ = some (.int .i64 (el xs (k * 3))) ∧ w'.cell? ⟨bl, o + k * 3 + 1, none⟩ = some (.int .i64 (el xs (k * 3 + 1))) ∧ w'.cell? ⟨bl, o + k * 3 + 2, none⟩ = some (.int .i64 (el xs (k * 3 + 2))) ∧ w'.cell? ⟨bl, o + (k + 1) * 3, none⟩ = some (.int .i64 (el xs ((k + 1) * 3))) ∧ w'.cell? ⟨bl, o + (k + 1) * 3 + 1, none⟩ = some (.int .i64 (el xs ((k + 1) * 3 + 1))) ∧ w'.cell? ⟨bl, o + (k + 1) * 3 + 2, none⟩ = some (.int .i64 (el xs ((k + 1) * 3 + 2)))) := fun w' q => ⟨q, (C1.q q).cell _, q.cell g0, q.cell g1, q.cell g2, q.cell j0, q.cell j1, q.cell j2⟩
        go_region_held3 (fun w' => Q wo w' ∧ w'.cell? ⟨w.heap.size, 0, none⟩ = some (.slice (some ⟨bl, o, none⟩) n cc) ∧ w'.cell? ⟨bl, o + k * 3, none⟩ = some (.int .i64 (el xs (k * 3))) ∧ w'.cell? ⟨bl, o + k * 3 + 1, none⟩ = some (.int .i64 (el xs (k * 3 + 1))) ∧ w'.cell? ⟨bl, o + k * 3 + 2, none⟩ = some (.int .i64 (el xs (k * 3 + 2))) ∧ w'.cell? ⟨bl, o + (k + 1) * 3, none⟩ = some (.int .i64 (el xs ((k + 1) * 3))) ∧ w'.cell? ⟨bl, o + (k + 1) * 3 + 1, none⟩ = some (.int .i64 (el xs ((k + 1) * 3 + 1))) ∧ w'.cell? ⟨bl, o + (k + 1) * 3 + 2, none⟩ = some (.int .i64 (el xs ((k + 1) * 3 + 2)))) (first | exact hS _ (by (repeat (first | assumption | exact Q.refl _ | refine Q.alloc ?_ _ | refine Q.drewN ?_ _ | refine Q.drew ?_ | refine Q.setCell ?_ (by first | exact Nat.le_refl _ | (simp only; omega) | (simp; done) | (simp; omega)) _))) | (go_split_ands; exact hS _ (by (repeat (first | assumption | exact Q.refl _ | refine Q.alloc ?_ _ | refine Q.drewN ?_ _ | refine Q.drew ?_ | refine Q.setCell ?_ (by first | exact Nat.le_refl _ | (simp only; omega) | (simp; done) | (simp; omega)) _))))) (first | (have q50 := q5; go_at_call 68; refine (spec_l03Point _ _ _ _).mono ?_; rintro e w6 ⟨rfl, q6⟩; have QR : Q wo w6 := Q.trans (by (repeat (first | assumption | exact Q.refl _ | refine Q.alloc ?_ _ | refine Q.drewN ?_ _ | refine Q.drew ?_ | refine Q.setCell ?_ (by first | exact Nat.le_refl _ | (simp only; omega) | (simp; done) | (simp; omega)) _))) q6; have zr := QR.size; (first | (have X1 := Y1.q q6; have X1c := X1.cell; have X1f := X1.frozen; have X1l := X1.lt) | (have X1 := (Y1.alloc _).q q6; have X1c := X1.cell; have X1f := X1.frozen; have X1l := X1.lt) | (have X1 := ((Y1.alloc _).alloc _).q q6; have X1c := X1.cell; have X1f := X1.frozen; have X1l := X1.lt) | skip); (first | (have X2 := Y2.q q6; have X2c := X2.cell; have X2f := X2.frozen; have X2l := X2.lt) | (have X2 := (Y2.alloc _).q q6; have X2c := X2.cell; have X2f := X2.frozen; have X2l := X2.lt) | (have X2 := ((Y2.alloc _).alloc _).q q6; have X2c := X2.cell; have X2f := X2.frozen; have X2l := X2.lt) | skip); (first | (have X3 := q6.boxB2; have X40 := q6.boxB; have X3c := X3.cell; have X3f := X3.frozen; have X3l := X3.lt; simp only [World.size_alloc] at X40; have X4 := X40; have X4c := X4.cell; have X4f := X4.frozen; have X4l := X4.lt) | (have X3 := q6.boxB; have X3c := X3.cell; have X3f := X3.frozen; have X3l := X3.lt) | (have X3 := (Q.trans ((Q.refl _).drew) q6).boxB2; have X40 := (Q.trans ((Q.refl _).drew) q6).boxB; have X3c := X3.cell; have X3f := X3.frozen; have X3l := X3.lt; simp only [World.size_alloc] at X40; have X4 := X40; have X4c := X4.cell; have X4f := X4.frozen; have X4l := X4.lt) | (have X3 := (Q.trans ((Q.refl _).drew) q6).boxB; have X3c := X3.cell; have X3f := X3.frozen; have X3l := X3.lt) | skip)) | (go_at_call 68; refine (spec_l03Point _ _ _ _).mono ?_; rintro e w5 ⟨rfl, q5⟩; have QR : Q wo w5 := Q.trans (by (repeat (first | assumption | exact Q.refl _ | refine Q.alloc ?_ _ | refine Q.drewN ?_ _ | refine Q.drew ?_ | refine Q.setCell ?_ (by first | exact Nat.le_refl _ | (simp only; omega) | (simp; done) | (simp; omega)) _))) q5; have zr := QR.size; (first | (have Y1 := q5.boxB2; have Y20 := q5.boxB; have Y1c := Y1.cell; have Y1f := Y1.frozen; have Y1l := Y1.lt; simp only [World.size_alloc] at Y20; have Y2 := Y20; have Y2c := Y2.cell; have Y2f := Y2.frozen; have Y2l := Y2.lt) | (have Y1 := q5.boxB; have Y1c := Y1.cell; have Y1f := Y1.frozen; have Y1l := Y1.lt) | (have Y1 := (Q.trans ((Q.refl _).drew) q5).boxB2; have Y20 := (Q.trans ((Q.refl _).drew) q5).boxB; have Y1c := Y1.cell; have Y1f := Y1.frozen; have Y1l := Y1.lt; simp only [World.size_alloc] at Y20; have Y2 := Y20; have Y2c := Y2.cell; have Y2f := Y2.frozen; have Y2l := Y2.lt) | (have Y1 := (Q.trans ((Q.refl _).drew) q5).boxB; have Y1c := Y1.cell; have Y1f := Y1.frozen; have Y1l := Y1.lt) | skip)))
        all_goals (go_wp2_with fail; go_meet)
        all_goals clear hS
        all_goals first | with_reducible exact pt_s0a QR | with_reducible exact pt_s0b QR | with_reducible exact pt_s1a X3 QR (by omega) | with_reducible exact pt_s1a X1 QR (by omega) | with_reducible exact pt_s1b X3 QR (by omega) | with_reducible exact pt_s1b X1 QR (by omega) | with_reducible exact pt_s2 X3 X4 QR (by omega) (by omega) (by omega) | with_reducible exact pt_s2 X4 X3 QR (by omega) (by omega) (by omega) | with_reducible exact pt_s2 X1 X3 QR (by omega) (by omega) (by omega) | with_reducible exact pt_s2 X3 X1 QR (by omega) (by omega) (by omega) | with_reducible exact pt_s2 X1 X2 QR (by omega) (by omega) (by omega) | with_reducible exact pt_s2 X2 X1 QR (by omega) (by omega) (by omega)
      case rest =>
        clear g0 g1 g2 j0 j1 j2 lb c1 c2
        obtain ⟨b7, b8, rfl, rfl, B7, B8, QC⟩ := hcut
        have C1c := C1.q QC
        have C2c := C2.q QC
        have d7 := B7.cell
        have d8 := B8.cell
        have d2 := C2c.cell
        go_wp2_with fail
        refine (K2.out _).mono ?_
        rintro e w3 ⟨rfl, q3⟩
        have Q3 := QC.trans q3
        by_cases hw0 : wyK a b c d xs k = 0
        · have HC := Lib.hid (crL_no hw0)
          rw [hw0]
          clear hw0 d7 d8 d2
          go_wp2_with fail
          go_roundw
          case rel => exact ⟨k + 1, by omega, by go_num, by rw [HC.out]; exact ⟨_, _, _, rfl, hown.q Q3⟩, hq.trans Q3⟩
          case measure => simp [intOf]; omega
        · have hwb : (wyK a b c d xs k == 0) = false := by simpa using hw0
          have HC := Lib.hid (crL_yes hw0)
          obtain ⟨hD0, hND, hD, hseg⟩ := num_place HL.out hpp hpq hw0
          have K3 := Lib.hid (fun wv => (show Calls Tryz.prog 70 #[.agg #[.int .i64 (el xs (k * 3 + 1)), .int .i64 (el xs (k * 3 + 2)), .int .i64 (el xs ((k + 1) * 3 + 1)), .int .i64 (el xs ((k + 1) * 3 + 2))], .agg #[.int .i64 a, .int .i64 b, .int .i64 c, .int .i64 d]] wv fun r w' => r = .returned (.tuple #[.agg #[.int .i64 ((nK a b c d xs k : Nat) : Int), .int .i64 ((dK a b c d xs k : Nat) : Int)], .bool true]) ∧ Q wv w' from spec_Place _ _ _ _ _ _ _ _ wv HL.out hseg (wayV_xs hw0)))
          have edt : el xs ((k + 1) * 3) - el xs (k * 3) = ((dtK xs k : Nat) : Int) := by unfold dtK; omega
          have K4 := Lib.hid (fun wv (h : Rd wv (some ⟨bl, o, none⟩) xs) z => spec_Exact (some ⟨bl, o, none⟩) n cc xs k (dtK xs k) (nK a b c d xs k) (dK a b c d xs k) z (wyK a b c d xs k) wv h HN.out hlt hn40 ⟨ht0, ht1, ht2⟩ edt hND hD0 hD)
          have hqb : dtK xs k * nK a b c d xs k / dK a b c d xs k ≤ 1000000000 := by
            refine Nat.le_trans (Nat.div_le_div_right (Nat.mul_le_mul_left _ hND)) ?_
            rw [Nat.mul_div_cancel _ hD0]
            omega
          have HE : Hid (crK a b c d xs k = [tmK a b c d xs k, (k : Int), wyK a b c d xs k, ((nK a b c d xs k : Nat) : Int), ((dK a b c d xs k : Nat) : Int)] ∧ tmK a b c d xs k = el xs (k * 3) + ((dtK xs k * nK a b c d xs k / dK a b c d xs k : Nat) : Int) + if 0 < dtK xs k * nK a b c d xs k % dK a b c d xs k then 1 else 0) := Lib.hid ⟨rfl, rfl⟩
          generalize wyK a b c d xs k = wy at *
          generalize tmK a b c d xs k = T at *
          generalize crK a b c d xs k = E at *
          generalize nK a b c d xs k = N at *
          generalize dK a b c d xs k = D at *
          generalize dtK xs k = dt at *
          generalize dt * N / D = qo at *
          generalize dt * N % D = rm at *
          clear hw0 hND hD0 hD hseg hpp hpq K2 edt
          have e7 := (B7.q q3).cell
          have e8 := (B8.q q3).cell
          have e2 := (C2c.q q3).cell
          clear d7 d8 d2
          go_wp2_with fail
          refine (K3.out _).mono ?_
          rintro e w4 ⟨rfl, q4⟩
          have Q4 := Q3.trans q4
          have e1 := (C1.q Q4).cell
          have n1 := (C1.q Q4).lt
          clear e7 e8 e2
          go_wp2_with fail
          refine (K4.out _ ((ha.q (hqw.trans Q4)).q (by (repeat (first | assumption | exact Q.refl _ | refine Q.alloc ?_ _ | refine Q.drewN ?_ _ | refine Q.drew ?_)))) 0).mono ?_
          rintro e w5 ⟨rfl, q5⟩
          have BC : Blk w5 (w4.heap.size + 1) 79 #[.int .i64 0, .int .i64 k, .int .i64 wy, .int .i64 N, .int .i64 D] := (by simpa using q5.boxB)
          have Q5 : Q wo w5 := Q4.trans (Q.trans (by (repeat (first | assumption | exact Q.refl _ | refine Q.alloc ?_ _ | refine Q.drewN ?_ _ | refine Q.drew ?_))) q5)
          have hbn : wo.heap.size ≤ w4.heap.size + 1 := by have := Q4.size; omega
          have hfar : ∀ a, A1 = some a → a.block ≠ w4.heap.size + 1 := fun a h => by have := hown.from a h; have := Q4.size; omega
          have B1c : Blk (w5.setCell ⟨w4.heap.size + 1, 0, none⟩ (.int .i64 (el xs (k * 3) + (qo : Int)))) (w4.heap.size + 1) 79 #[.int .i64 (el xs (k * 3) + (qo : Int)), .int .i64 k, .int .i64 wy, .int .i64 N, .int .i64 D] := by have := BC.set_ 0 (.int .i64 (el xs (k * 3) + (qo : Int))); simpa using this
          have B2c : Blk ((w5.setCell ⟨w4.heap.size + 1, 0, none⟩ (.int .i64 (el xs (k * 3) + (qo : Int)))).setCell ⟨w4.heap.size + 1, 0, none⟩ (.int .i64 (el xs (k * 3) + (qo : Int) + 1))) (w4.heap.size + 1) 79 #[.int .i64 (el xs (k * 3) + (qo : Int) + 1), .int .i64 k, .int .i64 wy, .int .i64 N, .int .i64 D] := by have := B1c.set_ 0 (.int .i64 (el xs (k * 3) + (qo : Int) + 1)); simpa using this
          have QS1 : Q wo (w5.setCell ⟨w4.heap.size + 1, 0, none⟩ (.int .i64 (el xs (k * 3) + (qo : Int)))) := Q5.setCell (p := ⟨w4.heap.size + 1, 0, none⟩) hbn _
          have QS2 := QS1.setCell (p := ⟨w4.heap.size + 1, 0, none⟩) hbn (.int .i64 (el xs (k * 3) + (qo : Int) + 1))
          have oS1 := (hown.q Q5).setFar hfar 0 (.int .i64 (el xs (k * 3) + (qo : Int)))
          have oS2 := oS1.setFar hfar 0 (.int .i64 (el xs (k * 3) + (qo : Int) + 1))
          have QR1 := QS1.alloc (.cells #[.int .i64 rm, .int .i64 D] 77)
          have QR2 := QS2.alloc (.cells #[.int .i64 rm, .int .i64 D] 77)
          have oR1 := oS1.q ((Q.refl _).alloc (.cells #[.int .i64 rm, .int .i64 D] 77))
          have oR2 := oS2.q ((Q.refl _).alloc (.cells #[.int .i64 rm, .int .i64 D] 77))
          have cC := BC.cell
          have fC := BC.frozen
          have lC := BC.lt
          have cC1 := (B1c.alloc (.cells #[.int .i64 rm, .int .i64 D] 77)).cell
          have cC2 := (B2c.alloc (.cells #[.int .i64 rm, .int .i64 D] 77)).cell
          have cD1 := B1c.cell
          have fD1 := B1c.frozen
          have lD1 := B1c.lt
          have cD2 := B2c.cell
          have lD2 := B2c.lt
          have hbb : el xs (k * 3) + (qo : Int) + 1 ≤ 9000000000 := by omega
          clear e1 n1
          by_cases hrm : 0 < rm
          · have HT2 := Lib.hid (show E = [el xs (k * 3) + (qo : Int) + 1, (k : Int), wy, (N : Int), (D : Int)] by rw [HE.out.1, HE.out.2, if_pos hrm])
            clear HE
            go_wp2_with (at_builtin; refine appK elCross rfl _ _ rfl [el xs (k * 3) + (qo : Int) + 1, (k : Int), wy, (N : Int), (D : Int)] rfl oR2 rfl (by simp) rfl _ _ rfl (by omega) (Q.size (hq.trans QR2)) ?_; intro A' c' w' hown' hg' hgr')
            go_roundw
            case rel => exact ⟨k + 1, by omega, by go_num, by rw [HC.out, HT2.out]; exact ⟨_, _, _, rfl, hown'⟩, (hq.trans QR2).mark oR2 (Nat.le_refl _) hg'⟩
            case measure => simp [intOf]; omega
          · have HT2 := Lib.hid (show E = [el xs (k * 3) + (qo : Int), (k : Int), wy, (N : Int), (D : Int)] by rw [HE.out.1, HE.out.2, if_neg hrm, Int.add_zero])
            clear HE
            go_wp2_with (at_builtin; refine appK elCross rfl _ _ rfl [el xs (k * 3) + (qo : Int), (k : Int), wy, (N : Int), (D : Int)] rfl oR1 rfl (by simp) rfl _ _ rfl (by omega) (Q.size (hq.trans QR1)) ?_; intro A' c' w' hown' hg' hgr')
            go_roundw
            case rel => exact ⟨k + 1, by omega, by go_num, by rw [HC.out, HT2.out]; exact ⟨_, _, _, rfl, hown'⟩, (hq.trans QR1).mark oR1 (Nat.le_refl _) hg'⟩
            case measure => simp [intOf]; omega
    · obtain rfl : n = k + 1 := by omega
      have hltI : ¬ (k : Int) + 1 < ((k + 1 : Nat) : Int) := by omega
      go_wp2_with fail
      go_ret
      exact ⟨_, _, _, rfl, hown.mono Q0.size, hqw⟩
end Go.Proofs.YteofhfefbphjdaaGreatDoor
