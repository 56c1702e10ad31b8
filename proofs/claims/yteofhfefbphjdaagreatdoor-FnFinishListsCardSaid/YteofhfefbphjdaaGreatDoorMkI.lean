/- Walks: the rounding lines of a course, as the reference makes them. No condition. -/
import Derived.Test.YteofhfefbphjdaaGreatDoorMkH
namespace Go.Proofs.YteofhfefbphjdaaGreatDoor
open Go.RowKit Go.WideShapes Go.ChangeShapes
set_option maxHeartbeats 1000000 in
theorem spec_DotS (a b : Int) (w : World) (h1 : -2000000 ≤ a ∧ a ≤ 2000000) (h2 : -2000000 ≤ b ∧ b ≤ 2000000) :
    Calls Tryz.prog 43 #[.agg #[.int .i64 a, .int .i64 b], .agg #[.int .i64 a, .int .i64 b]] w fun e w' => e = .returned (.int .i64 (a * a + b * b)) ∧ Q w w' := by
  have m1 := sq_bd h1
  have m2 := sq_bd h2
  have W1 : IntKind.i64.wrap (a * a) = a * a := by rw [IntKind.wrap_i64]; omega
  have W2 : IntKind.i64.wrap (b * b) = b * b := by rw [IntKind.wrap_i64]; omega
  have W3 : IntKind.i64.wrap (a * a + b * b) = a * a + b * b := by rw [IntKind.wrap_i64]; omega
  clear h1 h2 m1 m2
  go_enter Tryz.func43, Tryz.ntmps43
  go_wp2_with fail
  go_ret
  exact ⟨rfl, by (repeat (first | assumption | exact Q.refl _ | refine Q.alloc ?_ _ | refine Q.drewN ?_ _ | refine Q.drew ?_))⟩
set_option linter.unusedSimpArgs false in
set_option linter.unusedVariables false in
set_option maxRecDepth 100000 in
set_option maxHeartbeats 8000000 in
theorem spec_l06Line (a b c d p q r s : Int) (A : Option Addr) (n cc : Nat) (ms : List Mk) (w : World) (ha : RdM w A ms) (hn : ms.length = n) (hc : crsB a b c d p q r s ms = true) (k : Nat) (hk : k < n) :
    Calls Tryz.prog 75 #[.agg #[.int .i64 a, .int .i64 b, .int .i64 c, .int .i64 d, .int .i64 p, .int .i64 q, .int .i64 r, .int .i64 s, .slice A n cc], .int .i64 k] w fun e w' => e = .returned (.tuple #[.agg #[.int .i64 (rlL a b c d ms k).1, .int .i64 (rlL a b c d ms k).2.1, .int .i64 (rlL a b c d ms k).2.2.1, .int .i64 (rlL a b c d ms k).2.2.2], .bool (lnB (rlL a b c d ms k).1 (rlL a b c d ms k).2.1 (rlL a b c d ms k).2.2.1 (rlL a b c d ms k).2.2.2)]) ∧ Q w w' := by
  obtain ⟨g1, hS, hXY, hN, hsd, hzn, hW⟩ := rl_facts hc (show k < ms.length by omega)
  obtain ⟨hl1, hl2, hlen, _, _⟩ := crs_yes hc
  have hb1 := lnB_bd hl1
  have hb2 := lnB_bd hl2
  have hSL := stL_el (a := a) (b := b) (c := c) (d := d) (p := p) (q := q) (r := r) (s := s) (show k ≤ ms.length by omega)
  have hSLn := stL_len a b c d p q r s ms
  have KS := Lib.hid (fun wv (h : RdM wv A ms) => spec_stations a b c d p q r s A n cc ms wv h hn (by omega) (by unfold bd4 at *; omega) (by unfold bd4 at *; omega))
  obtain ⟨b1, o1, rfl, g0', g1', g2', g3', g4', hsz⟩ := ha.at_ hn hk
  have HXe := Lib.hid (show rlX a c ms k = (mx ms k).x - stX a c ms k from rfl)
  have HYe := Lib.hid (show rlY b d ms k = (mx ms k).y - stY b d ms k from rfl)
  have HNe := Lib.hid (show rlN a b c d ms k = rt (rlX a c ms k * rlX a c ms k + rlY b d ms k * rlY b d ms k) from rfl)
  have HWe := Lib.hid (show rlW ms k = if (mx ms k).sd = 2 then -(10 * (mx ms k).zn) else 10 * (mx ms k).zn from rfl)
  have HEe := Lib.hid (show rlE a b c d ms k = (mx ms k).x + rlY b d ms k * rlW ms k / rlN a b c d ms k from rfl)
  have HFe := Lib.hid (show rlF a b c d ms k = (mx ms k).y - rlX a c ms k * rlW ms k / rlN a b c d ms k from rfl)
  have HLe := Lib.hid (show rlL a b c d ms k = if (mx ms k).sd = 2 then (rlE a b c d ms k, rlF a b c d ms k, (mx ms k).x, (mx ms k).y) else ((mx ms k).x, (mx ms k).y, rlE a b c d ms k, rlF a b c d ms k) from rfl)
  have HS1 := Lib.hid hSL.1
  have HS2 := Lib.hid hSL.2
  have HSn := Lib.hid hSLn
  have HNn := Lib.hid hn
  have hq1 := sq_bd hXY.1
  have hq2 := sq_bd hXY.2
  have hm1 := mul_bdW hXY.2 hW
  have hm2 := mul_bdW hXY.1 hW
  have hd1 := div_bdW hN.1 hm1
  have hd2 := div_bdW hN.1 hm2
  unfold pt at g1 hS
  generalize rlL a b c d ms k = LL at *
  generalize rlE a b c d ms k = E at *
  generalize rlF a b c d ms k = F at *
  generalize rlX a c ms k = X at *
  generalize rlY b d ms k = Y at *
  generalize rlN a b c d ms k = NN at *
  generalize rlW ms k = W at *
  generalize stX a c ms k = SX at *
  generalize stY b d ms k = SY at *
  generalize stL a b c d p q r s ms = SL at *
  obtain ⟨m, hm⟩ : ∃ m, m = mx ms k := ⟨_, rfl⟩
  rw [← hm] at HXe HYe HWe HEe HFe HLe g1 hsd hzn g0' g1' g2' g3' g4'
  have km := fun wv => spec_Minus m.x m.y SX SY wv g1 hS
  rw [← HXe.out, ← HYe.out] at km
  have KM := Lib.hid km
  have KD := Lib.hid (fun wv => spec_DotS X Y wv hXY.1 hXY.2)
  have KR := Lib.hid (fun wv => spec_Root (X * X + Y * Y) wv (by omega) (by omega))
  rw [← HNe.out] at KR
  have KF1 := Lib.hid (fun wv => spec_Floor (Y * W) NN wv (by omega) (by omega) (by omega))
  have KF2 := Lib.hid (fun wv => spec_Floor (X * W) NN wv (by omega) (by omega) (by omega))
  have KI := Lib.hid (fun e f g h wv => spec_IsLine e f g h wv)
  obtain ⟨w0, hw0⟩ : ∃ w0, w0 = (w.alloc (.cells #[.int .i64 a, .int .i64 b, .int .i64 c, .int .i64 d, .int .i64 p, .int .i64 q, .int .i64 r, .int .i64 s, .slice (some ⟨b1, o1, none⟩) n cc] 30)).alloc (.cells #[.int .i64 0, .int .i64 0, .int .i64 0, .int .i64 0] 27) := ⟨_, rfl⟩
  have Q0 : Q w w0 := by rw [hw0]; (repeat (first | assumption | exact Q.refl _ | refine Q.alloc ?_ _ | refine Q.drewN ?_ _ | refine Q.drew ?_))
  have B0 : Blk w0 w.heap.size 30 #[.int .i64 a, .int .i64 b, .int .i64 c, .int .i64 d, .int .i64 p, .int .i64 q, .int .i64 r, .int .i64 s, .slice (some ⟨b1, o1, none⟩) n cc] := by rw [hw0]; exact (Blk.new _ _ _).alloc _
  have R0 : Blk w0 (w.heap.size + 1) 27 #[.int .i64 0, .int .i64 0, .int .i64 0, .int .i64 0] := by rw [hw0]; exact Blk.new1 _ _ _ _
  have HW0 := Lib.hid hw0
  have ha0 := ha.q Q0
  have hkI : (k : Int) < (n : Int) := by omega
  have hk2I : (k : Int) < ((n + 2 : Nat) : Int) := by omega
  have hk2J : (k : Int) < (n : Int) + 2 := by omega
  have hk0 : (0 : Int) ≤ (k : Int) := by omega
  have lR := R0.lt
  have lb := World.block_lt_of_cell? _ _ g0'
  clear hw0 ha hm hc hSL hSLn hn hl1 hl2 hb1 hb2 HNe km
  go_enter Tryz.func75, Tryz.ntmps75
  go_upto_region 2 with (fail)
  rw [← HW0.out]
  have BM := Blk.new w0 85 #[.string m.nm, .int .i64 m.x, .int .i64 m.y, .int .i64 m.sd, .int .i64 m.zn]
  have z00 : w0.heap.size = w.heap.size + 1 + 1 := by rw [HW0.out]; simp
  rw [z00] at BM
  replace B0 := B0.alloc (.cells #[.string m.nm, .int .i64 m.x, .int .i64 m.y, .int .i64 m.sd, .int .i64 m.zn] 85)
  replace R0 := R0.alloc (.cells #[.string m.nm, .int .i64 m.x, .int .i64 m.y, .int .i64 m.sd, .int .i64 m.zn] 85)
  have QB : Q w0 (w0.alloc (.cells #[.string m.nm, .int .i64 m.x, .int .i64 m.y, .int .i64 m.sd, .int .i64 m.zn] 85)) := (Q.refl _).alloc _
  have zb : w.heap.size + 1 + 1 < (w0.alloc (.cells #[.string m.nm, .int .i64 m.x, .int .i64 m.y, .int .i64 m.sd, .int .i64 m.zn] 85)).heap.size := by rw [← z00]; simp
  generalize w0.alloc (.cells #[.string m.nm, .int .i64 m.x, .int .i64 m.y, .int .i64 m.sd, .int .i64 m.zn] 85) = wb at *
  have haw := ha0.q QB
  have hS' : ∀ w', Q wb w' → (Q wb w' ∧ w'.cell? ⟨w.heap.size, 0, none⟩ = some (.int .i64 a) ∧ w'.cell? ⟨w.heap.size, 1, none⟩ = some (.int .i64 b) ∧ w'.cell? ⟨w.heap.size, 2, none⟩ = some (.int .i64 c) ∧ w'.cell? ⟨w.heap.size, 3, none⟩ = some (.int .i64 d) ∧ w'.cell? ⟨w.heap.size, 4, none⟩ = some (.int .i64 p) ∧ w'.cell? ⟨w.heap.size, 5, none⟩ = some (.int .i64 q) ∧ w'.cell? ⟨w.heap.size, 6, none⟩ = some (.int .i64 r) ∧ w'.cell? ⟨w.heap.size, 7, none⟩ = some (.int .i64 s) ∧ w'.cell? ⟨w.heap.size, 8, none⟩ = some (.slice (some ⟨b1, o1, none⟩) n cc) ∧ w'.cell? ⟨w.heap.size + 1 + 1, 1, none⟩ = some (.int .i64 m.x) ∧ w'.cell? ⟨w.heap.size + 1 + 1, 2, none⟩ = some (.int .i64 m.y)) := fun w' q => ⟨q, (B0.q q).cell 0, (B0.q q).cell 1, (B0.q q).cell 2, (B0.q q).cell 3, (B0.q q).cell 4, (B0.q q).cell 5, (B0.q q).cell 6, (B0.q q).cell 7, (B0.q q).cell 8, (BM.q q).cell 1, (BM.q q).cell 2⟩
  go_cut [7] from 12 (fun v wc => ∃ bp, v = .pointer (some ⟨bp, 0, none⟩) ∧ w.heap.size + 1 + 1 < bp ∧ Blk wc bp 25 #[.int .i64 X, .int .i64 Y] ∧ Blk wc (w.heap.size + 1 + 1) 85 #[.string m.nm, .int .i64 m.x, .int .i64 m.y, .int .i64 m.sd, .int .i64 m.zn] ∧ Blk wc (w.heap.size + 1) 27 #[.int .i64 0, .int .i64 0, .int .i64 0, .int .i64 0] ∧ Q w0 wc)
  case first =>
    clear hq1 hq2 hm1 hm2 hd1 hd2 KR KF1 KF2 KD KI HXe HYe HWe HEe HFe HLe
    refine wp_region_noPanic ?_
    refine wp_region_held_drew (S := (fun w' => Q wb w' ∧ w'.cell? ⟨w.heap.size, 0, none⟩ = some (.int .i64 a) ∧ w'.cell? ⟨w.heap.size, 1, none⟩ = some (.int .i64 b) ∧ w'.cell? ⟨w.heap.size, 2, none⟩ = some (.int .i64 c) ∧ w'.cell? ⟨w.heap.size, 3, none⟩ = some (.int .i64 d) ∧ w'.cell? ⟨w.heap.size, 4, none⟩ = some (.int .i64 p) ∧ w'.cell? ⟨w.heap.size, 5, none⟩ = some (.int .i64 q) ∧ w'.cell? ⟨w.heap.size, 6, none⟩ = some (.int .i64 r) ∧ w'.cell? ⟨w.heap.size, 7, none⟩ = some (.int .i64 s) ∧ w'.cell? ⟨w.heap.size, 8, none⟩ = some (.slice (some ⟨b1, o1, none⟩) n cc) ∧ w'.cell? ⟨w.heap.size + 1 + 1, 1, none⟩ = some (.int .i64 m.x) ∧ w'.cell? ⟨w.heap.size + 1 + 1, 2, none⟩ = some (.int .i64 m.y))) (by kernel_rfl) ?_ (fun hHeld => ?_)
    · (try dsimp only); first | with_reducible exact hS' _ QR2 | with_reducible exact hS' _ QR | with_reducible (refine hS' _ ?_; repeat first | assumption | exact Q.refl _ | refine Q.alloc ?_ _ | refine Q.setCell ?_ (by (try simp only); first | exact Nat.le_refl _ | assumption | omega) _ | refine Q.drew ?_)
    refine wpAnyH_take (i := 0) (v := ?v0x1) rfl (by kernel_rfl) (by kernel_rfl) (by kernel_rfl) (fun _ _ _ h => h) (Or.inl ⟨by rfl, ?y0x1⟩) (by assumption) ?t0x1
    case y0x1 => (intro w hSw; (try dsimp only at hSw); go_simp; try with_reducible rfl)
    case t0x1 =>
      try simp only [Act.put, List.setIfInBounds_toArray, List.set_cons_zero, List.set_cons_succ]
      refine wpAnyH_take (i := 1) (v := ?v1x2) rfl (by kernel_rfl) (by kernel_rfl) (by kernel_rfl) (fun _ _ _ h => h) (Or.inl ⟨by rfl, ?y1x2⟩) (by assumption) ?t1x2
      case y1x2 => (intro w hSw; (try dsimp only at hSw); go_simp; try with_reducible rfl)
      case t1x2 =>
        try simp only [Act.put, List.setIfInBounds_toArray, List.set_cons_zero, List.set_cons_succ]
        refine wpAnyH_take (i := 2) (v := ?v2x3) rfl (by kernel_rfl) (by kernel_rfl) (by kernel_rfl) (fun _ _ _ h => h) (Or.inl ⟨by rfl, ?y2x3⟩) (by assumption) ?t2x3
        case y2x3 => (intro w hSw; (try dsimp only at hSw); go_simp; try with_reducible rfl)
        case t2x3 =>
          try simp only [Act.put, List.setIfInBounds_toArray, List.set_cons_zero, List.set_cons_succ]
          refine wpAnyH_take (i := 4) (v := ?v4x4) rfl (by kernel_rfl) (by kernel_rfl) (by kernel_rfl) (fun _ _ _ h => h) (Or.inl ⟨by rfl, ?y4x4⟩) (by assumption) ?t4x4
          case y4x4 => (intro w hSw; (try dsimp only at hSw); go_simp; try with_reducible rfl)
          case t4x4 =>
            try simp only [Act.put, List.setIfInBounds_toArray, List.set_cons_zero, List.set_cons_succ]
            refine wpAnyH_ready (rs := [3, 8]) (by kernel_rfl) (by simp) ?_
            refine AllReadyH.cons rfl (fun K hK => ?_) ?_
            · go_simp
              (first | (go_at_call 37; refine (KS.out _ (haw.q (by ((repeat (first | with_reducible assumption | with_reducible exact Q.refl _ | with_reducible refine Q.alloc ?_ _ | with_reducible refine Q.setCell ?_ (by (try simp only); first | with_reducible exact Nat.le_refl _ | with_reducible assumption | omega) _ | with_reducible refine Q.drew ?_)); done)))).mono ?_; rintro e5 w5 ⟨AS, cS, rfl, oS, q5⟩; obtain ⟨gS, rfl, hB⟩ := oS.split (show 0 < n + 2 by omega); have lS : gS < w5.heap.size := (oS.lt gS rfl).2; have hB2 := hB; simp only [World.size_alloc, World.size_drew] at hB2; (first | (have nS : gS ≠ wb.heap.size := ?hb; (case hb => omega)) | skip); have QR : Q wb w5 := Q.trans (by ((repeat (first | with_reducible assumption | with_reducible exact Q.refl _ | with_reducible refine Q.alloc ?_ _ | with_reducible refine Q.setCell ?_ (by (try simp only); first | with_reducible exact Nat.le_refl _ | with_reducible assumption | omega) _ | with_reducible refine Q.drew ?_)); done)) q5; have x0 : w5.cell? ⟨gS, k * 2, none⟩ = some (.int .i64 SX) := (oS.cell (by have := HSn.out; have := HNn.out; omega)).trans (by rw [show SL.getD (k * 2) 0 = el SL (k * 2) from rfl, HS1.out]); have y0 : w5.cell? ⟨gS, k * 2 + 1, none⟩ = some (.int .i64 SY) := (oS.cell (by have := HSn.out; have := HNn.out; omega)).trans (by rw [show SL.getD (k * 2 + 1) 0 = el SL (k * 2 + 1) from rfl, HS2.out]); have z5 := q5.size; have zR := QR.size; (first | (have BP : Blk w5 wb.heap.size 25 #[.int .i64 0, .int .i64 0] := ?hb; (case hb => (refine Blk.q ?_ q5; (repeat (first | with_reducible assumption | exact Blk.new _ _ _ | exact Blk.drew (Blk.new _ _ _) | refine Blk.alloc ?_ _)); done))) | skip); (first | (have bpc := BP.cell; have bpf := BP.frozen; have bpl := BP.lt) | skip)) | (go_at_call 41; with_reducible refine (KM.out _).mono ?_; rintro e6 w6 ⟨rfl, q6⟩; have QR2 : Q wb w6 := Q.trans (by ((repeat (first | with_reducible assumption | with_reducible exact Q.refl _ | with_reducible refine Q.alloc ?_ _ | with_reducible refine Q.setCell ?_ (by (try simp only); first | with_reducible exact Nat.le_refl _ | with_reducible assumption | omega) _ | with_reducible refine Q.drew ?_)); done)) q6; have zR2 := QR2.size; (first | (have BP2 : Blk w6 wb.heap.size 25 #[.int .i64 0, .int .i64 0] := ?hb; (case hb => (refine Blk.q ?_ q6; (repeat (first | with_reducible assumption | exact Blk.new _ _ _ | exact Blk.drew (Blk.new _ _ _) | refine Blk.alloc ?_ _)); done))) | (have BP2 : Blk w6 w5.heap.size 25 #[.int .i64 0, .int .i64 0] := ?hb; (case hb => (refine Blk.q ?_ q6; (repeat (first | with_reducible assumption | exact Blk.new _ _ _ | exact Blk.drew (Blk.new _ _ _) | refine Blk.alloc ?_ _)); done))) | skip); (first | (have bpc2 := BP2.cell; have bpf2 := BP2.frozen; have bpl2 := BP2.lt) | skip)))
              refine hK.out _ _ ?_ (fun hHeld => ?_)
              · (try dsimp only); first | with_reducible exact hS' _ QR2 | with_reducible exact hS' _ QR | with_reducible (refine hS' _ ?_; repeat first | assumption | exact Q.refl _ | refine Q.alloc ?_ _ | refine Q.setCell ?_ (by (try simp only); first | exact Nat.le_refl _ | assumption | omega) _ | refine Q.drew ?_)
              clear hK K
              refine wpAnyH_take (i := 5) (v := ?v5x5) rfl (by kernel_rfl) (by kernel_rfl) (by kernel_rfl) (fun _ _ _ h => h) (Or.inl ⟨by rfl, ?y5x5⟩) (by assumption) ?t5x5
              case y5x5 => (intro w hSw; (try dsimp only at hSw); go_simp; try with_reducible rfl)
              case t5x5 =>
                try simp only [Act.put, List.setIfInBounds_toArray, List.set_cons_zero, List.set_cons_succ]
                refine wpAnyH_ready (rs := [6, 8]) (by kernel_rfl) (by simp) ?_
                refine AllReadyH.cons rfl (fun K hK => ?_) ?_
                · go_simp
                  refine hK.out _ _ ?_ (fun hHeld => ?_)
                  · (try dsimp only); first | with_reducible exact hS' _ QR2 | with_reducible exact hS' _ QR | with_reducible (refine hS' _ ?_; repeat first | assumption | exact Q.refl _ | refine Q.alloc ?_ _ | refine Q.setCell ?_ (by (try simp only); first | exact Nat.le_refl _ | assumption | omega) _ | refine Q.drew ?_)
                  clear hK K
                  refine wpAnyH_ready (rs := [7, 8]) (by kernel_rfl) (by simp) ?_
                  refine AllReadyH.cons rfl (fun K hK => ?_) ?_
                  · go_simp
                    (first | (go_at_call 37; refine (KS.out _ (haw.q (by ((repeat (first | with_reducible assumption | with_reducible exact Q.refl _ | with_reducible refine Q.alloc ?_ _ | with_reducible refine Q.setCell ?_ (by (try simp only); first | with_reducible exact Nat.le_refl _ | with_reducible assumption | omega) _ | with_reducible refine Q.drew ?_)); done)))).mono ?_; rintro e5 w5 ⟨AS, cS, rfl, oS, q5⟩; obtain ⟨gS, rfl, hB⟩ := oS.split (show 0 < n + 2 by omega); have lS : gS < w5.heap.size := (oS.lt gS rfl).2; have hB2 := hB; simp only [World.size_alloc, World.size_drew] at hB2; (first | (have nS : gS ≠ wb.heap.size := ?hb; (case hb => omega)) | skip); have QR : Q wb w5 := Q.trans (by ((repeat (first | with_reducible assumption | with_reducible exact Q.refl _ | with_reducible refine Q.alloc ?_ _ | with_reducible refine Q.setCell ?_ (by (try simp only); first | with_reducible exact Nat.le_refl _ | with_reducible assumption | omega) _ | with_reducible refine Q.drew ?_)); done)) q5; have x0 : w5.cell? ⟨gS, k * 2, none⟩ = some (.int .i64 SX) := (oS.cell (by have := HSn.out; have := HNn.out; omega)).trans (by rw [show SL.getD (k * 2) 0 = el SL (k * 2) from rfl, HS1.out]); have y0 : w5.cell? ⟨gS, k * 2 + 1, none⟩ = some (.int .i64 SY) := (oS.cell (by have := HSn.out; have := HNn.out; omega)).trans (by rw [show SL.getD (k * 2 + 1) 0 = el SL (k * 2 + 1) from rfl, HS2.out]); have z5 := q5.size; have zR := QR.size; (first | (have BP : Blk w5 wb.heap.size 25 #[.int .i64 0, .int .i64 0] := ?hb; (case hb => (refine Blk.q ?_ q5; (repeat (first | with_reducible assumption | exact Blk.new _ _ _ | exact Blk.drew (Blk.new _ _ _) | refine Blk.alloc ?_ _)); done))) | skip); (first | (have bpc := BP.cell; have bpf := BP.frozen; have bpl := BP.lt) | skip)) | (go_at_call 41; with_reducible refine (KM.out _).mono ?_; rintro e6 w6 ⟨rfl, q6⟩; have QR2 : Q wb w6 := Q.trans (by ((repeat (first | with_reducible assumption | with_reducible exact Q.refl _ | with_reducible refine Q.alloc ?_ _ | with_reducible refine Q.setCell ?_ (by (try simp only); first | with_reducible exact Nat.le_refl _ | with_reducible assumption | omega) _ | with_reducible refine Q.drew ?_)); done)) q6; have zR2 := QR2.size; (first | (have BP2 : Blk w6 wb.heap.size 25 #[.int .i64 0, .int .i64 0] := ?hb; (case hb => (refine Blk.q ?_ q6; (repeat (first | with_reducible assumption | exact Blk.new _ _ _ | exact Blk.drew (Blk.new _ _ _) | refine Blk.alloc ?_ _)); done))) | (have BP2 : Blk w6 w5.heap.size 25 #[.int .i64 0, .int .i64 0] := ?hb; (case hb => (refine Blk.q ?_ q6; (repeat (first | with_reducible assumption | exact Blk.new _ _ _ | exact Blk.drew (Blk.new _ _ _) | refine Blk.alloc ?_ _)); done))) | skip); (first | (have bpc2 := BP2.cell; have bpf2 := BP2.frozen; have bpl2 := BP2.lt) | skip)))
                    refine hK.out _ _ ?_ (fun hHeld => ?_)
                    · (try dsimp only); first | with_reducible exact hS' _ QR2 | with_reducible exact hS' _ QR | with_reducible (refine hS' _ ?_; repeat first | assumption | exact Q.refl _ | refine Q.alloc ?_ _ | refine Q.setCell ?_ (by (try simp only); first | exact Nat.le_refl _ | assumption | omega) _ | refine Q.drew ?_)
                    clear hK K
                    refine wpAnyH_ready (rs := [8]) (by kernel_rfl) (by simp) ?_
                    refine AllReadyH.cons rfl (fun K hK => ?_) ?_
                    · go_simp
                      refine hK.out _ _ ?_ (fun hHeld => ?_)
                      · (try dsimp only); first | with_reducible exact hS' _ QR2 | with_reducible exact hS' _ QR | with_reducible (refine hS' _ ?_; repeat first | assumption | exact Q.refl _ | refine Q.alloc ?_ _ | refine Q.setCell ?_ (by (try simp only); first | exact Nat.le_refl _ | assumption | omega) _ | refine Q.drew ?_)
                      clear hK K
                      refine wpAnyH_ready (rs := [9]) (by kernel_rfl) (by simp) ?_
                      refine AllReadyH.cons rfl (fun K hK => ?_) ?_
                      · go_simp
                        refine hK.out _ _ ?_ (fun hHeld => ?_)
                        · (try dsimp only); first | with_reducible exact hS' _ QR2 | with_reducible exact hS' _ QR | with_reducible (refine hS' _ ?_; repeat first | assumption | exact Q.refl _ | refine Q.alloc ?_ _ | refine Q.setCell ?_ (by (try simp only); first | exact Nat.le_refl _ | assumption | omega) _ | refine Q.drew ?_)
                        clear hK K
                        refine wpAnyH_done (by kernel_rfl) ?_ _
                        refine NoPanic.normal ?_
                        go_wp2_with fail
                        go_meet
                        all_goals (have RW := R0.q QR2; have MW := BM.q QR2; have Q3 := QB.trans QR2)
                        all_goals (first | (have PS := BP2.set2 (.int .i64 X) (.int .i64 Y)) | skip)
                        all_goals refine ⟨_, rfl, ?_, ?_, ?_, ?_, ?_⟩
                        all_goals first
                          | (clear QR QR2; omega)
                          | with_reducible exact Blk.new _ _ _
                          | with_reducible exact PS
                          | with_reducible exact MW.alloc _
                          | with_reducible exact RW.alloc _
                          | with_reducible exact Q3.alloc _
                          | with_reducible exact MW.far2 (by clear QR QR2; omega) _ _
                          | with_reducible exact RW.far2 (by clear QR QR2; omega) _ _
                          | with_reducible exact Q3.set2 (by clear QR QR2; omega) _ _
                      exact AllReadyH.nil
                    exact AllReadyH.nil
                  refine AllReadyH.cons rfl (fun K hK => ?_) ?_
                  · go_simp
                    refine hK.out _ _ ?_ (fun hHeld => ?_)
                    · (try dsimp only); first | with_reducible exact hS' _ QR2 | with_reducible exact hS' _ QR | with_reducible (refine hS' _ ?_; repeat first | assumption | exact Q.refl _ | refine Q.alloc ?_ _ | refine Q.setCell ?_ (by (try simp only); first | exact Nat.le_refl _ | assumption | omega) _ | refine Q.drew ?_)
                    clear hK K
                    refine wpAnyH_ready (rs := [7]) (by kernel_rfl) (by simp) ?_
                    refine AllReadyH.cons rfl (fun K hK => ?_) ?_
                    · go_simp
                      (first | (go_at_call 37; refine (KS.out _ (haw.q (by ((repeat (first | with_reducible assumption | with_reducible exact Q.refl _ | with_reducible refine Q.alloc ?_ _ | with_reducible refine Q.setCell ?_ (by (try simp only); first | with_reducible exact Nat.le_refl _ | with_reducible assumption | omega) _ | with_reducible refine Q.drew ?_)); done)))).mono ?_; rintro e5 w5 ⟨AS, cS, rfl, oS, q5⟩; obtain ⟨gS, rfl, hB⟩ := oS.split (show 0 < n + 2 by omega); have lS : gS < w5.heap.size := (oS.lt gS rfl).2; have hB2 := hB; simp only [World.size_alloc, World.size_drew] at hB2; (first | (have nS : gS ≠ wb.heap.size := ?hb; (case hb => omega)) | skip); have QR : Q wb w5 := Q.trans (by ((repeat (first | with_reducible assumption | with_reducible exact Q.refl _ | with_reducible refine Q.alloc ?_ _ | with_reducible refine Q.setCell ?_ (by (try simp only); first | with_reducible exact Nat.le_refl _ | with_reducible assumption | omega) _ | with_reducible refine Q.drew ?_)); done)) q5; have x0 : w5.cell? ⟨gS, k * 2, none⟩ = some (.int .i64 SX) := (oS.cell (by have := HSn.out; have := HNn.out; omega)).trans (by rw [show SL.getD (k * 2) 0 = el SL (k * 2) from rfl, HS1.out]); have y0 : w5.cell? ⟨gS, k * 2 + 1, none⟩ = some (.int .i64 SY) := (oS.cell (by have := HSn.out; have := HNn.out; omega)).trans (by rw [show SL.getD (k * 2 + 1) 0 = el SL (k * 2 + 1) from rfl, HS2.out]); have z5 := q5.size; have zR := QR.size; (first | (have BP : Blk w5 wb.heap.size 25 #[.int .i64 0, .int .i64 0] := ?hb; (case hb => (refine Blk.q ?_ q5; (repeat (first | with_reducible assumption | exact Blk.new _ _ _ | exact Blk.drew (Blk.new _ _ _) | refine Blk.alloc ?_ _)); done))) | skip); (first | (have bpc := BP.cell; have bpf := BP.frozen; have bpl := BP.lt) | skip)) | (go_at_call 41; with_reducible refine (KM.out _).mono ?_; rintro e6 w6 ⟨rfl, q6⟩; have QR2 : Q wb w6 := Q.trans (by ((repeat (first | with_reducible assumption | with_reducible exact Q.refl _ | with_reducible refine Q.alloc ?_ _ | with_reducible refine Q.setCell ?_ (by (try simp only); first | with_reducible exact Nat.le_refl _ | with_reducible assumption | omega) _ | with_reducible refine Q.drew ?_)); done)) q6; have zR2 := QR2.size; (first | (have BP2 : Blk w6 wb.heap.size 25 #[.int .i64 0, .int .i64 0] := ?hb; (case hb => (refine Blk.q ?_ q6; (repeat (first | with_reducible assumption | exact Blk.new _ _ _ | exact Blk.drew (Blk.new _ _ _) | refine Blk.alloc ?_ _)); done))) | (have BP2 : Blk w6 w5.heap.size 25 #[.int .i64 0, .int .i64 0] := ?hb; (case hb => (refine Blk.q ?_ q6; (repeat (first | with_reducible assumption | exact Blk.new _ _ _ | exact Blk.drew (Blk.new _ _ _) | refine Blk.alloc ?_ _)); done))) | skip); (first | (have bpc2 := BP2.cell; have bpf2 := BP2.frozen; have bpl2 := BP2.lt) | skip)))
                      refine hK.out _ _ ?_ (fun hHeld => ?_)
                      · (try dsimp only); first | with_reducible exact hS' _ QR2 | with_reducible exact hS' _ QR | with_reducible (refine hS' _ ?_; repeat first | assumption | exact Q.refl _ | refine Q.alloc ?_ _ | refine Q.setCell ?_ (by (try simp only); first | exact Nat.le_refl _ | assumption | omega) _ | refine Q.drew ?_)
                      clear hK K
                      refine wpAnyH_ready (rs := [9]) (by kernel_rfl) (by simp) ?_
                      refine AllReadyH.cons rfl (fun K hK => ?_) ?_
                      · go_simp
                        refine hK.out _ _ ?_ (fun hHeld => ?_)
                        · (try dsimp only); first | with_reducible exact hS' _ QR2 | with_reducible exact hS' _ QR | with_reducible (refine hS' _ ?_; repeat first | assumption | exact Q.refl _ | refine Q.alloc ?_ _ | refine Q.setCell ?_ (by (try simp only); first | exact Nat.le_refl _ | assumption | omega) _ | refine Q.drew ?_)
                        clear hK K
                        refine wpAnyH_done (by kernel_rfl) ?_ _
                        refine NoPanic.normal ?_
                        go_wp2_with fail
                        go_meet
                        all_goals (have RW := R0.q QR2; have MW := BM.q QR2; have Q3 := QB.trans QR2)
                        all_goals (first | (have PS := BP2.set2 (.int .i64 X) (.int .i64 Y)) | skip)
                        all_goals refine ⟨_, rfl, ?_, ?_, ?_, ?_, ?_⟩
                        all_goals first
                          | (clear QR QR2; omega)
                          | with_reducible exact Blk.new _ _ _
                          | with_reducible exact PS
                          | with_reducible exact MW.alloc _
                          | with_reducible exact RW.alloc _
                          | with_reducible exact Q3.alloc _
                          | with_reducible exact MW.far2 (by clear QR QR2; omega) _ _
                          | with_reducible exact RW.far2 (by clear QR QR2; omega) _ _
                          | with_reducible exact Q3.set2 (by clear QR QR2; omega) _ _
                      exact AllReadyH.nil
                    exact AllReadyH.nil
                  exact AllReadyH.nil
                refine AllReadyH.cons rfl (fun K hK => ?_) ?_
                · go_simp
                  refine hK.out _ _ ?_ (fun hHeld => ?_)
                  · (try dsimp only); first | with_reducible exact hS' _ QR2 | with_reducible exact hS' _ QR | with_reducible (refine hS' _ ?_; repeat first | assumption | exact Q.refl _ | refine Q.alloc ?_ _ | refine Q.setCell ?_ (by (try simp only); first | exact Nat.le_refl _ | assumption | omega) _ | refine Q.drew ?_)
                  clear hK K
                  refine wpAnyH_ready (rs := [6]) (by kernel_rfl) (by simp) ?_
                  refine AllReadyH.cons rfl (fun K hK => ?_) ?_
                  · go_simp
                    refine hK.out _ _ ?_ (fun hHeld => ?_)
                    · (try dsimp only); first | with_reducible exact hS' _ QR2 | with_reducible exact hS' _ QR | with_reducible (refine hS' _ ?_; repeat first | assumption | exact Q.refl _ | refine Q.alloc ?_ _ | refine Q.setCell ?_ (by (try simp only); first | exact Nat.le_refl _ | assumption | omega) _ | refine Q.drew ?_)
                    clear hK K
                    refine wpAnyH_ready (rs := [7]) (by kernel_rfl) (by simp) ?_
                    refine AllReadyH.cons rfl (fun K hK => ?_) ?_
                    · go_simp
                      (first | (go_at_call 37; refine (KS.out _ (haw.q (by ((repeat (first | with_reducible assumption | with_reducible exact Q.refl _ | with_reducible refine Q.alloc ?_ _ | with_reducible refine Q.setCell ?_ (by (try simp only); first | with_reducible exact Nat.le_refl _ | with_reducible assumption | omega) _ | with_reducible refine Q.drew ?_)); done)))).mono ?_; rintro e5 w5 ⟨AS, cS, rfl, oS, q5⟩; obtain ⟨gS, rfl, hB⟩ := oS.split (show 0 < n + 2 by omega); have lS : gS < w5.heap.size := (oS.lt gS rfl).2; have hB2 := hB; simp only [World.size_alloc, World.size_drew] at hB2; (first | (have nS : gS ≠ wb.heap.size := ?hb; (case hb => omega)) | skip); have QR : Q wb w5 := Q.trans (by ((repeat (first | with_reducible assumption | with_reducible exact Q.refl _ | with_reducible refine Q.alloc ?_ _ | with_reducible refine Q.setCell ?_ (by (try simp only); first | with_reducible exact Nat.le_refl _ | with_reducible assumption | omega) _ | with_reducible refine Q.drew ?_)); done)) q5; have x0 : w5.cell? ⟨gS, k * 2, none⟩ = some (.int .i64 SX) := (oS.cell (by have := HSn.out; have := HNn.out; omega)).trans (by rw [show SL.getD (k * 2) 0 = el SL (k * 2) from rfl, HS1.out]); have y0 : w5.cell? ⟨gS, k * 2 + 1, none⟩ = some (.int .i64 SY) := (oS.cell (by have := HSn.out; have := HNn.out; omega)).trans (by rw [show SL.getD (k * 2 + 1) 0 = el SL (k * 2 + 1) from rfl, HS2.out]); have z5 := q5.size; have zR := QR.size; (first | (have BP : Blk w5 wb.heap.size 25 #[.int .i64 0, .int .i64 0] := ?hb; (case hb => (refine Blk.q ?_ q5; (repeat (first | with_reducible assumption | exact Blk.new _ _ _ | exact Blk.drew (Blk.new _ _ _) | refine Blk.alloc ?_ _)); done))) | skip); (first | (have bpc := BP.cell; have bpf := BP.frozen; have bpl := BP.lt) | skip)) | (go_at_call 41; with_reducible refine (KM.out _).mono ?_; rintro e6 w6 ⟨rfl, q6⟩; have QR2 : Q wb w6 := Q.trans (by ((repeat (first | with_reducible assumption | with_reducible exact Q.refl _ | with_reducible refine Q.alloc ?_ _ | with_reducible refine Q.setCell ?_ (by (try simp only); first | with_reducible exact Nat.le_refl _ | with_reducible assumption | omega) _ | with_reducible refine Q.drew ?_)); done)) q6; have zR2 := QR2.size; (first | (have BP2 : Blk w6 wb.heap.size 25 #[.int .i64 0, .int .i64 0] := ?hb; (case hb => (refine Blk.q ?_ q6; (repeat (first | with_reducible assumption | exact Blk.new _ _ _ | exact Blk.drew (Blk.new _ _ _) | refine Blk.alloc ?_ _)); done))) | (have BP2 : Blk w6 w5.heap.size 25 #[.int .i64 0, .int .i64 0] := ?hb; (case hb => (refine Blk.q ?_ q6; (repeat (first | with_reducible assumption | exact Blk.new _ _ _ | exact Blk.drew (Blk.new _ _ _) | refine Blk.alloc ?_ _)); done))) | skip); (first | (have bpc2 := BP2.cell; have bpf2 := BP2.frozen; have bpl2 := BP2.lt) | skip)))
                      refine hK.out _ _ ?_ (fun hHeld => ?_)
                      · (try dsimp only); first | with_reducible exact hS' _ QR2 | with_reducible exact hS' _ QR | with_reducible (refine hS' _ ?_; repeat first | assumption | exact Q.refl _ | refine Q.alloc ?_ _ | refine Q.setCell ?_ (by (try simp only); first | exact Nat.le_refl _ | assumption | omega) _ | refine Q.drew ?_)
                      clear hK K
                      refine wpAnyH_ready (rs := [9]) (by kernel_rfl) (by simp) ?_
                      refine AllReadyH.cons rfl (fun K hK => ?_) ?_
                      · go_simp
                        refine hK.out _ _ ?_ (fun hHeld => ?_)
                        · (try dsimp only); first | with_reducible exact hS' _ QR2 | with_reducible exact hS' _ QR | with_reducible (refine hS' _ ?_; repeat first | assumption | exact Q.refl _ | refine Q.alloc ?_ _ | refine Q.setCell ?_ (by (try simp only); first | exact Nat.le_refl _ | assumption | omega) _ | refine Q.drew ?_)
                        clear hK K
                        refine wpAnyH_done (by kernel_rfl) ?_ _
                        refine NoPanic.normal ?_
                        go_wp2_with fail
                        go_meet
                        all_goals (have RW := R0.q QR2; have MW := BM.q QR2; have Q3 := QB.trans QR2)
                        all_goals (first | (have PS := BP2.set2 (.int .i64 X) (.int .i64 Y)) | skip)
                        all_goals refine ⟨_, rfl, ?_, ?_, ?_, ?_, ?_⟩
                        all_goals first
                          | (clear QR QR2; omega)
                          | with_reducible exact Blk.new _ _ _
                          | with_reducible exact PS
                          | with_reducible exact MW.alloc _
                          | with_reducible exact RW.alloc _
                          | with_reducible exact Q3.alloc _
                          | with_reducible exact MW.far2 (by clear QR QR2; omega) _ _
                          | with_reducible exact RW.far2 (by clear QR QR2; omega) _ _
                          | with_reducible exact Q3.set2 (by clear QR QR2; omega) _ _
                      exact AllReadyH.nil
                    exact AllReadyH.nil
                  exact AllReadyH.nil
                exact AllReadyH.nil
            refine AllReadyH.cons rfl (fun K hK => ?_) ?_
            · go_simp
              refine hK.out _ _ ?_ (fun hHeld => ?_)
              · (try dsimp only); first | with_reducible exact hS' _ QR2 | with_reducible exact hS' _ QR | with_reducible (refine hS' _ ?_; repeat first | assumption | exact Q.refl _ | refine Q.alloc ?_ _ | refine Q.setCell ?_ (by (try simp only); first | exact Nat.le_refl _ | assumption | omega) _ | refine Q.drew ?_)
              clear hK K
              refine wpAnyH_ready (rs := [3]) (by kernel_rfl) (by simp) ?_
              refine AllReadyH.cons rfl (fun K hK => ?_) ?_
              · go_simp
                (first | (go_at_call 37; refine (KS.out _ (haw.q (by ((repeat (first | with_reducible assumption | with_reducible exact Q.refl _ | with_reducible refine Q.alloc ?_ _ | with_reducible refine Q.setCell ?_ (by (try simp only); first | with_reducible exact Nat.le_refl _ | with_reducible assumption | omega) _ | with_reducible refine Q.drew ?_)); done)))).mono ?_; rintro e5 w5 ⟨AS, cS, rfl, oS, q5⟩; obtain ⟨gS, rfl, hB⟩ := oS.split (show 0 < n + 2 by omega); have lS : gS < w5.heap.size := (oS.lt gS rfl).2; have hB2 := hB; simp only [World.size_alloc, World.size_drew] at hB2; (first | (have nS : gS ≠ wb.heap.size := ?hb; (case hb => omega)) | skip); have QR : Q wb w5 := Q.trans (by ((repeat (first | with_reducible assumption | with_reducible exact Q.refl _ | with_reducible refine Q.alloc ?_ _ | with_reducible refine Q.setCell ?_ (by (try simp only); first | with_reducible exact Nat.le_refl _ | with_reducible assumption | omega) _ | with_reducible refine Q.drew ?_)); done)) q5; have x0 : w5.cell? ⟨gS, k * 2, none⟩ = some (.int .i64 SX) := (oS.cell (by have := HSn.out; have := HNn.out; omega)).trans (by rw [show SL.getD (k * 2) 0 = el SL (k * 2) from rfl, HS1.out]); have y0 : w5.cell? ⟨gS, k * 2 + 1, none⟩ = some (.int .i64 SY) := (oS.cell (by have := HSn.out; have := HNn.out; omega)).trans (by rw [show SL.getD (k * 2 + 1) 0 = el SL (k * 2 + 1) from rfl, HS2.out]); have z5 := q5.size; have zR := QR.size; (first | (have BP : Blk w5 wb.heap.size 25 #[.int .i64 0, .int .i64 0] := ?hb; (case hb => (refine Blk.q ?_ q5; (repeat (first | with_reducible assumption | exact Blk.new _ _ _ | exact Blk.drew (Blk.new _ _ _) | refine Blk.alloc ?_ _)); done))) | skip); (first | (have bpc := BP.cell; have bpf := BP.frozen; have bpl := BP.lt) | skip)) | (go_at_call 41; with_reducible refine (KM.out _).mono ?_; rintro e6 w6 ⟨rfl, q6⟩; have QR2 : Q wb w6 := Q.trans (by ((repeat (first | with_reducible assumption | with_reducible exact Q.refl _ | with_reducible refine Q.alloc ?_ _ | with_reducible refine Q.setCell ?_ (by (try simp only); first | with_reducible exact Nat.le_refl _ | with_reducible assumption | omega) _ | with_reducible refine Q.drew ?_)); done)) q6; have zR2 := QR2.size; (first | (have BP2 : Blk w6 wb.heap.size 25 #[.int .i64 0, .int .i64 0] := ?hb; (case hb => (refine Blk.q ?_ q6; (repeat (first | with_reducible assumption | exact Blk.new _ _ _ | exact Blk.drew (Blk.new _ _ _) | refine Blk.alloc ?_ _)); done))) | (have BP2 : Blk w6 w5.heap.size 25 #[.int .i64 0, .int .i64 0] := ?hb; (case hb => (refine Blk.q ?_ q6; (repeat (first | with_reducible assumption | exact Blk.new _ _ _ | exact Blk.drew (Blk.new _ _ _) | refine Blk.alloc ?_ _)); done))) | skip); (first | (have bpc2 := BP2.cell; have bpf2 := BP2.frozen; have bpl2 := BP2.lt) | skip)))
                refine hK.out _ _ ?_ (fun hHeld => ?_)
                · (try dsimp only); first | with_reducible exact hS' _ QR2 | with_reducible exact hS' _ QR | with_reducible (refine hS' _ ?_; repeat first | assumption | exact Q.refl _ | refine Q.alloc ?_ _ | refine Q.setCell ?_ (by (try simp only); first | exact Nat.le_refl _ | assumption | omega) _ | refine Q.drew ?_)
                clear hK K
                refine wpAnyH_take (i := 5) (v := ?v5x6) rfl (by kernel_rfl) (by kernel_rfl) (by kernel_rfl) (fun _ _ _ h => h) (Or.inl ⟨by rfl, ?y5x6⟩) (by assumption) ?t5x6
                case y5x6 => (intro w hSw; (try dsimp only at hSw); go_simp; try with_reducible rfl)
                case t5x6 =>
                  try simp only [Act.put, List.setIfInBounds_toArray, List.set_cons_zero, List.set_cons_succ]
                  refine wpAnyH_ready (rs := [6]) (by kernel_rfl) (by simp) ?_
                  refine AllReadyH.cons rfl (fun K hK => ?_) ?_
                  · go_simp
                    refine hK.out _ _ ?_ (fun hHeld => ?_)
                    · (try dsimp only); first | with_reducible exact hS' _ QR2 | with_reducible exact hS' _ QR | with_reducible (refine hS' _ ?_; repeat first | assumption | exact Q.refl _ | refine Q.alloc ?_ _ | refine Q.setCell ?_ (by (try simp only); first | exact Nat.le_refl _ | assumption | omega) _ | refine Q.drew ?_)
                    clear hK K
                    refine wpAnyH_ready (rs := [7]) (by kernel_rfl) (by simp) ?_
                    refine AllReadyH.cons rfl (fun K hK => ?_) ?_
                    · go_simp
                      (first | (go_at_call 37; refine (KS.out _ (haw.q (by ((repeat (first | with_reducible assumption | with_reducible exact Q.refl _ | with_reducible refine Q.alloc ?_ _ | with_reducible refine Q.setCell ?_ (by (try simp only); first | with_reducible exact Nat.le_refl _ | with_reducible assumption | omega) _ | with_reducible refine Q.drew ?_)); done)))).mono ?_; rintro e5 w5 ⟨AS, cS, rfl, oS, q5⟩; obtain ⟨gS, rfl, hB⟩ := oS.split (show 0 < n + 2 by omega); have lS : gS < w5.heap.size := (oS.lt gS rfl).2; have hB2 := hB; simp only [World.size_alloc, World.size_drew] at hB2; (first | (have nS : gS ≠ wb.heap.size := ?hb; (case hb => omega)) | skip); have QR : Q wb w5 := Q.trans (by ((repeat (first | with_reducible assumption | with_reducible exact Q.refl _ | with_reducible refine Q.alloc ?_ _ | with_reducible refine Q.setCell ?_ (by (try simp only); first | with_reducible exact Nat.le_refl _ | with_reducible assumption | omega) _ | with_reducible refine Q.drew ?_)); done)) q5; have x0 : w5.cell? ⟨gS, k * 2, none⟩ = some (.int .i64 SX) := (oS.cell (by have := HSn.out; have := HNn.out; omega)).trans (by rw [show SL.getD (k * 2) 0 = el SL (k * 2) from rfl, HS1.out]); have y0 : w5.cell? ⟨gS, k * 2 + 1, none⟩ = some (.int .i64 SY) := (oS.cell (by have := HSn.out; have := HNn.out; omega)).trans (by rw [show SL.getD (k * 2 + 1) 0 = el SL (k * 2 + 1) from rfl, HS2.out]); have z5 := q5.size; have zR := QR.size; (first | (have BP : Blk w5 wb.heap.size 25 #[.int .i64 0, .int .i64 0] := ?hb; (case hb => (refine Blk.q ?_ q5; (repeat (first | with_reducible assumption | exact Blk.new _ _ _ | exact Blk.drew (Blk.new _ _ _) | refine Blk.alloc ?_ _)); done))) | skip); (first | (have bpc := BP.cell; have bpf := BP.frozen; have bpl := BP.lt) | skip)) | (go_at_call 41; with_reducible refine (KM.out _).mono ?_; rintro e6 w6 ⟨rfl, q6⟩; have QR2 : Q wb w6 := Q.trans (by ((repeat (first | with_reducible assumption | with_reducible exact Q.refl _ | with_reducible refine Q.alloc ?_ _ | with_reducible refine Q.setCell ?_ (by (try simp only); first | with_reducible exact Nat.le_refl _ | with_reducible assumption | omega) _ | with_reducible refine Q.drew ?_)); done)) q6; have zR2 := QR2.size; (first | (have BP2 : Blk w6 wb.heap.size 25 #[.int .i64 0, .int .i64 0] := ?hb; (case hb => (refine Blk.q ?_ q6; (repeat (first | with_reducible assumption | exact Blk.new _ _ _ | exact Blk.drew (Blk.new _ _ _) | refine Blk.alloc ?_ _)); done))) | (have BP2 : Blk w6 w5.heap.size 25 #[.int .i64 0, .int .i64 0] := ?hb; (case hb => (refine Blk.q ?_ q6; (repeat (first | with_reducible assumption | exact Blk.new _ _ _ | exact Blk.drew (Blk.new _ _ _) | refine Blk.alloc ?_ _)); done))) | skip); (first | (have bpc2 := BP2.cell; have bpf2 := BP2.frozen; have bpl2 := BP2.lt) | skip)))
                      refine hK.out _ _ ?_ (fun hHeld => ?_)
                      · (try dsimp only); first | with_reducible exact hS' _ QR2 | with_reducible exact hS' _ QR | with_reducible (refine hS' _ ?_; repeat first | assumption | exact Q.refl _ | refine Q.alloc ?_ _ | refine Q.setCell ?_ (by (try simp only); first | exact Nat.le_refl _ | assumption | omega) _ | refine Q.drew ?_)
                      clear hK K
                      refine wpAnyH_ready (rs := [9]) (by kernel_rfl) (by simp) ?_
                      refine AllReadyH.cons rfl (fun K hK => ?_) ?_
                      · go_simp
                        refine hK.out _ _ ?_ (fun hHeld => ?_)
                        · (try dsimp only); first | with_reducible exact hS' _ QR2 | with_reducible exact hS' _ QR | with_reducible (refine hS' _ ?_; repeat first | assumption | exact Q.refl _ | refine Q.alloc ?_ _ | refine Q.setCell ?_ (by (try simp only); first | exact Nat.le_refl _ | assumption | omega) _ | refine Q.drew ?_)
                        clear hK K
                        refine wpAnyH_done (by kernel_rfl) ?_ _
                        refine NoPanic.normal ?_
                        go_wp2_with fail
                        go_meet
                        all_goals (have RW := R0.q QR2; have MW := BM.q QR2; have Q3 := QB.trans QR2)
                        all_goals (first | (have PS := BP2.set2 (.int .i64 X) (.int .i64 Y)) | skip)
                        all_goals refine ⟨_, rfl, ?_, ?_, ?_, ?_, ?_⟩
                        all_goals first
                          | (clear QR QR2; omega)
                          | with_reducible exact Blk.new _ _ _
                          | with_reducible exact PS
                          | with_reducible exact MW.alloc _
                          | with_reducible exact RW.alloc _
                          | with_reducible exact Q3.alloc _
                          | with_reducible exact MW.far2 (by clear QR QR2; omega) _ _
                          | with_reducible exact RW.far2 (by clear QR QR2; omega) _ _
                          | with_reducible exact Q3.set2 (by clear QR QR2; omega) _ _
                      exact AllReadyH.nil
                    exact AllReadyH.nil
                  exact AllReadyH.nil
              exact AllReadyH.nil
            exact AllReadyH.nil
  case rest =>
    clear KS haw hS' HS1 HS2 HSn lR B0 R0 KM BM
    obtain ⟨bp, rfl, hbp, BP, BM, RL, Q1⟩ := hcut
    have cP := BP.cell
    have cM := BM.cell
    have v6 : IntKind.i64.wrap (10 * m.zn) = 10 * m.zn := by rw [IntKind.wrap_i64]; omega
    have v7 : IntKind.i64.wrap (-(10 * m.zn)) = -(10 * m.zn) := by rw [IntKind.wrap_i64]; omega
    have v8 : IntKind.i64.wrap (Y * W) = Y * W := by rw [IntKind.wrap_i64]; omega
    have v9 : IntKind.i64.wrap (X * W) = X * W := by rw [IntKind.wrap_i64]; omega
    have va : IntKind.i64.wrap (m.x + Y * W / NN) = E := by rw [IntKind.wrap_i64, HEe.out]; omega
    have vb : IntKind.i64.wrap (m.y - X * W / NN) = F := by rw [IntKind.wrap_i64, HFe.out]; omega
    clear hq1 hq2 hm1 hm2 hd1 hd2
    go_wp2_with fail
    refine (KD.out _).mono ?_
    rintro e3 we ⟨rfl, q3⟩
    replace BP := BP.q q3
    replace BM := BM.q q3
    replace RL := RL.q q3
    replace Q1 := Q1.trans q3
    clear cP cM q3
    have cM := BM.cell
    go_wp2_with fail
    refine (KR.out _).mono ?_
    rintro e4 _ ⟨rfl, rfl⟩
    go_upto_region 5 with (fail)
    generalize 10 * m.zn = Z at *
    clear cM
    rcases hsd with hs | hs
    · have hWv : W = Z := by rw [HWe.out, if_neg (by omega)]
      have hLL : LL = (m.x, m.y, E, F) := by rw [HLe.out, if_neg (by omega)]
      subst hWv
      clear HXe HYe HWe HEe HFe HLe v6
      rw [hs] at BM
      have cM := BM.cell
      have lM := BM.lt
      go_upto_region 7 with (fail)
      have ln1 : w.heap.size + 1 + 1 ≠ we.heap.size := Nat.ne_of_lt BM.lt
      have ln2 : bp ≠ we.heap.size := Nat.ne_of_lt BP.lt
      have y1 : we.cell? ⟨w.heap.size + 1 + 1, 1, none⟩ = some (.int .i64 m.x) := BM.cell 1
      have y2 : we.cell? ⟨w.heap.size + 1 + 1, 2, none⟩ = some (.int .i64 m.y) := BM.cell 2
      have y3 : we.cell? ⟨bp, 0, none⟩ = some (.int .i64 X) := BP.cell 0
      have y4 : we.cell? ⟨bp, 1, none⟩ = some (.int .i64 Y) := BP.cell 1
      go_region_held3 (fun w' => w'.cell? ⟨w.heap.size + 1 + 1, 1, none⟩ = some (.int .i64 m.x) ∧ w'.cell? ⟨w.heap.size + 1 + 1, 2, none⟩ = some (.int .i64 m.y) ∧ w'.cell? ⟨bp, 0, none⟩ = some (.int .i64 X) ∧ w'.cell? ⟨bp, 1, none⟩ = some (.int .i64 Y)) (go_keep) (first | (go_at_call 44; first | (with_reducible refine (KF1.out _).mono ?_; rintro e7 w7 ⟨rfl, rfl⟩) | (with_reducible refine (KF2.out _).mono ?_; rintro e7 w7 ⟨rfl, rfl⟩)))
      all_goals
        clear y1 y2 y3 y4 ln1 ln2 cM lM
        have BE : Blk ((we.alloc (.cells #[.int .i64 E, .int .i64 F] 25)).drew) we.heap.size 25 #[.int .i64 E, .int .i64 F] := (Blk.new _ _ _).drew
        replace BM := (BM.alloc (.cells #[.int .i64 E, .int .i64 F] 25)).drew
        replace RL := (RL.alloc (.cells #[.int .i64 E, .int .i64 F] 25)).drew
        replace Q1 := (Q1.alloc (.cells #[.int .i64 E, .int .i64 F] 25)).drew
        generalize (we.alloc (.cells #[.int .i64 E, .int .i64 F] 25)).drew = wf at *
        have cM := BM.cell
        have cE := BE.cell
        have lM := BM.lt
        have lE := BE.lt
        go_upto_region 11 with (fail)
        have BL := Blk.new wf 27 #[.int .i64 m.x, .int .i64 m.y, .int .i64 E, .int .i64 F]
        have hne : w.heap.size + 1 ≠ wf.heap.size := Nat.ne_of_lt RL.lt
        have hne' : wf.heap.size ≠ w.heap.size + 1 := fun e => hne e.symm
        replace RL := RL.alloc (.cells #[.int .i64 m.x, .int .i64 m.y, .int .i64 E, .int .i64 F] 27)
        replace Q1 := Q1.alloc (.cells #[.int .i64 m.x, .int .i64 m.y, .int .i64 E, .int .i64 F] 27)
        generalize wf.alloc (.cells #[.int .i64 m.x, .int .i64 m.y, .int .i64 E, .int .i64 F] 27) = wg at *
        clear cM cE lM lE BE BM
        have cR := RL.cell
        have fR := RL.frozen
        have lR := RL.lt
        have lL := BL.lt
        have hS : ∀ w', Q wg w' → (w'.cell? ⟨wf.heap.size, 0, none⟩ = some (.int .i64 m.x) ∧ w'.cell? ⟨wf.heap.size, 1, none⟩ = some (.int .i64 m.y) ∧ w'.cell? ⟨wf.heap.size, 2, none⟩ = some (.int .i64 E) ∧ w'.cell? ⟨wf.heap.size, 3, none⟩ = some (.int .i64 F)) := fun w' q => ⟨(BL.q q).cell 0, (BL.q q).cell 1, (BL.q q).cell 2, (BL.q q).cell 3⟩
        go_region_held3 (fun w' => w'.cell? ⟨wf.heap.size, 0, none⟩ = some (.int .i64 m.x) ∧ w'.cell? ⟨wf.heap.size, 1, none⟩ = some (.int .i64 m.y) ∧ w'.cell? ⟨wf.heap.size, 2, none⟩ = some (.int .i64 E) ∧ w'.cell? ⟨wf.heap.size, 3, none⟩ = some (.int .i64 F)) (first | with_reducible exact hS _ QR9 | (with_reducible refine hS _ ?_; ((repeat (first | with_reducible assumption | with_reducible exact Q.refl _ | with_reducible refine Q.alloc ?_ _ | with_reducible refine Q.setCell ?_ (by (try simp only); first | with_reducible exact Nat.le_refl _ | with_reducible assumption | omega) _ | with_reducible refine Q.drew ?_)); done)) | (go_split_ands; first | with_reducible exact hS _ QR9 | (with_reducible refine hS _ ?_; ((repeat (first | with_reducible assumption | with_reducible exact Q.refl _ | with_reducible refine Q.alloc ?_ _ | with_reducible refine Q.setCell ?_ (by (try simp only); first | with_reducible exact Nat.le_refl _ | with_reducible assumption | omega) _ | with_reducible refine Q.drew ?_)); done))) | go_keep) (first | (go_at_call 34; with_reducible refine Calls.mono (KI.out _ _ _ _ _) ?_; rintro e9 w9 ⟨rfl, q9⟩; (first | (have QR9 : Q wg w9 := ?hb; (case hb => (refine Q.trans ?_ q9; ((repeat (first | with_reducible assumption | with_reducible exact Q.refl _ | with_reducible refine Q.alloc ?_ _ | with_reducible refine Q.setCell ?_ (by (try simp only); first | with_reducible exact Nat.le_refl _ | with_reducible assumption | omega) _ | with_reducible refine Q.drew ?_)); done)))) | skip); (first | (have RL9 : Blk w9 (w.heap.size + 1) 27 #[.int .i64 m.x, .int .i64 m.y, .int .i64 E, .int .i64 F] := ?hb; (case hb => (refine Blk.q ?_ q9; first | with_reducible exact RL.drew.set4R _ _ _ _ | with_reducible exact RL.set4R _ _ _ _))) | (have RL9 : Blk w9 (w.heap.size + 1) 27 #[.int .i64 0, .int .i64 0, .int .i64 0, .int .i64 0] := ?hb; (case hb => (refine Blk.q ?_ q9; first | with_reducible exact RL.drew | with_reducible exact RL)))); have c9 := RL9.cell; have f9 := RL9.frozen; have l9 := RL9.lt))
        all_goals go_wp2_with fail
        all_goals
          first
          | (have bf := (RL9.set4R (.int .i64 m.x) (.int .i64 m.y) (.int .i64 E) (.int .i64 F)).cell
             exact bodyPost_ret (v := .tuple #[.agg #[.int .i64 m.x, .int .i64 m.y, .int .i64 E, .int .i64 F], .bool (lnB m.x m.y E F)]) (by simp [results, Tryz.results75, go_sem, bf]) rfl ⟨by rw [hLL], (((((Q0.trans (Q1.trans QR9)).setCell (p := ⟨w.heap.size + 1, 0, none⟩) (Nat.le_add_right _ 1) _).setCell (p := ⟨w.heap.size + 1, 1, none⟩) (Nat.le_add_right _ 1) _).setCell (p := ⟨w.heap.size + 1, 2, none⟩) (Nat.le_add_right _ 1) _).setCell (p := ⟨w.heap.size + 1, 3, none⟩) (Nat.le_add_right _ 1) _)⟩)
          | (exact bodyPost_ret (v := .tuple #[.agg #[.int .i64 m.x, .int .i64 m.y, .int .i64 E, .int .i64 F], .bool (lnB m.x m.y E F)]) (by simp [results, Tryz.results75, go_sem, c9]) rfl ⟨by rw [hLL], Q.trans (by first | with_reducible exact (((((Q0.trans Q1).drew.setCell (p := ⟨w.heap.size + 1, 0, none⟩) (Nat.le_add_right _ 1) _).setCell (p := ⟨w.heap.size + 1, 1, none⟩) (Nat.le_add_right _ 1) _).setCell (p := ⟨w.heap.size + 1, 2, none⟩) (Nat.le_add_right _ 1) _).setCell (p := ⟨w.heap.size + 1, 3, none⟩) (Nat.le_add_right _ 1) _) | with_reducible exact (((((Q0.trans Q1).setCell (p := ⟨w.heap.size + 1, 0, none⟩) (Nat.le_add_right _ 1) _).setCell (p := ⟨w.heap.size + 1, 1, none⟩) (Nat.le_add_right _ 1) _).setCell (p := ⟨w.heap.size + 1, 2, none⟩) (Nat.le_add_right _ 1) _).setCell (p := ⟨w.heap.size + 1, 3, none⟩) (Nat.le_add_right _ 1) _)) q9⟩)
    have hWv : W = -Z := by rw [HWe.out, if_pos hs]
    have hLL : LL = (E, F, m.x, m.y) := by rw [HLe.out, if_pos hs]
    replace v7 := v7.trans hWv.symm
    clear hWv
    clear HXe HYe HWe HEe HFe HLe v6
    rw [hs] at BM
    have cM := BM.cell
    have lM := BM.lt
    go_upto_region 7 with (fail)
    have ln1 : w.heap.size + 1 + 1 ≠ we.heap.size := Nat.ne_of_lt BM.lt
    have ln2 : bp ≠ we.heap.size := Nat.ne_of_lt BP.lt
    have y1 : we.cell? ⟨w.heap.size + 1 + 1, 1, none⟩ = some (.int .i64 m.x) := BM.cell 1
    have y2 : we.cell? ⟨w.heap.size + 1 + 1, 2, none⟩ = some (.int .i64 m.y) := BM.cell 2
    have y3 : we.cell? ⟨bp, 0, none⟩ = some (.int .i64 X) := BP.cell 0
    have y4 : we.cell? ⟨bp, 1, none⟩ = some (.int .i64 Y) := BP.cell 1
    go_region_held3 (fun w' => w'.cell? ⟨w.heap.size + 1 + 1, 1, none⟩ = some (.int .i64 m.x) ∧ w'.cell? ⟨w.heap.size + 1 + 1, 2, none⟩ = some (.int .i64 m.y) ∧ w'.cell? ⟨bp, 0, none⟩ = some (.int .i64 X) ∧ w'.cell? ⟨bp, 1, none⟩ = some (.int .i64 Y)) (go_keep) (first | (go_at_call 44; first | (with_reducible refine (KF1.out _).mono ?_; rintro e7 w7 ⟨rfl, rfl⟩) | (with_reducible refine (KF2.out _).mono ?_; rintro e7 w7 ⟨rfl, rfl⟩)))
    all_goals
      clear y1 y2 y3 y4 ln1 ln2 cM lM
      have BE : Blk ((we.alloc (.cells #[.int .i64 E, .int .i64 F] 25)).drew) we.heap.size 25 #[.int .i64 E, .int .i64 F] := (Blk.new _ _ _).drew
      replace BM := (BM.alloc (.cells #[.int .i64 E, .int .i64 F] 25)).drew
      replace RL := (RL.alloc (.cells #[.int .i64 E, .int .i64 F] 25)).drew
      replace Q1 := (Q1.alloc (.cells #[.int .i64 E, .int .i64 F] 25)).drew
      generalize (we.alloc (.cells #[.int .i64 E, .int .i64 F] 25)).drew = wf at *
      have cM := BM.cell
      have cE := BE.cell
      have lM := BM.lt
      have lE := BE.lt
      go_upto_region 11 with (fail)
      have BL := Blk.new wf 27 #[.int .i64 E, .int .i64 F, .int .i64 m.x, .int .i64 m.y]
      have hne : w.heap.size + 1 ≠ wf.heap.size := Nat.ne_of_lt RL.lt
      have hne' : wf.heap.size ≠ w.heap.size + 1 := fun e => hne e.symm
      replace RL := RL.alloc (.cells #[.int .i64 E, .int .i64 F, .int .i64 m.x, .int .i64 m.y] 27)
      replace Q1 := Q1.alloc (.cells #[.int .i64 E, .int .i64 F, .int .i64 m.x, .int .i64 m.y] 27)
      generalize wf.alloc (.cells #[.int .i64 E, .int .i64 F, .int .i64 m.x, .int .i64 m.y] 27) = wg at *
      clear cM cE lM lE BE BM
      have cR := RL.cell
      have fR := RL.frozen
      have lR := RL.lt
      have lL := BL.lt
      have hS : ∀ w', Q wg w' → (w'.cell? ⟨wf.heap.size, 0, none⟩ = some (.int .i64 E) ∧ w'.cell? ⟨wf.heap.size, 1, none⟩ = some (.int .i64 F) ∧ w'.cell? ⟨wf.heap.size, 2, none⟩ = some (.int .i64 m.x) ∧ w'.cell? ⟨wf.heap.size, 3, none⟩ = some (.int .i64 m.y)) := fun w' q => ⟨(BL.q q).cell 0, (BL.q q).cell 1, (BL.q q).cell 2, (BL.q q).cell 3⟩
      go_region_held3 (fun w' => w'.cell? ⟨wf.heap.size, 0, none⟩ = some (.int .i64 E) ∧ w'.cell? ⟨wf.heap.size, 1, none⟩ = some (.int .i64 F) ∧ w'.cell? ⟨wf.heap.size, 2, none⟩ = some (.int .i64 m.x) ∧ w'.cell? ⟨wf.heap.size, 3, none⟩ = some (.int .i64 m.y)) (first | with_reducible exact hS _ QR9 | (with_reducible refine hS _ ?_; ((repeat (first | with_reducible assumption | with_reducible exact Q.refl _ | with_reducible refine Q.alloc ?_ _ | with_reducible refine Q.setCell ?_ (by (try simp only); first | with_reducible exact Nat.le_refl _ | with_reducible assumption | omega) _ | with_reducible refine Q.drew ?_)); done)) | (go_split_ands; first | with_reducible exact hS _ QR9 | (with_reducible refine hS _ ?_; ((repeat (first | with_reducible assumption | with_reducible exact Q.refl _ | with_reducible refine Q.alloc ?_ _ | with_reducible refine Q.setCell ?_ (by (try simp only); first | with_reducible exact Nat.le_refl _ | with_reducible assumption | omega) _ | with_reducible refine Q.drew ?_)); done))) | go_keep) (first | (go_at_call 34; with_reducible refine Calls.mono (KI.out _ _ _ _ _) ?_; rintro e9 w9 ⟨rfl, q9⟩; (first | (have QR9 : Q wg w9 := ?hb; (case hb => (refine Q.trans ?_ q9; ((repeat (first | with_reducible assumption | with_reducible exact Q.refl _ | with_reducible refine Q.alloc ?_ _ | with_reducible refine Q.setCell ?_ (by (try simp only); first | with_reducible exact Nat.le_refl _ | with_reducible assumption | omega) _ | with_reducible refine Q.drew ?_)); done)))) | skip); (first | (have RL9 : Blk w9 (w.heap.size + 1) 27 #[.int .i64 E, .int .i64 F, .int .i64 m.x, .int .i64 m.y] := ?hb; (case hb => (refine Blk.q ?_ q9; first | with_reducible exact RL.drew.set4R _ _ _ _ | with_reducible exact RL.set4R _ _ _ _))) | (have RL9 : Blk w9 (w.heap.size + 1) 27 #[.int .i64 0, .int .i64 0, .int .i64 0, .int .i64 0] := ?hb; (case hb => (refine Blk.q ?_ q9; first | with_reducible exact RL.drew | with_reducible exact RL)))); have c9 := RL9.cell; have f9 := RL9.frozen; have l9 := RL9.lt))
      all_goals go_wp2_with fail
      all_goals
        first
        | (have bf := (RL9.set4R (.int .i64 E) (.int .i64 F) (.int .i64 m.x) (.int .i64 m.y)).cell
           exact bodyPost_ret (v := .tuple #[.agg #[.int .i64 E, .int .i64 F, .int .i64 m.x, .int .i64 m.y], .bool (lnB E F m.x m.y)]) (by simp [results, Tryz.results75, go_sem, bf]) rfl ⟨by rw [hLL], (((((Q0.trans (Q1.trans QR9)).setCell (p := ⟨w.heap.size + 1, 0, none⟩) (Nat.le_add_right _ 1) _).setCell (p := ⟨w.heap.size + 1, 1, none⟩) (Nat.le_add_right _ 1) _).setCell (p := ⟨w.heap.size + 1, 2, none⟩) (Nat.le_add_right _ 1) _).setCell (p := ⟨w.heap.size + 1, 3, none⟩) (Nat.le_add_right _ 1) _)⟩)
        | (exact bodyPost_ret (v := .tuple #[.agg #[.int .i64 E, .int .i64 F, .int .i64 m.x, .int .i64 m.y], .bool (lnB E F m.x m.y)]) (by simp [results, Tryz.results75, go_sem, c9]) rfl ⟨by rw [hLL], Q.trans (by first | with_reducible exact (((((Q0.trans Q1).drew.setCell (p := ⟨w.heap.size + 1, 0, none⟩) (Nat.le_add_right _ 1) _).setCell (p := ⟨w.heap.size + 1, 1, none⟩) (Nat.le_add_right _ 1) _).setCell (p := ⟨w.heap.size + 1, 2, none⟩) (Nat.le_add_right _ 1) _).setCell (p := ⟨w.heap.size + 1, 3, none⟩) (Nat.le_add_right _ 1) _) | with_reducible exact (((((Q0.trans Q1).setCell (p := ⟨w.heap.size + 1, 0, none⟩) (Nat.le_add_right _ 1) _).setCell (p := ⟨w.heap.size + 1, 1, none⟩) (Nat.le_add_right _ 1) _).setCell (p := ⟨w.heap.size + 1, 2, none⟩) (Nat.le_add_right _ 1) _).setCell (p := ⟨w.heap.size + 1, 3, none⟩) (Nat.le_add_right _ 1) _)) q9⟩)
end Go.Proofs.YteofhfefbphjdaaGreatDoor
