/- Walks: the reading of an incident, as the program does it. Condition: what the library's variables hold (Env). -/
import Derived.Test.YtgdjgjkijcmkfaaDoorRfI
import Derived.Test.YtgdjgjkijcmkfaaDoorRcP
import Derived.Test.YtgdjgjkijcmkfaaDoorDraw12
import Derived.Deep.RegionHeld3
namespace Go.Proofs.YtgdjgjkijcmkfaaDoor
open Go.RowKit Go.WideShapes Go.ChangeShapes Go.Deep
set_option maxRecDepth 100000 in
set_option maxHeartbeats 4000000 in
theorem impl_RI4 (s x y z u : ByteArray) (hP : pcs 32 s = [x, y, z, u]) (t a b q r : Int) (k : Bool) (h : IncR s t a b q r k) (hs : s.size ≤ 1048576) (w : World) (hE : Env w) :
    Calls Tryd.prog 39 #[.string s] w fun e w' => e = .returned (.tuple #[.agg #[.int .i64 t, .int .i64 a, .int .i64 b, .int .i64 q, .int .i64 r], .bool k]) ∧ Q w w' := by
  have R0 := Blk.new w 38 #[.int .i64 0, .int .i64 0, .int .i64 0, .int .i64 0, .int .i64 0]
  have Q0 : Q w (w.alloc (.cells #[.int .i64 0, .int .i64 0, .int .i64 0, .int .i64 0, .int .i64 0] 38)) := by (repeat (first | assumption | exact Q.refl _ | refine Q.alloc ?_ _ | refine Q.drewN ?_ _ | refine Q.drew ?_))
  have E0 := hE.q Q0
  have K0 := Lib.hid (fun wv (hv : Env wv) => words_blk s hs _ hP wv hv)
  have hall : ∀ pp ∈ [x, y, z, u], pp.size ≤ 1048576 := fun pp hu => Nat.le_trans (pcs_le (by rw [hP]; exact hu)) hs
  obtain ⟨t1, k1, r1⟩ := TimR.ex x
  have K1 := Lib.hid (fun wv (hv : Env wv) => impl_ReadTime x t1 k1 r1 (hall x (by simp)) wv hv)
  have K2 := Lib.hid (fun g wv (hv : Env wv) hB => impl_numbersOf [x, y, z, u] g 4 rfl (by omega) hall wv hv hB)
  have HI := Lib.hid (fun (t' a' b' q' j : Int) h1 h2 => IncR.hit (s := s) (t' := t') (a' := a') (b' := b') (q' := q') (r' := j) h h1 h2)
  have HN := Lib.hid (fun hn => h.none hP r1 hn)
  have HC : Hid (∀ wv g, Blk wv g 9 ([x, y, z, u].map Value.string).toArray → wv.cell? ⟨g, 0, none⟩ = some (.string x) ∧ ∀ j pp, [x, y, z, u][j]? = some pp → wv.cell? ⟨g, j, none⟩ = some (.string pp)) := Lib.hid (fun wv g B => ⟨by simpa using B.cell 0, fun j pp hu => by
    have := B.cell j
    rw [this]
    simp only [List.getElem?_toArray, List.getElem?_map, hu, Option.map_some]⟩)
  clear h r1 hall hs hP
  simp only [List.length_cons, List.length_nil, Nat.zero_add, Nat.reduceAdd] at K0
  have HL : Hid (([x, y, z, u].map nvI).getD 1 0 = nvI y ∧ ([x, y, z, u].map nvI).getD 2 0 = nvI z ∧ ([x, y, z, u].map nvI).getD 3 0 = nvI u) := Lib.hid ⟨rfl, rfl, rfl⟩
  rw [show qI [u] = (-1) from rfl] at HN
  generalize ([x, y, z, u].map Value.string).toArray = CS at *
  generalize [x, y, z, u].map nvI = L at *
  generalize nvI y = n1 at *
  generalize nvI z = n2 at *
  generalize nvI u = n3 at *
  go_enter Tryd.func39, Tryd.ntmps39
  go_wp2_with fail
  refine (K0.out _ E0).mono ?_
  rintro e w1 ⟨g, rfl, B1, hg, q1⟩
  have E1 := E0.q q1
  have Q1 := Q0.trans q1
  replace R0 := R0.q q1
  obtain ⟨c0, cj⟩ := HC.out _ _ B1
  have l1 := B1.lt
  clear E0 Q0 q1 K0 HC
  go_wp2_with fail
  refine (K1.out _ E1).mono ?_
  rintro e w2 ⟨rfl, q2⟩
  have E2 := E1.q q2
  have Q2 := Q1.trans q2
  replace R0 := R0.q q2
  replace cj := fun j u hu => q2.cell (cj j u hu)
  clear E1 Q1 q2 c0 B1
  go_wp2_with fail
  refine (K2.out g _ E2 cj).mono ?_
  rintro e w3 ⟨A3, d3, rfl, o3, q3⟩
  have Q3 := Q2.trans q3
  replace R0 := R0.q q3
  clear E2 Q2 q3 cj K1 K2
  obtain ⟨g3, rfl, _⟩ := o3.split (by omega)
  have c1 : w3.cell? ⟨g3, 1, none⟩ = some (.int .i64 n1) := by have := o3.cell (j := 1) (by omega); rw [HL.out.1] at this; exact this
  have c2 : w3.cell? ⟨g3, 2, none⟩ = some (.int .i64 n2) := by have := o3.cell (j := 2) (by omega); rw [HL.out.2.1] at this; exact this
  have c3 : w3.cell? ⟨g3, 3, none⟩ = some (.int .i64 n3) := by have := o3.cell (j := 3) (by omega); rw [HL.out.2.2] at this; exact this
  have l3 := (o3.from _ rfl).2
  have hwb : w.heap.size < w3.heap.size := R0.lt
  clear o3 HL
  go_upto_region 7 with (fail)
  go_cut [9] from 10 (fun p wc => ∃ bx, p = .pointer (some ⟨bx, 0, none⟩) ∧ w.heap.size < bx ∧ Blk wc bx 38 #[.int .i64 t1, .int .i64 n1, .int .i64 n2, .int .i64 (-1), .int .i64 5] ∧ Blk wc w.heap.size 38 #[.int .i64 0, .int .i64 0, .int .i64 0, .int .i64 0, .int .i64 0] ∧ Q w wc ∧ Q w3 wc)
  case first =>
    have hS : ∀ w', Q w3 w' → (Q w3 w' ∧ w'.cell? ⟨g3, 1, none⟩ = some (.int .i64 n1) ∧ w'.cell? ⟨g3, 2, none⟩ = some (.int .i64 n2)) := fun w' q => ⟨q, q.cell c1, q.cell c2⟩
    go_wp2_with fail
    go_region_held3 (fun w' => Q w3 w' ∧ w'.cell? ⟨g3, 1, none⟩ = some (.int .i64 n1) ∧ w'.cell? ⟨g3, 2, none⟩ = some (.int .i64 n2)) (exact hS _ (by with_reducible first | assumption | exact (Q.refl _).drew | exact (Q.refl _).alloc _ | exact (Q.refl _).drew.alloc _ | exact ((Q.refl _).alloc _).drew | exact Q.refl _)) (first | fail)
    all_goals (go_wp2_with fail; go_meet)
    all_goals exact ⟨_, rfl, hwb, by first | exact (Blk.new _ _ _).drew | exact Blk.new _ _ _, by first | exact (R0.alloc _).drew | exact R0.alloc _, by first | exact (Q3.alloc _).drew | exact Q3.alloc _, by first | exact ((Q.refl _).alloc _).drew | exact (Q.refl _).alloc _⟩
  case rest =>
    clear R0
    obtain ⟨bx, rfl, hbx, BX, R0, Q4, q34⟩ := hcut
    rename_i w4
    replace c3 := q34.cell c3
    replace l3 := Nat.lt_of_lt_of_le l3 q34.size
    clear c1 c2 q34 Q3 hwb
    have cX := BX.cell
    have fX := BX.frozen
    have lX := BX.lt
    go_upto_if 40 with (fail)
    go_cut [] from 10 (fun wc => Blk wc bx 38 #[.int .i64 t1, .int .i64 n1, .int .i64 n2, .int .i64 (-1), .int .i64 5] ∧ Blk wc w.heap.size 38 #[.int .i64 0, .int .i64 0, .int .i64 0, .int .i64 0, .int .i64 0] ∧ Q w wc)
    case first =>
      go_wp2_with fail
      go_meet
      exact ⟨BX, R0, Q4⟩
    case rest =>
      clear R0 BX cX fX lX c3 l3 Q4
      obtain ⟨BX, R0, Q5⟩ := hcut
      go_wp2_with fail
      go_loopw [10] (fun i wr => ∃ j : Nat, 1 ≤ j ∧ j ≤ 6 ∧ i = .int .i64 j ∧ (∃ y5, Blk wr bx 38 #[.int .i64 t1, .int .i64 n1, .int .i64 n2, .int .i64 (-1), .int .i64 y5]) ∧ Blk wr w.heap.size 38 #[.int .i64 0, .int .i64 0, .int .i64 0, .int .i64 0, .int .i64 0] ∧ Q w wr ∧ Hid (∀ m : Int, 1 ≤ m → m < j → ¬ (k1 = true ∧ isInc t1 n1 n2 (-1) m = true ∧ incT t1 n1 n2 (-1) m = s))) (fun i _ => 6 - (intOf i).toNat)
      case atStart => exact ⟨1, by omega, by omega, rfl, ⟨5, BX⟩, R0, Q5, Lib.hid (fun m h1 h2 => by omega)⟩
      case round =>
        clear BX R0 Q5
        obtain ⟨j, hj1, hj6, rfl, ⟨y5, BX⟩, R0, hq, HM⟩ := hrel
        have lX := BX.lt
        have cX := BX.cell
        have fX := BX.frozen
        by_cases hlt : j ≤ 5
        · have hltI : (j : Int) ≤ 5 := by omega
          have HS : Hid (¬ (k1 = true ∧ isInc t1 n1 n2 (-1) j = true ∧ incT t1 n1 n2 (-1) j = s) → ∀ m : Int, 1 ≤ m → m < ((j + 1 : Nat) : Int) → ¬ (k1 = true ∧ isInc t1 n1 n2 (-1) m = true ∧ incT t1 n1 n2 (-1) m = s)) := Lib.hid (fun h m h1 h2 => by
            by_cases hm : m < j
            · exact HM.out m h1 hm
            · obtain rfl : m = j := by omega
              exact h)
          go_upto_region 14 with (fail)
          replace BX := BX.s5_4 (.int .i64 j)
          replace R0 := R0.far (p := ⟨bx, 4, none⟩) (by simp; omega) (.int .i64 j)
          replace hq := Q.setCell (p := ⟨bx, 4, none⟩) hq (Nat.le_of_lt hbx) (.int .i64 j)
          clear cX fX lX
          generalize wr.setCell ⟨bx, 4, none⟩ (.int .i64 j) = ws at *
          have lX := BX.lt
          have cX := BX.cell
          have Es := hE.q hq
          have K4 := Lib.hid (fun wv => impl_isIncident t1 n1 n2 (-1) j wv)
          have K5 := Lib.hid (fun wv (h : Tbl wv) => impl_IncidentText t1 n1 n2 (-1) j wv h)
          have HH := Lib.hid (HI.out t1 n1 n2 (-1) j)
          generalize isInc t1 n1 n2 (-1) j = FB at K4 HS HH
          generalize incT t1 n1 n2 (-1) j = S at K5 HS HH
          clear HM
          cases k1
          · go_wp2_with fail
            go_roundw
            case rel => exact ⟨j + 1, by omega, by omega, by go_num, ⟨_, BX⟩, R0, hq, Lib.hid (HS.out (by simp))⟩
            case measure => simp [intOf]; omega
          · go_wp2_with fail
            refine (K4.out _).mono ?_
            rintro e w6 ⟨rfl, q6⟩
            replace BX := BX.q q6
            replace R0 := R0.q q6
            replace hq := hq.trans q6
            replace Es := Es.q q6
            clear lX cX q6
            have lX := BX.lt
            have cX := BX.cell
            cases FB
            · go_wp2_with fail
              go_roundw
              case rel => exact ⟨j + 1, by omega, by omega, by go_num, ⟨_, BX⟩, R0, hq, Lib.hid (HS.out (by simp))⟩
              case measure => simp [intOf]; omega
            · go_wp2_with fail
              refine (K5.out _ Es.tbl).mono ?_
              rintro e w7 ⟨rfl, q7⟩
              replace BX := BX.q q7
              replace R0 := R0.q q7
              replace hq := hq.trans q7
              clear lX cX q7 Es
              have lX := BX.lt
              have cX := BX.cell
              have cR := R0.cell
              have fR := R0.frozen
              have lR := R0.lt
              by_cases hS : S = s
              · obtain ⟨rfl, rfl, rfl, rfl, rfl, rfl⟩ := HH.out (by trivial) hS
                subst hS
                clear HS HN HI HH
                go_wp2_with fail
                have F := (((((R0.s5_0 (.int .i64 t)).s5_1 (.int .i64 a)).s5_2 (.int .i64 b)).s5_3 (.int .i64 (-1))).s5_4 (.int .i64 j)).cell
                refine bodyPost_ret (v := .tuple #[.agg #[.int .i64 t, .int .i64 a, .int .i64 b, .int .i64 (-1), .int .i64 j], .bool true]) (by simp [results, Tryd.results39, go_sem, F]) rfl ⟨rfl, ?_⟩
                exact (((((hq.setCell (Nat.le_refl _) _).setCell (Nat.le_refl _) _).setCell (Nat.le_refl _) _).setCell (Nat.le_refl _) _).setCell (Nat.le_refl _) _)
              · have hS' := str_ne hS
                have HS' := Lib.hid (HS.out (fun h => hS h.2.2))
                clear hS HS HH
                go_wp2_with fail
                go_roundw
                case rel => exact ⟨j + 1, by omega, by omega, by go_num, ⟨_, BX⟩, R0, hq, HS'⟩
                case measure => simp [intOf]; omega
        · obtain rfl : j = 6 := by omega
          obtain ⟨rfl, rfl, rfl, rfl, rfl, rfl⟩ := HN.out (fun m h1 h2 => HM.out m h1 (by omega))
          clear HM HN HI
          have cR := R0.cell
          have fR := R0.frozen
          have lR := R0.lt
          go_wp2_with fail
          have F := (((((R0.s5_0 (.int .i64 0)).s5_1 (.int .i64 0)).s5_2 (.int .i64 0)).s5_3 (.int .i64 0)).s5_4 (.int .i64 0)).cell
          refine bodyPost_ret (v := .tuple #[.agg #[.int .i64 0, .int .i64 0, .int .i64 0, .int .i64 0, .int .i64 0], .bool false]) (by simp [results, Tryd.results39, go_sem, F]) rfl ⟨rfl, ?_⟩
          exact (((((hq.setCell (Nat.le_refl _) _).setCell (Nat.le_refl _) _).setCell (Nat.le_refl _) _).setCell (Nat.le_refl _) _).setCell (Nat.le_refl _) _)
set_option maxRecDepth 100000 in
set_option maxHeartbeats 4000000 in
theorem impl_RI5 (s x y z u v : ByteArray) (hP : pcs 32 s = [x, y, z, u, v]) (t a b q r : Int) (k : Bool) (h : IncR s t a b q r k) (hs : s.size ≤ 1048576) (w : World) (hE : Env w) :
    Calls Tryd.prog 39 #[.string s] w fun e w' => e = .returned (.tuple #[.agg #[.int .i64 t, .int .i64 a, .int .i64 b, .int .i64 q, .int .i64 r], .bool k]) ∧ Q w w' := by
  have R0 := Blk.new w 38 #[.int .i64 0, .int .i64 0, .int .i64 0, .int .i64 0, .int .i64 0]
  have Q0 : Q w (w.alloc (.cells #[.int .i64 0, .int .i64 0, .int .i64 0, .int .i64 0, .int .i64 0] 38)) := by (repeat (first | assumption | exact Q.refl _ | refine Q.alloc ?_ _ | refine Q.drewN ?_ _ | refine Q.drew ?_))
  have E0 := hE.q Q0
  have K0 := Lib.hid (fun wv (hv : Env wv) => words_blk s hs _ hP wv hv)
  have hall : ∀ pp ∈ [x, y, z, u, v], pp.size ≤ 1048576 := fun pp hu => Nat.le_trans (pcs_le (by rw [hP]; exact hu)) hs
  obtain ⟨t1, k1, r1⟩ := TimR.ex x
  have K1 := Lib.hid (fun wv (hv : Env wv) => impl_ReadTime x t1 k1 r1 (hall x (by simp)) wv hv)
  have K2 := Lib.hid (fun g wv (hv : Env wv) hB => impl_numbersOf [x, y, z, u, v] g 5 rfl (by omega) hall wv hv hB)
  have HI := Lib.hid (fun (t' a' b' q' j : Int) h1 h2 => IncR.hit (s := s) (t' := t') (a' := a') (b' := b') (q' := q') (r' := j) h h1 h2)
  have HN := Lib.hid (fun hn => h.none hP r1 hn)
  have HC : Hid (∀ wv g, Blk wv g 9 ([x, y, z, u, v].map Value.string).toArray → wv.cell? ⟨g, 0, none⟩ = some (.string x) ∧ ∀ j pp, [x, y, z, u, v][j]? = some pp → wv.cell? ⟨g, j, none⟩ = some (.string pp)) := Lib.hid (fun wv g B => ⟨by simpa using B.cell 0, fun j pp hu => by
    have := B.cell j
    rw [this]
    simp only [List.getElem?_toArray, List.getElem?_map, hu, Option.map_some]⟩)
  clear h r1 hall hs hP
  simp only [List.length_cons, List.length_nil, Nat.zero_add, Nat.reduceAdd] at K0
  have HL : Hid (([x, y, z, u, v].map nvI).getD 1 0 = nvI y ∧ ([x, y, z, u, v].map nvI).getD 2 0 = nvI z ∧ ([x, y, z, u, v].map nvI).getD 3 0 = nvI u) := Lib.hid ⟨rfl, rfl, rfl⟩
  rw [show qI [u, v] = nvI u from rfl] at HN
  generalize ([x, y, z, u, v].map Value.string).toArray = CS at *
  generalize [x, y, z, u, v].map nvI = L at *
  generalize nvI y = n1 at *
  generalize nvI z = n2 at *
  generalize nvI u = n3 at *
  go_enter Tryd.func39, Tryd.ntmps39
  go_wp2_with fail
  refine (K0.out _ E0).mono ?_
  rintro e w1 ⟨g, rfl, B1, hg, q1⟩
  have E1 := E0.q q1
  have Q1 := Q0.trans q1
  replace R0 := R0.q q1
  obtain ⟨c0, cj⟩ := HC.out _ _ B1
  have l1 := B1.lt
  clear E0 Q0 q1 K0 HC
  go_wp2_with fail
  refine (K1.out _ E1).mono ?_
  rintro e w2 ⟨rfl, q2⟩
  have E2 := E1.q q2
  have Q2 := Q1.trans q2
  replace R0 := R0.q q2
  replace cj := fun j u hu => q2.cell (cj j u hu)
  clear E1 Q1 q2 c0 B1
  go_wp2_with fail
  refine (K2.out g _ E2 cj).mono ?_
  rintro e w3 ⟨A3, d3, rfl, o3, q3⟩
  have Q3 := Q2.trans q3
  replace R0 := R0.q q3
  clear E2 Q2 q3 cj K1 K2
  obtain ⟨g3, rfl, _⟩ := o3.split (by omega)
  have c1 : w3.cell? ⟨g3, 1, none⟩ = some (.int .i64 n1) := by have := o3.cell (j := 1) (by omega); rw [HL.out.1] at this; exact this
  have c2 : w3.cell? ⟨g3, 2, none⟩ = some (.int .i64 n2) := by have := o3.cell (j := 2) (by omega); rw [HL.out.2.1] at this; exact this
  have c3 : w3.cell? ⟨g3, 3, none⟩ = some (.int .i64 n3) := by have := o3.cell (j := 3) (by omega); rw [HL.out.2.2] at this; exact this
  have l3 := (o3.from _ rfl).2
  have hwb : w.heap.size < w3.heap.size := R0.lt
  clear o3 HL
  go_upto_region 7 with (fail)
  go_cut [9] from 10 (fun p wc => ∃ bx, p = .pointer (some ⟨bx, 0, none⟩) ∧ w.heap.size < bx ∧ Blk wc bx 38 #[.int .i64 t1, .int .i64 n1, .int .i64 n2, .int .i64 (-1), .int .i64 5] ∧ Blk wc w.heap.size 38 #[.int .i64 0, .int .i64 0, .int .i64 0, .int .i64 0, .int .i64 0] ∧ Q w wc ∧ Q w3 wc)
  case first =>
    have hS : ∀ w', Q w3 w' → (Q w3 w' ∧ w'.cell? ⟨g3, 1, none⟩ = some (.int .i64 n1) ∧ w'.cell? ⟨g3, 2, none⟩ = some (.int .i64 n2)) := fun w' q => ⟨q, q.cell c1, q.cell c2⟩
    go_wp2_with fail
    go_region_held3 (fun w' => Q w3 w' ∧ w'.cell? ⟨g3, 1, none⟩ = some (.int .i64 n1) ∧ w'.cell? ⟨g3, 2, none⟩ = some (.int .i64 n2)) (exact hS _ (by with_reducible first | assumption | exact (Q.refl _).drew | exact (Q.refl _).alloc _ | exact (Q.refl _).drew.alloc _ | exact ((Q.refl _).alloc _).drew | exact Q.refl _)) (first | fail)
    all_goals (go_wp2_with fail; go_meet)
    all_goals exact ⟨_, rfl, hwb, by first | exact (Blk.new _ _ _).drew | exact Blk.new _ _ _, by first | exact (R0.alloc _).drew | exact R0.alloc _, by first | exact (Q3.alloc _).drew | exact Q3.alloc _, by first | exact ((Q.refl _).alloc _).drew | exact (Q.refl _).alloc _⟩
  case rest =>
    clear R0
    obtain ⟨bx, rfl, hbx, BX, R0, Q4, q34⟩ := hcut
    rename_i w4
    replace c3 := q34.cell c3
    replace l3 := Nat.lt_of_lt_of_le l3 q34.size
    clear c1 c2 q34 Q3 hwb
    have cX := BX.cell
    have fX := BX.frozen
    have lX := BX.lt
    go_upto_if 40 with (fail)
    go_cut [] from 10 (fun wc => Blk wc bx 38 #[.int .i64 t1, .int .i64 n1, .int .i64 n2, .int .i64 n3, .int .i64 5] ∧ Blk wc w.heap.size 38 #[.int .i64 0, .int .i64 0, .int .i64 0, .int .i64 0, .int .i64 0] ∧ Q w wc)
    case first =>
      go_wp2_with fail
      go_meet
      exact ⟨BX.s5_3 _, R0.far (p := ⟨bx, 3, none⟩) (by simp; omega) _, Q.setCell (p := ⟨bx, 3, none⟩) Q4 (Nat.le_of_lt hbx) _⟩
    case rest =>
      clear R0 BX cX fX lX c3 l3 Q4
      obtain ⟨BX, R0, Q5⟩ := hcut
      go_wp2_with fail
      go_loopw [10] (fun i wr => ∃ j : Nat, 1 ≤ j ∧ j ≤ 6 ∧ i = .int .i64 j ∧ (∃ y5, Blk wr bx 38 #[.int .i64 t1, .int .i64 n1, .int .i64 n2, .int .i64 n3, .int .i64 y5]) ∧ Blk wr w.heap.size 38 #[.int .i64 0, .int .i64 0, .int .i64 0, .int .i64 0, .int .i64 0] ∧ Q w wr ∧ Hid (∀ m : Int, 1 ≤ m → m < j → ¬ (k1 = true ∧ isInc t1 n1 n2 n3 m = true ∧ incT t1 n1 n2 n3 m = s))) (fun i _ => 6 - (intOf i).toNat)
      case atStart => exact ⟨1, by omega, by omega, rfl, ⟨5, BX⟩, R0, Q5, Lib.hid (fun m h1 h2 => by omega)⟩
      case round =>
        clear BX R0 Q5
        obtain ⟨j, hj1, hj6, rfl, ⟨y5, BX⟩, R0, hq, HM⟩ := hrel
        have lX := BX.lt
        have cX := BX.cell
        have fX := BX.frozen
        by_cases hlt : j ≤ 5
        · have hltI : (j : Int) ≤ 5 := by omega
          have HS : Hid (¬ (k1 = true ∧ isInc t1 n1 n2 n3 j = true ∧ incT t1 n1 n2 n3 j = s) → ∀ m : Int, 1 ≤ m → m < ((j + 1 : Nat) : Int) → ¬ (k1 = true ∧ isInc t1 n1 n2 n3 m = true ∧ incT t1 n1 n2 n3 m = s)) := Lib.hid (fun h m h1 h2 => by
            by_cases hm : m < j
            · exact HM.out m h1 hm
            · obtain rfl : m = j := by omega
              exact h)
          go_upto_region 14 with (fail)
          replace BX := BX.s5_4 (.int .i64 j)
          replace R0 := R0.far (p := ⟨bx, 4, none⟩) (by simp; omega) (.int .i64 j)
          replace hq := Q.setCell (p := ⟨bx, 4, none⟩) hq (Nat.le_of_lt hbx) (.int .i64 j)
          clear cX fX lX
          generalize wr.setCell ⟨bx, 4, none⟩ (.int .i64 j) = ws at *
          have lX := BX.lt
          have cX := BX.cell
          have Es := hE.q hq
          have K4 := Lib.hid (fun wv => impl_isIncident t1 n1 n2 n3 j wv)
          have K5 := Lib.hid (fun wv (h : Tbl wv) => impl_IncidentText t1 n1 n2 n3 j wv h)
          have HH := Lib.hid (HI.out t1 n1 n2 n3 j)
          generalize isInc t1 n1 n2 n3 j = FB at K4 HS HH
          generalize incT t1 n1 n2 n3 j = S at K5 HS HH
          clear HM
          cases k1
          · go_wp2_with fail
            go_roundw
            case rel => exact ⟨j + 1, by omega, by omega, by go_num, ⟨_, BX⟩, R0, hq, Lib.hid (HS.out (by simp))⟩
            case measure => simp [intOf]; omega
          · go_wp2_with fail
            refine (K4.out _).mono ?_
            rintro e w6 ⟨rfl, q6⟩
            replace BX := BX.q q6
            replace R0 := R0.q q6
            replace hq := hq.trans q6
            replace Es := Es.q q6
            clear lX cX q6
            have lX := BX.lt
            have cX := BX.cell
            cases FB
            · go_wp2_with fail
              go_roundw
              case rel => exact ⟨j + 1, by omega, by omega, by go_num, ⟨_, BX⟩, R0, hq, Lib.hid (HS.out (by simp))⟩
              case measure => simp [intOf]; omega
            · go_wp2_with fail
              refine (K5.out _ Es.tbl).mono ?_
              rintro e w7 ⟨rfl, q7⟩
              replace BX := BX.q q7
              replace R0 := R0.q q7
              replace hq := hq.trans q7
              clear lX cX q7 Es
              have lX := BX.lt
              have cX := BX.cell
              have cR := R0.cell
              have fR := R0.frozen
              have lR := R0.lt
              by_cases hS : S = s
              · obtain ⟨rfl, rfl, rfl, rfl, rfl, rfl⟩ := HH.out (by trivial) hS
                subst hS
                clear HS HN HI HH
                go_wp2_with fail
                have F := (((((R0.s5_0 (.int .i64 t)).s5_1 (.int .i64 a)).s5_2 (.int .i64 b)).s5_3 (.int .i64 q)).s5_4 (.int .i64 j)).cell
                refine bodyPost_ret (v := .tuple #[.agg #[.int .i64 t, .int .i64 a, .int .i64 b, .int .i64 q, .int .i64 j], .bool true]) (by simp [results, Tryd.results39, go_sem, F]) rfl ⟨rfl, ?_⟩
                exact (((((hq.setCell (Nat.le_refl _) _).setCell (Nat.le_refl _) _).setCell (Nat.le_refl _) _).setCell (Nat.le_refl _) _).setCell (Nat.le_refl _) _)
              · have hS' := str_ne hS
                have HS' := Lib.hid (HS.out (fun h => hS h.2.2))
                clear hS HS HH
                go_wp2_with fail
                go_roundw
                case rel => exact ⟨j + 1, by omega, by omega, by go_num, ⟨_, BX⟩, R0, hq, HS'⟩
                case measure => simp [intOf]; omega
        · obtain rfl : j = 6 := by omega
          obtain ⟨rfl, rfl, rfl, rfl, rfl, rfl⟩ := HN.out (fun m h1 h2 => HM.out m h1 (by omega))
          clear HM HN HI
          have cR := R0.cell
          have fR := R0.frozen
          have lR := R0.lt
          go_wp2_with fail
          have F := (((((R0.s5_0 (.int .i64 0)).s5_1 (.int .i64 0)).s5_2 (.int .i64 0)).s5_3 (.int .i64 0)).s5_4 (.int .i64 0)).cell
          refine bodyPost_ret (v := .tuple #[.agg #[.int .i64 0, .int .i64 0, .int .i64 0, .int .i64 0, .int .i64 0], .bool false]) (by simp [results, Tryd.results39, go_sem, F]) rfl ⟨rfl, ?_⟩
          exact (((((hq.setCell (Nat.le_refl _) _).setCell (Nat.le_refl _) _).setCell (Nat.le_refl _) _).setCell (Nat.le_refl _) _).setCell (Nat.le_refl _) _)
set_option maxRecDepth 100000 in
set_option maxHeartbeats 1000000 in
theorem impl_ReadIncident (s : ByteArray) (t a b q r : Int) (k : Bool) (h : IncR s t a b q r k) (hs : s.size ≤ 1048576) (w : World) (hE : Env w) :
    Calls Tryd.prog 39 #[.string s] w fun e w' => e = .returned (.tuple #[.agg #[.int .i64 t, .int .i64 a, .int .i64 b, .int .i64 q, .int .i64 r], .bool k]) ∧ Q w w' := by
  obtain ⟨P, hP⟩ : ∃ P, pcs 32 s = P := ⟨_, rfl⟩
  by_cases hl : 4 ≤ P.length ∧ P.length ≤ 5
  · match P, hP, hl with
    | [x, y, z, u], hP, _ => exact impl_RI4 s x y z u hP t a b q r k h hs w hE
    | [x, y, z, u, v], hP, _ => exact impl_RI5 s x y z u v hP t a b q r k h hs w hE
  · have R0 := Blk.new w 38 #[.int .i64 0, .int .i64 0, .int .i64 0, .int .i64 0, .int .i64 0]
    have Q0 : Q w (w.alloc (.cells #[.int .i64 0, .int .i64 0, .int .i64 0, .int .i64 0, .int .i64 0] 38)) := by (repeat (first | assumption | exact Q.refl _ | refine Q.alloc ?_ _ | refine Q.drewN ?_ _ | refine Q.drew ?_))
    have E0 := hE.q Q0
    have K0 := Lib.hid (fun wv (hv : Env wv) => words_blk s hs _ hP wv hv)
    obtain ⟨rfl, rfl, rfl, rfl, rfl, rfl⟩ := h.len (by rw [hP]; omega)
    obtain ⟨N, hN⟩ : ∃ N, N = P.length := ⟨_, rfl⟩
    rw [← hN] at hl K0
    clear h hs hP hN
    by_cases h4 : N < 4
    · have h4I : (N : Int) < 4 := by omega
      go_enter Tryd.func39, Tryd.ntmps39
      go_wp2_with fail
      refine (K0.out _ E0).mono ?_
      rintro e w1 ⟨g, rfl, B1, hg, q1⟩
      replace R0 := R0.q q1
      have cR := R0.cell
      have fR := R0.frozen
      have lR := R0.lt
      have Q4 := Q0.trans q1
      clear B1
      go_wp2_with fail
      have F := (((((R0.s5_0 (.int .i64 0)).s5_1 (.int .i64 0)).s5_2 (.int .i64 0)).s5_3 (.int .i64 0)).s5_4 (.int .i64 0)).cell
      refine bodyPost_ret (v := .tuple #[.agg #[.int .i64 0, .int .i64 0, .int .i64 0, .int .i64 0, .int .i64 0], .bool false]) (by simp [results, Tryd.results39, go_sem, F]) rfl ⟨rfl, ?_⟩
      exact (((((Q4.setCell (Nat.le_refl _) _).setCell (Nat.le_refl _) _).setCell (Nat.le_refl _) _).setCell (Nat.le_refl _) _).setCell (Nat.le_refl _) _)
    · have h4I : ¬ (N : Int) < 4 := by omega
      have h5I : (5 : Int) < (N : Int) := by omega
      go_enter Tryd.func39, Tryd.ntmps39
      go_wp2_with fail
      refine (K0.out _ E0).mono ?_
      rintro e w1 ⟨g, rfl, B1, hg, q1⟩
      replace R0 := R0.q q1
      have cR := R0.cell
      have fR := R0.frozen
      have lR := R0.lt
      have Q4 := Q0.trans q1
      clear B1
      go_wp2_with fail
      have F := (((((R0.s5_0 (.int .i64 0)).s5_1 (.int .i64 0)).s5_2 (.int .i64 0)).s5_3 (.int .i64 0)).s5_4 (.int .i64 0)).cell
      refine bodyPost_ret (v := .tuple #[.agg #[.int .i64 0, .int .i64 0, .int .i64 0, .int .i64 0, .int .i64 0], .bool false]) (by simp [results, Tryd.results39, go_sem, F]) rfl ⟨rfl, ?_⟩
      exact (((((Q4.setCell (Nat.le_refl _) _).setCell (Nat.le_refl _) _).setCell (Nat.le_refl _) _).setCell (Nat.le_refl _) _).setCell (Nat.le_refl _) _)
end Go.Proofs.YtgdjgjkijcmkfaaDoor
