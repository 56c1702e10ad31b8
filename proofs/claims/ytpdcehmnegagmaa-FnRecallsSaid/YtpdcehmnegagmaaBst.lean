/- Walks: the starts of several tracks, as the program and the reference list them, for all arguments. Walks: the best start, as the program and the reference find it, for all arguments. -/
import Derived.Test.YtpdcehmnegagmaaStM
import Derived.Test.YtpdcehmnegagmaaStO
import Derived.Test.YtpdcehmnegagmaaEboatsS
import Derived.Deep.RegionHeld3
namespace Go.Proofs.Ytpdcehmnegagmaa
open Go.RowKit Go.WideShapes Go.ChangeShapes
/-- The code for a line, tracks, a time and a flag. -/
def stsC (a b c d : Int) (D : List (Nat × List Int)) (t fl : Int) : Int := if 16 < D.length then 3 else if lnB a b c d = true ∧ allB D = true then (if inR t 0 1000000000 = true ∧ inR fl 0 3 = true then 0 else 2) else 1
theorem impl_startCD (a b c d : Int) (A : Option Addr) (m cc : Nat) (D : List (Nat × List Int)) (t fl : Int) (w : World) (ha : RdD w A D) (hm : D.length = m) (hm2 : m ≤ 16) :
    Calls Try.prog 21 #[.agg #[.int .i64 a, .int .i64 b, .int .i64 c, .int .i64 d], .slice A m cc, .int .i64 t, .int .i64 fl] w fun e w' => e = .returned (.int .i64 (stsC a b c d D t fl)) ∧ Q w w' := by
  obtain ⟨ts, h1, rfl⟩ := ha
  have := impl_startCode a b c d A m cc ts t fl w h1 (by simpa using hm) (by omega)
  rwa [show scC a b c d ts t fl = stsC a b c d (ts.map Tk.dat) t fl by unfold scC stsC; rw [if_neg (show ¬ (16 < (ts.map Tk.dat).length) by omega), all_dat]] at this
theorem stsC_0 {a b c d : Int} {D : List (Nat × List Int)} {t fl : Int} (h : stsC a b c d D t fl = 0) : D.length ≤ 16 ∧ lnB a b c d = true ∧ allB D = true ∧ (0 ≤ t ∧ t ≤ 1000000000) ∧ inR fl 0 3 = true := by
  unfold stsC at h
  split at h
  · cases h
  · refine ⟨by omega, ?_⟩
    split at h
    · rename_i h1
      split at h
      · rename_i h2
        refine ⟨h1.1, h1.2, ?_, h2.2⟩
        have := h2.1
        unfold inR at this
        exact of_decide_eq_true this
      · cases h
    · cases h
theorem stsC_C {a b c d : Int} {D : List (Nat × List Int)} {t fl : Int} : (allC a b c d D t = 0 ∧ inR fl 0 3 = true ∧ stsC a b c d D t fl = 0) ∨ (allC a b c d D t = 0 ∧ inR fl 0 3 = false ∧ stsC a b c d D t fl = 2) ∨ (allC a b c d D t ≠ 0 ∧ stsC a b c d D t fl = allC a b c d D t) := by
  unfold allC scD stsC
  by_cases h0 : 16 < D.length
  · rw [if_pos h0, if_pos h0]
    exact .inr (.inr ⟨by decide, rfl⟩)
  · rw [if_neg h0, if_neg h0]
    by_cases h1 : lnB a b c d = true ∧ allB D = true
    · rw [if_pos h1, if_pos h1]
      cases h2 : inR t 0 1000000000
      · exact .inr (.inr ⟨by decide, by simp⟩)
      · cases h3 : inR fl 0 3
        · exact .inr (.inl ⟨by simp, rfl, by simp⟩)
        · exact .inl ⟨by simp, rfl, by simp⟩
    · rw [if_neg h1, if_neg h1]
      exact .inr (.inr ⟨by decide, rfl⟩)
def stTo (a b c d t fl : Int) (D : List (Nat × List Int)) (k : Nat) : List St4 := (List.range k).map fun i => stA a b c d (dx D i) (dn D i) t fl
theorem stTo_succ (a b c d t fl : Int) (D : List (Nat × List Int)) (k : Nat) : stTo a b c d t fl D (k + 1) = stTo a b c d t fl D k ++ [stA a b c d (dx D k) (dn D k) t fl] := by simp [stTo, List.range_succ]
theorem stTo_len (a b c d t fl : Int) (D : List (Nat × List Int)) (k : Nat) : (stTo a b c d t fl D k).length = k := by simp [stTo]
def stsL (a b c d : Int) (D : List (Nat × List Int)) (t fl : Int) : List St4 := if stsC a b c d D t fl = 0 then stTo a b c d t fl D D.length else []
theorem stsL_len (a b c d : Int) (D : List (Nat × List Int)) (t fl : Int) : (stsL a b c d D t fl).length ≤ 16 := by
  unfold stsL
  split
  · rename_i h
    rw [stTo_len]
    exact (stsC_0 h).1
  · simp
theorem stsL_no {a b c d : Int} {D : List (Nat × List Int)} {t fl : Int} (h : stsC a b c d D t fl ≠ 0) : stsL a b c d D t fl = [] := by simp [stsL, h]
theorem RSt.nil (w w' : World) (code : Int) (hq : Q w w') : RSt w 0 [] code (.returned (.tuple #[.slice none 0 0, .int .i64 code])) w' := ⟨none, 0, rfl, OwnSt.nil, hq⟩
set_option maxHeartbeats 2000000 in
theorem impl_StartsOf (a b c d : Int) (A : Option Addr) (n cc : Nat) (D : List (Nat × List Int)) (t fl : Int) (w : World) (ha : RdD w A D) (hD : D.length = n) (hn2 : n ≤ 9223372036854775807) :
    Calls Try.prog 13 #[.agg #[.int .i64 a, .int .i64 b, .int .i64 c, .int .i64 d], .slice A n cc, .int .i64 t, .int .i64 fl] w (RSt w (stsL a b c d D t fl).length (stsL a b c d D t fl) (stsC a b c d D t fl)) := by
  by_cases h16 : n ≤ 16
  · have k0 := (fun wv (h : RdD wv A D) => impl_startCD a b c d A n cc D t fl wv h hD h16)
    by_cases hC : stsC a b c d D t fl = 0
    · obtain ⟨_, hl, hb, ht, _⟩ := stsC_0 hC
      rw [show stsL a b c d D t fl = stTo a b c d t fl D n by unfold stsL; rw [if_pos hC, hD], stTo_len]
      have kL := fun k (hk : k < n) wv (B : Option Addr) (c1 : Nat) (h : Rd wv B (dx D k)) (hx : (dx D k).length = dn D k * 3) => impl_startOf a b c d B (dn D k) c1 (dx D k) t fl wv h hx (allB_at hb (by omega)) hl ht
      rw [hC] at k0 ⊢
      have K0 := Lib.hid k0
      have KL := Lib.hid kL
      have HD := Lib.hid hD
      clear k0 kL hC hl hb ht hD
      go_enter Try.func13, Try.ntmps13
      go_wp2_with (go_at_call 21; refine (K0.out _ (ha.q (by (repeat (first | assumption | exact Q.refl _ | refine Q.alloc ?_ _ | refine Q.drewN ?_ _ | refine Q.drew ?_))))).mono ?_; rintro e w1 ⟨rfl, q1⟩; have Q1 : Q w w1 := Q.trans (by (repeat (first | assumption | exact Q.refl _ | refine Q.alloc ?_ _ | refine Q.drewN ?_ _ | refine Q.drew ?_))) q1; have B1 := (Blk.new _ _ _).q q1; have c1 := q1.box)
      go_loopw [11, 28] (fun v i wr => ∃ k A1 d1, k ≤ n ∧ i = .int .i64 (k : Nat) ∧ v = .slice A1 k d1 ∧ OwnSt wr w1.heap.size A1 k d1 (stTo a b c d t fl D k) ∧ Q w1 wr) (fun _ i _ => n - (intOf i).toNat)
      case atStart => exact ⟨0, _, _, by omega, rfl, rfl, OwnSt.new w1 (Nat.le_refl _), by (repeat (first | assumption | exact Q.refl _ | refine Q.alloc ?_ _ | refine Q.drewN ?_ _ | refine Q.drew ?_))⟩
      case round =>
        obtain ⟨k, A1, d1, hk, rfl, rfl, hown, hq⟩ := hrel
        have hqw : Q w wr := Q1.trans hq
        by_cases hlt : k < n
        · have hltI : (k : Int) < (n : Int) := by omega
          obtain ⟨bl, o, B, cb, rfl, g0, hr, hx, _⟩ := (ha.q hqw).at_ HD.out hlt
          have KK := fun wv (h : Rd wv B (dx D k)) => KL.out k hlt wv B cb h hx
          have HE := Lib.hid (stTo_succ a b c d t fl D k)
          obtain ⟨p, hp⟩ : ∃ p, p = stA a b c d (dx D k) (dn D k) t fl := ⟨_, rfl⟩
          rw [← hp] at KK HE
          obtain ⟨mm, hme⟩ : ∃ mm, mm = dn D k := ⟨_, rfl⟩
          rw [← hme] at g0 KK
          obtain ⟨ys, hye⟩ : ∃ ys, ys = dx D k := ⟨_, rfl⟩
          rw [← hye] at hr KK
          have c2 := ((B1.q hq).alloc (.cells #[.slice B mm cb] 30)).cell
          have c3 := (Blk.new wr 30 #[.slice B mm cb]).cell
          clear hme hye hx hp
          obtain ⟨x, y, z, u⟩ := p
          have KK := Lib.hid (show ∀ wv, Rd wv B ys → Calls Try.prog 22 #[.agg #[.int .i64 a, .int .i64 b, .int .i64 c, .int .i64 d], .agg #[.slice B mm cb], .int .i64 t, .int .i64 fl] wv fun e w' => e = .returned (.agg #[.int .i64 x, .int .i64 y, .int .i64 z, .bool u]) ∧ Q wv w' from KK)
          go_wp2_with fail
          refine (KK.out _ (hr.q (by (repeat (first | assumption | exact Q.refl _ | refine Q.alloc ?_ _ | refine Q.drewN ?_ _ | refine Q.drew ?_))))).mono ?_
          rintro e w2 ⟨rfl, q2⟩
          have Q2 : Q wr w2 := Q.trans (by (repeat (first | assumption | exact Q.refl _ | refine Q.alloc ?_ _ | refine Q.drewN ?_ _ | refine Q.drew ?_))) q2
          have hown2 := hown.q Q2
          have hs2 := Nat.le_trans hq.size Q2.size
          go_wp2_with (at_builtin; refine appSt rfl _ _ rfl (x, y, z, u) rfl hown2 rfl (by simp) _ _ rfl (by omega) hs2 ?_; intro A' c' w' hown' hg' hgr')
          go_roundw
          case rel => exact ⟨k + 1, _, _, by omega, by go_num, rfl, by rw [HE.out]; exact hown', (hq.trans Q2).grown hg' (by
            intro g hg
            rcases A1 with _ | a1
            · cases hg
            · have := hown2.from a1 rfl
              simp only [Option.map_some, Option.some.injEq] at hg
              omega)⟩
          case measure => simp [intOf]; omega
        · obtain rfl : k = n := by omega
          go_wp2_with fail
          go_ret2
          exact ⟨_, _, rfl, hown.mono Q1.size, hqw⟩
    · rw [stsL_no hC]
      have K0 := Lib.hid k0
      have hb : (stsC a b c d D t fl != 0) = true := by simpa using hC
      clear k0 hC
      generalize stsC a b c d D t fl = C at *
      go_enter Try.func13, Try.ntmps13
      go_wp2_with (go_at_call 21; refine (K0.out _ (ha.q (by (repeat (first | assumption | exact Q.refl _ | refine Q.alloc ?_ _ | refine Q.drewN ?_ _ | refine Q.drew ?_))))).mono ?_; rintro e w1 ⟨rfl, q1⟩; have Q1 : Q w w1 := Q.trans (by (repeat (first | assumption | exact Q.refl _ | refine Q.alloc ?_ _ | refine Q.drewN ?_ _ | refine Q.drew ?_))) q1)
      go_ret2
      exact RSt.nil _ _ _ Q1
  · have hC : stsC a b c d D t fl = 3 := by unfold stsC; rw [if_pos (by omega)]
    rw [stsL_no (by rw [hC]; decide), hC]
    go_enter Try.func13, Try.ntmps13
    go_wp2_with fail
    go_ret2
    exact RSt.nil _ _ _ (by (repeat (first | assumption | exact Q.refl _ | refine Q.alloc ?_ _ | refine Q.drewN ?_ _ | refine Q.drew ?_)))
set_option maxRecDepth 100000 in
set_option maxHeartbeats 2000000 in
theorem spec_StartsOf (a b c d : Int) (A : Option Addr) (n cc : Nat) (D : List (Nat × List Int)) (t fl : Int) (w : World) (ha : RdD w A D) (hD : D.length = n) (hn2 : n ≤ 9223372036854775807) :
    Calls Try.prog 14 #[.agg #[.int .i64 a, .int .i64 b, .int .i64 c, .int .i64 d], .slice A n cc, .int .i64 t, .int .i64 fl] w (RSt w (stsL a b c d D t fl).length (stsL a b c d D t fl) (stsC a b c d D t fl)) := by
  obtain ⟨i0, hi0, hz0, hz1, hz2⟩ := info_parts infoStart
  have k0 := (fun wv (h : RdD wv A D) => spec_l14All a b c d A n cc D t wv h hD hn2)
  have k3 := (fun wv => spec_l14Flag fl wv)
  rcases stsC_C (a := a) (b := b) (c := c) (d := d) (D := D) (t := t) (fl := fl) with ⟨e1, e2, e3⟩ | ⟨e1, e2, e3⟩ | ⟨e1, e3⟩
  · obtain ⟨h16, hl, hb, ht, _⟩ := stsC_0 e3
    rw [hD] at h16
    rw [show stsL a b c d D t fl = stTo a b c d t fl D n by unfold stsL; rw [if_pos e3, hD], stTo_len, e3]
    have kL := fun k (hk : k < n) wv (B : Option Addr) (c1 : Nat) (h : Rd wv B (dx D k)) (hx : (dx D k).length = dn D k * 3) => spec_Start a b c d B (dn D k) c1 (dx D k) t fl wv h hx (allB_at hb (by omega)) hl ht
    rw [e1] at k0
    rw [e2] at k3
    have K0 := Lib.hid k0
    have K3 := Lib.hid k3
    have KL := Lib.hid kL
    have HD := Lib.hid hD
    clear k0 k3 kL e1 e2 e3 hl hb ht hD
    go_enter Try.func14, Try.ntmps14
    go_wp2_with fail
    refine (K0.out _ (ha.q (by (repeat (first | assumption | exact Q.refl _ | refine Q.alloc ?_ _ | refine Q.drewN ?_ _ | refine Q.drew ?_))))).mono ?_
    rintro e w1 ⟨rfl, q1⟩
    have Q1 : Q w w1 := Q.trans (by (repeat (first | assumption | exact Q.refl _ | refine Q.alloc ?_ _ | refine Q.drewN ?_ _ | refine Q.drew ?_))) q1
    have B1 := (Blk.new _ _ _).q q1
    have c1 := q1.box
    go_wp2_with fail
    refine (K3.out _).mono ?_
    rintro e w1' ⟨rfl, rfl⟩
    go_wp2_with fail
    go_loopw [11, 12] (fun v i wr => ∃ k A1 d1, k ≤ n ∧ i = .int .i64 (k : Nat) ∧ v = .slice A1 k d1 ∧ OwnSt wr w1.heap.size A1 k d1 (stTo a b c d t fl D k) ∧ Q w1 wr) (fun _ i _ => n - (intOf i).toNat)
    case atStart => exact ⟨0, _, _, by omega, rfl, rfl, OwnSt.new w1 (Nat.le_refl _), by (repeat (first | assumption | exact Q.refl _ | refine Q.alloc ?_ _ | refine Q.drewN ?_ _ | refine Q.drew ?_))⟩
    case round =>
      obtain ⟨k, A1, d1, hk, rfl, rfl, hown, hq⟩ := hrel
      have hqw : Q w wr := Q1.trans hq
      by_cases hlt : k < n
      · have hltI : (k : Int) < (n : Int) := by omega
        obtain ⟨bl, o, B, cb, rfl, g00, hr0, hx, _⟩ := (ha.q Q1).at_ HD.out hlt
        have g0 := hq.cell g00
        have hr := hr0.q hq
        have hbl := World.block_lt_of_cell? w1 _ g00
        have hne : ∀ g, g < w1.heap.size → some g ≠ (Value.slice A1 k d1).ownBlock := fun g hg he => by
          rcases A1 with _ | a1
          · cases he
          · have := (hown.from a1 rfl).1
            injection he with he
            omega
        clear g00 hr0
        have KK := fun wv (h : Rd wv B (dx D k)) => KL.out k hlt wv B cb h hx
        have HE := Lib.hid (stTo_succ a b c d t fl D k)
        obtain ⟨p, hp⟩ : ∃ p, p = stA a b c d (dx D k) (dn D k) t fl := ⟨_, rfl⟩
        rw [← hp] at KK HE
        obtain ⟨mm, hme⟩ : ∃ mm, mm = dn D k := ⟨_, rfl⟩
        rw [← hme] at g0 KK
        obtain ⟨ys, hye⟩ : ∃ ys, ys = dx D k := ⟨_, rfl⟩
        rw [← hye] at hr KK
        have l0 := later_cell g0
        have l1 := later_cells (B1.q hq).cell (B1.q hq).lt
        clear hme hye hx hp c1
        obtain ⟨x, y, z, u⟩ := p
        have KK := Lib.hid (show ∀ wv, Rd wv B ys → Calls Try.prog 25 #[.agg #[.int .i64 a, .int .i64 b, .int .i64 c, .int .i64 d], .agg #[.slice B mm cb], .int .i64 t, .int .i64 fl] wv fun e w' => e = .returned (.agg #[.int .i64 x, .int .i64 y, .int .i64 z, .bool u]) ∧ Q wv w' from KK)
        go_wp2_with fail
        have hb1 := B1.lt
        have cb1 := (B1.q hq).cell
        have c10 : wr.cell? ⟨w.heap.size, 0, none⟩ = some (.int .i64 a) := cb1 0
        have c11 : wr.cell? ⟨w.heap.size, 1, none⟩ = some (.int .i64 b) := cb1 1
        have c12 : wr.cell? ⟨w.heap.size, 2, none⟩ = some (.int .i64 c) := cb1 2
        have c13 : wr.cell? ⟨w.heap.size, 3, none⟩ = some (.int .i64 d) := cb1 3
        have hS : ∀ w', Q wr w' → (w'.cell? ⟨w.heap.size, 0, none⟩ = some (.int .i64 a) ∧ w'.cell? ⟨w.heap.size, 1, none⟩ = some (.int .i64 b) ∧ w'.cell? ⟨w.heap.size, 2, none⟩ = some (.int .i64 c) ∧ w'.cell? ⟨w.heap.size, 3, none⟩ = some (.int .i64 d) ∧ w'.cell? ⟨bl, o + k, none⟩ = some (.slice B mm cb)) := fun w' q => ⟨q.cell c10, q.cell c11, q.cell c12, q.cell c13, q.cell g0⟩
        clear cb1 l0 l1
        go_region_held3 (fun w' => w'.cell? ⟨w.heap.size, 0, none⟩ = some (.int .i64 a) ∧ w'.cell? ⟨w.heap.size, 1, none⟩ = some (.int .i64 b) ∧ w'.cell? ⟨w.heap.size, 2, none⟩ = some (.int .i64 c) ∧ w'.cell? ⟨w.heap.size, 3, none⟩ = some (.int .i64 d) ∧ w'.cell? ⟨bl, o + k, none⟩ = some (.slice B mm cb)) (first | exact hS _ (by with_reducible first | assumption | exact (Q.refl _).drew | exact Q.alloc (by assumption) _) | exact hS3) (first | (go_at_call 25; refine Calls.mono (KK.out _ ?_) ?_; exact hr.q (by with_reducible first | exact (Q.refl _).drew | exact Q.refl _ | assumption); rintro e w2 ⟨rfl, q2⟩; have Q2 : Q wr w2 := Q.trans (by with_reducible first | exact (Q.refl _).drew | exact Q.refl _ | assumption) q2; have zs2 := Nat.le_trans hq.size Q2.size) | (refine step_append_lies _ (by rfl) _ _ _ (by rfl) w1.heap.size 34 i0 _ 4 32 Try.underlying48 hi0 hz0 hz1 hz2 rfl (by omega) (.slice A1 k d1) k (stLs (stTo a b c d t fl D k)) (by rfl) ((hown.q Q2).q ((Q.refl _).alloc _)).2 ⟨w2.heap.size, 0, none⟩ 1 1 [.int .i64 x, .int .i64 y, .int .i64 z, .bool u] (by rfl) (by rfl) (World.news_of_block (cs := #[.int .i64 x, .int .i64 y, .int .i64 z, .bool u]) (t := 34) (fr := (0, 0)) (heap_alloc_new w2 _)) (by simp [Value.oneCell']) (by omega) (by unfold maxLen; omega) (by omega) (by simp; omega) (w2.heap.size + 1) (by simp) ?_; intro gg cap w3 hown3 hgrow hat hlt3; have hX : ∀ (p : Addr) v, p.block < w1.heap.size → wr.cell? p = some v → w3.cell? p = some v := fun p v hp hc => (hgrow.cell_far p (Nat.lt_of_lt_of_le hp (Nat.le_trans hq.size (Q2.alloc _).size)) (hne p.block hp)).trans ((Q2.alloc _).cell hc); have hS3 := (show w3.cell? ⟨w.heap.size, 0, none⟩ = some (.int .i64 a) ∧ w3.cell? ⟨w.heap.size, 1, none⟩ = some (.int .i64 b) ∧ w3.cell? ⟨w.heap.size, 2, none⟩ = some (.int .i64 c) ∧ w3.cell? ⟨w.heap.size, 3, none⟩ = some (.int .i64 d) ∧ w3.cell? ⟨bl, o + k, none⟩ = some (.slice B mm cb) from ⟨hX _ _ hb1 c10, hX _ _ hb1 c11, hX _ _ hb1 c12, hX _ _ hb1 c13, hX _ _ hbl g0⟩)))
        go_wp2_with fail
        go_roundw
        case rel => exact ⟨k + 1, _, _, by omega, by go_num, rfl, by rw [HE.out]; exact ⟨by simp [stTo_len], by rw [stLs_app]; exact hown3⟩, (hq.trans (Q2.alloc _)).grown hgrow (by
          intro g hg
          rcases A1 with _ | a1
          · cases hg
          · have := (hown.from a1 rfl).1
            injection hg with hg
            omega)⟩
        case measure => simp [intOf]; omega
      · obtain rfl : k = n := by omega
        go_wp2_with fail
        go_ret2
        exact ⟨_, _, rfl, hown.mono Q1.size, hqw⟩
  · rw [stsL_no (by rw [e3]; decide), e3]
    rw [e1] at k0
    rw [e2] at k3
    have K0 := Lib.hid k0
    have K3 := Lib.hid k3
    clear k0 k3 e1 e2 e3
    go_enter Try.func14, Try.ntmps14
    go_wp2_with fail
    refine (K0.out _ (ha.q (by (repeat (first | assumption | exact Q.refl _ | refine Q.alloc ?_ _ | refine Q.drewN ?_ _ | refine Q.drew ?_))))).mono ?_
    rintro e w1 ⟨rfl, q1⟩
    have Q1 : Q w w1 := Q.trans (by (repeat (first | assumption | exact Q.refl _ | refine Q.alloc ?_ _ | refine Q.drewN ?_ _ | refine Q.drew ?_))) q1
    go_wp2_with fail
    refine (K3.out _).mono ?_
    rintro e w1' ⟨rfl, rfl⟩
    go_wp2_with fail
    go_ret2
    exact RSt.nil _ _ _ Q1
  · rw [stsL_no (by rw [e3]; exact e1), e3]
    have K0 := Lib.hid k0
    have hb : (allC a b c d D t == 0) = false := by simpa using e1
    have hb2 : (allC a b c d D t != 0) = true := by simpa using e1
    clear k0 k3 e1 e3
    generalize allC a b c d D t = C at *
    go_enter Try.func14, Try.ntmps14
    go_wp2_with fail
    refine (K0.out _ (ha.q (by (repeat (first | assumption | exact Q.refl _ | refine Q.alloc ?_ _ | refine Q.drewN ?_ _ | refine Q.drew ?_))))).mono ?_
    rintro e w1 ⟨rfl, q1⟩
    have Q1 : Q w w1 := Q.trans (by (repeat (first | assumption | exact Q.refl _ | refine Q.alloc ?_ _ | refine Q.drewN ?_ _ | refine Q.drew ?_))) q1
    go_wp2_with fail
    go_ret2
    exact RSt.nil _ _ _ Q1
end Go.Proofs.Ytpdcehmnegagmaa
namespace Go.Proofs.Ytpdcehmnegagmaa
open Go.RowKit Go.WideShapes Go.ChangeShapes
/-- The best of the first k starts. -/
def bsTo (L : List St4) : Nat → Int
  | 0 => -1
  | k + 1 => if (sx L k).1 = 0 ∧ (bsTo L k < 0 ∨ (sx L k).2.2.1 < (sx L (bsTo L k).toNat).2.2.1) then (k : Int) else bsTo L k
theorem bsTo_bd (L : List St4) : ∀ k, -1 ≤ bsTo L k ∧ bsTo L k < (k : Int) := by
  intro k
  induction k with
  | zero => simp [bsTo]
  | succ k ih =>
    unfold bsTo
    split
    · omega
    · omega
theorem bsTo_yes {L : List St4} {k : Nat} (h0 : (sx L k).1 = 0) (h : bsTo L k < 0 ∨ (sx L k).2.2.1 < (sx L (bsTo L k).toNat).2.2.1) : bsTo L (k + 1) = (k : Int) := by
  rw [bsTo, if_pos ⟨h0, h⟩]
theorem bsTo_no {L : List St4} {k : Nat} (h : ¬ ((sx L k).1 = 0 ∧ (bsTo L k < 0 ∨ (sx L k).2.2.1 < (sx L (bsTo L k).toNat).2.2.1))) : bsTo L (k + 1) = bsTo L k := by
  rw [bsTo, if_neg h]
def bsC (a b c d : Int) (D : List (Nat × List Int)) (t fl : Int) : Int := if stsC a b c d D t fl = 0 then (if bsTo (stsL a b c d D t fl) (stsL a b c d D t fl).length < 0 then 4 else 0) else stsC a b c d D t fl
def bsV (a b c d : Int) (D : List (Nat × List Int)) (t fl : Int) : Int := if bsC a b c d D t fl = 0 then bsTo (stsL a b c d D t fl) (stsL a b c d D t fl).length else 0
set_option maxHeartbeats 2000000 in
theorem impl_BestStart (a b c d : Int) (A : Option Addr) (n cc : Nat) (D : List (Nat × List Int)) (t fl : Int) (w : World) (ha : RdD w A D) (hD : D.length = n) (hn2 : n ≤ 9223372036854775807) :
    Calls Try.prog 17 #[.agg #[.int .i64 a, .int .i64 b, .int .i64 c, .int .i64 d], .slice A n cc, .int .i64 t, .int .i64 fl] w fun e w' => e = .returned (.tuple #[.int .i64 (bsV a b c d D t fl), .int .i64 (bsC a b c d D t fl)]) ∧ Q w w' := by
  have k0 := (fun wv (h : RdD wv A D) => impl_StartsOf a b c d A n cc D t fl wv h hD hn2)
  have hm := stsL_len a b c d D t fl
  have hC := Lib.hid (show bsC a b c d D t fl = if stsC a b c d D t fl = 0 then (if bsTo (stsL a b c d D t fl) (stsL a b c d D t fl).length < 0 then 4 else 0) else stsC a b c d D t fl from rfl)
  have hV := Lib.hid (show bsV a b c d D t fl = if bsC a b c d D t fl = 0 then bsTo (stsL a b c d D t fl) (stsL a b c d D t fl).length else 0 from rfl)
  generalize bsC a b c d D t fl = C at *
  generalize bsV a b c d D t fl = V at *
  generalize stsC a b c d D t fl = S at *
  obtain ⟨L, hL⟩ : ∃ L, L = stsL a b c d D t fl := ⟨_, rfl⟩
  rw [← hL] at k0 hm hC hV
  clear hL
  obtain ⟨m, hml⟩ : ∃ m, m = L.length := ⟨_, rfl⟩
  rw [← hml] at k0 hm hC hV
  have HM := Lib.hid hml.symm
  clear hml
  have K0 := Lib.hid k0
  clear k0
  by_cases h0 : S = 0
  · subst h0
    have hC : Hid (C = if bsTo L m < 0 then 4 else 0) := Lib.hid (hC.out.trans (if_pos rfl))
    go_enter Try.func17, Try.ntmps17
    go_wp2_with fail
    refine (K0.out _ (ha.q (by (repeat (first | assumption | exact Q.refl _ | refine Q.alloc ?_ _ | refine Q.drewN ?_ _ | refine Q.drew ?_))))).mono ?_
    rintro e w1 ⟨A1, d1, rfl, hown, q1⟩
    have Q1 : Q w w1 := Q.trans (by (repeat (first | assumption | exact Q.refl _ | refine Q.alloc ?_ _ | refine Q.drewN ?_ _ | refine Q.drew ?_))) q1
    have hr := hown.rd
    clear hown
    go_wp2_with fail
    go_loopw [12, 28] (fun v i wr => ∃ k : Nat, k ≤ m ∧ i = .int .i64 k ∧ v = .int .i64 (bsTo L k) ∧ Q w1 wr) (fun _ i _ => m - (intOf i).toNat)
    case atStart => exact ⟨0, by omega, rfl, rfl, by (repeat (first | assumption | exact Q.refl _ | refine Q.alloc ?_ _ | refine Q.drewN ?_ _ | refine Q.drew ?_))⟩
    case round =>
      obtain ⟨k, hk, rfl, rfl, hq⟩ := hrel
      have hB := bsTo_bd L k
      have hY := Lib.hid (@bsTo_yes L k)
      have hN := Lib.hid (@bsTo_no L k)
      by_cases hlt : k < m
      · obtain ⟨b1, o1, rfl, g0, g1, g2, g3⟩ := (hr.q hq).at_ HM.out hlt
        obtain ⟨p, hp⟩ : ∃ p, p = sx L k := ⟨_, rfl⟩
        rw [← hp] at g0 g1 g2 g3 hY hN
        obtain ⟨x, y, z, u⟩ := p
        have hY := Lib.hid (show x = 0 → (bsTo L k < 0 ∨ z < (sx L (bsTo L k).toNat).2.2.1) → bsTo L (k + 1) = (k : Int) from fun e f => hY.out e f)
        have hN := Lib.hid (show ¬ (x = 0 ∧ (bsTo L k < 0 ∨ z < (sx L (bsTo L k).toNat).2.2.1)) → bsTo L (k + 1) = bsTo L k from fun e => hN.out e)
        dsimp only at g0 g1 g2 g3
        clear hp
        by_cases hx : x = 0
        · subst hx
          by_cases hb : bsTo L k < 0
          · have HE := Lib.hid (hY.out rfl (.inl hb))
            generalize bsTo L k = b0 at *
            have c3 := (Blk.new wr 34 #[.int .i64 0, .int .i64 y, .int .i64 z, .bool u]).cell
            go_wp2_with fail
            refine wp_region_quiet_lit (by kernel_rfl) (by kernel_rfl) ?_
            repeat (any_goals (first | go_big_quiet_step ( fail) | quiet_step ( fail) | (refine wpQuiet_step (fun K hK => ?_); go_simp; split <;> (refine hK _ ?_; clear hK K))))
            all_goals (refine wpQuiet_nil ?_; intro _ hw'; obtain ⟨nq, hw''⟩ := hw'; subst hw'')
            all_goals go_wp2_with fail
            go_roundw
            case rel => exact ⟨k + 1, by omega, by go_num, by rw [HE.out], hq.trans (by (repeat (first | assumption | exact Q.refl _ | refine Q.alloc ?_ _ | refine Q.drewN ?_ _ | refine Q.drew ?_)))⟩
            case measure => simp [intOf]; omega
          · obtain ⟨j, hj⟩ : ∃ j : Nat, bsTo L k = (j : Int) := ⟨(bsTo L k).toNat, by omega⟩
            have hjk : j < k := by omega
            obtain ⟨b2, o2, he, j0, j1, j2, j3⟩ := (hr.q hq).at_ HM.out (show j < m by omega)
            cases he
            have hjm : j < m := by omega
            have hjI : (j : Int) < (m : Int) := by omega
            rw [hj] at hY hN hb ⊢
            clear hB hj
            have ej : ((j : Int)).toNat = j := by simp
            rw [ej] at hY hN
            generalize (sx L j).2.2.1 = z2 at *
            clear ej j0 j1 j3
            by_cases hz : z < z2
            · have HE := Lib.hid (hY.out rfl (.inr hz))
              have c3 := (Blk.new wr 34 #[.int .i64 0, .int .i64 y, .int .i64 z, .bool u]).cell
              have j2 := ((Q.refl wr).alloc (.cells #[.int .i64 0, .int .i64 y, .int .i64 z, .bool u] 34)).cell j2
              go_wp2_with fail
              refine wp_region_quiet_lit (by kernel_rfl) (by kernel_rfl) ?_
              repeat (any_goals (first | go_big_quiet_step ( fail) | quiet_step ( fail) | (refine wpQuiet_step (fun K hK => ?_); go_simp; split <;> (refine hK _ ?_; clear hK K))))
              all_goals (refine wpQuiet_nil ?_; intro _ hw'; obtain ⟨nq, hw''⟩ := hw'; subst hw'')
              all_goals go_wp2_with fail
              go_roundw
              case rel => exact ⟨k + 1, by omega, by go_num, by rw [HE.out], hq.trans (by (repeat (first | assumption | exact Q.refl _ | refine Q.alloc ?_ _ | refine Q.drewN ?_ _ | refine Q.drew ?_)))⟩
              case measure => simp [intOf]; omega
            · have HE := Lib.hid (hN.out (fun e => e.2.elim hb hz))
              have c3 := (Blk.new wr 34 #[.int .i64 0, .int .i64 y, .int .i64 z, .bool u]).cell
              have j2 := ((Q.refl wr).alloc (.cells #[.int .i64 0, .int .i64 y, .int .i64 z, .bool u] 34)).cell j2
              go_wp2_with fail
              refine wp_region_quiet_lit (by kernel_rfl) (by kernel_rfl) ?_
              repeat (any_goals (first | go_big_quiet_step ( fail) | quiet_step ( fail) | (refine wpQuiet_step (fun K hK => ?_); go_simp; split <;> (refine hK _ ?_; clear hK K))))
              all_goals (refine wpQuiet_nil ?_; intro _ hw'; obtain ⟨nq, hw''⟩ := hw'; subst hw'')
              all_goals go_wp2_with fail
              go_roundw
              case rel => exact ⟨k + 1, by omega, by go_num, by rw [HE.out], hq.trans (by (repeat (first | assumption | exact Q.refl _ | refine Q.alloc ?_ _ | refine Q.drewN ?_ _ | refine Q.drew ?_)))⟩
              case measure => simp [intOf]; omega
        · have HE := Lib.hid (hN.out (fun e => hx e.1))
          have hxb : (x == 0) = false := by simpa using hx
          generalize bsTo L k = b0 at *
          have c3 := (Blk.new wr 34 #[.int .i64 x, .int .i64 y, .int .i64 z, .bool u]).cell
          go_wp2_with fail
          refine wp_region_quiet_lit (by kernel_rfl) (by kernel_rfl) ?_
          repeat (any_goals (first | go_big_quiet_step ( fail) | quiet_step ( fail) | (refine wpQuiet_step (fun K hK => ?_); go_simp; split <;> (refine hK _ ?_; clear hK K))))
          all_goals (refine wpQuiet_nil ?_; intro _ hw'; obtain ⟨nq, hw''⟩ := hw'; subst hw'')
          all_goals go_wp2_with fail
          go_roundw
          case rel => exact ⟨k + 1, by omega, by go_num, by rw [HE.out], hq.trans (by (repeat (first | assumption | exact Q.refl _ | refine Q.alloc ?_ _ | refine Q.drewN ?_ _ | refine Q.drew ?_)))⟩
          case measure => simp [intOf]; omega
      · obtain rfl : k = m := by omega
        clear hY hN
        generalize bsTo L k = b0 at *
        by_cases hb : b0 < 0
        · have hC : Hid (C = 4) := Lib.hid (hC.out.trans (if_pos hb))
          have hV : Hid (V = 0) := Lib.hid (by have := hV.out; rw [hC.out] at this; exact this)
          go_wp2_with fail
          go_ret2
          rw [hC.out, hV.out]
          exact ⟨rfl, Q1.trans hq⟩
        · have hC : Hid (C = 0) := Lib.hid (hC.out.trans (if_neg hb))
          have hV : Hid (V = b0) := Lib.hid (by have := hV.out; rw [hC.out] at this; exact this)
          go_wp2_with fail
          go_ret2
          rw [hC.out, hV.out]
          exact ⟨rfl, Q1.trans hq⟩
  · have hSb : (S == 0) = false := by simpa using h0
    have hC : Hid (C = S) := Lib.hid (hC.out.trans (if_neg h0))
    have hV : Hid (V = 0) := Lib.hid (by have := hV.out; rw [hC.out, if_neg h0] at this; exact this)
    go_enter Try.func17, Try.ntmps17
    go_wp2_with fail
    refine (K0.out _ (ha.q (by (repeat (first | assumption | exact Q.refl _ | refine Q.alloc ?_ _ | refine Q.drewN ?_ _ | refine Q.drew ?_))))).mono ?_
    rintro e w1 ⟨A1, d1, rfl, hown, q1⟩
    have Q1 : Q w w1 := Q.trans (by (repeat (first | assumption | exact Q.refl _ | refine Q.alloc ?_ _ | refine Q.drewN ?_ _ | refine Q.drew ?_))) q1
    clear hown
    go_wp2_with fail
    go_ret2
    rw [hC.out, hV.out]
    exact ⟨rfl, Q1⟩
end Go.Proofs.Ytpdcehmnegagmaa
