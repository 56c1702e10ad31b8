/- Walks: the copy of a slice of tracks, for all arguments. No condition. -/
import Derived.Test.YtlmaecmjpbgegaaTds
namespace Go.Proofs.Ytlmaecmjpbgegaa
open Go.RowKit Go.WideShapes Go.ChangeShapes Go.Deep
theorem made_one (v : Value) (N : Nat) : (madeCells #[v] N).toList = List.replicate N v := by
  apply List.ext_getElem
  · simp [madeCells]
  · intro i h1 h2
    simp [madeCells, Nat.mod_one]
/-- k tracks of n are copied. -/
def Mk (w wr : World) (n k : Nat) (D : List (Nat × List Int)) : Prop :=
  ∃ ts : List Tk, ts.length = k ∧ ts.map Tk.dat = D.take k ∧ wr.ownsRow w.heap.size 35 1 (.slice (some ⟨w.heap.size, 0, none⟩) n n) n (ts.map Tk.val ++ List.replicate (n - k) (.slice none 0 0)) ∧
    (∀ T ∈ ts, Own wr w.heap.size 116 3 (.slice T.A T.n T.c) T.n T.xs ∧ (∀ a, T.A = some a → w.heap.size < a.block) ∧ T.n ≤ 1048576) ∧
    ts.Pairwise (fun S T => Far S.A T.A)
theorem Mk.q {w wr w' : World} {n k : Nat} {D : List (Nat × List Int)} (h : Mk w wr n k D) (hq : Q wr w') : Mk w w' n k D := by
  obtain ⟨ts, h0, h1, h2, h3, h4⟩ := h
  exact ⟨ts, h0, h1, ownsRow_q h2 hq, fun T hT => ⟨(h3 T hT).1.q hq, (h3 T hT).2⟩, h4⟩
theorem Mk.frozen {w wr : World} {n k : Nat} {D : List (Nat × List Int)} (h : Mk w wr n k D) (j : Nat) : wr.frozen? ⟨w.heap.size, j, none⟩ = false := by
  obtain ⟨ts, h0, h1, h2, h3, h4⟩ := h
  exact World.ownsRow.frozenAt h2 j
theorem Mk.cell {w wr : World} {n k : Nat} {D : List (Nat × List Int)} (h : Mk w wr n k D) (hk : k < n) : wr.cell? ⟨w.heap.size, k, none⟩ = some (.slice none 0 0) := by
  obtain ⟨ts, h0, h1, h2, h3, h4⟩ := h
  subst h0
  rw [World.ownsRow.cellAt h2 ts.length (by omega), List.getElem?_append_right (by simp), List.length_map, Nat.sub_self, List.getElem?_replicate, if_pos (by omega)]
theorem Mk.step {w wr w1 : World} {n k c : Nat} {A : Option Addr} {D : List (Nat × List Int)} (h : Mk w wr n k D) (hD : D.length = n) (hk : k < n) (hq : Q wr w1)
    (ho : Own w1 wr.heap.size 116 3 (.slice A (dn D k) c) (dn D k) (dx D k)) (hn : dn D k ≤ 1048576) (hw : w.heap.size < wr.heap.size) : Mk w (w1.setCell ⟨w.heap.size, k, none⟩ (.slice A (dn D k) c)) n (k + 1) D := by
  obtain ⟨ts, h0, h1, h2, h3, h4⟩ := h
  have hf := ho.from
  have hst := (World.ownsRow.stored (ownsRow_q h2 hq) k (.slice A (dn D k) c)).1
  refine ⟨ts ++ [⟨A, dn D k, c, dx D k⟩], by simp [h0], ?_, ?_, ?_, ?_⟩
  · rw [List.map_append, h1, List.take_succ_eq_append_getElem (show k < D.length by omega)]
    congr 1
    simp [Tk.dat, dn, dx, List.getD_eq_getElem?_getD, List.getElem?_eq_getElem (show k < D.length by omega)]
  · have e : (ts.map Tk.val ++ List.replicate (n - k) (Value.slice none 0 0)).set k (.slice A (dn D k) c) = (ts ++ [(⟨A, dn D k, c, dx D k⟩ : Tk)]).map Tk.val ++ List.replicate (n - (k + 1)) (.slice none 0 0) := by
      rw [List.set_append_right (h := by simp [h0]), show n - k = (n - (k + 1)) + 1 by omega, List.replicate_succ]
      simp [h0, Tk.val]
    rw [← e]
    exact hst
  · intro T hT
    rcases List.mem_append.1 hT with hT | hT
    · have h5 := h3 T hT
      exact ⟨Own.setFar (h5.1.q hq) (fun a ha => by have := h5.2.1 a ha; omega) _ _, h5.2⟩
    · obtain rfl := List.mem_singleton.1 hT
      exact ⟨Own.setFar (ho.mono (Nat.le_of_lt hw)) (fun a ha => by have := hf a ha; omega) _ _, fun a ha => by have := hf a ha; omega, hn⟩
  · rw [List.pairwise_append]
    refine ⟨h4, List.pairwise_singleton _ _, fun S hS T hT a b ha hb => ?_⟩
    obtain rfl := List.mem_singleton.1 hT
    have h5 := (h3 S hS).1.from a ha
    have h6 := hf b hb
    omega
theorem Mk.done {w wr : World} {n : Nat} {D : List (Nat × List Int)} (h : Mk w wr n n D) (hD : D.length = n) (hw : w.heap.size < wr.heap.size) : OwnD wr w.heap.size wr.heap.size (some ⟨w.heap.size, 0, none⟩) n n D := by
  obtain ⟨ts, h0, h1, h2, h3, h4⟩ := h
  refine ⟨ts, by rw [h1, List.take_of_length_le (by omega)], by simpa using h2, fun T hT => ?_, h4, fun a ha => by injection ha with ha; subst ha; exact ⟨Nat.le_refl _, hw⟩⟩
  have h5 := h3 T hT
  refine ⟨h5.1, fun a ha => ⟨(h5.1.from a ha).1, (h5.1.from a ha).2, fun r hr => ?_⟩, h5.2.2⟩
  injection hr with hr
  subst hr
  have := h5.2.1 a ha
  simp only
  omega
theorem infoTrack : (Try.prog.info? 35).map (fun i => (i.zero, i.size, i.bytes)) = some (some (.agg #[.slice none 0 0]), 1, 24) := by kernel_rfl
theorem dn_tot {D : List (Nat × List Int)} {k : Nat} (hk : k < D.length) : dn D k ≤ tot D := by
  have h1 := tot_take hk
  have h2 := tot_le D (k + 1)
  omega
set_option maxHeartbeats 1000000 in
theorem toTrackS_any (A : Option Addr) (n c : Nat) (D : List (Nat × List Int)) (w : World) (ha : RdD w A D) (hD : D.length = n) (hn2 : n ≤ 1048576) (ht : tot D ≤ 1048576) :
    Calls Try.prog 29 #[.slice A n c] w fun e w' => ∃ A' c', e = .returned (.slice A' n c') ∧ OwnD w' w.heap.size w'.heap.size A' n c' D ∧ Q w w' := by
  obtain ⟨i0, hi, hz0, hz1, hz2⟩ := info_parts infoTrack
  have HD := Lib.hid hD
  clear hD
  go_enter Try.func29, Try.ntmps29
  go_wp2_with (at_make; refine wpList_make_full _ rfl _ _ 56 rfl w.heap.size 35 i0 (.agg #[.slice none 0 0]) 1 Try.underlying56 hi hz0 hz1 .i64 .i64 n n n rfl rfl rfl rfl (by rw [hz2]; omega) (by unfold maxLen; omega) (Nat.le_refl _) ?_; intro w1 hown hgrow)
  rw [show (madeCells (Value.agg #[.slice none 0 0]).cells (n * 1)).toList = _ from made_one _ _, Nat.mul_one] at hown
  have hq0 : Q w w1 := (Q.refl w).grown hgrow (by simp)
  have hw1 := (World.ownsRow.lt hown _ rfl).2
  have HM : Mk w w1 n 0 D := ⟨[], rfl, by simp, by simpa using hown, fun T hT => by simp at hT, List.Pairwise.nil⟩
  clear hgrow hi hz0 hz1 hz2 hown
  go_loopw [4] (fun i wr => ∃ k : Nat, k ≤ n ∧ i = .int .i64 k ∧ Mk w wr n k D ∧ Q w wr ∧ w.heap.size < wr.heap.size) (fun i _ => n - (intOf i).toNat)
  case atStart => exact ⟨0, by omega, rfl, HM, hq0, hw1⟩
  case round =>
    clear HM hq0 hw1
    obtain ⟨k, hk, rfl, HM, hq, hw⟩ := hrel
    by_cases hlt : k < n
    · have hltI : (k : Int) < (n : Int) := by omega
      obtain ⟨b, o, B, cc, rfl, g0, hr, hx, _⟩ := (ha.q hq).at_ HD.out hlt
      have hm : dn D k ≤ 1048576 := by have := dn_tot (D := D) (k := k) (by rw [HD.out]; exact hlt); omega
      have HX := Lib.hid hx
      have K0 := Lib.hid (fun wv (h : Rd wv B (dx D k)) => toTrack_any B (dn D k) cc (dx D k) wv h HX.out hm)
      have HS := Lib.hid (fun w1 (c : Nat) (A : Option Addr) (hq : Q wr w1) (ho : Own w1 wr.heap.size 116 3 (.slice A (dn D k) c) (dn D k) (dx D k)) => HM.step HD.out hlt hq ho hm hw)
      have HF := Lib.hid (fun w1 (hq : Q wr w1) => (HM.q hq).cell hlt)
      have HG := Lib.hid (fun w1 (hq : Q wr w1) => (HM.q hq).frozen k)
      obtain ⟨m, hme⟩ : ∃ m, m = dn D k := ⟨_, rfl⟩
      obtain ⟨xs, hxe⟩ : ∃ xs, xs = dx D k := ⟨_, rfl⟩
      rw [← hme] at g0 K0 HS hm
      rw [← hxe] at K0 HS hr
      clear hme hxe hx HX HM
      go_wp2_with (go_at_call 17; refine (K0.out _ hr).mono ?_; rintro e w2 ⟨A1, c1, rfl, o1, q1⟩; have c2 := HF.out _ q1; have f2 := HG.out _ q1)
      have s1 := q1.size
      go_roundw
      case rel => exact ⟨k + 1, by omega, by go_num, HS.out _ _ _ q1 o1, (hq.trans q1).setCell (Nat.le_refl _) _, by simp; omega⟩
      case measure => simp [intOf]; omega
    · obtain rfl : k = n := by omega
      go_wp2_with fail
      go_ret
      exact ⟨_, _, rfl, HM.done HD.out hw, hq⟩
set_option maxRecDepth 100000 in
/-- An argument that is a slice of tracks. -/
theorem open_tracks {H : Type} {enc : TypeId × Value → H} {w : World} {base : Nat} {spare : Nat → Bool} {held : Bool} {r : Reach} {b0 : Nat} {v : Value} {d : DataW H} {p : List MemPlace}
    (hv : Value.okWide Try.prog w r b0 53 v) (h : DataW.Trod enc Try.prog w base spare held 53 v d p) :
    ∃ A len cap D, v = .slice A len cap ∧ D.length = len ∧ RdD w A D ∧ len ≤ cap ∧ cap ≤ maxLen := by
  obtain ⟨A, len, cap, rfl⟩ := okWide_slice Try.underlying53 hv
  obtain ⟨fuel, hf⟩ := h
  rcases open_slice Try.underlying53 hf with ⟨hcs, _⟩ | ⟨a, len', cap', m, n, Dd, Pl, hcs, hb, hl, hm, hmm, hx, hi⟩
  · simp [Value.cells] at hcs
    obtain ⟨rfl, rfl, rfl⟩ := hcs
    exact ⟨none, 0, 0, [], rfl, rfl, ⟨[], ⟨0, 0, fun h => absurd h (by simp), fun j hj => absurd hj (by simp)⟩, rfl⟩, Nat.le_refl _, Nat.zero_le _⟩
  · simp [Value.cells] at hcs
    obtain ⟨rfl, rfl, rfl⟩ := hcs
    have hlm : len ≤ m := by rw [hmm]; split <;> omega
    have hC : Try.prog.cellsOf 26 = 1 := by kernel_rfl
    have hX : ∀ i, i < len → ∃ T : Tk, w.cell? (a.add i) = some (.slice T.A T.n T.c) ∧ T.ok w := by
      intro i hil
      obtain ⟨cs', hc, ht'⟩ := hi i (by omega)
      rw [hC] at hc
      obtain ⟨_, hcl, hat⟩ := World.cells?_some hc
      have h1 := hat 0 (by omega)
      obtain ⟨xs, n1, _, hx1, _, hlen, hg⟩ := DataW.trod_struct Try.underlying26 ht'
      have h0 := hg 0 _ rfl
      cases hx0 : xs[0]? with
      | none => simp at hx0; simp [hx0] at hlen
      | some y =>
        rw [hx0] at h0
        obtain ⟨A, l0, c0, ys, hc0, hl0, hr0, _, hb1, hb2⟩ := open_rows0 Try.underlying24 flatFix (by kernel_rfl) (by decide) h0
        have h24 : Try.prog.cellsOf 24 = 1 := by kernel_rfl
        match cs', hcl with
        | [c], _ =>
          have hc' : c = .slice A l0 c0 := by simpa [h24] using hc0
          subst hc'
          refine ⟨⟨A, l0, c0, ys⟩, ?_, hr0, hl0, by simp only; unfold maxLen at hb2; omega⟩
          have e0 : (a.add (i * 1)).add 0 = a.add i := by simp [Addr.add]
          rw [e0] at h1
          simpa using h1
    obtain ⟨X, hX⟩ : ∃ X : Nat → Tk, ∀ i, i < len → w.cell? (a.add i) = some (.slice (X i).A (X i).n (X i).c) ∧ (X i).ok w := by
      refine ⟨fun i => if h : i < len then (hX i h).choose else ⟨none, 0, 0, []⟩, fun i hil => ?_⟩
      simp only [dif_pos hil]
      exact (hX i hil).choose_spec
    refine ⟨some a, len, cap, ((List.range len).map X).map Tk.dat, rfl, by simp, ⟨(List.range len).map X, ?_, rfl⟩, hl, hm⟩
    rcases Nat.eq_zero_or_pos len with rfl | hpos
    · exact ⟨0, 0, fun h => absurd h (by simp), fun j hj => absurd hj (by simp)⟩
    · obtain ⟨b, off, spot⟩ := a
      have hspot : spot = none := by simpa [Addr.add] using World.cell?_spot ((hX 0 hpos).1)
      subst hspot
      refine ⟨b, off, fun _ => rfl, fun j hj => ?_⟩
      have hj : j < len := by simpa using hj
      have := hX j hj
      rw [Go.WideShapes.add_plain] at this
      simpa using this
end Go.Proofs.Ytlmaecmjpbgegaa
