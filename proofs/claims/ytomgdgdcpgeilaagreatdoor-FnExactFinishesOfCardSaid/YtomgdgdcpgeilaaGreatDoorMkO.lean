/- Frames: a course that comes in as an argument: its two lines and its marks. No condition. -/
import Derived.Test.YtomgdgdcpgeilaaGreatDoorMkB
import Derived.Test.YtomgdgdcpgeilaaGreatDoorTrk
namespace Go.Proofs.YtomgdgdcpgeilaaGreatDoor
open Go.RowKit Go.WideShapes Go.ChangeShapes Go.Deep
theorem flatPointC : FlatE Tryz.prog 23 2 :=
  FlatE.struct Tryz.underlying23 (by kernel_rfl) ⟨rfl, 1, by kernel_rfl, FlatE.int Tryz.underlying2, rfl, 1, by kernel_rfl, FlatE.int Tryz.underlying2, rfl⟩
theorem flatLineC : FlatE Tryz.prog 25 4 :=
  FlatE.struct Tryz.underlying25 (by kernel_rfl) ⟨rfl, 2, by kernel_rfl, flatPointC, rfl, 2, by kernel_rfl, flatPointC, rfl⟩
theorem some_at {α : Type} {xs : List α} {n i : Nat} (h : xs.length = n) (hi : i < n) : ∃ y, xs[i]? = some y := ⟨xs[i]'(by omega), List.getElem?_eq_getElem (by omega)⟩
theorem len1 {α : Type} {L : List α} (h : L.length = 1) : ∃ a, L = [a] := by
  match L, h with
  | [a], _ => exact ⟨a, rfl⟩
set_option maxRecDepth 100000 in
/-- The cells of a mark. -/
theorem open_mark0 {H : Type} {enc : TypeId × Value → H} {w : World} {base : Nat} {spare : Nat → Bool} {held : Bool} {fuel : Nat} {cs : List Value} {x : DataW H × List MemPlace}
    (hf : DataW.trod enc Tryz.prog w base spare held fuel 109 cs = some x) : ∃ m : Mk, cs = [.string m.nm, .int .i64 m.x, .int .i64 m.y, .int .i64 m.sd, .int .i64 m.zn] ∧ m.nm.size ≤ maxLen := by
  obtain ⟨ys, n, _, _, hlen, hyl, hg⟩ := DataW.trod_struct Tryz.underlying109 hf
  have h5 : Tryz.prog.cellsOf 109 = 5 := by kernel_rfl
  have hs1 : Tryz.prog.cellsOf 9 = 1 := by kernel_rfl
  have hs2 : Tryz.prog.cellsOf 23 = 2 := by kernel_rfl
  have hs3 : Tryz.prog.cellsOf 2 = 1 := by kernel_rfl
  rw [h5] at hlen
  have hyl4 : ys.length = 4 := hyl
  have h0 := hg 0 _ rfl
  have h1 := hg 1 _ rfl
  have h2 := hg 2 _ rfl
  have h3 := hg 3 _ rfl
  obtain ⟨y0, e0⟩ := some_at hyl4 (show 0 < 4 by decide)
  obtain ⟨y1, e1⟩ := some_at hyl4 (show 1 < 4 by decide)
  obtain ⟨y2, e2⟩ := some_at hyl4 (show 2 < 4 by decide)
  obtain ⟨y3, e3⟩ := some_at hyl4 (show 3 < 4 by decide)
  rw [e0] at h0
  rw [e1] at h1
  rw [e2] at h2
  rw [e3] at h3
  match cs, hlen with
  | [c0, c1, c2, c3, c4], _ =>
    obtain ⟨s, k0, _, hs⟩ := DataW.trod_string Tryz.underlying9 h0
    obtain ⟨ps, k1, l1, _⟩ := flatPointC _ _ _ _ _ _ _ _ h1
    obtain ⟨qs, k2, l2, _⟩ := (FlatE.int Tryz.underlying2) _ _ _ _ _ _ _ _ h2
    obtain ⟨rs, k3, l3, _⟩ := (FlatE.int Tryz.underlying2) _ _ _ _ _ _ _ _ h3
    obtain ⟨p0, p1, rfl⟩ := len2 l1
    obtain ⟨q0, rfl⟩ := len1 l2
    obtain ⟨r0, rfl⟩ := len1 l3
    simp [hs1] at k0
    simp [hs2] at k1
    simp [hs3] at k2 k3
    subst k0
    obtain ⟨rfl, rfl⟩ := k1
    subst k2
    subst k3
    exact ⟨⟨s, p0, p1, q0, r0⟩, rfl, hs⟩
set_option maxRecDepth 100000 in
/-- A cell that is a slice of marks. -/
theorem open_marks0 {H : Type} {enc : TypeId × Value → H} {w : World} {base : Nat} {spare : Nat → Bool} {held : Bool} {fuel : Nat} {cs : List Value} {x : DataW H × List MemPlace}
    (hf : DataW.trod enc Tryz.prog w base spare held fuel 26 cs = some x) : ∃ A len cap ms, cs = [.slice A len cap] ∧ ms.length = len ∧ RdM w A ms ∧ len ≤ cap ∧ cap ≤ maxLen := by
  rcases open_slice Tryz.underlying26 hf with ⟨rfl, _⟩ | ⟨a, len, cap, m, n, D, Pl, rfl, hb, hl, hm, hmm, hx, hi⟩
  · exact ⟨none, 0, 0, [], rfl, rfl, ⟨0, 0, fun h => absurd h (by simp), fun k hk => absurd hk (by simp)⟩, Nat.le_refl _, Nat.zero_le _⟩
  · have hlm : len ≤ m := by rw [hmm]; split <;> omega
    have hC : Tryz.prog.cellsOf 109 = 5 := by kernel_rfl
    have hX : ∀ i, i < len → ∃ M : Mk, (w.cell? ((a.add (i * 5)).add 0) = some (.string M.nm) ∧ w.cell? ((a.add (i * 5)).add 1) = some (.int .i64 M.x) ∧ w.cell? ((a.add (i * 5)).add 2) = some (.int .i64 M.y) ∧ w.cell? ((a.add (i * 5)).add 3) = some (.int .i64 M.sd) ∧ w.cell? ((a.add (i * 5)).add 4) = some (.int .i64 M.zn)) ∧ M.nm.size ≤ maxLen := by
      intro i hil
      obtain ⟨cs', hc, ht'⟩ := hi i (by omega)
      rw [hC] at hc
      obtain ⟨_, hcl, hat⟩ := World.cells?_some hc
      obtain ⟨M, rfl, hs⟩ := open_mark0 ht'
      exact ⟨M, ⟨hat 0 (by decide), hat 1 (by decide), hat 2 (by decide), hat 3 (by decide), hat 4 (by decide)⟩, hs⟩
    obtain ⟨X, hX⟩ : ∃ X : Nat → Mk, ∀ i, i < len → (w.cell? ((a.add (i * 5)).add 0) = some (.string (X i).nm) ∧ w.cell? ((a.add (i * 5)).add 1) = some (.int .i64 (X i).x) ∧ w.cell? ((a.add (i * 5)).add 2) = some (.int .i64 (X i).y) ∧ w.cell? ((a.add (i * 5)).add 3) = some (.int .i64 (X i).sd) ∧ w.cell? ((a.add (i * 5)).add 4) = some (.int .i64 (X i).zn)) ∧ (X i).nm.size ≤ maxLen := by
      refine ⟨fun i => if h : i < len then (hX i h).choose else ⟨ByteArray.empty, 0, 0, 0, 0⟩, fun i hil => ?_⟩
      simp only [dif_pos hil]
      exact (hX i hil).choose_spec
    refine ⟨some a, len, cap, (List.range len).map X, rfl, by simp, ?_, hl, hm⟩
    rcases Nat.eq_zero_or_pos len with rfl | hpos
    · exact ⟨0, 0, fun h => absurd h (by simp), fun k hk => absurd hk (by simp)⟩
    · obtain ⟨b, off, spot⟩ := a
      have hspot : spot = none := by simpa [Addr.add] using World.cell?_spot ((hX 0 hpos).1.1)
      subst hspot
      refine ⟨b, off, fun _ => rfl, fun j hj => ?_⟩
      have hj : j < len := by simpa using hj
      have hm : mx ((List.range len).map X) j = X j := by
        unfold mx
        rw [List.getD_eq_getElem?_getD, List.getElem?_map, List.getElem?_range hj]
        rfl
      rw [hm]
      obtain ⟨⟨a0, a1, a2, a3, a4⟩, hs⟩ := hX j hj
      rw [Go.WideShapes.add_plain, Go.WideShapes.add_plain] at a0 a1 a2 a3 a4
      exact ⟨⟨a0, a1, a2, a3, a4⟩, hs⟩
set_option maxRecDepth 100000 in
/-- An argument that is a course. -/
theorem open_course {H : Type} {enc : TypeId × Value → H} {w : World} {base : Nat} {spare : Nat → Bool} {held : Bool} {r : Reach} {b0 : Nat} {v : Value} {d : DataW H} {p : List MemPlace}
    (hv : Value.okWide Tryz.prog w r b0 28 v) (h : DataW.Trod enc Tryz.prog w base spare held 28 v d p) :
    ∃ x0 x1 x2 x3 x4 x5 x6 x7 A len cap ms, v = .agg #[.int .i64 x0, .int .i64 x1, .int .i64 x2, .int .i64 x3, .int .i64 x4, .int .i64 x5, .int .i64 x6, .int .i64 x7, .slice A len cap] ∧ ms.length = len ∧ RdM w A ms ∧ len ≤ cap ∧ cap ≤ maxLen := by
  obtain ⟨cs, rfl, hsz⟩ := okWide_struct Tryz.underlying28 hv
  obtain ⟨l⟩ := cs
  have h1 : l.length = 9 := hsz.trans (by kernel_rfl)
  obtain ⟨fuel, hf⟩ := h
  obtain ⟨ys, n, _, _, _, hyl, hg⟩ := DataW.trod_struct Tryz.underlying28 hf
  have hs1 : Tryz.prog.cellsOf 25 = 4 := by kernel_rfl
  have hs2 : Tryz.prog.cellsOf 26 = 1 := by kernel_rfl
  have hyl3 : ys.length = 3 := hyl
  have g0 := hg 0 _ rfl
  have g1 := hg 1 _ rfl
  have g2 := hg 2 _ rfl
  obtain ⟨y0, e0⟩ := some_at hyl3 (show 0 < 3 by decide)
  obtain ⟨y1, e1⟩ := some_at hyl3 (show 1 < 3 by decide)
  obtain ⟨y2, e2⟩ := some_at hyl3 (show 2 < 3 by decide)
  rw [e0] at g0
  rw [e1] at g1
  rw [e2] at g2
  match l, h1 with
  | [c0, c1, c2, c3, c4, c5, c6, c7, c8], _ =>
    obtain ⟨ps, k0, l0, _⟩ := flatLineC _ _ _ _ _ _ _ _ g0
    obtain ⟨qs, k1, l1, _⟩ := flatLineC _ _ _ _ _ _ _ _ g1
    obtain ⟨A, len, cap, ms, k2, hrest⟩ := open_marks0 g2
    obtain ⟨p0, p1, p2, p3, rfl⟩ := len4 l0
    obtain ⟨q0, q1, q2, q3, rfl⟩ := len4 l1
    simp [hs1, Value.cells] at k0 k1
    simp [hs2, Value.cells] at k2
    obtain ⟨rfl, rfl, rfl, rfl⟩ := k0
    obtain ⟨rfl, rfl, rfl, rfl⟩ := k1
    subst k2
    exact ⟨p0, p1, p2, p3, q0, q1, q2, q3, A, len, cap, ms, rfl, hrest⟩
end Go.Proofs.YtomgdgdcpgeilaaGreatDoor
