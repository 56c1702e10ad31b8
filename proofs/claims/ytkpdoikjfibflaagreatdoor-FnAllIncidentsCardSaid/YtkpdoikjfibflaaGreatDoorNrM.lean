/- Walks: hulls that are near, as the program tells it. No condition. -/
import Derived.Test.YtkpdoikjfibflaaGreatDoorNrL
import Derived.Deep.RegionHeld3
import Derived.Deep.CutBlock
namespace Go.Proofs.YtkpdoikjfibflaaGreatDoor
open Go.RowKit Go.WideShapes Go.ChangeShapes
/-- Whether two hulls are near, and the code. -/
def hnR (a b x y l a' b' x' y' l' D : Int) : Bool := lnB (snV a x l x y) (snV b y l x y) a b && lnB (snV a' x' l' x' y') (snV b' y' l' x' y') a' b' && hnB (snV a x l x y) (snV b y l x y) a b (snV a' x' l' x' y') (snV b' y' l' x' y') a' b' D
def hnK (a b x y l a' b' x' y' l' : Int) : Int := if (lnB (snV a x l x y) (snV b y l x y) a b && lnB (snV a' x' l' x' y') (snV b' y' l' x' y') a' b') = true then 0 else 2
theorem hn_def (a b x y l a' b' x' y' l' D : Int) : hnR a b x y l a' b' x' y' l' D = (lnB (snV a x l x y) (snV b y l x y) a b && lnB (snV a' x' l' x' y') (snV b' y' l' x' y') a' b' && (meetV (snV a x l x y) (snV b y l x y) a b (snV a' x' l' x' y') (snV b' y' l' x' y') a' b' || nearB (snV a x l x y) (snV b y l x y) a b (snV a' x' l' x' y') (snV b' y' l' x' y') D || nearB (snV a x l x y) (snV b y l x y) a b a' b' D || nearB (snV a' x' l' x' y') (snV b' y' l' x' y') a' b' (snV a x l x y) (snV b y l x y) D || nearB (snV a' x' l' x' y') (snV b' y' l' x' y') a' b' a b D)) ∧
    hnK a b x y l a' b' x' y' l' = if (lnB (snV a x l x y) (snV b y l x y) a b && lnB (snV a' x' l' x' y') (snV b' y' l' x' y') a' b') = true then 0 else 2 := ⟨rfl, rfl⟩
theorem Blk.s4 {w : World} {b : Nat} {T : TypeId} {x y z u : Value} (h : Blk w b T #[x, y, z, u]) (x' y' z' u' : Value) : Blk ((((w.setCell ⟨b, 0, none⟩ x').setCell ⟨b, 1, none⟩ y').setCell ⟨b, 2, none⟩ z').setCell ⟨b, 3, none⟩ u') b T #[x', y', z', u'] := by
  have := (((h.set_ 0 x').set_ 1 y').set_ 2 z').set_ 3 u'
  simpa using this
theorem Blk.far4' {w : World} {g b : Nat} {T : TypeId} {cs : Array Value} (h : Blk w g T cs) (hne : g ≠ b) (x' y' z' u' : Value) : Blk ((((w.setCell ⟨b, 0, none⟩ x').setCell ⟨b, 1, none⟩ y').setCell ⟨b, 2, none⟩ z').setCell ⟨b, 3, none⟩ u') g T cs :=
  (((h.far (p := ⟨b, 0, none⟩) hne _).far (p := ⟨b, 1, none⟩) hne _).far (p := ⟨b, 2, none⟩) hne _).far (p := ⟨b, 3, none⟩) hne _
theorem Q.set4 {w wo : World} {b : Nat} (q : Q wo w) (hb : wo.heap.size ≤ b) (x' y' z' u' : Value) : Q wo ((((w.setCell ⟨b, 0, none⟩ x').setCell ⟨b, 1, none⟩ y').setCell ⟨b, 2, none⟩ z').setCell ⟨b, 3, none⟩ u') :=
  (((q.setCell (p := ⟨b, 0, none⟩) hb _).setCell (p := ⟨b, 1, none⟩) hb _).setCell (p := ⟨b, 2, none⟩) hb _).setCell (p := ⟨b, 3, none⟩) hb _
/-- Two segments lie where two pointers lead. -/
def SgsAt (wo wf : World) (T : TypeId) (x0 y0 z0 u0 x1 y1 z1 u1 p q : Value) : Prop := ∃ b7 b8, p = .pointer (some ⟨b7, 0, none⟩) ∧ q = .pointer (some ⟨b8, 0, none⟩) ∧ Blk wf b7 T #[x0, y0, z0, u0] ∧ Blk wf b8 T #[x1, y1, z1, u1] ∧ Q wo wf
section
variable {wo w6 : World} {T : TypeId} {x0 y0 z0 u0 x1 y1 z1 u1 e0 e1 e2 e3 f0 f1 f2 f3 : Value} {b b' : Nat}
theorem sg_s0a (q : Q wo w6) : SgsAt wo ((w6.alloc (.cells #[x0, y0, z0, u0] T)).alloc (.cells #[x1, y1, z1, u1] T)) T x0 y0 z0 u0 x1 y1 z1 u1 (.pointer (some ⟨w6.heap.size, 0, none⟩)) (.pointer (some ⟨w6.heap.size + 1, 0, none⟩)) :=
  ⟨_, _, rfl, rfl, (Blk.new _ _ _).alloc _, by simpa using Blk.new (w6.alloc (.cells #[x0, y0, z0, u0] T)) T #[x1, y1, z1, u1], (q.alloc _).alloc _⟩
theorem sg_s0b (q : Q wo w6) : SgsAt wo ((w6.alloc (.cells #[x1, y1, z1, u1] T)).alloc (.cells #[x0, y0, z0, u0] T)) T x0 y0 z0 u0 x1 y1 z1 u1 (.pointer (some ⟨w6.heap.size + 1, 0, none⟩)) (.pointer (some ⟨w6.heap.size, 0, none⟩)) :=
  ⟨_, _, rfl, rfl, by simpa using Blk.new (w6.alloc (.cells #[x1, y1, z1, u1] T)) T #[x0, y0, z0, u0], (Blk.new _ _ _).alloc _, (q.alloc _).alloc _⟩
theorem sg_s1a (h : Blk w6 b T #[e0, e1, e2, e3]) (q : Q wo w6) (hb : wo.heap.size ≤ b) : SgsAt wo (((((w6.setCell ⟨b, 0, none⟩ x0).setCell ⟨b, 1, none⟩ y0).setCell ⟨b, 2, none⟩ z0).setCell ⟨b, 3, none⟩ u0).alloc (.cells #[x1, y1, z1, u1] T)) T x0 y0 z0 u0 x1 y1 z1 u1 (.pointer (some ⟨b, 0, none⟩)) (.pointer (some ⟨w6.heap.size, 0, none⟩)) :=
  ⟨_, _, rfl, rfl, (h.s4 x0 y0 z0 u0).alloc _, by simpa [World.setCell] using Blk.new ((((w6.setCell ⟨b, 0, none⟩ x0).setCell ⟨b, 1, none⟩ y0).setCell ⟨b, 2, none⟩ z0).setCell ⟨b, 3, none⟩ u0) T #[x1, y1, z1, u1], (q.set4 hb _ _ _ _).alloc _⟩
theorem sg_s1b (h : Blk w6 b T #[e0, e1, e2, e3]) (q : Q wo w6) (hb : wo.heap.size ≤ b) : SgsAt wo (((((w6.setCell ⟨b, 0, none⟩ x1).setCell ⟨b, 1, none⟩ y1).setCell ⟨b, 2, none⟩ z1).setCell ⟨b, 3, none⟩ u1).alloc (.cells #[x0, y0, z0, u0] T)) T x0 y0 z0 u0 x1 y1 z1 u1 (.pointer (some ⟨w6.heap.size, 0, none⟩)) (.pointer (some ⟨b, 0, none⟩)) :=
  ⟨_, _, rfl, rfl, by simpa [World.setCell] using Blk.new ((((w6.setCell ⟨b, 0, none⟩ x1).setCell ⟨b, 1, none⟩ y1).setCell ⟨b, 2, none⟩ z1).setCell ⟨b, 3, none⟩ u1) T #[x0, y0, z0, u0], (h.s4 x1 y1 z1 u1).alloc _, (q.set4 hb _ _ _ _).alloc _⟩
theorem sg_s2 (h : Blk w6 b T #[e0, e1, e2, e3]) (h' : Blk w6 b' T #[f0, f1, f2, f3]) (q : Q wo w6) (hb : wo.heap.size ≤ b) (hb' : wo.heap.size ≤ b') (hne : b ≠ b') : SgsAt wo ((((((((w6.setCell ⟨b, 0, none⟩ x0).setCell ⟨b, 1, none⟩ y0).setCell ⟨b, 2, none⟩ z0).setCell ⟨b, 3, none⟩ u0).setCell ⟨b', 0, none⟩ x1).setCell ⟨b', 1, none⟩ y1).setCell ⟨b', 2, none⟩ z1).setCell ⟨b', 3, none⟩ u1) T x0 y0 z0 u0 x1 y1 z1 u1 (.pointer (some ⟨b, 0, none⟩)) (.pointer (some ⟨b', 0, none⟩)) :=
  ⟨_, _, rfl, rfl, (h.s4 x0 y0 z0 u0).far4' hne _ _ _ _, (h'.far4' (fun e => hne e.symm) _ _ _ _).s4 x1 y1 z1 u1, (q.set4 hb _ _ _ _).set4 hb' _ _ _ _⟩
end
theorem impl_areHulls1 (a b x y l a' b' x' y' l' : Int) (w : World) (hp : pt a b) (h : hdOk x y) (hl : 1 ≤ l ∧ l ≤ 1000) (hp' : pt a' b') (h' : hdOk x' y') (hl' : 1 ≤ l' ∧ l' ≤ 1000) :
    Calls Tryz.prog 70 #[.agg #[.int .i64 a, .int .i64 b, .int .i64 x, .int .i64 y, .int .i64 l], .agg #[.int .i64 a', .int .i64 b', .int .i64 x', .int .i64 y', .int .i64 l']] w fun e w' => e = .returned (.bool true) ∧ Q w w' := by
  have K1 := Lib.hid (fun wv => impl_IsHull1 a b x y l wv hp h hl)
  have K2 := Lib.hid (fun wv => impl_IsHull1 a' b' x' y' l' wv hp' h' hl')
  have B1 := (bx5 w a b x y l).alloc (.cells #[.int .i64 a', .int .i64 b', .int .i64 x', .int .i64 y', .int .i64 l'] 86)
  have B2 := bx5 (w.alloc (.cells #[.int .i64 a, .int .i64 b, .int .i64 x, .int .i64 y, .int .i64 l] 86)) a' b' x' y' l'
  simp only [World.size_alloc] at B2
  have Q0 : Q w ((w.alloc (.cells #[.int .i64 a, .int .i64 b, .int .i64 x, .int .i64 y, .int .i64 l] 86)).alloc (.cells #[.int .i64 a', .int .i64 b', .int .i64 x', .int .i64 y', .int .i64 l'] 86)) := by (repeat (first | assumption | exact Q.refl _ | refine Q.alloc ?_ _ | refine Q.drewN ?_ _ | refine Q.drew ?_))
  clear hp h hl hp' h' hl'
  go_enter Tryz.func70, Tryz.ntmps70
  go_wp2_with fail
  refine (K1.out _).mono ?_
  rintro e1 w1 ⟨rfl, q1⟩
  have c1 := (B1.q q1).cell
  have c2 := (B2.q q1).cell
  have l1 := (B1.q q1).lt
  have l2 := (B2.q q1).lt
  go_wp2_with fail
  refine (K2.out _).mono ?_
  rintro e2 w2 ⟨rfl, q2⟩
  go_wp2_with fail
  go_ret
  exact ⟨rfl, (Q0.trans q1).trans q2⟩
set_option maxRecDepth 100000 in
set_option maxHeartbeats 8000000 in
theorem impl_HullsNear (a b x y l a' b' x' y' l' D : Int) (w : World) (hp : pt a b) (h : hdOk x y) (hl : 1 ≤ l ∧ l ≤ 1000) (hp' : pt a' b') (h' : hdOk x' y') (hl' : 1 ≤ l' ∧ l' ≤ 1000) (hD : 0 ≤ D ∧ D ≤ 10000) :
    Calls Tryz.prog 56 #[.agg #[.int .i64 a, .int .i64 b, .int .i64 x, .int .i64 y, .int .i64 l], .agg #[.int .i64 a', .int .i64 b', .int .i64 x', .int .i64 y', .int .i64 l'], .int .i64 D] w fun e w' => e = .returned (.tuple #[.bool (hnR a b x y l a' b' x' y' l' D), .int .i64 (hnK a b x y l a' b' x' y' l')]) ∧ Q w w' := by
  have K1 := Lib.hid (fun wv => impl_areHulls1 a b x y l a' b' x' y' l' wv hp h hl hp' h' hl')
  have K2 := Lib.hid (fun wv => impl_sternOf a b x y l wv hp h hl)
  have K3 := Lib.hid (fun wv => impl_sternOf a' b' x' y' l' wv hp' h' hl')
  have kd := fun wv => impl_inR D 0 10000 wv
  rw [inR_yes hD] at kd
  have KD := Lib.hid kd
  have kS := fun wv => impl_IsSegment (snV a x l x y) (snV b y l x y) a b wv
  have kT := fun wv => impl_IsSegment (snV a' x' l' x' y') (snV b' y' l' x' y') a' b' wv
  have kM := fun wv (h1 : lnB (snV a x l x y) (snV b y l x y) a b = true) (h2 : lnB (snV a' x' l' x' y') (snV b' y' l' x' y') a' b' = true) => impl_SegmentsMeet (snV a x l x y) (snV b y l x y) a b (snV a' x' l' x' y') (snV b' y' l' x' y') a' b' wv h1 h2
  have kA := fun wv (h1 : lnB (snV a x l x y) (snV b y l x y) a b = true) (h2 : lnB (snV a' x' l' x' y') (snV b' y' l' x' y') a' b' = true) => impl_endNear (snV a x l x y) (snV b y l x y) a b (snV a' x' l' x' y') (snV b' y' l' x' y') a' b' D wv h1 h2 hD
  have kB := fun wv (h1 : lnB (snV a x l x y) (snV b y l x y) a b = true) (h2 : lnB (snV a' x' l' x' y') (snV b' y' l' x' y') a' b' = true) => impl_endNear (snV a' x' l' x' y') (snV b' y' l' x' y') a' b' (snV a x l x y) (snV b y l x y) a b D wv h2 h1 hD
  clear kd hD hp hp'
  have HR := Lib.hid (hn_def a b x y l a' b' x' y' l' D)
  generalize hnR a b x y l a' b' x' y' l' D = R at *
  generalize hnK a b x y l a' b' x' y' l' = C at *
  generalize snV a x l x y = sx at *
  generalize snV b y l x y = sy at *
  generalize snV a' x' l' x' y' = tx at *
  generalize snV b' y' l' x' y' = ty at *
  generalize lnB sx sy a b = L1 at *
  generalize lnB tx ty a' b' = L2 at *
  generalize meetV sx sy a b tx ty a' b' = M at *
  generalize nearB sx sy a b tx ty D = N1 at *
  generalize nearB sx sy a b a' b' D = N2 at *
  generalize nearB tx ty a' b' sx sy D = N3 at *
  generalize nearB tx ty a' b' a b D = N4 at *
  have KS := Lib.hid kS
  have KT := Lib.hid kT
  have HM := Lib.hid kM
  have HA := Lib.hid kA
  have HB := Lib.hid kB
  clear kA kB
  clear kS kT kM
  have B1 := (bx5 w a b x y l).alloc (.cells #[.int .i64 a', .int .i64 b', .int .i64 x', .int .i64 y', .int .i64 l'] 86)
  have B2 := bx5 (w.alloc (.cells #[.int .i64 a, .int .i64 b, .int .i64 x, .int .i64 y, .int .i64 l] 86)) a' b' x' y' l'
  simp only [World.size_alloc] at B2
  have Q0 : Q w ((w.alloc (.cells #[.int .i64 a, .int .i64 b, .int .i64 x, .int .i64 y, .int .i64 l] 86)).alloc (.cells #[.int .i64 a', .int .i64 b', .int .i64 x', .int .i64 y', .int .i64 l'] 86)) := by (repeat (first | assumption | exact Q.refl _ | refine Q.alloc ?_ _ | refine Q.drewN ?_ _ | refine Q.drew ?_))
  clear h hl h' hl'
  go_enter Tryz.func56, Tryz.ntmps56
  go_wp2_with fail
  refine (K1.out _).mono ?_
  rintro e1 wo ⟨rfl, q1⟩
  replace Q0 := Q0.trans q1
  replace B1 := B1.q q1
  replace B2 := B2.q q1
  clear q1 K1
  go_upto_region 3 with (fail)
  have zo := Q0.size
  have l1 := B1.lt
  have l2 := B2.lt
  go_cut [8, 9] from 16 (fun p q wc => SgsAt wo wc 106 (.int .i64 sx) (.int .i64 sy) (.int .i64 a) (.int .i64 b) (.int .i64 tx) (.int .i64 ty) (.int .i64 a') (.int .i64 b') p q)
  case first =>
    have hS : ∀ w', Q wo w' → (Q wo w' ∧ w'.cell? ⟨w.heap.size, 0, none⟩ = some (.int .i64 a) ∧ w'.cell? ⟨w.heap.size, 1, none⟩ = some (.int .i64 b) ∧ w'.cell? ⟨w.heap.size, 2, none⟩ = some (.int .i64 x) ∧ w'.cell? ⟨w.heap.size, 3, none⟩ = some (.int .i64 y) ∧ w'.cell? ⟨w.heap.size, 4, none⟩ = some (.int .i64 l) ∧ w'.cell? ⟨w.heap.size + 1, 0, none⟩ = some (.int .i64 a') ∧ w'.cell? ⟨w.heap.size + 1, 1, none⟩ = some (.int .i64 b') ∧ w'.cell? ⟨w.heap.size + 1, 2, none⟩ = some (.int .i64 x') ∧ w'.cell? ⟨w.heap.size + 1, 3, none⟩ = some (.int .i64 y') ∧ w'.cell? ⟨w.heap.size + 1, 4, none⟩ = some (.int .i64 l')) := fun w' q => ⟨q, (B1.q q).cell 0, (B1.q q).cell 1, (B1.q q).cell 2, (B1.q q).cell 3, (B1.q q).cell 4, (B2.q q).cell 0, (B2.q q).cell 1, (B2.q q).cell 2, (B2.q q).cell 3, (B2.q q).cell 4⟩
    go_region_held3 (fun w' => Q wo w' ∧ w'.cell? ⟨w.heap.size, 0, none⟩ = some (.int .i64 a) ∧ w'.cell? ⟨w.heap.size, 1, none⟩ = some (.int .i64 b) ∧ w'.cell? ⟨w.heap.size, 2, none⟩ = some (.int .i64 x) ∧ w'.cell? ⟨w.heap.size, 3, none⟩ = some (.int .i64 y) ∧ w'.cell? ⟨w.heap.size, 4, none⟩ = some (.int .i64 l) ∧ w'.cell? ⟨w.heap.size + 1, 0, none⟩ = some (.int .i64 a') ∧ w'.cell? ⟨w.heap.size + 1, 1, none⟩ = some (.int .i64 b') ∧ w'.cell? ⟨w.heap.size + 1, 2, none⟩ = some (.int .i64 x') ∧ w'.cell? ⟨w.heap.size + 1, 3, none⟩ = some (.int .i64 y') ∧ w'.cell? ⟨w.heap.size + 1, 4, none⟩ = some (.int .i64 l')) (first | exact hS _ (by (repeat (first | with_reducible assumption | with_reducible exact Q.refl _ | with_reducible refine Q.alloc ?_ _ | with_reducible refine Q.drewN ?_ _ | with_reducible refine Q.drew ?_ | with_reducible refine Q.setCell ?_ (by first | with_reducible exact Nat.le_refl _ | (simp only; omega) | (simp; done) | (simp; omega)) _))) | (go_split_ands; exact hS _ (by (repeat (first | with_reducible assumption | with_reducible exact Q.refl _ | with_reducible refine Q.alloc ?_ _ | with_reducible refine Q.drewN ?_ _ | with_reducible refine Q.drew ?_ | with_reducible refine Q.setCell ?_ (by first | with_reducible exact Nat.le_refl _ | (simp only; omega) | (simp; done) | (simp; omega)) _))))) (first | (have q50 := q5; go_at_call 71; refine (K3.out _).mono ?_; rintro e w6 ⟨rfl, q6⟩; have QR : Q wo w6 := Q.trans (by (repeat (first | with_reducible assumption | with_reducible exact Q.refl _ | with_reducible refine Q.alloc ?_ _ | with_reducible refine Q.drewN ?_ _ | with_reducible refine Q.drew ?_ | with_reducible refine Q.setCell ?_ (by first | with_reducible exact Nat.le_refl _ | (simp only; omega) | (simp; done) | (simp; omega)) _))) q6; have zr := QR.size; (first | (have X1 := Y1.q q6; have X1c := X1.cell; have X1f := X1.frozen; have X1l := X1.lt) | (have X1 := (Y1.alloc _).q q6; have X1c := X1.cell; have X1f := X1.frozen; have X1l := X1.lt) | (have X1 := ((Y1.alloc _).alloc _).q q6; have X1c := X1.cell; have X1f := X1.frozen; have X1l := X1.lt) | skip); (first | (have X2 := Y2.q q6; have X2c := X2.cell; have X2f := X2.frozen; have X2l := X2.lt) | (have X2 := (Y2.alloc _).q q6; have X2c := X2.cell; have X2f := X2.frozen; have X2l := X2.lt) | (have X2 := ((Y2.alloc _).alloc _).q q6; have X2c := X2.cell; have X2f := X2.frozen; have X2l := X2.lt) | skip); (first | (have X3 := (q6).boxB2; have X40 := (q6).boxB; have X3c := X3.cell; have X3f := X3.frozen; have X3l := X3.lt; simp only [World.size_alloc] at X40; have X4 := X40; have X4c := X4.cell; have X4f := X4.frozen; have X4l := X4.lt) | (have X3 := (q6).boxB; have X3c := X3.cell; have X3f := X3.frozen; have X3l := X3.lt) | (have X3 := (Q.trans ((Q.refl _).drew) q6).boxB2; have X40 := (Q.trans ((Q.refl _).drew) q6).boxB; have X3c := X3.cell; have X3f := X3.frozen; have X3l := X3.lt; simp only [World.size_alloc] at X40; have X4 := X40; have X4c := X4.cell; have X4f := X4.frozen; have X4l := X4.lt) | (have X3 := (Q.trans ((Q.refl _).drew) q6).boxB; have X3c := X3.cell; have X3f := X3.frozen; have X3l := X3.lt) | skip)) | (go_at_call 71; refine (K2.out _).mono ?_; rintro e w5 ⟨rfl, q5⟩; have QR : Q wo w5 := Q.trans (by (repeat (first | with_reducible assumption | with_reducible exact Q.refl _ | with_reducible refine Q.alloc ?_ _ | with_reducible refine Q.drewN ?_ _ | with_reducible refine Q.drew ?_ | with_reducible refine Q.setCell ?_ (by first | with_reducible exact Nat.le_refl _ | (simp only; omega) | (simp; done) | (simp; omega)) _))) q5; have zr := QR.size; (first | (have Y1 := (q5).boxB2; have Y20 := (q5).boxB; have Y1c := Y1.cell; have Y1f := Y1.frozen; have Y1l := Y1.lt; simp only [World.size_alloc] at Y20; have Y2 := Y20; have Y2c := Y2.cell; have Y2f := Y2.frozen; have Y2l := Y2.lt) | (have Y1 := (q5).boxB; have Y1c := Y1.cell; have Y1f := Y1.frozen; have Y1l := Y1.lt) | (have Y1 := (Q.trans ((Q.refl _).drew) q5).boxB2; have Y20 := (Q.trans ((Q.refl _).drew) q5).boxB; have Y1c := Y1.cell; have Y1f := Y1.frozen; have Y1l := Y1.lt; simp only [World.size_alloc] at Y20; have Y2 := Y20; have Y2c := Y2.cell; have Y2f := Y2.frozen; have Y2l := Y2.lt) | (have Y1 := (Q.trans ((Q.refl _).drew) q5).boxB; have Y1c := Y1.cell; have Y1f := Y1.frozen; have Y1l := Y1.lt) | skip)))
    all_goals (go_wp2_with fail; go_meet)
    all_goals clear hS
    all_goals first | with_reducible exact sg_s0a QR | with_reducible exact sg_s0b QR | with_reducible exact sg_s1a X3 QR (by omega) | with_reducible exact sg_s1b X3 QR (by omega) | with_reducible exact sg_s1a X1 QR (by omega) | with_reducible exact sg_s1b X1 QR (by omega) | with_reducible exact sg_s2 X3 X4 QR (by omega) (by omega) (by omega) | with_reducible exact sg_s2 X4 X3 QR (by omega) (by omega) (by omega) | with_reducible exact sg_s2 X1 X3 QR (by omega) (by omega) (by omega) | with_reducible exact sg_s2 X3 X1 QR (by omega) (by omega) (by omega) | with_reducible exact sg_s2 X1 X2 QR (by omega) (by omega) (by omega) | with_reducible exact sg_s2 X2 X1 QR (by omega) (by omega) (by omega)
  case rest =>
    clear l1 l2
    obtain ⟨b8, b9, rfl, rfl, B8, B9, QC⟩ := hcut
    replace Q0 := Q0.trans QC
    clear QC zo B1 B2 K2 K3
    have c8 := B8.cell
    have c9 := B9.cell
    have l8 := B8.lt
    have l9 := B9.lt
    go_wp2_with fail
    refine (KD.out _).mono ?_
    rintro e0 w0 ⟨rfl, rfl⟩
    go_wp2_with fail
    refine (KS.out _).mono ?_
    rintro e11 w11 ⟨rfl, q11⟩
    replace B8 := B8.q q11
    replace B9 := B9.q q11
    replace Q0 := Q0.trans q11
    clear q11
    try clear c8 c9 l8 l9
    have c8 := B8.cell
    have c9 := B9.cell
    have l8 := B8.lt
    have l9 := B9.lt
    cases L1 with
    | false =>
      go_wp2_with fail
      go_ret2
      exact ⟨by rw [HR.out.1, HR.out.2]; simp [*], Q0⟩
    | true =>
      go_wp2_with fail
      refine (KT.out _).mono ?_
      rintro e12 w12 ⟨rfl, q12⟩
      replace B8 := B8.q q12
      replace B9 := B9.q q12
      replace Q0 := Q0.trans q12
      clear q12
      try clear c8 c9 l8 l9
      have c8 := B8.cell
      have c9 := B9.cell
      have l8 := B8.lt
      have l9 := B9.lt
      cases L2 with
      | false =>
        go_wp2_with fail
        go_ret2
        exact ⟨by rw [HR.out.1, HR.out.2]; simp [*], Q0⟩
      | true =>
        have KM := Lib.hid (fun wv => HM.out wv (by trivial) (by trivial))
        have KA := Lib.hid (fun wv => HA.out wv (by trivial) (by trivial))
        have KB := Lib.hid (fun wv => HB.out wv (by trivial) (by trivial))
        go_wp2_with fail
        refine (KM.out _).mono ?_
        rintro e13 w13 ⟨rfl, q13⟩
        replace B8 := B8.q q13
        replace B9 := B9.q q13
        replace Q0 := Q0.trans q13
        clear q13
        try clear c8 c9 l8 l9
        have c8 := B8.cell
        have c9 := B9.cell
        have l8 := B8.lt
        have l9 := B9.lt
        cases M with
        | true =>
          go_wp2_with fail
          go_ret2
          exact ⟨by rw [HR.out.1, HR.out.2]; simp [*], Q0⟩
        | false =>
          go_wp2_with fail
          refine (KA.out _).mono ?_
          rintro e14 w14 ⟨rfl, q14⟩
          replace B8 := B8.q q14
          replace B9 := B9.q q14
          replace Q0 := Q0.trans q14
          clear q14
          try clear c8 c9 l8 l9
          have c8 := B8.cell
          have c9 := B9.cell
          have l8 := B8.lt
          have l9 := B9.lt
          obtain ⟨NA, hNA⟩ : ∃ q, q = (N3 || N4) := ⟨_, rfl⟩
          rw [← hNA]
          have HNA := Lib.hid hNA
          clear hNA
          cases NA with
          | true =>
            go_wp2_with fail
            go_ret2
            exact ⟨by rw [HR.out.1, HR.out.2, Bool.false_or, Bool.or_assoc (N1 || N2), ← HNA.out]; simp, Q0⟩
          | false =>
            go_wp2_with fail
            refine (KB.out _).mono ?_
            rintro e15 w15 ⟨rfl, q15⟩
            replace B8 := B8.q q15
            replace B9 := B9.q q15
            replace Q0 := Q0.trans q15
            clear q15
            try clear c8 c9 l8 l9
            have c8 := B8.cell
            have c9 := B9.cell
            have l8 := B8.lt
            have l9 := B9.lt
            obtain ⟨NB, hNB⟩ : ∃ q, q = (N1 || N2) := ⟨_, rfl⟩
            rw [← hNB]
            have HNB := Lib.hid hNB
            clear hNB
            go_wp2_with fail
            go_ret2
            exact ⟨by rw [HR.out.1, HR.out.2, Bool.false_or, Bool.or_assoc (N1 || N2), ← HNA.out, ← HNB.out]; simp, Q0⟩
end Go.Proofs.YtkpdoikjfibflaaGreatDoor
