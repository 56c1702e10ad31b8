/- Walks: an incident put at its place, as the reference does it. No condition. Walks: an incident put at its place, as the reference does it. No condition. Plain facts: the list with a row put at its place is the sorted list of one row more. No condition. Plain facts: the incidents of all pairs are gathered in the order of the pairs. No condition. Walks: the incidents of all pairs of tracks, as the reference makes them. No condition. -/
import Derived.Test.YtkpdoikjfibflaaGreatDoorK
import Derived.Test.YtkpdoikjfibflaaGreatDoorEqIncident
import Derived.Maps.AppendAt
import Derived.Deep.RegionHeld3
import Derived.Deep.CutBlock
import Derived.Test.YtkpdoikjfibflaaGreatDoorUmP
import Derived.Test.YtkpdoikjfibflaaGreatDoorUmT
namespace Go.Proofs.YtkpdoikjfibflaaGreatDoor
open Go.RowKit Go.WideShapes Go.ChangeShapes
def befB (x0 x1 x2 y0 y1 y2 : Int) : Bool := if x0 = y0 then (if x1 = y1 then decide (x2 < y2) else decide (x1 < y1)) else decide (x0 < y0)
theorem spec_Before (x0 x1 x2 x3 x4 y0 y1 y2 y3 y4 : Int) (w : World) :
    Calls Tryz.prog 47 #[.agg #[.int .i64 x0, .int .i64 x1, .int .i64 x2, .int .i64 x3, .int .i64 x4], .agg #[.int .i64 y0, .int .i64 y1, .int .i64 y2, .int .i64 y3, .int .i64 y4]] w fun e w' => e = .returned (.bool (befB x0 x1 x2 y0 y1 y2)) ∧ Q w w' := by
  by_cases h0 : x0 = y0
  · by_cases h1 : x1 = y1
    · have HB := Lib.hid (show befB x0 x1 x2 y0 y1 y2 = decide (x2 < y2) by unfold befB; rw [if_pos h0, if_pos h1])
      subst h0 h1
      go_enter Tryz.func47, Tryz.ntmps47
      go_wp2_with fail
      go_ret
      exact ⟨ret_bool HB.out.symm, by (repeat (first | assumption | exact Q.refl _ | refine Q.alloc ?_ _ | refine Q.drewN ?_ _ | refine Q.drew ?_))⟩
    · have HB := Lib.hid (show befB x0 x1 x2 y0 y1 y2 = decide (x1 < y1) by unfold befB; rw [if_pos h0, if_neg h1])
      have h1b : (x1 == y1) = false := by simpa using h1
      subst h0
      go_enter Tryz.func47, Tryz.ntmps47
      go_wp2_with fail
      go_ret
      exact ⟨ret_bool HB.out.symm, by (repeat (first | assumption | exact Q.refl _ | refine Q.alloc ?_ _ | refine Q.drewN ?_ _ | refine Q.drew ?_))⟩
  · have HB := Lib.hid (show befB x0 x1 x2 y0 y1 y2 = decide (x0 < y0) by unfold befB; rw [if_neg h0])
    have h0b : (x0 == y0) = false := by simpa using h0
    go_enter Tryz.func47, Tryz.ntmps47
    go_wp2_with fail
    go_ret
    exact ⟨ret_bool HB.out.symm, by (repeat (first | assumption | exact Q.refl _ | refine Q.alloc ?_ _ | refine Q.drewN ?_ _ | refine Q.drew ?_))⟩
/-- The place from the right. -/
def putA (b : Nat → Bool) : Nat → Nat
  | 0 => 0
  | i + 1 => if b i = true then putA b i else i + 1
theorem putA_le (b : Nat → Bool) : ∀ n, putA b n ≤ n
  | 0 => Nat.le_refl _
  | i + 1 => by
    unfold putA
    split
    · have := putA_le b i; omega
    · exact Nat.le_refl _
theorem run_appRd {wr : World} {st ty e : TypeId} {k : Nat} (E : EltT st e k) {B : Nat} {A : Option Addr} {n c m d b o' : Nat} {xs ys : List Int} (hown : Own wr B e k (.slice A n c) n xs)
    (hr : ∀ j, j < ys.length → wr.cell? ⟨b, o' + j, none⟩ = some (.int .i64 (el ys j))) (hl : ys.length = m * k) (hn : n + m ≤ 1073741823) (hB : B ≤ wr.heap.size) :
    ∃ A' c' w', (Builtin.append_ #[st, st] ty #[.slice A n c, .slice (some ⟨b, o', none⟩) m d]).run Tryz.prog wr = .ok (.slice A' (n + m) c') w' ∧ Own w' B e k (.slice A' (n + m) c') (n + m) (xs ++ ys) ∧ wr.grownBy w' (A.map (·.block)) ∧ (A ≠ none → A' ≠ none) := by
  obtain ⟨i, z, hu, hi, hz0, hz1, hz2, hz3, hk⟩ := E
  obtain ⟨v', w', hrun, ho', hg, _, hat⟩ := run_append_own_at (P := Tryz.prog) wr B st ty e i z k i.bytes hu hi hz0 hz1 rfl (by rw [hz3]; simp) hk (.slice A n c) n _ hown
    ⟨b, o', none⟩ m d (ys.map (Value.int .i64)) (by simpa using hl) (by
      intro j u hu
      rw [List.getElem?_map] at hu
      have hj : j < ys.length := by
        rcases Nat.lt_or_ge j ys.length with h | h
        · exact h
        · rw [List.getElem?_eq_none h] at hu; cases hu
      rw [Go.WideShapes.add_plain, hr j hj]
      unfold el
      rw [List.getD_eq_getElem?_getD]
      rw [List.getElem?_eq_getElem hj] at hu ⊢
      simpa using hu) (ints_one ys) (by unfold maxLen; omega) (by
      have : (n + m) * i.bytes ≤ 1073741824 * 65536 := Nat.mul_le_mul (by omega) hz2
      omega) (by omega)
  rw [← List.map_append] at ho'
  have hO : Own w' B e k v' (n + m) (xs ++ ys) := ho'
  obtain ⟨_, A', c', rfl, _, _⟩ := hO.form
  refine ⟨A', c', w', hrun, hO, by cases A <;> exact hg, fun hA hA' => ?_⟩
  subst hA'
  rcases hat with h | h
  · cases A with
    | none => exact hA rfl
    | some _ => simp [Value.ownBlock] at h
  · simp [Value.ownBlock] at h
theorem step_appRd {wr : World} {ops : Array Oper} {o : Oper} {a : Act} {K : Act → World → Prop} {Q' : Exit → Act → World → Prop} {E' : Prop} {st e : TypeId} {k : Nat} (E : EltT st e k) (hgd : o.guard = none) (s x : Operand)
    (ho : o.op = .call { callee := .builtin .append, args := #[s, x], argTypes := #[st, st] })
    {B : Nat} {A : Option Addr} {n c m d b o' : Nat} {xs ys : List Int} (hs : a.eval s = .slice A n c) (hown : Own wr B e k (.slice A n c) n xs) (hx : a.eval x = .slice (some ⟨b, o', none⟩) m d)
    (hr : ∀ j, j < ys.length → wr.cell? ⟨b, o' + j, none⟩ = some (.int .i64 (el ys j))) (hl : ys.length = m * k) (hn : n + m ≤ 1073741823) (hB : B ≤ wr.heap.size)
    (h : ∀ A' c' w', Own w' B e k (.slice A' (n + m) c') (n + m) (xs ++ ys) → wr.grownBy w' (A.map (·.block)) → (A ≠ none → A' ≠ none) → K (a.put o.dst (.slice A' (n + m) c')) w') :
    if Region.wanted o (yielded ops a.tmps) = true then Oper.wp Tryz.prog o a wr K Q' else E' := by
  rw [if_pos (by simp [Region.wanted, hgd])]
  obtain ⟨A', c', w', hrun, h1, h2, h3⟩ := run_appRd (ty := o.type) (d := d) E hown hr hl hn hB
  unfold Oper.wp execOp
  simp only [ho, resolve, invoke, builtin, Sem.run_bind, Sem.run_pure, Result.andThen_ok, List.map_toArray, List.map_cons, List.map_nil, hs, hx, hrun]
  exact h A' c' w' h1 h2 h3
end Go.Proofs.YtkpdoikjfibflaaGreatDoor
namespace Go.Proofs.YtkpdoikjfibflaaGreatDoor
open Go.RowKit Go.WideShapes Go.ChangeShapes
theorem elIncP : EltT 31 42 5 := EltT.mk infoIncident Tryz.underlying31 (by decide) rfl (by decide)
theorem Own.dropRd {w : World} {B g n c : Nat} {e : TypeId} {L : List Int} (h : Own w B e 5 (.slice (some ⟨g, 0, none⟩) n c) n L) (i : Nat) : ∀ j, j < (L.drop (i * 5)).length → w.cell? ⟨g, i * 5 + j, none⟩ = some (.int .i64 (el (L.drop (i * 5)) j)) := fun j hj => by
  have hl := h.len
  simp only [List.length_drop] at hj
  rw [h.cell (j := i * 5 + j) (by omega)]
  unfold el
  rw [List.getD_eq_getElem?_getD, List.getD_eq_getElem?_getD, List.getElem?_drop]
theorem Own.takeRd {w : World} {B g n c : Nat} {e : TypeId} {L : List Int} (h : Own w B e 5 (.slice (some ⟨g, 0, none⟩) n c) n L) (i : Nat) : ∀ j, j < (L.take (i * 5)).length → w.cell? ⟨g, 0 + j, none⟩ = some (.int .i64 (el (L.take (i * 5)) j)) := fun j hj => by
  have hl := h.len
  simp only [List.length_take] at hj
  rw [Nat.zero_add, h.cell (j := j) (by omega)]
  unfold el
  rw [List.getD_eq_getElem?_getD, List.getD_eq_getElem?_getD, List.getElem?_take, if_pos (by omega)]
def putP (x0 x1 x2 : Int) (L : List Int) (i : Nat) : Bool := befB x0 x1 x2 (el L (i * 5)) (el L (i * 5 + 1)) (el L (i * 5 + 2))
def putL (x0 x1 x2 x3 x4 : Int) (L : List Int) (n : Nat) : List Int := L.take (putA (putP x0 x1 x2 L) n * 5) ++ ([x0, x1, x2, x3, x4] ++ L.drop (putA (putP x0 x1 x2 L) n * 5))
set_option maxRecDepth 100000 in
set_option maxHeartbeats 4000000 in
theorem spec_Put (g n c B : Nat) (L : List Int) (x0 x1 x2 x3 x4 : Int) (w : World) (ho : Own w B 42 5 (.slice (some ⟨g, 0, none⟩) n c) n L) (hn : n ≤ 100000) (hc : c ≤ 9223372036854775807) :
    Calls Tryz.prog 28 #[.slice (some ⟨g, 0, none⟩) n c, .agg #[.int .i64 x0, .int .i64 x1, .int .i64 x2, .int .i64 x3, .int .i64 x4]] w fun e w' => ∃ g' c', e = .returned (.slice (some ⟨g', 0, none⟩) (n + 1) c') ∧ Own w' w.heap.size 42 5 (.slice (some ⟨g', 0, none⟩) (n + 1) c') (n + 1) (putL x0 x1 x2 x3 x4 L n) ∧ Q w w' := by
  have hcap := ho.cap
  have BX := Blk.new w 42 #[.int .i64 x0, .int .i64 x1, .int .i64 x2, .int .i64 x3, .int .i64 x4]
  have Q0 : Q w (w.alloc (.cells #[.int .i64 x0, .int .i64 x1, .int .i64 x2, .int .i64 x3, .int .i64 x4] 42)) := by (repeat (first | assumption | exact Q.refl _ | refine Q.alloc ?_ _ | refine Q.drewN ?_ _ | refine Q.drew ?_))
  have hnI : (n : Int) ≤ 100000 := by omega
  go_enter Tryz.func28, Tryz.ntmps28
  go_wp2_with fail
  go_loopw [5] (fun s wr => ∃ i : Nat, i ≤ n ∧ s = .int .i64 i ∧ Hid (putA (putP x0 x1 x2 L) i = putA (putP x0 x1 x2 L) n) ∧ Q (w.alloc (.cells #[.int .i64 x0, .int .i64 x1, .int .i64 x2, .int .i64 x3, .int .i64 x4] 42)) wr) (fun s _ => (intOf s).toNat)
  case atStart => exact ⟨n, Nat.le_refl _, rfl, Lib.hid rfl, Q.refl _⟩
  case round =>
    obtain ⟨i, hi, rfl, HP, hq⟩ := hrel
    by_cases hi0 : i = 0
    · have hi00 : ¬ (0 : Int) < (i : Int) := by omega
      have hPn : putA (putP x0 x1 x2 L) n = i := by rw [← HP.out, hi0]; rfl
      have hin : (i : Int) ≤ (n : Int) := by omega
      have hic2 : (i : Int) ≤ (c : Int) := by omega
      have hi01 : ¬ 0 < i := by omega
      have hi02 : (i : Int) ≤ 0 := by omega
      have hi03 : decide ((0 : Int) < (i : Int)) = false := decide_eq_false hi00
      clear hi0
      go_wp2_with fail
      refine wp_region_later_lit (by kernel_rfl) (by kernel_rfl) ?_
      repeat (any_goals (first | go_big_quiet_step ((fail)) | quiet_step ((fail)) | (refine wpQuiet_step (fun K hK => ?_); go_simp; split <;> (refine hK _ ?_; clear hK K))))
      refine wpQuiet_nil ?_
      rintro w3 ⟨⟨w3x, q3⟩, hwx⟩
      obtain rfl : w3 = w3x := hwx
      replace hq := hq.trans q3
      clear q3
      obtain ⟨wr, hwr⟩ : ∃ wr, wr = w3 := ⟨_, rfl⟩
      subst hwr
      by_cases hic : i < c
      · have hicI : (i : Int) < (c : Int) := by omega
        have hcne : ¬ c = i := by omega
        have hx := BX.q hq
        have hqw : Q w wr := Q0.trans hq
        have ho2 := ho.q hqw
        have cx := hx.cell
        have lx := hx.lt
        have hln := ho.len
        have hsz := hqw.size
        have hS : ∀ w', Q wr w' → (Q wr w' ∧ w'.cell? ⟨w.heap.size, 0, none⟩ = some (.int .i64 x0) ∧ w'.cell? ⟨w.heap.size, 1, none⟩ = some (.int .i64 x1) ∧ w'.cell? ⟨w.heap.size, 2, none⟩ = some (.int .i64 x2) ∧ w'.cell? ⟨w.heap.size, 3, none⟩ = some (.int .i64 x3) ∧ w'.cell? ⟨w.heap.size, 4, none⟩ = some (.int .i64 x4)) := fun w' q => ⟨q, (hx.q q).cell 0, (hx.q q).cell 1, (hx.q q).cell 2, (hx.q q).cell 3, (hx.q q).cell 4⟩
        go_wp2_with fail
        go_region_held3 (fun w' => Q wr w' ∧ w'.cell? ⟨w.heap.size, 0, none⟩ = some (.int .i64 x0) ∧ w'.cell? ⟨w.heap.size, 1, none⟩ = some (.int .i64 x1) ∧ w'.cell? ⟨w.heap.size, 2, none⟩ = some (.int .i64 x2) ∧ w'.cell? ⟨w.heap.size, 3, none⟩ = some (.int .i64 x3) ∧ w'.cell? ⟨w.heap.size, 4, none⟩ = some (.int .i64 x4)) (first | exact hS _ QR6 | exact hS _ (by (repeat (first | with_reducible assumption | with_reducible exact Q.refl _ | with_reducible refine Q.alloc ?_ _ | with_reducible refine Q.drewN ?_ _ | with_reducible refine Q.drew ?_ | with_reducible refine Q.setCell ?_ (by first | with_reducible exact Nat.le_refl _ | (simp only; omega) | (simp; done) | (simp; omega)) _))) | (go_split_ands; exact hS _ (by (repeat (first | with_reducible assumption | with_reducible exact Q.refl _ | with_reducible refine Q.alloc ?_ _ | with_reducible refine Q.drewN ?_ _ | with_reducible refine Q.drew ?_ | with_reducible refine Q.setCell ?_ (by first | with_reducible exact Nat.le_refl _ | (simp only; omega) | (simp; done) | (simp; omega)) _))))) (first | (refine step_appRd (B := wr.heap.size) (n := 1) (c := 1) (m := (n - i)) (d := (c - i)) (xs := [x0, x1, x2, x3, x4]) (ys := L.drop (i * 5)) elIncP rfl _ _ rfl rfl ?_ rfl ?_ ?_ ?_ ?_ ?_; exact (Own.lit wr 42 5 1 [x0, x1, x2, x3, x4] rfl (Nat.le_refl _) (by simp) (by decide)).q ((Q.refl _).drew); exact ((ho2.q (by (repeat (first | with_reducible assumption | with_reducible exact Q.refl _ | with_reducible refine Q.alloc ?_ _ | with_reducible refine Q.drewN ?_ _ | with_reducible refine Q.drew ?_ | with_reducible refine Q.setCell ?_ (by first | with_reducible exact Nat.le_refl _ | (simp only; omega) | (simp; done) | (simp; omega)) _))))).dropRd _; (simp; omega); omega; (simp); intro A6 c6 w6 hown6 hg6 hne6; have QR6 : Q wr w6 := Q.mark (((Q.refl wr).alloc _).drew) ((Own.lit wr 42 5 1 [x0, x1, x2, x3, x4] rfl (Nat.le_refl _) (by simp) (by decide)).q ((Q.refl _).drew)) (Nat.le_refl _) hg6))
        obtain ⟨g6, hA6⟩ : ∃ g6, A6 = some ⟨g6, 0, none⟩ := by
          rcases hown6.2 with ⟨h', _⟩ | ⟨g', cap, cur, h', _⟩
          · injection h' with h1 _ _
            exact absurd h1 (hne6 (by simp))
          · injection h' with h1 _ _
            exact ⟨g', h1⟩
        subst hA6
        have hq6 := hqw.trans QR6
        have ho6 := ho.q hq6
        have hrT := fun (wv : World) (q : Q w6 wv) => (ho6.q q).takeRd i
        have hlT : (L.take (i * 5)).length = i * 5 := by simp; omega
        have hl6 := hown6.len
        go_wp2_with (first | (at_builtin; refine appKs elIncP rfl _ _ rfl rfl (Own.lit w6 42 5 0 [] rfl (Nat.le_refl _) (by simp) (by decide)) rfl (hrT _ (by (repeat (first | assumption | exact Q.refl _ | refine Q.alloc ?_ _ | refine Q.drewN ?_ _ | refine Q.drew ?_)))) hlT (by omega) (by simp) ?_; intro A7 c7 w7 hown7 hg7 hgr7; simp only [Nat.zero_add, List.nil_append] at hown7; have Q7 : Q w6 w7 := Q.mark (Q.alloc (Q.refl w6) _) (Own.lit w6 42 5 0 [] rfl (Nat.le_refl _) (by simp) (by decide)) (Nat.le_refl _) hg7; have hown67 := hown6.q Q7) | (at_builtin; refine appKs elIncP rfl _ _ rfl rfl hown7 rfl (fun j hj => by rw [Nat.zero_add]; exact hown67.cell (by omega)) hl6 (by omega) Q7.size ?_; intro A8 c8 w8 hown8 hg8 hgr8))
        obtain ⟨g8, hA8⟩ : ∃ g8, A8 = some ⟨g8, 0, none⟩ := by
          rcases hown8.2 with ⟨h', _⟩ | ⟨g', cap, cur, h', _⟩
          · injection h' with h1 h2 h3
            exfalso
            omega
          · injection h' with h1 _ _
            exact ⟨g', h1⟩
        subst hA8
        have hcnt : i + (1 + (n - i)) = n + 1 := by omega
        rw [hcnt] at hown8
        have hLL : putL x0 x1 x2 x3 x4 L n = L.take (i * 5) ++ ([x0, x1, x2, x3, x4] ++ L.drop (i * 5)) := by
          unfold putL
          rw [hPn]
        have hq8 : Q w w8 := hq6.trans (Q.mark Q7 hown7 (Nat.le_refl _) hg8)
        rw [← hLL] at hown8
        simp only [hcnt]
        go_ret
        exact ⟨g8, c8, rfl, hown8.mono hq6.size, hq8⟩
      · have hce : c = i := by omega
        have hni : i * 5 = L.length := by have := ho.len; omega
        have hicI : ¬ (i : Int) < (c : Int) := by omega
        have hx := BX.q hq
        have hqw : Q w wr := Q0.trans hq
        have ho2 := ho.q hqw
        have cx := hx.cell
        have lx := hx.lt
        have hln := ho.len
        have hsz := hqw.size
        have hS : ∀ w', Q wr w' → (Q wr w' ∧ w'.cell? ⟨w.heap.size, 0, none⟩ = some (.int .i64 x0) ∧ w'.cell? ⟨w.heap.size, 1, none⟩ = some (.int .i64 x1) ∧ w'.cell? ⟨w.heap.size, 2, none⟩ = some (.int .i64 x2) ∧ w'.cell? ⟨w.heap.size, 3, none⟩ = some (.int .i64 x3) ∧ w'.cell? ⟨w.heap.size, 4, none⟩ = some (.int .i64 x4)) := fun w' q => ⟨q, (hx.q q).cell 0, (hx.q q).cell 1, (hx.q q).cell 2, (hx.q q).cell 3, (hx.q q).cell 4⟩
        go_wp2_with fail
        go_region_held3 (fun w' => Q wr w' ∧ w'.cell? ⟨w.heap.size, 0, none⟩ = some (.int .i64 x0) ∧ w'.cell? ⟨w.heap.size, 1, none⟩ = some (.int .i64 x1) ∧ w'.cell? ⟨w.heap.size, 2, none⟩ = some (.int .i64 x2) ∧ w'.cell? ⟨w.heap.size, 3, none⟩ = some (.int .i64 x3) ∧ w'.cell? ⟨w.heap.size, 4, none⟩ = some (.int .i64 x4)) (first | exact hS _ QR6 | exact hS _ (by (repeat (first | with_reducible assumption | with_reducible exact Q.refl _ | with_reducible refine Q.alloc ?_ _ | with_reducible refine Q.drewN ?_ _ | with_reducible refine Q.drew ?_ | with_reducible refine Q.setCell ?_ (by first | with_reducible exact Nat.le_refl _ | (simp only; omega) | (simp; done) | (simp; omega)) _))) | (go_split_ands; exact hS _ (by (repeat (first | with_reducible assumption | with_reducible exact Q.refl _ | with_reducible refine Q.alloc ?_ _ | with_reducible refine Q.drewN ?_ _ | with_reducible refine Q.drew ?_ | with_reducible refine Q.setCell ?_ (by first | with_reducible exact Nat.le_refl _ | (simp only; omega) | (simp; done) | (simp; omega)) _))))) (first | (refine step_appRd (B := wr.heap.size) (n := 1) (c := 1) (m := (n - i)) (d := 0) (xs := [x0, x1, x2, x3, x4]) (ys := L.drop (i * 5)) elIncP rfl _ _ rfl rfl ?_ rfl ?_ ?_ ?_ ?_ ?_; exact (Own.lit wr 42 5 1 [x0, x1, x2, x3, x4] rfl (Nat.le_refl _) (by simp) (by decide)).q ((Q.refl _).drew); exact fun j hj => absurd hj (by simp; omega); (simp; omega); omega; (simp); intro A6 c6 w6 hown6 hg6 hne6; have QR6 : Q wr w6 := Q.mark (((Q.refl wr).alloc _).drew) ((Own.lit wr 42 5 1 [x0, x1, x2, x3, x4] rfl (Nat.le_refl _) (by simp) (by decide)).q ((Q.refl _).drew)) (Nat.le_refl _) hg6))
        obtain ⟨g6, hA6⟩ : ∃ g6, A6 = some ⟨g6, 0, none⟩ := by
          rcases hown6.2 with ⟨h', _⟩ | ⟨g', cap, cur, h', _⟩
          · injection h' with h1 _ _
            exact absurd h1 (hne6 (by simp))
          · injection h' with h1 _ _
            exact ⟨g', h1⟩
        subst hA6
        have hq6 := hqw.trans QR6
        have ho6 := ho.q hq6
        have hrT := fun (wv : World) (q : Q w6 wv) => (ho6.q q).takeRd i
        have hlT : (L.take (i * 5)).length = i * 5 := by simp; omega
        have hl6 := hown6.len
        go_wp2_with (first | (at_builtin; refine appKs elIncP rfl _ _ rfl rfl (Own.lit w6 42 5 0 [] rfl (Nat.le_refl _) (by simp) (by decide)) rfl (hrT _ (by (repeat (first | assumption | exact Q.refl _ | refine Q.alloc ?_ _ | refine Q.drewN ?_ _ | refine Q.drew ?_)))) hlT (by omega) (by simp) ?_; intro A7 c7 w7 hown7 hg7 hgr7; simp only [Nat.zero_add, List.nil_append] at hown7; have Q7 : Q w6 w7 := Q.mark (Q.alloc (Q.refl w6) _) (Own.lit w6 42 5 0 [] rfl (Nat.le_refl _) (by simp) (by decide)) (Nat.le_refl _) hg7; have hown67 := hown6.q Q7) | (at_builtin; refine appKs elIncP rfl _ _ rfl rfl hown7 rfl (fun j hj => by rw [Nat.zero_add]; exact hown67.cell (by omega)) hl6 (by omega) Q7.size ?_; intro A8 c8 w8 hown8 hg8 hgr8))
        obtain ⟨g8, hA8⟩ : ∃ g8, A8 = some ⟨g8, 0, none⟩ := by
          rcases hown8.2 with ⟨h', _⟩ | ⟨g', cap, cur, h', _⟩
          · injection h' with h1 h2 h3
            exfalso
            omega
          · injection h' with h1 _ _
            exact ⟨g', h1⟩
        subst hA8
        have hcnt : i + (1 + (n - i)) = n + 1 := by omega
        rw [hcnt] at hown8
        have hLL : putL x0 x1 x2 x3 x4 L n = L.take (i * 5) ++ ([x0, x1, x2, x3, x4] ++ L.drop (i * 5)) := by
          unfold putL
          rw [hPn]
        have hq8 : Q w w8 := hq6.trans (Q.mark Q7 hown7 (Nat.le_refl _) hg8)
        rw [← hLL] at hown8
        simp only [hcnt]
        go_ret
        exact ⟨g8, c8, rfl, hown8.mono hq6.size, hq8⟩
    · obtain ⟨d, rfl⟩ : ∃ d, i = d + 1 := ⟨i - 1, by omega⟩
      have hdn : d < n := by omega
      have hd0 : (0 : Int) < (d : Int) + 1 := by omega
      have hdI : (d : Int) < (n : Int) := by omega
      have hdw : IntKind.i64.wrap (d : Int) = (d : Int) := by rw [IntKind.wrap_i64]; omega
      have ho2 := ho.q (Q0.trans hq)
      have y0 := ho2.cell (j := d * 5) (by omega)
      have y1 := ho2.cell (j := d * 5 + 1) (by omega)
      have y2 := ho2.cell (j := d * 5 + 2) (by omega)
      have y3 := ho2.cell (j := d * 5 + 3) (by omega)
      have y4 := ho2.cell (j := d * 5 + 4) (by omega)
      have HB := Lib.hid (show putP x0 x1 x2 L d = befB x0 x1 x2 (L.getD (d * 5) 0) (L.getD (d * 5 + 1) 0) (L.getD (d * 5 + 2) 0) from rfl)
      have HA := Lib.hid (show putA (putP x0 x1 x2 L) (d + 1) = if putP x0 x1 x2 L d = true then putA (putP x0 x1 x2 L) d else d + 1 from rfl)
      have KB := fun wv => spec_Before x0 x1 x2 x3 x4 (L.getD (d * 5) 0) (L.getD (d * 5 + 1) 0) (L.getD (d * 5 + 2) 0) (L.getD (d * 5 + 3) 0) (L.getD (d * 5 + 4) 0) wv
      rw [← HB.out] at KB
      generalize putP x0 x1 x2 L d = P at *
      generalize L.getD (d * 5) 0 = Y0 at *
      generalize L.getD (d * 5 + 1) 0 = Y1 at *
      generalize L.getD (d * 5 + 2) 0 = Y2 at *
      generalize L.getD (d * 5 + 3) 0 = Y3 at *
      generalize L.getD (d * 5 + 4) 0 = Y4 at *
      have KC := Lib.hid KB
      have d0 := later_cell y0
      have d1 := later_cell y1
      have d2 := later_cell y2
      have d3 := later_cell y3
      have d4 := later_cell y4
      have dx := later_cells (BX.q hq).cell (BX.q hq).lt
      clear KB ho2 HB
      cases P
      · go_wp2_with fail
        refine wp_region_later_lit (by kernel_rfl) (by kernel_rfl) ?_
        repeat (any_goals (first | go_big_quiet_step ((go_at_call 47; with_reducible exact later_call (KC.out _))) | quiet_step ((go_at_call 47; with_reducible exact later_call (KC.out _))) | (refine wpQuiet_step (fun K hK => ?_); go_simp; split <;> (refine hK _ ?_; clear hK K))))
        refine wpQuiet_nil ?_
        rintro w3 ⟨⟨w3x, q3⟩, hwx⟩
        obtain rfl : w3 = w3x := hwx
        clear d0 d1 d2 d3 d4 dx
        replace hq := hq.trans q3
        clear q3
        generalize hdd : d + 1 = i at *
        obtain ⟨wr, hwr⟩ : ∃ wr, wr = w3 := ⟨_, rfl⟩
        subst hwr
        have hPn : putA (putP x0 x1 x2 L) n = i := by rw [← HP.out, HA.out, if_neg (by decide)]
        have hin : (i : Int) ≤ (n : Int) := by omega
        have hic2 : (i : Int) ≤ (c : Int) := by omega
        by_cases hic : i < c
        · have hicI : (i : Int) < (c : Int) := by omega
          have hcne : ¬ c = i := by omega
          have hx := BX.q hq
          have hqw : Q w wr := Q0.trans hq
          have ho2 := ho.q hqw
          have cx := hx.cell
          have lx := hx.lt
          have hln := ho.len
          have hsz := hqw.size
          have hS : ∀ w', Q wr w' → (Q wr w' ∧ w'.cell? ⟨w.heap.size, 0, none⟩ = some (.int .i64 x0) ∧ w'.cell? ⟨w.heap.size, 1, none⟩ = some (.int .i64 x1) ∧ w'.cell? ⟨w.heap.size, 2, none⟩ = some (.int .i64 x2) ∧ w'.cell? ⟨w.heap.size, 3, none⟩ = some (.int .i64 x3) ∧ w'.cell? ⟨w.heap.size, 4, none⟩ = some (.int .i64 x4)) := fun w' q => ⟨q, (hx.q q).cell 0, (hx.q q).cell 1, (hx.q q).cell 2, (hx.q q).cell 3, (hx.q q).cell 4⟩
          go_wp2_with fail
          go_region_held3 (fun w' => Q wr w' ∧ w'.cell? ⟨w.heap.size, 0, none⟩ = some (.int .i64 x0) ∧ w'.cell? ⟨w.heap.size, 1, none⟩ = some (.int .i64 x1) ∧ w'.cell? ⟨w.heap.size, 2, none⟩ = some (.int .i64 x2) ∧ w'.cell? ⟨w.heap.size, 3, none⟩ = some (.int .i64 x3) ∧ w'.cell? ⟨w.heap.size, 4, none⟩ = some (.int .i64 x4)) (first | exact hS _ QR6 | exact hS _ (by (repeat (first | with_reducible assumption | with_reducible exact Q.refl _ | with_reducible refine Q.alloc ?_ _ | with_reducible refine Q.drewN ?_ _ | with_reducible refine Q.drew ?_ | with_reducible refine Q.setCell ?_ (by first | with_reducible exact Nat.le_refl _ | (simp only; omega) | (simp; done) | (simp; omega)) _))) | (go_split_ands; exact hS _ (by (repeat (first | with_reducible assumption | with_reducible exact Q.refl _ | with_reducible refine Q.alloc ?_ _ | with_reducible refine Q.drewN ?_ _ | with_reducible refine Q.drew ?_ | with_reducible refine Q.setCell ?_ (by first | with_reducible exact Nat.le_refl _ | (simp only; omega) | (simp; done) | (simp; omega)) _))))) (first | (refine step_appRd (B := wr.heap.size) (n := 1) (c := 1) (m := (n - i)) (d := (c - i)) (xs := [x0, x1, x2, x3, x4]) (ys := L.drop (i * 5)) elIncP rfl _ _ rfl rfl ?_ rfl ?_ ?_ ?_ ?_ ?_; exact (Own.lit wr 42 5 1 [x0, x1, x2, x3, x4] rfl (Nat.le_refl _) (by simp) (by decide)).q ((Q.refl _).drew); exact ((ho2.q (by (repeat (first | with_reducible assumption | with_reducible exact Q.refl _ | with_reducible refine Q.alloc ?_ _ | with_reducible refine Q.drewN ?_ _ | with_reducible refine Q.drew ?_ | with_reducible refine Q.setCell ?_ (by first | with_reducible exact Nat.le_refl _ | (simp only; omega) | (simp; done) | (simp; omega)) _))))).dropRd _; (simp; omega); omega; (simp); intro A6 c6 w6 hown6 hg6 hne6; have QR6 : Q wr w6 := Q.mark (((Q.refl wr).alloc _).drew) ((Own.lit wr 42 5 1 [x0, x1, x2, x3, x4] rfl (Nat.le_refl _) (by simp) (by decide)).q ((Q.refl _).drew)) (Nat.le_refl _) hg6))
          obtain ⟨g6, hA6⟩ : ∃ g6, A6 = some ⟨g6, 0, none⟩ := by
            rcases hown6.2 with ⟨h', _⟩ | ⟨g', cap, cur, h', _⟩
            · injection h' with h1 _ _
              exact absurd h1 (hne6 (by simp))
            · injection h' with h1 _ _
              exact ⟨g', h1⟩
          subst hA6
          have hq6 := hqw.trans QR6
          have ho6 := ho.q hq6
          have hrT := fun (wv : World) (q : Q w6 wv) => (ho6.q q).takeRd i
          have hlT : (L.take (i * 5)).length = i * 5 := by simp; omega
          have hl6 := hown6.len
          go_wp2_with (first | (at_builtin; refine appKs elIncP rfl _ _ rfl rfl (Own.lit w6 42 5 0 [] rfl (Nat.le_refl _) (by simp) (by decide)) rfl (hrT _ (by (repeat (first | assumption | exact Q.refl _ | refine Q.alloc ?_ _ | refine Q.drewN ?_ _ | refine Q.drew ?_)))) hlT (by omega) (by simp) ?_; intro A7 c7 w7 hown7 hg7 hgr7; simp only [Nat.zero_add, List.nil_append] at hown7; have Q7 : Q w6 w7 := Q.mark (Q.alloc (Q.refl w6) _) (Own.lit w6 42 5 0 [] rfl (Nat.le_refl _) (by simp) (by decide)) (Nat.le_refl _) hg7; have hown67 := hown6.q Q7) | (at_builtin; refine appKs elIncP rfl _ _ rfl rfl hown7 rfl (fun j hj => by rw [Nat.zero_add]; exact hown67.cell (by omega)) hl6 (by omega) Q7.size ?_; intro A8 c8 w8 hown8 hg8 hgr8))
          obtain ⟨g8, hA8⟩ : ∃ g8, A8 = some ⟨g8, 0, none⟩ := by
            rcases hown8.2 with ⟨h', _⟩ | ⟨g', cap, cur, h', _⟩
            · injection h' with h1 h2 h3
              exfalso
              omega
            · injection h' with h1 _ _
              exact ⟨g', h1⟩
          subst hA8
          have hcnt : i + (1 + (n - i)) = n + 1 := by omega
          rw [hcnt] at hown8
          have hLL : putL x0 x1 x2 x3 x4 L n = L.take (i * 5) ++ ([x0, x1, x2, x3, x4] ++ L.drop (i * 5)) := by
            unfold putL
            rw [hPn]
          have hq8 : Q w w8 := hq6.trans (Q.mark Q7 hown7 (Nat.le_refl _) hg8)
          rw [← hLL] at hown8
          simp only [hcnt]
          go_ret
          exact ⟨g8, c8, rfl, hown8.mono hq6.size, hq8⟩
        · have hce : c = i := by omega
          have hni : i * 5 = L.length := by have := ho.len; omega
          have hicI : ¬ (i : Int) < (c : Int) := by omega
          have hx := BX.q hq
          have hqw : Q w wr := Q0.trans hq
          have ho2 := ho.q hqw
          have cx := hx.cell
          have lx := hx.lt
          have hln := ho.len
          have hsz := hqw.size
          have hS : ∀ w', Q wr w' → (Q wr w' ∧ w'.cell? ⟨w.heap.size, 0, none⟩ = some (.int .i64 x0) ∧ w'.cell? ⟨w.heap.size, 1, none⟩ = some (.int .i64 x1) ∧ w'.cell? ⟨w.heap.size, 2, none⟩ = some (.int .i64 x2) ∧ w'.cell? ⟨w.heap.size, 3, none⟩ = some (.int .i64 x3) ∧ w'.cell? ⟨w.heap.size, 4, none⟩ = some (.int .i64 x4)) := fun w' q => ⟨q, (hx.q q).cell 0, (hx.q q).cell 1, (hx.q q).cell 2, (hx.q q).cell 3, (hx.q q).cell 4⟩
          go_wp2_with fail
          go_region_held3 (fun w' => Q wr w' ∧ w'.cell? ⟨w.heap.size, 0, none⟩ = some (.int .i64 x0) ∧ w'.cell? ⟨w.heap.size, 1, none⟩ = some (.int .i64 x1) ∧ w'.cell? ⟨w.heap.size, 2, none⟩ = some (.int .i64 x2) ∧ w'.cell? ⟨w.heap.size, 3, none⟩ = some (.int .i64 x3) ∧ w'.cell? ⟨w.heap.size, 4, none⟩ = some (.int .i64 x4)) (first | exact hS _ QR6 | exact hS _ (by (repeat (first | with_reducible assumption | with_reducible exact Q.refl _ | with_reducible refine Q.alloc ?_ _ | with_reducible refine Q.drewN ?_ _ | with_reducible refine Q.drew ?_ | with_reducible refine Q.setCell ?_ (by first | with_reducible exact Nat.le_refl _ | (simp only; omega) | (simp; done) | (simp; omega)) _))) | (go_split_ands; exact hS _ (by (repeat (first | with_reducible assumption | with_reducible exact Q.refl _ | with_reducible refine Q.alloc ?_ _ | with_reducible refine Q.drewN ?_ _ | with_reducible refine Q.drew ?_ | with_reducible refine Q.setCell ?_ (by first | with_reducible exact Nat.le_refl _ | (simp only; omega) | (simp; done) | (simp; omega)) _))))) (first | (refine step_appRd (B := wr.heap.size) (n := 1) (c := 1) (m := (n - i)) (d := 0) (xs := [x0, x1, x2, x3, x4]) (ys := L.drop (i * 5)) elIncP rfl _ _ rfl rfl ?_ rfl ?_ ?_ ?_ ?_ ?_; exact (Own.lit wr 42 5 1 [x0, x1, x2, x3, x4] rfl (Nat.le_refl _) (by simp) (by decide)).q ((Q.refl _).drew); exact fun j hj => absurd hj (by simp; omega); (simp; omega); omega; (simp); intro A6 c6 w6 hown6 hg6 hne6; have QR6 : Q wr w6 := Q.mark (((Q.refl wr).alloc _).drew) ((Own.lit wr 42 5 1 [x0, x1, x2, x3, x4] rfl (Nat.le_refl _) (by simp) (by decide)).q ((Q.refl _).drew)) (Nat.le_refl _) hg6))
          obtain ⟨g6, hA6⟩ : ∃ g6, A6 = some ⟨g6, 0, none⟩ := by
            rcases hown6.2 with ⟨h', _⟩ | ⟨g', cap, cur, h', _⟩
            · injection h' with h1 _ _
              exact absurd h1 (hne6 (by simp))
            · injection h' with h1 _ _
              exact ⟨g', h1⟩
          subst hA6
          have hq6 := hqw.trans QR6
          have ho6 := ho.q hq6
          have hrT := fun (wv : World) (q : Q w6 wv) => (ho6.q q).takeRd i
          have hlT : (L.take (i * 5)).length = i * 5 := by simp; omega
          have hl6 := hown6.len
          go_wp2_with (first | (at_builtin; refine appKs elIncP rfl _ _ rfl rfl (Own.lit w6 42 5 0 [] rfl (Nat.le_refl _) (by simp) (by decide)) rfl (hrT _ (by (repeat (first | assumption | exact Q.refl _ | refine Q.alloc ?_ _ | refine Q.drewN ?_ _ | refine Q.drew ?_)))) hlT (by omega) (by simp) ?_; intro A7 c7 w7 hown7 hg7 hgr7; simp only [Nat.zero_add, List.nil_append] at hown7; have Q7 : Q w6 w7 := Q.mark (Q.alloc (Q.refl w6) _) (Own.lit w6 42 5 0 [] rfl (Nat.le_refl _) (by simp) (by decide)) (Nat.le_refl _) hg7; have hown67 := hown6.q Q7) | (at_builtin; refine appKs elIncP rfl _ _ rfl rfl hown7 rfl (fun j hj => by rw [Nat.zero_add]; exact hown67.cell (by omega)) hl6 (by omega) Q7.size ?_; intro A8 c8 w8 hown8 hg8 hgr8))
          obtain ⟨g8, hA8⟩ : ∃ g8, A8 = some ⟨g8, 0, none⟩ := by
            rcases hown8.2 with ⟨h', _⟩ | ⟨g', cap, cur, h', _⟩
            · injection h' with h1 h2 h3
              exfalso
              omega
            · injection h' with h1 _ _
              exact ⟨g', h1⟩
          subst hA8
          have hcnt : i + (1 + (n - i)) = n + 1 := by omega
          rw [hcnt] at hown8
          have hLL : putL x0 x1 x2 x3 x4 L n = L.take (i * 5) ++ ([x0, x1, x2, x3, x4] ++ L.drop (i * 5)) := by
            unfold putL
            rw [hPn]
          have hq8 : Q w w8 := hq6.trans (Q.mark Q7 hown7 (Nat.le_refl _) hg8)
          rw [← hLL] at hown8
          simp only [hcnt]
          go_ret
          exact ⟨g8, c8, rfl, hown8.mono hq6.size, hq8⟩
      · go_wp2_with fail
        refine wp_region_later_lit (by kernel_rfl) (by kernel_rfl) ?_
        repeat (any_goals (first | go_big_quiet_step ((go_at_call 47; with_reducible exact later_call (KC.out _))) | quiet_step ((go_at_call 47; with_reducible exact later_call (KC.out _))) | (refine wpQuiet_step (fun K hK => ?_); go_simp; split <;> (refine hK _ ?_; clear hK K))))
        refine wpQuiet_nil ?_
        rintro w3 ⟨⟨w3x, q3⟩, hwx⟩
        obtain rfl : w3 = w3x := hwx
        clear d0 d1 d2 d3 d4 dx
        go_wp2_with fail
        go_roundw
        case rel => exact ⟨d, by omega, by go_num, Lib.hid (by have h1 := HA.out; rw [if_pos (by trivial)] at h1; rw [← HP.out, h1]), hq.trans q3⟩
        case measure => simp [intOf]
end Go.Proofs.YtkpdoikjfibflaaGreatDoor
namespace Go.Proofs.YtkpdoikjfibflaaGreatDoor
theorem putA_congr {b b' : Nat → Bool} : ∀ n, (∀ i, i < n → b i = b' i) → putA b n = putA b' n
  | 0, _ => rfl
  | n + 1, h => by
    rw [putA, putA, h n (Nat.lt_succ_self n), putA_congr n fun i hi => h i (by omega)]
theorem putA_ins (K : Nat → Int) (f : Nat → Nat) (m : Nat) : ∀ n, putA (fun i => decide (K m < K (f i))) n = insP K f m n
  | 0 => rfl
  | n + 1 => by
    rw [putA, insP, putA_ins K f m n]
    by_cases c : K m < K (f n)
    · rw [if_pos c, if_pos (decide_eq_true c)]
    · rw [if_neg c, if_neg (by simp only [decide_eq_true_eq]; exact c)]
/-- The rows before row m do not come behind it at equal times. -/
def Lexed (X : List Int) (m : Nat) : Prop := ∀ i, i < m → el X (i * 5) = el X (m * 5) → el X (i * 5 + 1) < el X (m * 5 + 1) ∨ (el X (i * 5 + 1) = el X (m * 5 + 1) ∧ el X (i * 5 + 2) ≤ el X (m * 5 + 2))
theorem putL_srt (X : List Int) (m : Nat) (h : Lexed X m) : putL (el X (m * 5)) (el X (m * 5 + 1)) (el X (m * 5 + 2)) (el X (m * 5 + 3)) (el X (m * 5 + 4)) (srtL X m) m = srtL X (m + 1) := by
  obtain ⟨hp, _⟩ := srtF_ok (keyI X) m
  have hA : putA (putP (el X (m * 5)) (el X (m * 5 + 1)) (el X (m * 5 + 2)) (srtL X m)) m = insP (keyI X) (srtF (keyI X) m) m m := by
    rw [← putA_ins]
    refine putA_congr m fun i hi => ?_
    have hf := (hp.into i (Nat.zero_le _) hi).2
    have e0 := flatP_el X (srtF (keyI X) m) (r := 0) (by decide) m hi
    have e1 := flatP_el X (srtF (keyI X) m) (r := 1) (by decide) m hi
    have e2 := flatP_el X (srtF (keyI X) m) (r := 2) (by decide) m hi
    simp only [Nat.add_zero] at e0
    unfold putP srtL
    rw [e0, e1, e2]
    have hL := h _ hf
    unfold befB
    show _ = decide (el X (m * 5) < el X (srtF (keyI X) m i * 5))
    generalize srtF (keyI X) m i = z at *
    by_cases c0 : el X (m * 5) = el X (z * 5)
    · have hL := hL c0.symm
      rw [if_pos c0]
      grind
    · rw [if_neg c0]
  have hle := insP_le (keyI X) (srtF (keyI X) m) m m
  rw [srtL_succ]
  unfold putL
  rw [hA, List.append_assoc]
  unfold srtL
  rw [flatP_take X _ m hle]
  rfl
end Go.Proofs.YtkpdoikjfibflaaGreatDoor
namespace Go.Proofs.YtkpdoikjfibflaaGreatDoor
/-- Rows of five, each of the pair I, K. -/
def PRw (I K : Int) (L : List Int) : Prop := ∃ c, L.length = c * 5 ∧ ∀ r, r < c → el L (r * 5 + 1) = I ∧ el L (r * 5 + 2) = K
theorem PRw.nil (I K : Int) : PRw I K [] := ⟨0, rfl, fun r h => by omega⟩
/-- The row j of L ++ M is a row of L or one of M. -/
theorem el_rows {L M : List Int} {c : Nat} (hc : L.length = c * 5) {j r : Nat} (hr : r < 5) : el (L ++ M) (j * 5 + r) = if j < c then el L (j * 5 + r) else el M ((j - c) * 5 + r) := by
  by_cases h : j < c
  · rw [if_pos h, el_app_lt (by omega)]
  · rw [if_neg h, show j * 5 + r = L.length + ((j - c) * 5 + r) by rw [hc]; omega, el_app_ge]
theorem PRw.app {I K : Int} {L M : List Int} (h : PRw I K L) (h' : PRw I K M) : PRw I K (L ++ M) := by
  obtain ⟨c, h1, h2⟩ := h
  obtain ⟨e, h3, h4⟩ := h'
  refine ⟨c + e, by rw [List.length_append, h1, h3]; omega, fun r hr => ?_⟩
  rw [el_rows h1 (by decide), el_rows h1 (by decide)]
  by_cases hc : r < c
  · rw [if_pos hc, if_pos hc]; exact h2 r hc
  · rw [if_neg hc, if_neg hc]; exact h4 _ (by omega)
theorem evR_PRw (r : Int × Int) (t f s : Int) : PRw f s (evR r t f s) := ⟨1, evR_len _ _ _ _, fun q hq => by
  obtain rfl : q = 0 := by omega
  unfold evR
  split <;> exact ⟨rfl, rfl⟩⟩
theorem icTo_PRw {p : Int → Bool} {ev : Int → List Int} {L : List Int} {I K : Int} (h : ∀ t, PRw I K (ev t)) : ∀ k, PRw I K (icTo p ev L k)
  | 0 => PRw.nil _ _
  | k + 1 => by
    rw [icTo]
    refine (icTo_PRw h k).app ?_
    unfold icK
    split
    · exact h _
    · exact PRw.nil _ _
theorem prL_PRw (wx wy a b d : Int) (D : List (Nat × List Int)) (i k : Nat) (T : List Int) : PRw i k (prL wx wy a b d D i k T) := icTo_PRw (fun _ => evR_PRw _ _ _ _) _
/-- Rows of five in the order of their pairs, none behind the pair I, K. -/
def POr (I K : Int) (L : List Int) : Prop := ∃ c, L.length = c * 5 ∧ (∀ r, r < c → el L (r * 5 + 1) < I ∨ (el L (r * 5 + 1) = I ∧ el L (r * 5 + 2) ≤ K)) ∧ ∀ i j, i < j → j < c → el L (i * 5 + 1) < el L (j * 5 + 1) ∨ (el L (i * 5 + 1) = el L (j * 5 + 1) ∧ el L (i * 5 + 2) ≤ el L (j * 5 + 2))
theorem POr.nil (I K : Int) : POr I K [] := ⟨0, rfl, fun r h => by omega, fun i j _ h => by omega⟩
theorem POr.up {I K I' K' : Int} {L : List Int} (h : POr I K L) (hI : I < I' ∨ (I = I' ∧ K ≤ K')) : POr I' K' L := by
  obtain ⟨c, h1, h2, h3⟩ := h
  exact ⟨c, h1, fun r hr => by have := h2 r hr; omega, h3⟩
theorem POr.app {I K : Int} {L M : List Int} (h : POr I K L) (h' : PRw I K M) : POr I K (L ++ M) := by
  obtain ⟨c, h1, h2, h3⟩ := h
  obtain ⟨e, h4, h5⟩ := h'
  refine ⟨c + e, by rw [List.length_append, h1, h4]; omega, fun r hr => ?_, fun i j hij hj => ?_⟩
  · rw [el_rows h1 (by decide), el_rows h1 (by decide)]
    by_cases hc : r < c
    · rw [if_pos hc, if_pos hc]; exact h2 r hc
    · rw [if_neg hc, if_neg hc]; have := h5 (r - c) (by omega); omega
  · rw [el_rows h1 (by decide), el_rows h1 (by decide), el_rows h1 (by decide), el_rows h1 (by decide)]
    by_cases hc : j < c
    · rw [if_pos hc, if_pos hc, if_pos (show i < c by omega), if_pos (show i < c by omega)]; exact h3 i j hij hc
    · have hM := h5 (j - c) (by omega)
      rw [if_neg hc, if_neg hc]
      by_cases hi : i < c
      · rw [if_pos hi, if_pos hi]; have := h2 i hi; omega
      · rw [if_neg hi, if_neg hi]; have := h5 (i - c) (by omega); omega
theorem POr.lexed {I K : Int} {L : List Int} (h : POr I K L) {m : Nat} (hm : m * 5 < L.length) : Lexed L m := by
  obtain ⟨c, h1, _, h3⟩ := h
  exact fun i hi _ => h3 i m hi (by omega)
theorem insP_congr {K K' : Nat → Int} {f : Nat → Nat} {m : Nat} (hm : K m = K' m) : ∀ n, (∀ i, i < n → K (f i) = K' (f i)) → insP K f m n = insP K' f m n
  | 0, _ => rfl
  | n + 1, h => by rw [insP, insP, hm, h n (Nat.lt_succ_self n), insP_congr hm n fun i hi => h i (by omega)]
theorem srtF_congr {K K' : Nat → Int} : ∀ n, (∀ i, i < n → K i = K' i) → srtF K n = srtF K' n
  | 0, _ => rfl
  | n + 1, h => by
    have ih := srtF_congr n fun i hi => h i (by omega)
    obtain ⟨hp, _⟩ := srtF_ok K' n
    rw [srtF, srtF, ih, insP_congr (h n (Nat.lt_succ_self n)) n fun i hi => h _ (by have := (hp.into i (Nat.zero_le _) hi).2; omega)]
/-- The sorted rows hang on the rows alone that are sorted. -/
theorem srtL_app {X : List Int} {n : Nat} (Y : List Int) (h : X.length = n * 5) : srtL (X ++ Y) n = srtL X n := by
  have hK : srtF (keyI (X ++ Y)) n = srtF (keyI X) n := srtF_congr n fun i hi => by
    unfold keyI
    rw [el_app_lt (by omega)]
  obtain ⟨hp, _⟩ := srtF_ok (keyI X) n
  unfold srtL
  rw [hK]
  refine flatP_eq (flatP_len _ _ _) fun j r hj hr => ?_
  have := (hp.into j (Nat.zero_le _) hj).2
  rw [flatP_el _ _ hr n hj, el_app_lt (by omega)]
end Go.Proofs.YtkpdoikjfibflaaGreatDoor
namespace Go.Proofs.YtkpdoikjfibflaaGreatDoor
open Go.RowKit Go.WideShapes Go.ChangeShapes Go.Shelf
theorem put_row {X P : List Int} {m r pc : Nat} {I K : Int} (hX : X.length = m * 5) (hP : P.length = pc * 5) (hr : r < pc) (hO : POr I K X) (hR : PRw I K P) : putL (el P (r * 5)) (el P (r * 5 + 1)) (el P (r * 5 + 2)) (el P (r * 5 + 3)) (el P (r * 5 + 4)) (srtL (X ++ P) (m + r)) (m + r) = srtL (X ++ P) (m + r + 1) := by
  have e (q : Nat) (hq : q < 5) : el (X ++ P) ((m + r) * 5 + q) = el P (r * 5 + q) := by
    rw [el_rows hX hq, if_neg (by omega), show m + r - m = r by omega]
  have e0 := e 0 (by decide)
  simp only [Nat.add_zero] at e0
  rw [← e0, ← e 1 (by decide), ← e 2 (by decide), ← e 3 (by decide), ← e 4 (by decide)]
  exact putL_srt _ _ ((hO.app hR).lexed (by rw [List.length_append]; omega))
theorem Own.capM {w : World} {B : Nat} {e : TypeId} {k n c : Nat} {A : Option Addr} {xs : List Int} (h : Own w B e k (.slice A n c) n xs) : c ≤ 9223372036854775807 := by
  rcases h.2 with ⟨h', _⟩ | ⟨g, cap, cur, hv, hg, hh, hnc, hcm, _⟩
  · injection h' with _ _ h3
    omega
  · injection hv with _ _ h3
    subst h3
    have : maxLen ≤ 9223372036854775807 := by decide
    omega
set_option maxRecDepth 100000 in
set_option maxHeartbeats 8000000 in
theorem spec_AllMain (wx wy a b d s : Int) (A : Option Addr) (n c : Nat) (D : List (Nat × List Int)) (w : World) (ha : RdD w A D) (hD : D.length = n) (hn2 : n ≤ 9223372036854775807) (h16 : n ≤ 16) (hwn : wnB wx wy = true) (hx : isWat a b d s = true) (hT : allT D = true) :
    Calls Tryz.prog 7 #[.agg #[.int .i64 wx, .int .i64 wy], .agg #[.int .i64 a, .int .i64 b, .int .i64 d, .int .i64 s], .slice A n c] w (RS w 42 5 ((aiL wx wy a b d s D).length / 5) (aiL wx wy a b d s D) (aiC wx wy a b d s D)) := by
  obtain ⟨hw1, hw2, hw3, hw4⟩ := isWat_all hx
  have k1 := fun wv => spec_IsWind wx wy wv
  rw [hwn] at k1
  have k2 := fun wv => spec_IsWatch a b d s wv
  rw [hx] at k2
  have K1 := Lib.hid k1
  have K2 := Lib.hid k2
  have hTT := fun k (hk : k < n) => allT_at hT (show k < D.length by omega)
  have KV := Lib.hid (fun (k : Nat) (hk : k < n) (B : Option Addr) (cb : Nat) wv (h : Rd wv B (dx D k)) e1 e2 => (show Calls Tryz.prog 25 #[.agg #[.slice B (dn D k) cb]] wv fun e w' => e = .returned (.bool true) ∧ Q wv w' from by have := spec_IsTrack B (dn D k) cb (dx D k) wv h e1 e2; rwa [hTT k hk] at this))
  have KT := Lib.hid (fun (i k : Nat) (hi : i < n) (hk : k < n) (Bi Bk : Option Addr) (ci ck : Nat) wv (h : Rd wv Bi (dx D i)) (h' : Rd wv Bk (dx D k)) e1 e2 => (show Calls Tryz.prog 26 #[.agg #[.int .i64 a, .int .i64 b, .int .i64 d, .int .i64 s], .agg #[.slice Bi (dn D i) ci], .agg #[.slice Bk (dn D k) ck]] wv (CkPost s (ckTo (dx D i) (dn D i) (dx D k) (dn D k)) (ckFrom s (dx D i) (dx D k)) wv) from spec_times a b d s Bi (dn D i) ci (dx D i) Bk (dn D k) ck (dx D k) wv h h' e1 e2 (hTT i hi) (hTT k hk) hw4))
  have KI := Lib.hid (fun (i k : Nat) (hi : i < n) (hk : k < n) (AT : Option Addr) (N cT : Nat) (T : List Int) (Bi Bk : Option Addr) (ci ck : Nat) wv hL hN h401 (h : Rd wv Bi (dx D i)) e1 (h' : Rd wv Bk (dx D k)) e2 => spec_incidents wx wy a b d s AT N cT T Bi (dn D i) ci (dx D i) Bk (dn D k) ck (dx D k) i k wv (wnB_wnd hwn) hwn hx hL hN h401 h e1 (hTT i hi) h' e2 (hTT k hk))
  have HD := Lib.hid hD
  have HF := Lib.hid (⟨hwn, hx, hT, hw4.1⟩ : wnB wx wy = true ∧ isWat a b d s = true ∧ allT D = true ∧ 1 ≤ s)
  have hnI : (n : Int) ≤ 16 := by omega
  obtain ⟨B0, B1⟩ := bxWW w wx wy a b d s
  have Q0 : Q w ((w.alloc (.cells #[.int .i64 wx, .int .i64 wy] 25)).alloc (.cells #[.int .i64 a, .int .i64 b, .int .i64 d, .int .i64 s] 27)) := by (repeat (first | assumption | exact Q.refl _ | refine Q.alloc ?_ _ | refine Q.drewN ?_ _ | refine Q.drew ?_))
  clear k1 k2 hTT hwn hx hT hw1 hw2 hw3 hw4 hD
  go_enter Tryz.func7, Tryz.ntmps7
  go_wp2_with fail
  refine (K1.out _).mono ?_
  rintro e1 w1 ⟨rfl, q1⟩
  replace B0 := B0.q q1
  replace B1 := B1.q q1
  replace Q0 := Q0.trans q1
  have c1' := B1.cell
  have l1' := B1.lt
  go_wp2_with fail
  refine (K2.out _).mono ?_
  rintro e2 w3 ⟨rfl, q2⟩
  replace B0 := B0.q q2
  replace B1 := B1.q q2
  replace Q0 := Q0.trans q2
  clear c1' l1' q1 q2 K1 K2
  go_wp2_with fail
  go_loopw [8] (fun i wr => ∃ k : Nat, k ≤ n ∧ i = .int .i64 k ∧ Q w3 wr) (fun i _ => n - (intOf i).toNat)
  case atStart => exact ⟨0, Nat.zero_le _, rfl, by (repeat (first | assumption | exact Q.refl _ | refine Q.alloc ?_ _ | refine Q.drewN ?_ _ | refine Q.drew ?_))⟩
  case round =>
    obtain ⟨k, hk, rfl, hq⟩ := hrel
    by_cases hlt : k < n
    · have hltI : (k : Int) < (n : Int) := by omega
      obtain ⟨bl, o, B, cb, rfl, g0, hr, hx, hm⟩ := (ha.q (Q0.trans hq)).at_ HD.out hlt
      have KK := Lib.hid (fun wv h => KV.out k hlt B cb wv h hx hm)
      obtain ⟨mm, hme⟩ : ∃ mm, mm = dn D k := ⟨_, rfl⟩
      rw [← hme] at g0 KK
      clear hme hx hm
      go_wp2_with (go_at_call 25; refine (KK.out _ (hr.q (by (repeat (first | assumption | exact Q.refl _ | refine Q.alloc ?_ _ | refine Q.drewN ?_ _ | refine Q.drew ?_))))).mono ?_; rintro e w2 ⟨rfl, q2⟩)
      go_roundw
      case rel => exact ⟨k + 1, by omega, by go_num, hq.trans (Q.trans (by (repeat (first | assumption | exact Q.refl _ | refine Q.alloc ?_ _ | refine Q.drewN ?_ _ | refine Q.drew ?_))) q2)⟩
      case measure => simp [intOf]; omega
    · obtain rfl : k = n := by omega
      replace B0 := B0.q hq
      replace B1 := B1.q hq
      replace Q0 := Q0.trans hq
      clear hq hlt KV
      obtain ⟨w3, hw3⟩ : ∃ w3, w3 = wr := ⟨_, rfl⟩
      subst hw3
      obtain ⟨n, hkn⟩ : ∃ n, n = k := ⟨_, rfl⟩
      subst hkn
      go_wp2_with fail
      go_loopw [9, 10] (fun v i wr => ∃ (k g m c1 : Nat) (L : List Int), k ≤ n ∧ i = .int .i64 k ∧ v = .slice (some ⟨g, 0, none⟩) m c1 ∧ Own wr w3.heap.size 42 5 (.slice (some ⟨g, 0, none⟩) m c1) m (srtL L m) ∧ L.length = m * 5 ∧ Hid (aiTo wx wy a b d s D n k = some L) ∧ Hid (POr k k L) ∧ m ≤ 401 * (15 * k) ∧ Q w3 wr) (fun _ i _ => n - (intOf i).toNat)
      case atStart => exact ⟨0, w3.heap.size, 0, 0, [], by omega, rfl, rfl, Own.lit w3 42 5 0 [] rfl (Nat.le_refl _) (by simp) (by decide), rfl, Lib.hid rfl, Lib.hid (POr.nil _ _), by omega, by (repeat (first | assumption | exact Q.refl _ | refine Q.alloc ?_ _ | refine Q.drewN ?_ _ | refine Q.drew ?_))⟩
      case round =>
        obtain ⟨i, g, m, c1, L, hi, rfl, rfl, hown, hLl, HL, HP, hm, hq⟩ := hrel
        by_cases hlt : i < n
        · have hltI : (i : Int) < (n : Int) := by omega
          obtain ⟨bl, o, Bi, ci, rfl, g00, hri0, hxi, _⟩ := ha.at_ HD.out hlt
          have hii : (0 : Int) ≤ (i : Int) := by omega
          go_wp2_with fail
          go_loopw [9, 11] (fun v kk wz => ∃ (j g m c1 : Nat) (M : List Int), i + 1 + j ≤ n ∧ kk = .int .i64 ((i : Int) + 1 + (j : Int)) ∧ v = .slice (some ⟨g, 0, none⟩) m c1 ∧ Own wz w3.heap.size 42 5 (.slice (some ⟨g, 0, none⟩) m c1) m (srtL (L ++ M) m) ∧ (L ++ M).length = m * 5 ∧ Hid (aiIn wx wy a b d s D i j = some M) ∧ Hid (POr i ((i : Int) + (j : Int)) (L ++ M)) ∧ m ≤ 401 * (15 * i + j) ∧ Q w3 wz) (fun _ kk _ => n - (intOf kk).toNat)
          case atStart => exact ⟨0, g, m, c1, [], by omega, by go_num, rfl, by rw [List.append_nil]; exact hown.q (by (repeat (first | assumption | exact Q.refl _ | refine Q.alloc ?_ _ | refine Q.drewN ?_ _ | refine Q.drew ?_))), by rw [List.append_nil]; exact hLl, Lib.hid rfl, Lib.hid (by rw [List.append_nil]; exact HP.out.up (by omega)), by omega, hq.trans (by (repeat (first | assumption | exact Q.refl _ | refine Q.alloc ?_ _ | refine Q.drewN ?_ _ | refine Q.drew ?_)))⟩
          case round =>
            obtain ⟨j, g2, m2, c2, M, hj, rfl, rfl, hown2, hLM, HM, HPM, hm2, hq2⟩ := hrel
            clear hown hm hq
            have hjI : (j : Int) ≤ 16 := by omega
            by_cases hlt2 : i + 1 + j < n
            · obtain ⟨k, hk⟩ : ∃ k, k = i + 1 + j := ⟨_, rfl⟩
              have hkE : (i : Int) + 1 + (j : Int) = (k : Int) := by omega
              have hkI : (k : Int) < (n : Int) := by omega
              have hkw : IntKind.i64.wrap (k : Int) = (k : Int) := by rw [IntKind.wrap_i64]; omega
              have hkn : k < n := by omega
              have hqw2 : Q w wr := Q0.trans hq2
              obtain ⟨_, _, Bk, ck, hAe, g10, hrk0, hxk, _⟩ := ha.at_ HD.out hkn
              cases hAe
              have g0 := hqw2.cell g00
              have g1 := hqw2.cell g10
              have b0 := B0.q hq2
              have b1 := B1.q hq2
              have hri := hri0.q hqw2
              have hrk := hrk0.q hqw2
              have KT1 := fun wv (h : Rd wv Bi (dx D i)) (h' : Rd wv Bk (dx D k)) => KT.out i k hlt hkn Bi Bk ci ck wv h h' hxi hxk
              have hS : ∀ w', Q w3 w' → Q w w' → (Q w3 w' ∧ w'.cell? ⟨w.heap.size, 0, none⟩ = some (.int .i64 wx) ∧ w'.cell? ⟨w.heap.size, 1, none⟩ = some (.int .i64 wy) ∧ w'.cell? ⟨w.heap.size + 1, 0, none⟩ = some (.int .i64 a) ∧ w'.cell? ⟨w.heap.size + 1, 1, none⟩ = some (.int .i64 b) ∧ w'.cell? ⟨w.heap.size + 1, 2, none⟩ = some (.int .i64 d) ∧ w'.cell? ⟨w.heap.size + 1, 3, none⟩ = some (.int .i64 s) ∧ w'.cell? ⟨bl, o + i, none⟩ = some (.slice Bi (dn D i) ci) ∧ w'.cell? ⟨bl, o + k, none⟩ = some (.slice Bk (dn D k) ck)) := fun w' q qw => ⟨q, (B0.q q).cell 0, (B0.q q).cell 1, (B1.q q).cell 0, (B1.q q).cell 1, (B1.q q).cell 2, (B1.q q).cell 3, qw.cell g00, qw.cell g10⟩
              cases hTm : kTm s D i k with
              | none =>
                have K4 := Lib.hid (fun wv h h' => (KT1 wv h h').mono (fun e w' hp => (show e = .returned (.tuple #[.slice none 0 0, .bool false]) ∧ Q wv w' from by unfold CkPost at hp; rw [show ckGo s (ckTo (dx D i) (dn D i) (dx D k) (dn D k)) 401 (ckFrom s (dx D i) (dx D k)) = none from hTm] at hp; exact hp)))
                have HFA := Lib.hid (aiC_n (wx := wx) (wy := wy) (a := a) (b := b) (d := d) (s := s) (D := D) (by rw [HD.out]; omega) HF.out.1 HF.out.2.1 HF.out.2.2.1 (by rw [HD.out]; exact ai_fail (by rw [← hk]; exact hTm) (by omega)))
                clear KT1 hTm hk
                go_wp2_with fail
                go_region_held3 (fun w' => Q w3 w' ∧ w'.cell? ⟨w.heap.size, 0, none⟩ = some (.int .i64 wx) ∧ w'.cell? ⟨w.heap.size, 1, none⟩ = some (.int .i64 wy) ∧ w'.cell? ⟨w.heap.size + 1, 0, none⟩ = some (.int .i64 a) ∧ w'.cell? ⟨w.heap.size + 1, 1, none⟩ = some (.int .i64 b) ∧ w'.cell? ⟨w.heap.size + 1, 2, none⟩ = some (.int .i64 d) ∧ w'.cell? ⟨w.heap.size + 1, 3, none⟩ = some (.int .i64 s) ∧ w'.cell? ⟨bl, o + i, none⟩ = some (.slice Bi (dn D i) ci) ∧ w'.cell? ⟨bl, o + k, none⟩ = some (.slice Bk (dn D k) ck)) (first | exact hS _ (hq2.trans (by (repeat (first | with_reducible assumption | with_reducible exact Q.refl _ | with_reducible refine Q.alloc ?_ _ | with_reducible refine Q.drewN ?_ _ | with_reducible refine Q.drew ?_ | with_reducible refine Q.setCell ?_ (by first | with_reducible exact Nat.le_refl _ | (simp only; omega) | (simp; done) | (simp; omega)) _)))) (hqw2.trans (by (repeat (first | with_reducible assumption | with_reducible exact Q.refl _ | with_reducible refine Q.alloc ?_ _ | with_reducible refine Q.drewN ?_ _ | with_reducible refine Q.drew ?_ | with_reducible refine Q.setCell ?_ (by first | with_reducible exact Nat.le_refl _ | (simp only; omega) | (simp; done) | (simp; omega)) _)))) | (go_split_ands; exact hS _ (hq2.trans (by (repeat (first | with_reducible assumption | with_reducible exact Q.refl _ | with_reducible refine Q.alloc ?_ _ | with_reducible refine Q.drewN ?_ _ | with_reducible refine Q.drew ?_ | with_reducible refine Q.setCell ?_ (by first | with_reducible exact Nat.le_refl _ | (simp only; omega) | (simp; done) | (simp; omega)) _)))) (hqw2.trans (by (repeat (first | with_reducible assumption | with_reducible exact Q.refl _ | with_reducible refine Q.alloc ?_ _ | with_reducible refine Q.drewN ?_ _ | with_reducible refine Q.drew ?_ | with_reducible refine Q.setCell ?_ (by first | with_reducible exact Nat.le_refl _ | (simp only; omega) | (simp; done) | (simp; omega)) _)))))) (first | (go_at_call 26; refine (K4.out _ (hri.q (by (repeat (first | with_reducible assumption | with_reducible exact Q.refl _ | with_reducible refine Q.alloc ?_ _ | with_reducible refine Q.drewN ?_ _ | with_reducible refine Q.drew ?_ | with_reducible refine Q.setCell ?_ (by first | with_reducible exact Nat.le_refl _ | (simp only; omega) | (simp; done) | (simp; omega)) _)))) (hrk.q (by (repeat (first | with_reducible assumption | with_reducible exact Q.refl _ | with_reducible refine Q.alloc ?_ _ | with_reducible refine Q.drewN ?_ _ | with_reducible refine Q.drew ?_ | with_reducible refine Q.setCell ?_ (by first | with_reducible exact Nat.le_refl _ | (simp only; omega) | (simp; done) | (simp; omega)) _))))).mono ?_; rintro e5 w5 ⟨rfl, q5⟩; have QR : Q wr w5 := Q.trans (by (repeat (first | with_reducible assumption | with_reducible exact Q.refl _ | with_reducible refine Q.alloc ?_ _ | with_reducible refine Q.drewN ?_ _ | with_reducible refine Q.drew ?_ | with_reducible refine Q.setCell ?_ (by first | with_reducible exact Nat.le_refl _ | (simp only; omega) | (simp; done) | (simp; omega)) _))) q5))
                go_wp2_with fail
                go_ret2
                rw [HFA.out.1, HFA.out.2]
                exact RS.nil _ _ _ _ _ (hqw2.trans QR)
              | some T =>
                have K4 := Lib.hid (fun wv h h' => (KT1 wv h h').mono (fun e w' hp => (show ∃ A c, e = .returned (.tuple #[.slice A T.length c, .bool true]) ∧ Own w' wv.heap.size 2 1 (.slice A T.length c) T.length T ∧ Q wv w' from by unfold CkPost at hp; rw [show ckGo s (ckTo (dx D i) (dn D i) (dx D k) (dn D k)) 401 (ckFrom s (dx D i) (dx D k)) = some T from hTm] at hp; exact hp)))
                have hT401 := kTm_len hTm
                have HM2 := Lib.hid (aiIn_yes (wx := wx) (wy := wy) (a := a) (b := b) (d := d) HM.out (by rw [← hk]; exact hTm))
                rw [← hk] at HM2
                have KI1 := Lib.hid (fun (AT : Option Addr) (cT : Nat) wv hL h h' => (show Calls Tryz.prog 27 #[.agg #[.int .i64 wx, .int .i64 wy], .agg #[.int .i64 a, .int .i64 b, .int .i64 d, .int .i64 s], .agg #[.slice Bi (dn D i) ci], .agg #[.slice Bk (dn D k) ck], .int .i64 (i : Nat), .int .i64 (k : Nat), .slice AT T.length cT] wv (RL wv 42 5 ((prL wx wy a b d D i k T).length / 5) (prL wx wy a b d D i k T)) from KI.out i k hlt hkn AT T.length cT T Bi Bk ci ck wv hL rfl hT401 h hxi h' hxk))
                obtain ⟨pc, hpc1, hpc2⟩ := prL_len wx wy a b d D i k T
                have HPR := Lib.hid (prL_PRw wx wy a b d D i k T)
                generalize prL wx wy a b d D i k T = P at *
                have hPN : P.length / 5 = pc := by omega
                rw [hPN] at KI1
                have HPX := Lib.hid (show POr i k (L ++ M) from HPM.out.up (by omega))
                have HK := Lib.hid hk
                clear KT1 hTm hk hPN
                go_wp2_with fail
                go_region_held3 (fun w' => Q w3 w' ∧ w'.cell? ⟨w.heap.size, 0, none⟩ = some (.int .i64 wx) ∧ w'.cell? ⟨w.heap.size, 1, none⟩ = some (.int .i64 wy) ∧ w'.cell? ⟨w.heap.size + 1, 0, none⟩ = some (.int .i64 a) ∧ w'.cell? ⟨w.heap.size + 1, 1, none⟩ = some (.int .i64 b) ∧ w'.cell? ⟨w.heap.size + 1, 2, none⟩ = some (.int .i64 d) ∧ w'.cell? ⟨w.heap.size + 1, 3, none⟩ = some (.int .i64 s) ∧ w'.cell? ⟨bl, o + i, none⟩ = some (.slice Bi (dn D i) ci) ∧ w'.cell? ⟨bl, o + k, none⟩ = some (.slice Bk (dn D k) ck)) (first | exact hS _ (hq2.trans (by (repeat (first | with_reducible assumption | with_reducible exact Q.refl _ | with_reducible refine Q.alloc ?_ _ | with_reducible refine Q.drewN ?_ _ | with_reducible refine Q.drew ?_ | with_reducible refine Q.setCell ?_ (by first | with_reducible exact Nat.le_refl _ | (simp only; omega) | (simp; done) | (simp; omega)) _)))) (hqw2.trans (by (repeat (first | with_reducible assumption | with_reducible exact Q.refl _ | with_reducible refine Q.alloc ?_ _ | with_reducible refine Q.drewN ?_ _ | with_reducible refine Q.drew ?_ | with_reducible refine Q.setCell ?_ (by first | with_reducible exact Nat.le_refl _ | (simp only; omega) | (simp; done) | (simp; omega)) _)))) | (go_split_ands; exact hS _ (hq2.trans (by (repeat (first | with_reducible assumption | with_reducible exact Q.refl _ | with_reducible refine Q.alloc ?_ _ | with_reducible refine Q.drewN ?_ _ | with_reducible refine Q.drew ?_ | with_reducible refine Q.setCell ?_ (by first | with_reducible exact Nat.le_refl _ | (simp only; omega) | (simp; done) | (simp; omega)) _)))) (hqw2.trans (by (repeat (first | with_reducible assumption | with_reducible exact Q.refl _ | with_reducible refine Q.alloc ?_ _ | with_reducible refine Q.drewN ?_ _ | with_reducible refine Q.drew ?_ | with_reducible refine Q.setCell ?_ (by first | with_reducible exact Nat.le_refl _ | (simp only; omega) | (simp; done) | (simp; omega)) _)))))) (first | (go_at_call 26; refine (K4.out _ (hri.q (by (repeat (first | with_reducible assumption | with_reducible exact Q.refl _ | with_reducible refine Q.alloc ?_ _ | with_reducible refine Q.drewN ?_ _ | with_reducible refine Q.drew ?_ | with_reducible refine Q.setCell ?_ (by first | with_reducible exact Nat.le_refl _ | (simp only; omega) | (simp; done) | (simp; omega)) _)))) (hrk.q (by (repeat (first | with_reducible assumption | with_reducible exact Q.refl _ | with_reducible refine Q.alloc ?_ _ | with_reducible refine Q.drewN ?_ _ | with_reducible refine Q.drew ?_ | with_reducible refine Q.setCell ?_ (by first | with_reducible exact Nat.le_refl _ | (simp only; omega) | (simp; done) | (simp; omega)) _))))).mono ?_; rintro e5 w5 ⟨A5, c5, rfl, o5, q5⟩; have QR : Q wr w5 := Q.trans (by (repeat (first | with_reducible assumption | with_reducible exact Q.refl _ | with_reducible refine Q.alloc ?_ _ | with_reducible refine Q.drewN ?_ _ | with_reducible refine Q.drew ?_ | with_reducible refine Q.setCell ?_ (by first | with_reducible exact Nat.le_refl _ | (simp only; omega) | (simp; done) | (simp; omega)) _))) q5))
                have hq5 := hq2.trans QR
                have hqw5 := hqw2.trans QR
                have hown5 := hown2.q QR
                have hri5 := hri.q QR
                have hrk5 := hrk.q QR
                clear hri hrk hown2 hq2 hqw2 g0 g1 K4
                go_wp2_with fail
                go_region_held3 (fun w' => Q w3 w' ∧ w'.cell? ⟨w.heap.size, 0, none⟩ = some (.int .i64 wx) ∧ w'.cell? ⟨w.heap.size, 1, none⟩ = some (.int .i64 wy) ∧ w'.cell? ⟨w.heap.size + 1, 0, none⟩ = some (.int .i64 a) ∧ w'.cell? ⟨w.heap.size + 1, 1, none⟩ = some (.int .i64 b) ∧ w'.cell? ⟨w.heap.size + 1, 2, none⟩ = some (.int .i64 d) ∧ w'.cell? ⟨w.heap.size + 1, 3, none⟩ = some (.int .i64 s) ∧ w'.cell? ⟨bl, o + i, none⟩ = some (.slice Bi (dn D i) ci) ∧ w'.cell? ⟨bl, o + k, none⟩ = some (.slice Bk (dn D k) ck)) (first | exact hS _ (hq5.trans (by (repeat (first | with_reducible assumption | with_reducible exact Q.refl _ | with_reducible refine Q.alloc ?_ _ | with_reducible refine Q.drewN ?_ _ | with_reducible refine Q.drew ?_ | with_reducible refine Q.setCell ?_ (by first | with_reducible exact Nat.le_refl _ | (simp only; omega) | (simp; done) | (simp; omega)) _)))) (hqw5.trans (by (repeat (first | with_reducible assumption | with_reducible exact Q.refl _ | with_reducible refine Q.alloc ?_ _ | with_reducible refine Q.drewN ?_ _ | with_reducible refine Q.drew ?_ | with_reducible refine Q.setCell ?_ (by first | with_reducible exact Nat.le_refl _ | (simp only; omega) | (simp; done) | (simp; omega)) _)))) | (go_split_ands; exact hS _ (hq5.trans (by (repeat (first | with_reducible assumption | with_reducible exact Q.refl _ | with_reducible refine Q.alloc ?_ _ | with_reducible refine Q.drewN ?_ _ | with_reducible refine Q.drew ?_ | with_reducible refine Q.setCell ?_ (by first | with_reducible exact Nat.le_refl _ | (simp only; omega) | (simp; done) | (simp; omega)) _)))) (hqw5.trans (by (repeat (first | with_reducible assumption | with_reducible exact Q.refl _ | with_reducible refine Q.alloc ?_ _ | with_reducible refine Q.drewN ?_ _ | with_reducible refine Q.drew ?_ | with_reducible refine Q.setCell ?_ (by first | with_reducible exact Nat.le_refl _ | (simp only; omega) | (simp; done) | (simp; omega)) _)))))) (first | (go_at_call 27; refine (KI1.out A5 c5 _ ((o5.q (by (repeat (first | with_reducible assumption | with_reducible exact Q.refl _ | with_reducible refine Q.alloc ?_ _ | with_reducible refine Q.drewN ?_ _ | with_reducible refine Q.drew ?_ | with_reducible refine Q.setCell ?_ (by first | with_reducible exact Nat.le_refl _ | (simp only; omega) | (simp; done) | (simp; omega)) _)))).rd) (hri5.q (by (repeat (first | with_reducible assumption | with_reducible exact Q.refl _ | with_reducible refine Q.alloc ?_ _ | with_reducible refine Q.drewN ?_ _ | with_reducible refine Q.drew ?_ | with_reducible refine Q.setCell ?_ (by first | with_reducible exact Nat.le_refl _ | (simp only; omega) | (simp; done) | (simp; omega)) _)))) (hrk5.q (by (repeat (first | with_reducible assumption | with_reducible exact Q.refl _ | with_reducible refine Q.alloc ?_ _ | with_reducible refine Q.drewN ?_ _ | with_reducible refine Q.drew ?_ | with_reducible refine Q.setCell ?_ (by first | with_reducible exact Nat.le_refl _ | (simp only; omega) | (simp; done) | (simp; omega)) _))))).mono ?_; rintro e6 w6 ⟨A6, c6, rfl, o6, q6⟩; have QR6 : Q w5 w6 := Q.trans (by (repeat (first | with_reducible assumption | with_reducible exact Q.refl _ | with_reducible refine Q.alloc ?_ _ | with_reducible refine Q.drewN ?_ _ | with_reducible refine Q.drew ?_ | with_reducible refine Q.setCell ?_ (by first | with_reducible exact Nat.le_refl _ | (simp only; omega) | (simp; done) | (simp; omega)) _))) q6))
                have hq6 := hq5.trans QR6
                have hown6 := hown5.q QR6
                have hpcI : (pc : Int) ≤ 401 := by omega
                clear hri5 hrk5 hown5 hq5 hqw5 KI1 hS o5
                go_wp2_with fail
                go_loopw [9, 15] (fun v nn wz => ∃ (r g c1 : Nat), r ≤ pc ∧ nn = .int .i64 r ∧ v = .slice (some ⟨g, 0, none⟩) (m2 + r) c1 ∧ Own wz w3.heap.size 42 5 (.slice (some ⟨g, 0, none⟩) (m2 + r) c1) (m2 + r) (srtL ((L ++ M) ++ P) (m2 + r)) ∧ Q w6 wz) (fun _ nn _ => pc - (intOf nn).toNat)
                case atStart => exact ⟨0, g2, c2, Nat.zero_le _, rfl, rfl, by rw [Nat.add_zero, srtL_app P hLM]; exact hown6.q (by (repeat (first | assumption | exact Q.refl _ | refine Q.alloc ?_ _ | refine Q.drewN ?_ _ | refine Q.drew ?_))), by (repeat (first | assumption | exact Q.refl _ | refine Q.alloc ?_ _ | refine Q.drewN ?_ _ | refine Q.drew ?_))⟩
                case round =>
                  obtain ⟨r, g9, c9, hr, rfl, rfl, hown9, hq9⟩ := hrel
                  clear hown6
                  by_cases hlr : r < pc
                  · have hlrI : (r : Int) < (pc : Int) := by omega
                    obtain ⟨b9, o9, rfl, y0, y1, y2, y3, y4⟩ := ((o6.q hq9).rd).at5 hpc2 hlr
                    have HPT := Lib.hid (put_row hLM hpc2 hlr HPX.out HPR.out)
                    have KP := Lib.hid (fun wv (hw : Q wr wv) => spec_Put g9 (m2 + r) c9 w3.heap.size (srtL ((L ++ M) ++ P) (m2 + r)) (el P (r * 5)) (el P (r * 5 + 1)) (el P (r * 5 + 2)) (el P (r * 5 + 3)) (el P (r * 5 + 4)) wv (hown9.q hw) (by omega) hown9.capM)
                    rw [HPT.out] at KP
                    have hszz := (hq6.trans hq9).size
                    generalize el P (r * 5) = E0 at *
                    generalize el P (r * 5 + 1) = E1 at *
                    generalize el P (r * 5 + 2) = E2 at *
                    generalize el P (r * 5 + 3) = E3 at *
                    generalize el P (r * 5 + 4) = E4 at *
                    clear HPT
                    go_wp2_with (go_at_call 28; refine (KP.out _ (by (repeat (first | with_reducible assumption | with_reducible exact Q.refl _ | with_reducible refine Q.alloc ?_ _ | with_reducible refine Q.drewN ?_ _ | with_reducible refine Q.drew ?_ | with_reducible refine Q.setCell ?_ (by first | with_reducible exact Nat.le_refl _ | (simp only; omega) | (simp; done) | (simp; omega)) _)))).mono ?_; rintro e7 w7 ⟨g7, c7, rfl, o7, q7⟩; have Q7 : Q wr w7 := Q.trans (by (repeat (first | with_reducible assumption | with_reducible exact Q.refl _ | with_reducible refine Q.alloc ?_ _ | with_reducible refine Q.drewN ?_ _ | with_reducible refine Q.drew ?_ | with_reducible refine Q.setCell ?_ (by first | with_reducible exact Nat.le_refl _ | (simp only; omega) | (simp; done) | (simp; omega)) _))) q7)
                    go_roundw
                    case rel => exact ⟨r + 1, g7, c7, by omega, by go_num, rfl, o7.mono (by first | omega | (simp; omega)), hq9.trans Q7⟩
                    case measure => simp [intOf]; omega
                  · have hrp : r = pc := by omega
                    subst hrp
                    have hlrI : ¬ (r : Int) < (r : Int) := by omega
                    go_wp2_with fail
                    go_roundw
                    case rel => exact ⟨j + 1, g9, m2 + r, c9, M ++ P, by have := HK.out; omega, by go_num, rfl, by rw [← List.append_assoc]; exact hown9, by rw [← List.append_assoc, List.length_append]; omega, HM2, Lib.hid (by rw [← List.append_assoc]; exact (HPX.out.app HPR.out).up (by have := HK.out; omega)), by omega, hq6.trans hq9⟩
                    case measure => simp [intOf]; omega
            · have hltJ : ¬ (i : Int) + 1 + (j : Int) < (n : Int) := by omega
              have hjn : j = n - 1 - i := by omega
              have HL2 := Lib.hid (aiTo_yes HL.out (by rw [← hjn]; exact HM.out))
              clear hjn
              go_wp2_with fail
              go_roundw
              case rel => exact ⟨i + 1, g2, m2, c2, L ++ M, by omega, by go_num, rfl, hown2, hLM, HL2, Lib.hid (HPM.out.up (by omega)), by omega, hq2⟩
              case measure => simp [intOf]; omega
        · obtain rfl : i = n := by omega
          have hltI : ¬ (i : Int) < (i : Int) := by omega
          have HS := Lib.hid (aiC_s (wx := wx) (wy := wy) (a := a) (b := b) (d := d) (s := s) (D := D) (X := L) (by rw [HD.out]; omega) HF.out.1 HF.out.2.1 HF.out.2.2.1 (by rw [HD.out]; exact HL.out))
          have hmm : L.length / 5 = m := by omega
          rw [hmm] at HS
          have hsl := srtL_len L m
          clear hmm
          go_wp2_with fail
          go_ret2
          rw [HS.out.1, HS.out.2]
          exact RS.mk' (hown.mono Q0.size) (Q0.trans hq) (by rw [hsl]; omega) (by decide)
end Go.Proofs.YtkpdoikjfibflaaGreatDoor
