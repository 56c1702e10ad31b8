/- Walks: an incident put at its place, as the reference does it. No condition. Walks: an incident put at its place, as the reference does it. No condition. -/
import Derived.Test.YtkpdoikjfibflaaGreatK
import Derived.Test.YtkpdoikjfibflaaGreatEqIncident
import Derived.Test.YtkpdoikjfibflaaGreatTail
import Derived.Maps.AppendAt
import Derived.Deep.RegionHeld3
import Derived.Deep.CutBlock
namespace Go.Proofs.YtkpdoikjfibflaaGreat
open Go.RowKit Go.WideShapes Go.ChangeShapes
def befB (x0 x1 x2 y0 y1 y2 : Int) : Bool := if x0 = y0 then (if x1 = y1 then decide (x2 < y2) else decide (x1 < y1)) else decide (x0 < y0)
theorem spec_Before (x0 x1 x2 x3 x4 y0 y1 y2 y3 y4 : Int) (w : World) :
    Calls Tryz.prog 74 #[.agg #[.int .i64 x0, .int .i64 x1, .int .i64 x2, .int .i64 x3, .int .i64 x4], .agg #[.int .i64 y0, .int .i64 y1, .int .i64 y2, .int .i64 y3, .int .i64 y4]] w fun e w' => e = .returned (.bool (befB x0 x1 x2 y0 y1 y2)) ∧ Q w w' := by
  by_cases h0 : x0 = y0
  · by_cases h1 : x1 = y1
    · have HB := Lib.hid (show befB x0 x1 x2 y0 y1 y2 = decide (x2 < y2) by unfold befB; rw [if_pos h0, if_pos h1])
      subst h0 h1
      go_enter Tryz.func74, Tryz.ntmps74
      go_wp2_with fail
      go_ret
      exact ⟨ret_bool HB.out.symm, by (repeat (first | assumption | exact Q.refl _ | refine Q.alloc ?_ _ | refine Q.drewN ?_ _ | refine Q.drew ?_))⟩
    · have HB := Lib.hid (show befB x0 x1 x2 y0 y1 y2 = decide (x1 < y1) by unfold befB; rw [if_pos h0, if_neg h1])
      have h1b : (x1 == y1) = false := by simpa using h1
      subst h0
      go_enter Tryz.func74, Tryz.ntmps74
      go_wp2_with fail
      go_ret
      exact ⟨ret_bool HB.out.symm, by (repeat (first | assumption | exact Q.refl _ | refine Q.alloc ?_ _ | refine Q.drewN ?_ _ | refine Q.drew ?_))⟩
  · have HB := Lib.hid (show befB x0 x1 x2 y0 y1 y2 = decide (x0 < y0) by unfold befB; rw [if_neg h0])
    have h0b : (x0 == y0) = false := by simpa using h0
    go_enter Tryz.func74, Tryz.ntmps74
    go_wp2_with fail
    go_ret
    exact ⟨ret_bool HB.out.symm, by (repeat (first | assumption | exact Q.refl _ | refine Q.alloc ?_ _ | refine Q.drewN ?_ _ | refine Q.drew ?_))⟩
/-- The place from the right. -/
def putA (b : Nat → Bool) : Nat → Nat
  | 0 => 0
  | i + 1 => if b i = true then putA b i else i + 1
theorem putA_le (b : Nat → Bool) : ∀ n, putA b n ≤ n
  | 0 => Nat.le_refl _
  | i + 1 => by
    unfold putA
    split
    · have := putA_le b i; omega
    · exact Nat.le_refl _
theorem run_appRd {wr : World} {st ty e : TypeId} {k : Nat} (E : EltT st e k) {B : Nat} {A : Option Addr} {n c m d b o' : Nat} {xs ys : List Int} (hown : Own wr B e k (.slice A n c) n xs)
    (hr : ∀ j, j < ys.length → wr.cell? ⟨b, o' + j, none⟩ = some (.int .i64 (el ys j))) (hl : ys.length = m * k) (hn : n + m ≤ 1073741823) (hB : B ≤ wr.heap.size) :
    ∃ A' c' w', (Builtin.append_ #[st, st] ty #[.slice A n c, .slice (some ⟨b, o', none⟩) m d]).run Tryz.prog wr = .ok (.slice A' (n + m) c') w' ∧ Own w' B e k (.slice A' (n + m) c') (n + m) (xs ++ ys) ∧ wr.grownBy w' (A.map (·.block)) ∧ (A ≠ none → A' ≠ none) := by
  obtain ⟨i, z, hu, hi, hz0, hz1, hz2, hz3, hk⟩ := E
  obtain ⟨v', w', hrun, ho', hg, _, hat⟩ := run_append_own_at (P := Tryz.prog) wr B st ty e i z k i.bytes hu hi hz0 hz1 rfl (by rw [hz3]; simp) hk (.slice A n c) n _ hown
    ⟨b, o', none⟩ m d (ys.map (Value.int .i64)) (by simpa using hl) (by
      intro j u hu
      rw [List.getElem?_map] at hu
      have hj : j < ys.length := by
        rcases Nat.lt_or_ge j ys.length with h | h
        · exact h
        · rw [List.getElem?_eq_none h] at hu; cases hu
      rw [Go.WideShapes.add_plain, hr j hj]
      unfold el
      rw [List.getD_eq_getElem?_getD]
      rw [List.getElem?_eq_getElem hj] at hu ⊢
      simpa using hu) (ints_one ys) (by unfold maxLen; omega) (by
      have : (n + m) * i.bytes ≤ 1073741824 * 65536 := Nat.mul_le_mul (by omega) hz2
      omega) (by omega)
  rw [← List.map_append] at ho'
  have hO : Own w' B e k v' (n + m) (xs ++ ys) := ho'
  obtain ⟨_, A', c', rfl, _, _⟩ := hO.form
  refine ⟨A', c', w', hrun, hO, by cases A <;> exact hg, fun hA hA' => ?_⟩
  subst hA'
  rcases hat with h | h
  · cases A with
    | none => exact hA rfl
    | some _ => simp [Value.ownBlock] at h
  · simp [Value.ownBlock] at h
theorem step_appRd {wr : World} {ops : Array Oper} {o : Oper} {a : Act} {K : Act → World → Prop} {Q' : Exit → Act → World → Prop} {E' : Prop} {st e : TypeId} {k : Nat} (E : EltT st e k) (hgd : o.guard = none) (s x : Operand)
    (ho : o.op = .call { callee := .builtin .append, args := #[s, x], argTypes := #[st, st] })
    {B : Nat} {A : Option Addr} {n c m d b o' : Nat} {xs ys : List Int} (hs : a.eval s = .slice A n c) (hown : Own wr B e k (.slice A n c) n xs) (hx : a.eval x = .slice (some ⟨b, o', none⟩) m d)
    (hr : ∀ j, j < ys.length → wr.cell? ⟨b, o' + j, none⟩ = some (.int .i64 (el ys j))) (hl : ys.length = m * k) (hn : n + m ≤ 1073741823) (hB : B ≤ wr.heap.size)
    (h : ∀ A' c' w', Own w' B e k (.slice A' (n + m) c') (n + m) (xs ++ ys) → wr.grownBy w' (A.map (·.block)) → (A ≠ none → A' ≠ none) → K (a.put o.dst (.slice A' (n + m) c')) w') :
    if Region.wanted o (yielded ops a.tmps) = true then Oper.wp Tryz.prog o a wr K Q' else E' := by
  rw [if_pos (by simp [Region.wanted, hgd])]
  obtain ⟨A', c', w', hrun, h1, h2, h3⟩ := run_appRd (ty := o.type) (d := d) E hown hr hl hn hB
  unfold Oper.wp execOp
  simp only [ho, resolve, invoke, builtin, Sem.run_bind, Sem.run_pure, Result.andThen_ok, List.map_toArray, List.map_cons, List.map_nil, hs, hx, hrun]
  exact h A' c' w' h1 h2 h3
end Go.Proofs.YtkpdoikjfibflaaGreat
namespace Go.Proofs.YtkpdoikjfibflaaGreat
open Go.RowKit Go.WideShapes Go.ChangeShapes
theorem elIncP : EltT 30 55 5 := EltT.mk infoIncident Tryz.underlying30 (by decide) rfl (by decide)
theorem Own.dropRd {w : World} {B g n c : Nat} {e : TypeId} {L : List Int} (h : Own w B e 5 (.slice (some ⟨g, 0, none⟩) n c) n L) (i : Nat) : ∀ j, j < (L.drop (i * 5)).length → w.cell? ⟨g, i * 5 + j, none⟩ = some (.int .i64 (el (L.drop (i * 5)) j)) := fun j hj => by
  have hl := h.len
  simp only [List.length_drop] at hj
  rw [h.cell (j := i * 5 + j) (by omega)]
  unfold el
  rw [List.getD_eq_getElem?_getD, List.getD_eq_getElem?_getD, List.getElem?_drop]
theorem Own.takeRd {w : World} {B g n c : Nat} {e : TypeId} {L : List Int} (h : Own w B e 5 (.slice (some ⟨g, 0, none⟩) n c) n L) (i : Nat) : ∀ j, j < (L.take (i * 5)).length → w.cell? ⟨g, 0 + j, none⟩ = some (.int .i64 (el (L.take (i * 5)) j)) := fun j hj => by
  have hl := h.len
  simp only [List.length_take] at hj
  rw [Nat.zero_add, h.cell (j := j) (by omega)]
  unfold el
  rw [List.getD_eq_getElem?_getD, List.getD_eq_getElem?_getD, List.getElem?_take, if_pos (by omega)]
def putP (x0 x1 x2 : Int) (L : List Int) (i : Nat) : Bool := befB x0 x1 x2 (el L (i * 5)) (el L (i * 5 + 1)) (el L (i * 5 + 2))
def putL (x0 x1 x2 x3 x4 : Int) (L : List Int) (n : Nat) : List Int := L.take (putA (putP x0 x1 x2 L) n * 5) ++ ([x0, x1, x2, x3, x4] ++ L.drop (putA (putP x0 x1 x2 L) n * 5))
set_option maxRecDepth 100000 in
set_option maxHeartbeats 4000000 in
theorem spec_Put (g n c B : Nat) (L : List Int) (x0 x1 x2 x3 x4 : Int) (w : World) (ho : Own w B 55 5 (.slice (some ⟨g, 0, none⟩) n c) n L) (hn : n ≤ 100000) (hc : c ≤ 9223372036854775807) :
    Calls Tryz.prog 50 #[.slice (some ⟨g, 0, none⟩) n c, .agg #[.int .i64 x0, .int .i64 x1, .int .i64 x2, .int .i64 x3, .int .i64 x4]] w fun e w' => ∃ g' c', e = .returned (.slice (some ⟨g', 0, none⟩) (n + 1) c') ∧ Own w' w.heap.size 55 5 (.slice (some ⟨g', 0, none⟩) (n + 1) c') (n + 1) (putL x0 x1 x2 x3 x4 L n) ∧ Q w w' := by
  have hcap := ho.cap
  have BX := Blk.new w 55 #[.int .i64 x0, .int .i64 x1, .int .i64 x2, .int .i64 x3, .int .i64 x4]
  have Q0 : Q w (w.alloc (.cells #[.int .i64 x0, .int .i64 x1, .int .i64 x2, .int .i64 x3, .int .i64 x4] 55)) := by (repeat (first | assumption | exact Q.refl _ | refine Q.alloc ?_ _ | refine Q.drewN ?_ _ | refine Q.drew ?_))
  have hnI : (n : Int) ≤ 100000 := by omega
  go_enter Tryz.func50, Tryz.ntmps50
  go_wp2_with fail
  go_loopw [5] (fun s wr => ∃ i : Nat, i ≤ n ∧ s = .int .i64 i ∧ Hid (putA (putP x0 x1 x2 L) i = putA (putP x0 x1 x2 L) n) ∧ Q (w.alloc (.cells #[.int .i64 x0, .int .i64 x1, .int .i64 x2, .int .i64 x3, .int .i64 x4] 55)) wr) (fun s _ => (intOf s).toNat)
  case atStart => exact ⟨n, Nat.le_refl _, rfl, Lib.hid rfl, Q.refl _⟩
  case round =>
    obtain ⟨i, hi, rfl, HP, hq⟩ := hrel
    by_cases hi0 : i = 0
    · have hi00 : ¬ (0 : Int) < (i : Int) := by omega
      have hPn : putA (putP x0 x1 x2 L) n = i := by rw [← HP.out, hi0]; rfl
      have hin : (i : Int) ≤ (n : Int) := by omega
      have hic2 : (i : Int) ≤ (c : Int) := by omega
      have hi01 : ¬ 0 < i := by omega
      have hi02 : (i : Int) ≤ 0 := by omega
      have hi03 : decide ((0 : Int) < (i : Int)) = false := decide_eq_false hi00
      clear hi0
      go_wp2_with fail
      refine wp_region_later_lit (by kernel_rfl) (by kernel_rfl) ?_
      repeat (any_goals (first | go_big_quiet_step ((fail)) | quiet_step ((fail)) | (refine wpQuiet_step (fun K hK => ?_); go_simp; split <;> (refine hK _ ?_; clear hK K))))
      refine wpQuiet_nil ?_
      rintro w3 ⟨⟨w3x, q3⟩, hwx⟩
      obtain rfl : w3 = w3x := hwx
      replace hq := hq.trans q3
      clear q3
      obtain ⟨wr, hwr⟩ : ∃ wr, wr = w3 := ⟨_, rfl⟩
      subst hwr
      by_cases hic : i < c
      · have hicI : (i : Int) < (c : Int) := by omega
        have hcne : ¬ c = i := by omega
        have hx := BX.q hq
        have hqw : Q w wr := Q0.trans hq
        have ho2 := ho.q hqw
        have cx := hx.cell
        have lx := hx.lt
        have hln := ho.len
        have hsz := hqw.size
        have hS : ∀ w', Q wr w' → (Q wr w' ∧ w'.cell? ⟨w.heap.size, 0, none⟩ = some (.int .i64 x0) ∧ w'.cell? ⟨w.heap.size, 1, none⟩ = some (.int .i64 x1) ∧ w'.cell? ⟨w.heap.size, 2, none⟩ = some (.int .i64 x2) ∧ w'.cell? ⟨w.heap.size, 3, none⟩ = some (.int .i64 x3) ∧ w'.cell? ⟨w.heap.size, 4, none⟩ = some (.int .i64 x4)) := fun w' q => ⟨q, (hx.q q).cell 0, (hx.q q).cell 1, (hx.q q).cell 2, (hx.q q).cell 3, (hx.q q).cell 4⟩
        go_wp2_with fail
        go_region_held3 (fun w' => Q wr w' ∧ w'.cell? ⟨w.heap.size, 0, none⟩ = some (.int .i64 x0) ∧ w'.cell? ⟨w.heap.size, 1, none⟩ = some (.int .i64 x1) ∧ w'.cell? ⟨w.heap.size, 2, none⟩ = some (.int .i64 x2) ∧ w'.cell? ⟨w.heap.size, 3, none⟩ = some (.int .i64 x3) ∧ w'.cell? ⟨w.heap.size, 4, none⟩ = some (.int .i64 x4)) (first | exact hS _ QR6 | exact hS _ (by (repeat (first | with_reducible assumption | with_reducible exact Q.refl _ | with_reducible refine Q.alloc ?_ _ | with_reducible refine Q.drewN ?_ _ | with_reducible refine Q.drew ?_ | with_reducible refine Q.setCell ?_ (by first | with_reducible exact Nat.le_refl _ | (simp only; omega) | (simp; done) | (simp; omega)) _))) | (go_split_ands; exact hS _ (by (repeat (first | with_reducible assumption | with_reducible exact Q.refl _ | with_reducible refine Q.alloc ?_ _ | with_reducible refine Q.drewN ?_ _ | with_reducible refine Q.drew ?_ | with_reducible refine Q.setCell ?_ (by first | with_reducible exact Nat.le_refl _ | (simp only; omega) | (simp; done) | (simp; omega)) _))))) (first | (refine step_appRd (B := wr.heap.size) (n := 1) (c := 1) (m := (n - i)) (d := (c - i)) (xs := [x0, x1, x2, x3, x4]) (ys := L.drop (i * 5)) elIncP rfl _ _ rfl rfl ?_ rfl ?_ ?_ ?_ ?_ ?_; exact (Own.lit wr 55 5 1 [x0, x1, x2, x3, x4] rfl (Nat.le_refl _) (by simp) (by decide)).q ((Q.refl _).drew); exact ((ho2.q (by (repeat (first | with_reducible assumption | with_reducible exact Q.refl _ | with_reducible refine Q.alloc ?_ _ | with_reducible refine Q.drewN ?_ _ | with_reducible refine Q.drew ?_ | with_reducible refine Q.setCell ?_ (by first | with_reducible exact Nat.le_refl _ | (simp only; omega) | (simp; done) | (simp; omega)) _))))).dropRd _; (simp; omega); omega; (simp); intro A6 c6 w6 hown6 hg6 hne6; have QR6 : Q wr w6 := Q.mark (((Q.refl wr).alloc _).drew) ((Own.lit wr 55 5 1 [x0, x1, x2, x3, x4] rfl (Nat.le_refl _) (by simp) (by decide)).q ((Q.refl _).drew)) (Nat.le_refl _) hg6))
        obtain ⟨g6, hA6⟩ : ∃ g6, A6 = some ⟨g6, 0, none⟩ := by
          rcases hown6.2 with ⟨h', _⟩ | ⟨g', cap, cur, h', _⟩
          · injection h' with h1 _ _
            exact absurd h1 (hne6 (by simp))
          · injection h' with h1 _ _
            exact ⟨g', h1⟩
        subst hA6
        have hq6 := hqw.trans QR6
        have ho6 := ho.q hq6
        have hrT := fun (wv : World) (q : Q w6 wv) => (ho6.q q).takeRd i
        have hlT : (L.take (i * 5)).length = i * 5 := by simp; omega
        have hl6 := hown6.len
        go_wp2_with (first | (at_builtin; refine appKs elIncP rfl _ _ rfl rfl (Own.lit w6 55 5 0 [] rfl (Nat.le_refl _) (by simp) (by decide)) rfl (hrT _ (by (repeat (first | assumption | exact Q.refl _ | refine Q.alloc ?_ _ | refine Q.drewN ?_ _ | refine Q.drew ?_)))) hlT (by omega) (by simp) ?_; intro A7 c7 w7 hown7 hg7 hgr7; simp only [Nat.zero_add, List.nil_append] at hown7; have Q7 : Q w6 w7 := Q.mark (Q.alloc (Q.refl w6) _) (Own.lit w6 55 5 0 [] rfl (Nat.le_refl _) (by simp) (by decide)) (Nat.le_refl _) hg7; have hown67 := hown6.q Q7) | (at_builtin; refine appKs elIncP rfl _ _ rfl rfl hown7 rfl (fun j hj => by rw [Nat.zero_add]; exact hown67.cell (by omega)) hl6 (by omega) Q7.size ?_; intro A8 c8 w8 hown8 hg8 hgr8))
        obtain ⟨g8, hA8⟩ : ∃ g8, A8 = some ⟨g8, 0, none⟩ := by
          rcases hown8.2 with ⟨h', _⟩ | ⟨g', cap, cur, h', _⟩
          · injection h' with h1 h2 h3
            exfalso
            omega
          · injection h' with h1 _ _
            exact ⟨g', h1⟩
        subst hA8
        have hcnt : i + (1 + (n - i)) = n + 1 := by omega
        rw [hcnt] at hown8
        have hLL : putL x0 x1 x2 x3 x4 L n = L.take (i * 5) ++ ([x0, x1, x2, x3, x4] ++ L.drop (i * 5)) := by
          unfold putL
          rw [hPn]
        have hq8 : Q w w8 := hq6.trans (Q.mark Q7 hown7 (Nat.le_refl _) hg8)
        rw [← hLL] at hown8
        simp only [hcnt]
        go_ret
        exact ⟨g8, c8, rfl, hown8.mono hq6.size, hq8⟩
      · have hce : c = i := by omega
        have hni : i * 5 = L.length := by have := ho.len; omega
        have hicI : ¬ (i : Int) < (c : Int) := by omega
        have hx := BX.q hq
        have hqw : Q w wr := Q0.trans hq
        have ho2 := ho.q hqw
        have cx := hx.cell
        have lx := hx.lt
        have hln := ho.len
        have hsz := hqw.size
        have hS : ∀ w', Q wr w' → (Q wr w' ∧ w'.cell? ⟨w.heap.size, 0, none⟩ = some (.int .i64 x0) ∧ w'.cell? ⟨w.heap.size, 1, none⟩ = some (.int .i64 x1) ∧ w'.cell? ⟨w.heap.size, 2, none⟩ = some (.int .i64 x2) ∧ w'.cell? ⟨w.heap.size, 3, none⟩ = some (.int .i64 x3) ∧ w'.cell? ⟨w.heap.size, 4, none⟩ = some (.int .i64 x4)) := fun w' q => ⟨q, (hx.q q).cell 0, (hx.q q).cell 1, (hx.q q).cell 2, (hx.q q).cell 3, (hx.q q).cell 4⟩
        go_wp2_with fail
        go_region_held3 (fun w' => Q wr w' ∧ w'.cell? ⟨w.heap.size, 0, none⟩ = some (.int .i64 x0) ∧ w'.cell? ⟨w.heap.size, 1, none⟩ = some (.int .i64 x1) ∧ w'.cell? ⟨w.heap.size, 2, none⟩ = some (.int .i64 x2) ∧ w'.cell? ⟨w.heap.size, 3, none⟩ = some (.int .i64 x3) ∧ w'.cell? ⟨w.heap.size, 4, none⟩ = some (.int .i64 x4)) (first | exact hS _ QR6 | exact hS _ (by (repeat (first | with_reducible assumption | with_reducible exact Q.refl _ | with_reducible refine Q.alloc ?_ _ | with_reducible refine Q.drewN ?_ _ | with_reducible refine Q.drew ?_ | with_reducible refine Q.setCell ?_ (by first | with_reducible exact Nat.le_refl _ | (simp only; omega) | (simp; done) | (simp; omega)) _))) | (go_split_ands; exact hS _ (by (repeat (first | with_reducible assumption | with_reducible exact Q.refl _ | with_reducible refine Q.alloc ?_ _ | with_reducible refine Q.drewN ?_ _ | with_reducible refine Q.drew ?_ | with_reducible refine Q.setCell ?_ (by first | with_reducible exact Nat.le_refl _ | (simp only; omega) | (simp; done) | (simp; omega)) _))))) (first | (refine step_appRd (B := wr.heap.size) (n := 1) (c := 1) (m := (n - i)) (d := 0) (xs := [x0, x1, x2, x3, x4]) (ys := L.drop (i * 5)) elIncP rfl _ _ rfl rfl ?_ rfl ?_ ?_ ?_ ?_ ?_; exact (Own.lit wr 55 5 1 [x0, x1, x2, x3, x4] rfl (Nat.le_refl _) (by simp) (by decide)).q ((Q.refl _).drew); exact fun j hj => absurd hj (by simp; omega); (simp; omega); omega; (simp); intro A6 c6 w6 hown6 hg6 hne6; have QR6 : Q wr w6 := Q.mark (((Q.refl wr).alloc _).drew) ((Own.lit wr 55 5 1 [x0, x1, x2, x3, x4] rfl (Nat.le_refl _) (by simp) (by decide)).q ((Q.refl _).drew)) (Nat.le_refl _) hg6))
        obtain ⟨g6, hA6⟩ : ∃ g6, A6 = some ⟨g6, 0, none⟩ := by
          rcases hown6.2 with ⟨h', _⟩ | ⟨g', cap, cur, h', _⟩
          · injection h' with h1 _ _
            exact absurd h1 (hne6 (by simp))
          · injection h' with h1 _ _
            exact ⟨g', h1⟩
        subst hA6
        have hq6 := hqw.trans QR6
        have ho6 := ho.q hq6
        have hrT := fun (wv : World) (q : Q w6 wv) => (ho6.q q).takeRd i
        have hlT : (L.take (i * 5)).length = i * 5 := by simp; omega
        have hl6 := hown6.len
        go_wp2_with (first | (at_builtin; refine appKs elIncP rfl _ _ rfl rfl (Own.lit w6 55 5 0 [] rfl (Nat.le_refl _) (by simp) (by decide)) rfl (hrT _ (by (repeat (first | assumption | exact Q.refl _ | refine Q.alloc ?_ _ | refine Q.drewN ?_ _ | refine Q.drew ?_)))) hlT (by omega) (by simp) ?_; intro A7 c7 w7 hown7 hg7 hgr7; simp only [Nat.zero_add, List.nil_append] at hown7; have Q7 : Q w6 w7 := Q.mark (Q.alloc (Q.refl w6) _) (Own.lit w6 55 5 0 [] rfl (Nat.le_refl _) (by simp) (by decide)) (Nat.le_refl _) hg7; have hown67 := hown6.q Q7) | (at_builtin; refine appKs elIncP rfl _ _ rfl rfl hown7 rfl (fun j hj => by rw [Nat.zero_add]; exact hown67.cell (by omega)) hl6 (by omega) Q7.size ?_; intro A8 c8 w8 hown8 hg8 hgr8))
        obtain ⟨g8, hA8⟩ : ∃ g8, A8 = some ⟨g8, 0, none⟩ := by
          rcases hown8.2 with ⟨h', _⟩ | ⟨g', cap, cur, h', _⟩
          · injection h' with h1 h2 h3
            exfalso
            omega
          · injection h' with h1 _ _
            exact ⟨g', h1⟩
        subst hA8
        have hcnt : i + (1 + (n - i)) = n + 1 := by omega
        rw [hcnt] at hown8
        have hLL : putL x0 x1 x2 x3 x4 L n = L.take (i * 5) ++ ([x0, x1, x2, x3, x4] ++ L.drop (i * 5)) := by
          unfold putL
          rw [hPn]
        have hq8 : Q w w8 := hq6.trans (Q.mark Q7 hown7 (Nat.le_refl _) hg8)
        rw [← hLL] at hown8
        simp only [hcnt]
        go_ret
        exact ⟨g8, c8, rfl, hown8.mono hq6.size, hq8⟩
    · obtain ⟨d, rfl⟩ : ∃ d, i = d + 1 := ⟨i - 1, by omega⟩
      have hdn : d < n := by omega
      have hd0 : (0 : Int) < (d : Int) + 1 := by omega
      have hdI : (d : Int) < (n : Int) := by omega
      have hdw : IntKind.i64.wrap (d : Int) = (d : Int) := by rw [IntKind.wrap_i64]; omega
      have ho2 := ho.q (Q0.trans hq)
      have y0 := ho2.cell (j := d * 5) (by omega)
      have y1 := ho2.cell (j := d * 5 + 1) (by omega)
      have y2 := ho2.cell (j := d * 5 + 2) (by omega)
      have y3 := ho2.cell (j := d * 5 + 3) (by omega)
      have y4 := ho2.cell (j := d * 5 + 4) (by omega)
      have HB := Lib.hid (show putP x0 x1 x2 L d = befB x0 x1 x2 (L.getD (d * 5) 0) (L.getD (d * 5 + 1) 0) (L.getD (d * 5 + 2) 0) from rfl)
      have HA := Lib.hid (show putA (putP x0 x1 x2 L) (d + 1) = if putP x0 x1 x2 L d = true then putA (putP x0 x1 x2 L) d else d + 1 from rfl)
      have KB := fun wv => spec_Before x0 x1 x2 x3 x4 (L.getD (d * 5) 0) (L.getD (d * 5 + 1) 0) (L.getD (d * 5 + 2) 0) (L.getD (d * 5 + 3) 0) (L.getD (d * 5 + 4) 0) wv
      rw [← HB.out] at KB
      generalize putP x0 x1 x2 L d = P at *
      generalize L.getD (d * 5) 0 = Y0 at *
      generalize L.getD (d * 5 + 1) 0 = Y1 at *
      generalize L.getD (d * 5 + 2) 0 = Y2 at *
      generalize L.getD (d * 5 + 3) 0 = Y3 at *
      generalize L.getD (d * 5 + 4) 0 = Y4 at *
      have KC := Lib.hid KB
      have d0 := later_cell y0
      have d1 := later_cell y1
      have d2 := later_cell y2
      have d3 := later_cell y3
      have d4 := later_cell y4
      have dx := later_cells (BX.q hq).cell (BX.q hq).lt
      clear KB ho2 HB
      cases P
      · go_wp2_with fail
        refine wp_region_later_lit (by kernel_rfl) (by kernel_rfl) ?_
        repeat (any_goals (first | go_big_quiet_step ((go_at_call 74; with_reducible exact later_call (KC.out _))) | quiet_step ((go_at_call 74; with_reducible exact later_call (KC.out _))) | (refine wpQuiet_step (fun K hK => ?_); go_simp; split <;> (refine hK _ ?_; clear hK K))))
        refine wpQuiet_nil ?_
        rintro w3 ⟨⟨w3x, q3⟩, hwx⟩
        obtain rfl : w3 = w3x := hwx
        clear d0 d1 d2 d3 d4 dx
        replace hq := hq.trans q3
        clear q3
        generalize hdd : d + 1 = i at *
        obtain ⟨wr, hwr⟩ : ∃ wr, wr = w3 := ⟨_, rfl⟩
        subst hwr
        have hPn : putA (putP x0 x1 x2 L) n = i := by rw [← HP.out, HA.out, if_neg (by decide)]
        have hin : (i : Int) ≤ (n : Int) := by omega
        have hic2 : (i : Int) ≤ (c : Int) := by omega
        by_cases hic : i < c
        · have hicI : (i : Int) < (c : Int) := by omega
          have hcne : ¬ c = i := by omega
          have hx := BX.q hq
          have hqw : Q w wr := Q0.trans hq
          have ho2 := ho.q hqw
          have cx := hx.cell
          have lx := hx.lt
          have hln := ho.len
          have hsz := hqw.size
          have hS : ∀ w', Q wr w' → (Q wr w' ∧ w'.cell? ⟨w.heap.size, 0, none⟩ = some (.int .i64 x0) ∧ w'.cell? ⟨w.heap.size, 1, none⟩ = some (.int .i64 x1) ∧ w'.cell? ⟨w.heap.size, 2, none⟩ = some (.int .i64 x2) ∧ w'.cell? ⟨w.heap.size, 3, none⟩ = some (.int .i64 x3) ∧ w'.cell? ⟨w.heap.size, 4, none⟩ = some (.int .i64 x4)) := fun w' q => ⟨q, (hx.q q).cell 0, (hx.q q).cell 1, (hx.q q).cell 2, (hx.q q).cell 3, (hx.q q).cell 4⟩
          go_wp2_with fail
          go_region_held3 (fun w' => Q wr w' ∧ w'.cell? ⟨w.heap.size, 0, none⟩ = some (.int .i64 x0) ∧ w'.cell? ⟨w.heap.size, 1, none⟩ = some (.int .i64 x1) ∧ w'.cell? ⟨w.heap.size, 2, none⟩ = some (.int .i64 x2) ∧ w'.cell? ⟨w.heap.size, 3, none⟩ = some (.int .i64 x3) ∧ w'.cell? ⟨w.heap.size, 4, none⟩ = some (.int .i64 x4)) (first | exact hS _ QR6 | exact hS _ (by (repeat (first | with_reducible assumption | with_reducible exact Q.refl _ | with_reducible refine Q.alloc ?_ _ | with_reducible refine Q.drewN ?_ _ | with_reducible refine Q.drew ?_ | with_reducible refine Q.setCell ?_ (by first | with_reducible exact Nat.le_refl _ | (simp only; omega) | (simp; done) | (simp; omega)) _))) | (go_split_ands; exact hS _ (by (repeat (first | with_reducible assumption | with_reducible exact Q.refl _ | with_reducible refine Q.alloc ?_ _ | with_reducible refine Q.drewN ?_ _ | with_reducible refine Q.drew ?_ | with_reducible refine Q.setCell ?_ (by first | with_reducible exact Nat.le_refl _ | (simp only; omega) | (simp; done) | (simp; omega)) _))))) (first | (refine step_appRd (B := wr.heap.size) (n := 1) (c := 1) (m := (n - i)) (d := (c - i)) (xs := [x0, x1, x2, x3, x4]) (ys := L.drop (i * 5)) elIncP rfl _ _ rfl rfl ?_ rfl ?_ ?_ ?_ ?_ ?_; exact (Own.lit wr 55 5 1 [x0, x1, x2, x3, x4] rfl (Nat.le_refl _) (by simp) (by decide)).q ((Q.refl _).drew); exact ((ho2.q (by (repeat (first | with_reducible assumption | with_reducible exact Q.refl _ | with_reducible refine Q.alloc ?_ _ | with_reducible refine Q.drewN ?_ _ | with_reducible refine Q.drew ?_ | with_reducible refine Q.setCell ?_ (by first | with_reducible exact Nat.le_refl _ | (simp only; omega) | (simp; done) | (simp; omega)) _))))).dropRd _; (simp; omega); omega; (simp); intro A6 c6 w6 hown6 hg6 hne6; have QR6 : Q wr w6 := Q.mark (((Q.refl wr).alloc _).drew) ((Own.lit wr 55 5 1 [x0, x1, x2, x3, x4] rfl (Nat.le_refl _) (by simp) (by decide)).q ((Q.refl _).drew)) (Nat.le_refl _) hg6))
          obtain ⟨g6, hA6⟩ : ∃ g6, A6 = some ⟨g6, 0, none⟩ := by
            rcases hown6.2 with ⟨h', _⟩ | ⟨g', cap, cur, h', _⟩
            · injection h' with h1 _ _
              exact absurd h1 (hne6 (by simp))
            · injection h' with h1 _ _
              exact ⟨g', h1⟩
          subst hA6
          have hq6 := hqw.trans QR6
          have ho6 := ho.q hq6
          have hrT := fun (wv : World) (q : Q w6 wv) => (ho6.q q).takeRd i
          have hlT : (L.take (i * 5)).length = i * 5 := by simp; omega
          have hl6 := hown6.len
          go_wp2_with (first | (at_builtin; refine appKs elIncP rfl _ _ rfl rfl (Own.lit w6 55 5 0 [] rfl (Nat.le_refl _) (by simp) (by decide)) rfl (hrT _ (by (repeat (first | assumption | exact Q.refl _ | refine Q.alloc ?_ _ | refine Q.drewN ?_ _ | refine Q.drew ?_)))) hlT (by omega) (by simp) ?_; intro A7 c7 w7 hown7 hg7 hgr7; simp only [Nat.zero_add, List.nil_append] at hown7; have Q7 : Q w6 w7 := Q.mark (Q.alloc (Q.refl w6) _) (Own.lit w6 55 5 0 [] rfl (Nat.le_refl _) (by simp) (by decide)) (Nat.le_refl _) hg7; have hown67 := hown6.q Q7) | (at_builtin; refine appKs elIncP rfl _ _ rfl rfl hown7 rfl (fun j hj => by rw [Nat.zero_add]; exact hown67.cell (by omega)) hl6 (by omega) Q7.size ?_; intro A8 c8 w8 hown8 hg8 hgr8))
          obtain ⟨g8, hA8⟩ : ∃ g8, A8 = some ⟨g8, 0, none⟩ := by
            rcases hown8.2 with ⟨h', _⟩ | ⟨g', cap, cur, h', _⟩
            · injection h' with h1 h2 h3
              exfalso
              omega
            · injection h' with h1 _ _
              exact ⟨g', h1⟩
          subst hA8
          have hcnt : i + (1 + (n - i)) = n + 1 := by omega
          rw [hcnt] at hown8
          have hLL : putL x0 x1 x2 x3 x4 L n = L.take (i * 5) ++ ([x0, x1, x2, x3, x4] ++ L.drop (i * 5)) := by
            unfold putL
            rw [hPn]
          have hq8 : Q w w8 := hq6.trans (Q.mark Q7 hown7 (Nat.le_refl _) hg8)
          rw [← hLL] at hown8
          simp only [hcnt]
          go_ret
          exact ⟨g8, c8, rfl, hown8.mono hq6.size, hq8⟩
        · have hce : c = i := by omega
          have hni : i * 5 = L.length := by have := ho.len; omega
          have hicI : ¬ (i : Int) < (c : Int) := by omega
          have hx := BX.q hq
          have hqw : Q w wr := Q0.trans hq
          have ho2 := ho.q hqw
          have cx := hx.cell
          have lx := hx.lt
          have hln := ho.len
          have hsz := hqw.size
          have hS : ∀ w', Q wr w' → (Q wr w' ∧ w'.cell? ⟨w.heap.size, 0, none⟩ = some (.int .i64 x0) ∧ w'.cell? ⟨w.heap.size, 1, none⟩ = some (.int .i64 x1) ∧ w'.cell? ⟨w.heap.size, 2, none⟩ = some (.int .i64 x2) ∧ w'.cell? ⟨w.heap.size, 3, none⟩ = some (.int .i64 x3) ∧ w'.cell? ⟨w.heap.size, 4, none⟩ = some (.int .i64 x4)) := fun w' q => ⟨q, (hx.q q).cell 0, (hx.q q).cell 1, (hx.q q).cell 2, (hx.q q).cell 3, (hx.q q).cell 4⟩
          go_wp2_with fail
          go_region_held3 (fun w' => Q wr w' ∧ w'.cell? ⟨w.heap.size, 0, none⟩ = some (.int .i64 x0) ∧ w'.cell? ⟨w.heap.size, 1, none⟩ = some (.int .i64 x1) ∧ w'.cell? ⟨w.heap.size, 2, none⟩ = some (.int .i64 x2) ∧ w'.cell? ⟨w.heap.size, 3, none⟩ = some (.int .i64 x3) ∧ w'.cell? ⟨w.heap.size, 4, none⟩ = some (.int .i64 x4)) (first | exact hS _ QR6 | exact hS _ (by (repeat (first | with_reducible assumption | with_reducible exact Q.refl _ | with_reducible refine Q.alloc ?_ _ | with_reducible refine Q.drewN ?_ _ | with_reducible refine Q.drew ?_ | with_reducible refine Q.setCell ?_ (by first | with_reducible exact Nat.le_refl _ | (simp only; omega) | (simp; done) | (simp; omega)) _))) | (go_split_ands; exact hS _ (by (repeat (first | with_reducible assumption | with_reducible exact Q.refl _ | with_reducible refine Q.alloc ?_ _ | with_reducible refine Q.drewN ?_ _ | with_reducible refine Q.drew ?_ | with_reducible refine Q.setCell ?_ (by first | with_reducible exact Nat.le_refl _ | (simp only; omega) | (simp; done) | (simp; omega)) _))))) (first | (refine step_appRd (B := wr.heap.size) (n := 1) (c := 1) (m := (n - i)) (d := 0) (xs := [x0, x1, x2, x3, x4]) (ys := L.drop (i * 5)) elIncP rfl _ _ rfl rfl ?_ rfl ?_ ?_ ?_ ?_ ?_; exact (Own.lit wr 55 5 1 [x0, x1, x2, x3, x4] rfl (Nat.le_refl _) (by simp) (by decide)).q ((Q.refl _).drew); exact fun j hj => absurd hj (by simp; omega); (simp; omega); omega; (simp); intro A6 c6 w6 hown6 hg6 hne6; have QR6 : Q wr w6 := Q.mark (((Q.refl wr).alloc _).drew) ((Own.lit wr 55 5 1 [x0, x1, x2, x3, x4] rfl (Nat.le_refl _) (by simp) (by decide)).q ((Q.refl _).drew)) (Nat.le_refl _) hg6))
          obtain ⟨g6, hA6⟩ : ∃ g6, A6 = some ⟨g6, 0, none⟩ := by
            rcases hown6.2 with ⟨h', _⟩ | ⟨g', cap, cur, h', _⟩
            · injection h' with h1 _ _
              exact absurd h1 (hne6 (by simp))
            · injection h' with h1 _ _
              exact ⟨g', h1⟩
          subst hA6
          have hq6 := hqw.trans QR6
          have ho6 := ho.q hq6
          have hrT := fun (wv : World) (q : Q w6 wv) => (ho6.q q).takeRd i
          have hlT : (L.take (i * 5)).length = i * 5 := by simp; omega
          have hl6 := hown6.len
          go_wp2_with (first | (at_builtin; refine appKs elIncP rfl _ _ rfl rfl (Own.lit w6 55 5 0 [] rfl (Nat.le_refl _) (by simp) (by decide)) rfl (hrT _ (by (repeat (first | assumption | exact Q.refl _ | refine Q.alloc ?_ _ | refine Q.drewN ?_ _ | refine Q.drew ?_)))) hlT (by omega) (by simp) ?_; intro A7 c7 w7 hown7 hg7 hgr7; simp only [Nat.zero_add, List.nil_append] at hown7; have Q7 : Q w6 w7 := Q.mark (Q.alloc (Q.refl w6) _) (Own.lit w6 55 5 0 [] rfl (Nat.le_refl _) (by simp) (by decide)) (Nat.le_refl _) hg7; have hown67 := hown6.q Q7) | (at_builtin; refine appKs elIncP rfl _ _ rfl rfl hown7 rfl (fun j hj => by rw [Nat.zero_add]; exact hown67.cell (by omega)) hl6 (by omega) Q7.size ?_; intro A8 c8 w8 hown8 hg8 hgr8))
          obtain ⟨g8, hA8⟩ : ∃ g8, A8 = some ⟨g8, 0, none⟩ := by
            rcases hown8.2 with ⟨h', _⟩ | ⟨g', cap, cur, h', _⟩
            · injection h' with h1 h2 h3
              exfalso
              omega
            · injection h' with h1 _ _
              exact ⟨g', h1⟩
          subst hA8
          have hcnt : i + (1 + (n - i)) = n + 1 := by omega
          rw [hcnt] at hown8
          have hLL : putL x0 x1 x2 x3 x4 L n = L.take (i * 5) ++ ([x0, x1, x2, x3, x4] ++ L.drop (i * 5)) := by
            unfold putL
            rw [hPn]
          have hq8 : Q w w8 := hq6.trans (Q.mark Q7 hown7 (Nat.le_refl _) hg8)
          rw [← hLL] at hown8
          simp only [hcnt]
          go_ret
          exact ⟨g8, c8, rfl, hown8.mono hq6.size, hq8⟩
      · go_wp2_with fail
        refine wp_region_later_lit (by kernel_rfl) (by kernel_rfl) ?_
        repeat (any_goals (first | go_big_quiet_step ((go_at_call 74; with_reducible exact later_call (KC.out _))) | quiet_step ((go_at_call 74; with_reducible exact later_call (KC.out _))) | (refine wpQuiet_step (fun K hK => ?_); go_simp; split <;> (refine hK _ ?_; clear hK K))))
        refine wpQuiet_nil ?_
        rintro w3 ⟨⟨w3x, q3⟩, hwx⟩
        obtain rfl : w3 = w3x := hwx
        clear d0 d1 d2 d3 d4 dx
        go_wp2_with fail
        go_roundw
        case rel => exact ⟨d, by omega, by go_num, Lib.hid (by have h1 := HA.out; rw [if_pos (by trivial)] at h1; rw [← HP.out, h1]), hq.trans q3⟩
        case measure => simp [intOf]
end Go.Proofs.YtkpdoikjfibflaaGreat
