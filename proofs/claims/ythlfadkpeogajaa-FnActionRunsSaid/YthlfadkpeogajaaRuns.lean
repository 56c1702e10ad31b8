/- Walks: the reference's draw for RunActions. No condition. -/
import Derived.Test.YthlfadkpeogajaaStates
import Derived.Test.YthlfadkpeogajaaRun
namespace Go.Proofs.Ythlfadkpeogajaa
open Go.RowKit Go.WideShapes Go.ChangeShapes
def DrawRA (w0 : World) (e : Ending) (w' : World) : Prop := ∃ (s : Int) (A : Option Addr) (n c : Nat) (xs : List Int), e = .returned (.tuple #[.int .i64 s, .slice A n c]) ∧ Own w' w0.heap.size 2 1 (.slice A n c) n xs ∧ n ≤ 100 ∧ Q w0 w'
def slLen : Value → Nat
  | .slice _ n _ => n
  | _ => 0
theorem OwnL.keepG {w w' : World} {B g k : Nat} {e : TypeId} {v : Value} {xs : List Int} (h : OwnL w B e k v xs) (hg : w.grownBy w' (some g)) (hB : g < B) : OwnL w' B e k v xs := by
  obtain ⟨A, n, c, rfl, ho⟩ := h
  exact ⟨A, n, c, rfl, ho.keepG hg hB⟩
theorem DrT.mark {w0 ws w w' : World} {g B k n c n2 c2 : Nat} {A A2 : Option Addr} {e : TypeId} {xs : List Int} (h : DrT w0 ws w g A n c) (ho : Own w B e k (.slice A2 n2 c2) n2 xs) (hB : ws.heap.size ≤ B) (hg : w.grownBy w' (A2.map (·.block))) : DrT w0 ws w' g A n c := by
  have hne : ∀ b, A2.map (·.block) = some b → ws.heap.size ≤ b := by
    intro b hb
    rcases A2 with _ | a
    · cases hb
    · simp only [Option.map_some, Option.some.injEq] at hb
      have := (ho.from a rfl).1
      omega
  have h0 := h.dr.hg
  have h1 := h.glt
  refine ⟨h.dr.far hg (fun b hb => by have := hne b hb; omega), ?_, h.glt⟩
  exact ⟨hg.os.trans h.gr.os, hg.tape.trans h.gr.tape, hg.output.trans h.gr.output, Nat.le_trans h.gr.size hg.size, fun i hi hn => (hg.block i (Nat.lt_of_lt_of_le hi h.gr.size) (fun e => by have := hne i e.symm; omega)).trans (h.gr.block i hi hn)⟩
set_option maxHeartbeats 8000000 in
theorem spec_DrawRunActions (A : Option Addr) (n c : Nat) (w0 : World) (ha : Rd8 w0 A n) (hn : n ≤ 140737488355327) : Calls Try.prog 32 #[.slice A n c] w0 (DrawRA w0) := by
  go_enter Try.func32, Try.ntmps32
  go_wp2_with (go_at_call 57; refine (spec_From A n c _ (ha.q (by (repeat (first | assumption | exact Q.refl _ | refine Q.alloc ?_ _ | refine Q.drewN ?_ _ | refine Q.drew ?_)))) hn).mono ?_; rintro e w ⟨rfl, D0⟩)
  obtain ⟨g, hg⟩ : ∃ g, g = w0.heap.size := ⟨_, rfl⟩
  have hg0 : w0.heap.size ≤ g := by omega
  rw [← hg] at D0 ⊢
  clear hg
  have HD := DrT.start D0
  have hlt := HD.glt
  clear D0
  refine (spec_Next (w0 := w0) (A := A) (n := n) (c := c) _ (DrT.dr (ws := w) (by ((repeat (first | exact HD | refine DrT.alloc ?_ _ | refine DrT.drewN ?_ _ | refine DrT.drew ?_ | refine DrT.set ?_ (by first | omega | (simp; omega)) _))))) hn).mono ?_
  rintro e1 w1 ⟨r1, rfl, hr1, D1, G1⟩
  have HD := DrT.step (ws := w) (by ((repeat (first | exact HD | refine DrT.alloc ?_ _ | refine DrT.drewN ?_ _ | refine DrT.drew ?_ | refine DrT.set ?_ (by first | omega | (simp; omega)) _)))) D1 G1
  have z1 := HD.size
  go_wp2_with fail
  refine (spec_Next (w0 := w0) (A := A) (n := n) (c := c) _ (DrT.dr (ws := w) (by ((repeat (first | exact HD | refine DrT.alloc ?_ _ | refine DrT.drewN ?_ _ | refine DrT.drew ?_ | refine DrT.set ?_ (by first | omega | (simp; omega)) _))))) hn).mono ?_
  rintro e2 w2 ⟨r2, rfl, hr2, D2, G2⟩
  have HD := DrT.step (ws := w) (by ((repeat (first | exact HD | refine DrT.alloc ?_ _ | refine DrT.drewN ?_ _ | refine DrT.drew ?_ | refine DrT.set ?_ (by first | omega | (simp; omega)) _)))) D2 G2
  have z2 := HD.size
  obtain ⟨S, hS⟩ : ∃ S, 1 + r1 - r2 / 23 = S := ⟨_, rfl⟩
  have O0 : OwnL (w2.alloc (.cells #[] 2)) w.heap.size 2 1 (.slice (some ⟨w2.heap.size, 0, none⟩) 0 0) [] := OwnL.new w2 _ _ z2
  go_wp2_with fail
  replace HD := HD.alloc (.cells #[] 2)
  refine (spec_Next (w0 := w0) (A := A) (n := n) (c := c) _ (DrT.dr (ws := w) (by ((repeat (first | exact HD | refine DrT.alloc ?_ _ | refine DrT.drewN ?_ _ | refine DrT.drew ?_ | refine DrT.set ?_ (by first | omega | (simp; omega)) _))))) hn).mono ?_
  rintro e3 w3 ⟨r3, rfl, hr3, D3, G3⟩
  have HD := DrT.step (ws := w) (by ((repeat (first | exact HD | refine DrT.alloc ?_ _ | refine DrT.drewN ?_ _ | refine DrT.drew ?_ | refine DrT.set ?_ (by first | omega | (simp; omega)) _)))) D3 G3
  have z3 := HD.size
  have O3 := O0.keepG G3 hlt
  clear O0
  go_wp2_with fail
  go_loopw [6, 7, 8] (fun v s i wr => ∃ (k : Nat) (s' : Int) (xs : List Int), i = .int .i64 k ∧ s = .int .i64 s' ∧ OwnL wr w.heap.size 2 1 v xs ∧ xs.length + k ≤ 8 ∧ DrT w0 w wr g A n c) (fun _ _ i _ => (intOf i).toNat)
  case atStart =>
    obtain ⟨k, hk⟩ := Int.eq_ofNat_of_zero_le hr3.1
    exact ⟨k, S, [], by rw [hk], rfl, O3, by simp; omega, HD⟩
  case round =>
    clear O3 z1 z2 z3 HD D1 G1 D2 G2 D3 G3
    obtain ⟨k, s', xs, rfl, rfl, ⟨A1, m, d1, rfl, hown⟩, hlen, HD⟩ := hrel
    have hmx := hown.len
    have hsz := HD.size
    by_cases hk0 : 0 < k
    · have hkI : (0 : Int) < (k : Int) := by omega
      have k1 := fun wv => spec_ActionsOf s' wv
      unfold RA at k1
      generalize actL s' = L at k1
      obtain ⟨N, hN⟩ : ∃ N, N = L.length := ⟨_, rfl⟩
      rw [← hN] at k1
      have K1 := Lib.hid k1
      clear k1 hN
      go_wp2_with fail
      refine (K1.out _).mono ?_
      rintro e w4 ⟨A4, c4, rfl, o4, q4⟩
      replace HD := HD.q q4
      have hown4 := hown.q q4
      have hgw : g < wr.heap.size := by omega
      clear hown
      go_wp2_with fail
      refine (spec_Next (w0 := w0) (A := A) (n := n) (c := c) _ (DrT.dr (ws := w) (by ((repeat (first | exact HD | refine DrT.alloc ?_ _ | refine DrT.drewN ?_ _ | refine DrT.drew ?_ | refine DrT.set ?_ (by first | omega | (simp; omega)) _))))) hn).mono ?_
      rintro e5 w5 ⟨r5, rfl, hr5, D5, G5⟩
      have HD := DrT.step (ws := w) (by ((repeat (first | exact HD | refine DrT.alloc ?_ _ | refine DrT.drewN ?_ _ | refine DrT.drew ?_ | refine DrT.set ?_ (by first | omega | (simp; omega)) _)))) D5 G5
      have z5 := HD.size
      have o5 := o4.keepG G5 hgw
      have hown5 := hown4.keepG G5 hlt
      clear o4 hown4
      obtain ⟨j, rfl⟩ : ∃ j, k = j + 1 := ⟨k - 1, by omega⟩
      rcases Nat.eq_zero_or_pos N with hN0 | hNp
      · subst hN0
        go_wp2_with (first | (at_builtin; refine appK elInt64 rfl _ _ rfl [r5] rfl hown5 rfl (by simp) rfl _ _ rfl (by omega) HD.size ?_; intro A' c' w' hown' hg' hgr'; replace HD := DrT.mark HD hown5 (Nat.le_refl _) hg') | (go_at_call 25; refine (spec_NextState _ _ _).mono ?_; rintro e w9 ⟨rfl, q9⟩))
        all_goals go_roundw
        case rel => exact ⟨j, _, xs ++ [r5], by go_num, rfl, ⟨_, _, _, rfl, hown'.q q9⟩, by simp; omega, HD.q q9⟩
        case measure => simp [intOf]
        case rel => exact ⟨j, _, xs ++ [r5], by go_num, rfl, ⟨_, _, _, rfl, hown'.q q9⟩, by simp; omega, HD.q q9⟩
        case measure => simp [intOf]
      · have hpI : (0 : Int) < (N : Int) := by omega
        go_wp2_with fail
        refine (spec_Next (w0 := w0) (A := A) (n := n) (c := c) _ (DrT.dr (ws := w) (by ((repeat (first | exact HD | refine DrT.alloc ?_ _ | refine DrT.drewN ?_ _ | refine DrT.drew ?_ | refine DrT.set ?_ (by first | omega | (simp; omega)) _))))) hn).mono ?_
        rintro e6 w6 ⟨r6, rfl, hr6, D6, G6⟩
        have HD := DrT.step (ws := w) (by ((repeat (first | exact HD | refine DrT.alloc ?_ _ | refine DrT.drewN ?_ _ | refine DrT.drew ?_ | refine DrT.set ?_ (by first | omega | (simp; omega)) _)))) D6 G6
        have z6 := HD.size
        have o6 := o5.keepG G6 hgw
        have hown6 := hown5.keepG G6 hlt
        clear o5 hown5
        go_upto_if 41 with (fail)
        go_cut [10] from 26 to 61 (fun v wc => ∃ a : Int, v = .int .i64 a ∧ Own wc w.heap.size 2 1 (.slice A1 m d1) m xs ∧ DrT w0 w wc g A n c)
        case first =>
          by_cases h6 : 0 < r6
          · obtain ⟨gl, rfl, hgl⟩ := o6.split hNp
            go_wp2_with ((go_at_call 59; refine (spec_Next (w0 := w0) (A := A) (n := n) (c := c) _ (DrT.dr (ws := w) (by ((repeat (first | exact HD | refine DrT.alloc ?_ _ | refine DrT.drewN ?_ _ | refine DrT.drew ?_ | refine DrT.set ?_ (by first | omega | (simp; omega)) _))))) hn).mono ?_; rintro e7 w7 ⟨r7, rfl, hr7, D7, G7⟩; have HD := DrT.step (ws := w) (by ((repeat (first | exact HD | refine DrT.alloc ?_ _ | refine DrT.drewN ?_ _ | refine DrT.drew ?_ | refine DrT.set ?_ (by first | omega | (simp; omega)) _)))) D7 G7; have z7 := HD.size); obtain ⟨mm, rfl⟩ := Int.eq_ofNat_of_zero_le hr7.1; obtain ⟨hm, hmI, hm1⟩ := pickN hr7 hNp; have o7 := (o6.q (by (repeat (first | assumption | exact Q.refl _ | refine Q.alloc ?_ _ | refine Q.drewN ?_ _ | refine Q.drew ?_)))).keepG G7 hgw; have cl := o7.cell (j := mm) hm1; have hown7 := (hown6.q (by (repeat (first | assumption | exact Q.refl _ | refine Q.alloc ?_ _ | refine Q.drewN ?_ _ | refine Q.drew ?_)))).keepG G7 hlt)
            go_meet
            exact ⟨_, rfl, hown7, HD⟩
          · go_wp2_with fail
            go_meet
            exact ⟨_, rfl, hown6, HD⟩
        case rest =>
          clear HD hown6 o6
          obtain ⟨a, rfl, hownC, HD⟩ := hcut
          go_wp2_with (first | (at_builtin; refine appK elInt64 rfl _ _ rfl [a] rfl hownC rfl (by simp) rfl _ _ rfl (by omega) HD.size ?_; intro A' c' w' hown' hg' hgr'; replace HD := DrT.mark HD hownC (Nat.le_refl _) hg') | (go_at_call 25; refine (spec_NextState _ _ _).mono ?_; rintro e w9 ⟨rfl, q9⟩))
          all_goals go_roundw
          case rel => exact ⟨j, _, xs ++ [a], by go_num, rfl, ⟨_, _, _, rfl, hown'.q q9⟩, by simp; omega, HD.q q9⟩
          case measure => simp [intOf]
          case rel => exact ⟨j, _, xs ++ [a], by go_num, rfl, ⟨_, _, _, rfl, hown'.q q9⟩, by simp; omega, HD.q q9⟩
          case measure => simp [intOf]
    · obtain rfl : k = 0 := by omega
      go_wp2_with fail
      refine (spec_Next (w0 := w0) (A := A) (n := n) (c := c) _ (DrT.dr (ws := w) (by ((repeat (first | exact HD | refine DrT.alloc ?_ _ | refine DrT.drewN ?_ _ | refine DrT.drew ?_ | refine DrT.set ?_ (by first | omega | (simp; omega)) _))))) hn).mono ?_
      rintro e8 w8 ⟨r8, rfl, hr8, D8, G8⟩
      have HD := DrT.step (ws := w) (by ((repeat (first | exact HD | refine DrT.alloc ?_ _ | refine DrT.drewN ?_ _ | refine DrT.drew ?_ | refine DrT.set ?_ (by first | omega | (simp; omega)) _)))) D8 G8
      have z8 := HD.size
      have hown8 := hown.keepG G8 hlt
      clear hown
      by_cases h8 : r8 = 0
      · subst h8
        clear hr8
        go_wp2_with fail
        go_loopw [6] (fun v wq => ∃ ys : List Int, OwnL wq w.heap.size 2 1 v ys ∧ ys.length ≤ 51 ∧ DrT w0 w wq g A n c) (fun v _ => 51 - slLen v)
        case atStart => exact ⟨xs, ⟨_, _, _, rfl, hown8⟩, by omega, HD⟩
        case round =>
          clear HD hown8 hsz
          obtain ⟨ys, ⟨A2, m2, d2, rfl, hown⟩, hlen2, HD⟩ := hrel
          have hmy := hown.len
          by_cases h51 : m2 < 51
          · have hI : (m2 : Int) < 51 := by omega
            go_wp2_with (at_builtin; refine appK elInt64 rfl _ _ rfl [6] rfl hown rfl (by simp) rfl _ _ rfl (by omega) HD.size ?_; intro A' c' w' hown' hg' hgr'; replace HD := DrT.mark HD hown (Nat.le_refl _) hg')
            go_roundw
            case rel => exact ⟨ys ++ [6], ⟨_, _, _, rfl, hown'⟩, by simp; omega, HD⟩
            case measure => simp [slLen]; omega
          · have hI : ¬ (m2 : Int) < 51 := by omega
            go_wp2_with fail
            go_ret2
            exact ⟨S, _, _, _, ys, rfl, hown.mono (by omega), by omega, HD.dr.q⟩
      · have b8 : (r8 == 0) = false := by simpa using h8
        go_wp2_with fail
        go_ret2
        exact ⟨S, _, _, _, xs, rfl, hown8.mono (by omega), by omega, HD.dr.q⟩
end Go.Proofs.Ythlfadkpeogajaa
