/- Walks: courses and their marks in the laws (marked), for all arguments. No condition. -/
import Derived.Test.YtomgdgdcpgeilaaGreatDoorMkR
namespace Go.Proofs.YtomgdgdcpgeilaaGreatDoor
open Go.RowKit Go.WideShapes Go.ChangeShapes
theorem one_byteM (w : World) (x : Int) (h0 : 0 ≤ x) (h1 : x ≤ 255) : ∃ s : ByteArray, s.size = 1 ∧ (convert 53 9 (.slice (some ⟨w.heap.size, 0, none⟩) 1 1)).run Tryz.prog (w.alloc (.cells #[.int .u8 x] 5)) = .ok (.string s) (w.alloc (.cells #[.int .u8 x] 5)) := by
  obtain ⟨b, hb⟩ : ∃ b : UInt8, x = (b.toNat : Int) := ⟨UInt8.ofNat x.toNat, by rw [UInt8.toNat_ofNat']; omega⟩
  subst hb
  refine ⟨_, ?_, run_convert_bytes_back (P := Tryz.prog) _ 53 9 5 ⟨w.heap.size, 0, none⟩ 1 [b] Tryz.underlying53 Tryz.underlying5 Tryz.underlying9 (fun j hj => by
    have hj : j < 1 := hj
    obtain rfl : j = 0 := by omega
    simp [Addr.add])⟩
  rfl
set_option maxRecDepth 100000 in
set_option maxHeartbeats 1000000 in
theorem markText_any (q : Int) (w : World) (hq0 : 0 ≤ q) (hq : q ≤ 100000000) : Calls Tryz.prog 89 #[.int .i64 q] w fun e w' => (∃ s : ByteArray, e = .returned (.string s)) ∧ Q w w' := by
  by_cases h0 : q ≤ 0
  · go_enter Tryz.func89, Tryz.ntmps89
    go_wp2_with fail
    go_ret
    exact ⟨⟨_, rfl⟩, Q.refl _⟩
  · go_enter Tryz.func89, Tryz.ntmps89
    go_wp2_with fail
    go_loopw [0, 3] (fun i v wr => ∃ (s : ByteArray) (m : Int), v = .string s ∧ i = .int .i64 m ∧ 0 ≤ m ∧ (s.size : Int) + m ≤ q ∧ Q w wr) (fun i _ _ => (intOf i).toNat)
    case atStart => exact ⟨⟨#[]⟩, q, rfl, rfl, hq0, by show ((0 : Nat) : Int) + q ≤ q; omega, Q.refl _⟩
    case round =>
      obtain ⟨s, m, rfl, rfl, hm, hs, hqw⟩ := hrel
      by_cases hlt : 0 < m
      · have hdiv : m / 10 < m := by omega
        have hdiv0 : 0 ≤ m / 10 := by omega
        obtain ⟨s1, hs1, hcv⟩ := one_byteM wr (48 + m % 10) (by omega) (by omega)
        go_wp2_with fail
        go_roundw
        case rel => exact ⟨s1 ++ s, m / 10, rfl, rfl, hdiv0, by rw [ByteArray.size_append, hs1]; omega, hqw.trans (by (repeat (first | assumption | exact Q.refl _ | refine Q.alloc ?_ _ | refine Q.drewN ?_ _ | refine Q.drew ?_)))⟩
        case measure => simp [intOf]; omega
      · have : m = 0 := by omega
        subst this
        go_wp2_with fail
        go_ret
        exact ⟨⟨_, rfl⟩, hqw⟩
theorem GrD.q {B U : Nat} {a w w' : World} (h : GrD B U a w) (hq : Q w w') : GrD B U a w' :=
  ⟨hq.os.trans h.os, hq.tape.trans h.tape, hq.output.trans h.output, Nat.le_trans h.size hq.size, fun i hi hB => (hq.block i (Nat.lt_of_lt_of_le hi h.size)).trans (h.block i hi hB)⟩
theorem GrD.set {B U g : Nat} {a w : World} (h : GrD B U a w) (h1 : B ≤ g) (h2 : g < U) (j : Nat) (u : Value) : GrD B U a (w.setCell ⟨g, j, none⟩ u) :=
  h.grown (grown_set (grown_refl w (some g)) j u) (fun k hk => by injection hk with hk; subst hk; exact ⟨h1, h2⟩)
theorem Blk.some {w : World} {g : Nat} {T : TypeId} {cs : Array Value} (h : Blk w g T cs) {i : Nat} (hi : i < cs.size) : ∃ u, w.cell? ⟨g, i, none⟩ = some u := ⟨cs[i], by rw [h.cell, Array.getElem?_eq_getElem hi]⟩
set_option maxRecDepth 100000 in
set_option maxHeartbeats 2000000 in
theorem markMarkS_any (A : Option Addr) (n B U : Nat) (ms : List Mk) (q : Int) (w : World) (ho : OwM w B U A n ms) (hq0 : 0 ≤ q) (hn : q + n * 5 ≤ 100000000) :
    Calls Tryz.prog 52 #[.slice A n n, .int .i64 q] w fun e w' => e = .returned (.int .i64 (q + n * 5)) ∧ GrD B U w w' := by
  obtain ⟨g, vs, rfl, hB, hU, hb, hvs, _⟩ := ho
  have KT := Lib.hid (fun (x : Int) wv (h0 : 0 ≤ x) (h1 : x ≤ 100000000) => markText_any x wv h0 h1)
  go_enter Tryz.func52, Tryz.ntmps52
  go_wp2_with fail
  go_loopw [1, 5] (fun v i wr => ∃ (k : Nat) (q1 : Int) (vs' : Array Value), k ≤ n ∧ i = .int .i64 k ∧ v = .int .i64 q1 ∧ Hid (q1 = q + k * 5) ∧ 0 ≤ q1 ∧ Blk wr g 120 vs' ∧ vs'.size = n * 5 ∧ GrD B U w wr) (fun _ i _ => n - (intOf i).toNat)
  case atStart => exact ⟨0, q, vs, Nat.zero_le _, rfl, rfl, Lib.hid (by simp), hq0, hb, hvs, GrD.refl _ _ _⟩
  case round =>
    clear hb hvs
    obtain ⟨k, q1, vs', hk, rfl, rfl, HQ, hq1, hb, hvs, hg⟩ := hrel
    by_cases hlt : k < n
    · have hltI : (k : Int) < (n : Int) := by omega
      have hkI0 : (0 : Int) ≤ (k : Int) := by omega
      have hqb : q1 + 5 ≤ 100000000 := by have := HQ.out; omega
      go_wp2_with fail
      refine (KT.out _ _ hq1 (by omega)).mono ?_
      rintro e1 w1 ⟨⟨s, rfl⟩, q9⟩
      have hb1 := hb.q q9
      have hg1 := hg.q q9
      obtain ⟨u0, d0⟩ := hb1.some (show k * 5 < vs'.size by omega)
      obtain ⟨u1, d1⟩ := hb1.some (show k * 5 + 1 < vs'.size by omega)
      obtain ⟨u2, d2⟩ := hb1.some (show k * 5 + 2 < vs'.size by omega)
      obtain ⟨u3, d3⟩ := hb1.some (show k * 5 + 3 < vs'.size by omega)
      obtain ⟨u4, d4⟩ := hb1.some (show k * 5 + 4 < vs'.size by omega)
      have fz := hb1.frozen
      have lz := hb1.lt
      have v1 : IntKind.i64.wrap (q1 + 1) = q1 + 1 := by rw [IntKind.wrap_i64]; omega
      have v2 : IntKind.i64.wrap (q1 + 1 + 1) = q1 + 1 + 1 := by rw [IntKind.wrap_i64]; omega
      have v3 : IntKind.i64.wrap (q1 + 1 + 1 + 1) = q1 + 1 + 1 + 1 := by rw [IntKind.wrap_i64]; omega
      have v4 : IntKind.i64.wrap (q1 + 1 + 1 + 1 + 1) = q1 + 1 + 1 + 1 + 1 := by rw [IntKind.wrap_i64]; omega
      have v5 : IntKind.i64.wrap (q1 + 1 + 1 + 1 + 1 + 1) = q1 + 1 + 1 + 1 + 1 + 1 := by rw [IntKind.wrap_i64]; omega
      go_wp2_with fail
      go_roundw
      case rel => exact ⟨k + 1, _, _, by omega, by go_num, rfl, Lib.hid (by have := HQ.out; omega), by omega, ((((hb1.set_ (k * 5) _).set_ (k * 5 + 1) _).set_ (k * 5 + 2) _).set_ (k * 5 + 3) _).set_ (k * 5 + 4) _, by simp [hvs], ((((hg1.set hB hU _ _).set hB hU _ _).set hB hU _ _).set hB hU _ _).set hB hU _ _⟩
      case measure => simp [intOf]; omega
    · obtain rfl : k = n := by omega
      go_wp2_with fail
      go_ret
      exact ⟨ret_int (by have := HQ.out; omega), hg⟩
set_option maxHeartbeats 1000000 in
theorem markCourse_any (a b c d p q r s : Int) (A : Option Addr) (n B U : Nat) (ms : List Mk) (x : Int) (w : World) (ho : OwM w B U A n ms) (_hU : U ≤ w.heap.size) (hq0 : 0 ≤ x) (hn : x + n * 5 ≤ 100000000) :
    Calls Tryz.prog 26 #[.agg #[.int .i64 a, .int .i64 b, .int .i64 c, .int .i64 d, .int .i64 p, .int .i64 q, .int .i64 r, .int .i64 s, .slice A n n], .int .i64 x] w fun e w' => e = .returned (.int .i64 (x + n * 5)) ∧ GrD B U w w' := by
  have QA : Q w (w.alloc (.cells #[.int .i64 a, .int .i64 b, .int .i64 c, .int .i64 d, .int .i64 p, .int .i64 q, .int .i64 r, .int .i64 s, .slice A n n] 43)) := by (repeat (first | assumption | exact Q.refl _ | refine Q.alloc ?_ _ | refine Q.drewN ?_ _ | refine Q.drew ?_))
  have K := Lib.hid (fun wv (h : OwM wv B U A n ms) => markMarkS_any A n B U ms x wv h hq0 hn)
  go_enter Tryz.func26, Tryz.ntmps26
  go_wp2_with fail
  refine (K.out _ (ho.q QA)).mono ?_
  rintro e1 w1 ⟨rfl, g1⟩
  go_wp2_with fail
  go_ret
  exact ⟨rfl, ⟨g1.os, g1.tape, g1.output, Nat.le_trans QA.size g1.size, fun i hi hB => (g1.block i (Nat.lt_of_lt_of_le hi QA.size) hB).trans (QA.block i hi)⟩⟩
end Go.Proofs.YtomgdgdcpgeilaaGreatDoor
