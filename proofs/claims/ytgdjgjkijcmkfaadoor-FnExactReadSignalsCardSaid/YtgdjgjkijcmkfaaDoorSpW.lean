/- Walks: a string split at a byte, as the reference does it. No condition. -/
import Derived.Test.YtgdjgjkijcmkfaaDoorSpl
import Derived.Test.YtgdjgjkijcmkfaaDoorStr
import Derived.Test.YtgdjgjkijcmkfaaDoorTail
namespace Go.Proofs.YtgdjgjkijcmkfaaDoor
open Go.RowKit Go.WideShapes Go.ChangeShapes Go.Deep
set_option maxRecDepth 100000 in
set_option maxHeartbeats 1000000 in
theorem spec_Split (c : UInt8) (s : ByteArray) (hs : s.size ≤ 1048576) (w : World) :
    Calls Tryd.prog 69 #[.string s, .int .u8 c.toNat] w fun e w' => ∃ A d, e = .returned (.slice A (pcs c s).length d) ∧ OwnS w' w.heap.size A (pcs c s).length d (pcs c s) ∧ Q w w' := by
  have hsI : (s.size : Int) ≤ 1048576 := by omega
  have hc0 : (0 : Int) ≤ (c.toNat : Int) := by omega
  go_enter Tryd.func69, Tryd.ntmps69
  go_wp2_with fail
  go_loopw [5, 6, 7] (fun v f i wr => ∃ (k q n : Nat) (A1 : Option Addr) (d1 : Nat) (D : List ByteArray), i = .int .i64 k ∧ f = .int .i64 q ∧ v = .slice A1 n d1 ∧ OwnS wr w.heap.size A1 n d1 D ∧ Hid (Spl c s k q D) ∧ n ≤ k ∧ k ≤ s.size + 1 ∧ q ≤ k ∧ Q w wr) (fun _ _ i _ => s.size + 1 - (intOf i).toNat)
  case atStart => exact ⟨0, 0, 0, _, _, [], rfl, rfl, rfl, OwnS.new w (Nat.le_refl _), Lib.hid (Spl.start c s), by omega, by omega, by omega, (Q.refl w).alloc _⟩
  case round =>
    obtain ⟨k, q, n, A1, d1, D, rfl, rfl, rfl, hown, HS, hn, hk, hq0, hq⟩ := hrel
    have hkI : (k : Int) ≤ (s.size : Int) + 1 := by omega
    have hqI : (q : Int) ≤ (k : Int) := by omega
    rcases Nat.lt_trichotomy k s.size with hlt | heq | hgt
    · have hltI : (k : Int) < (s.size : Int) := by omega
      have hne : ¬ (k : Int) = (s.size : Int) := by omega
      have hget : s.data.toList[k]? = some s[k] := by
        show s.data.toList[k]? = some s.data[k]
        simp
      have hne2 : ((k : Int) == (s.size : Int)) = false := by simpa using hne
      by_cases hb : s[k] = c
      · have hb2 : ((s[k].toNat : Int) == (c.toNat : Int)) = true := by rw [hb]; simp
        have HS' := Lib.hid (HS.out.hit hlt (by rw [hget, hb]))
        clear hget hb
        go_wp2_with (at_builtin; refine appS rfl _ _ rfl (s.extract q k) rfl hown rfl (by simp) _ _ rfl (by omega) hq.size ?_; intro A' c' w' hown' hg' hgr')
        go_roundw
        case rel => exact ⟨k + 1, k + 1, n + 1, _, _, _, by go_num, by go_num, rfl, hown', HS', by omega, by omega, by omega, hq.grown hg' (by
            intro b hb
            rcases A1 with _ | a1
            · cases hb
            · have := (hown.from a1 rfl).1
              simp only [Option.map_some, Option.some.injEq] at hb
              omega)⟩
        case measure => simp [intOf]; omega
      · have hb2 : ((s[k].toNat : Int) == (c.toNat : Int)) = false := by
          rw [beq_eq_false_iff_ne]
          intro h
          exact hb (UInt8.toNat_inj.1 (by omega))
        have HS' := Lib.hid (HS.out.miss hlt hget hb)
        clear hget hb
        go_wp2_with fail
        go_roundw
        case rel => exact ⟨k + 1, q, n, _, _, _, by go_num, rfl, rfl, hown, HS', by omega, by omega, by omega, hq⟩
        case measure => simp [intOf]; omega
    · subst heq
      have HS' := Lib.hid HS.out.last
      go_wp2_with (at_builtin; refine appS rfl _ _ rfl (s.extract q s.size) rfl hown rfl (by simp) _ _ rfl (by omega) hq.size ?_; intro A' c' w' hown' hg' hgr')
      go_roundw
      case rel => exact ⟨s.size + 1, s.size + 1, n + 1, _, _, _, by go_num, by go_num, rfl, hown', HS', by omega, by omega, by omega, hq.grown hg' (by
            intro b hb
            rcases A1 with _ | a1
            · cases hb
            · have := (hown.from a1 rfl).1
              simp only [Option.map_some, Option.some.injEq] at hb
              omega)⟩
      case measure => simp [intOf]
    · have hgtI : ¬ (k : Int) ≤ (s.size : Int) := by omega
      obtain rfl : k = s.size + 1 := by omega
      obtain rfl := HS.out.done
      have hL := hown.1
      go_wp2_with fail
      go_ret
      exact ⟨A1, d1, rfl, hown, hq⟩
end Go.Proofs.YtgdjgjkijcmkfaaDoor
