/- Walks: the text of a list of signals, as the program writes it. Condition: the library's table (Tbl). -/
import Derived.Test.YtgdjgjkijcmkfaaDoorSgW
import Derived.Test.YtgdjgjkijcmkfaaDoorStr
import Derived.Deep.RegionHeld3
import Derived.Deep.AppendLies
namespace Go.Proofs.YtgdjgjkijcmkfaaDoor
open Go.RowKit Go.WideShapes Go.ChangeShapes Go.Deep
set_option maxRecDepth 100000 in
set_option maxHeartbeats 4000000 in
theorem impl_SignalsText (A : Option Addr) (n c : Nat) (xs : List Int) (w : World) (ha : Rd w A xs) (hn : xs.length = n * 2) (hn2 : n ≤ 9223372036854775807) (hT : Tbl w) :
    Calls Tryd.prog 18 #[.slice A n c] w fun e w' => e = .returned (.string (sgT xs n)) ∧ Q w w' := by
  have K0 := Lib.hid (impl_IsSignals A n c xs w ha hn hn2)
  cases hok : sigOk xs n
  · rw [hok] at K0
    have HE : Hid (sgT xs n = ⟨#[]⟩) := Lib.hid (by unfold sgT; rw [hok]; rfl)
    go_enter Tryd.func18, Tryd.ntmps18
    go_wp2_with fail
    refine K0.out.mono ?_
    rintro e w1 ⟨rfl, q1⟩
    go_wp2_with fail
    go_ret
    exact ⟨by rw [HE.out]; rfl, q1⟩
  · rw [hok] at K0
    have HE : Hid (sgT xs n = sgP xs n) := Lib.hid (by unfold sgT; rw [hok]; rfl)
    have HOK := Lib.hid hok
    have hn40 := sig_n hok
    have HN := Lib.hid hn
    obtain ⟨i0, hi0, hz0, hz1, hz2⟩ := info_parts infoStr
    have HJ := Lib.hid (sg_join xs n)
    have HJL := Lib.hid (sgP_le hok n (Nat.le_refl _))
    have hnI : (n : Int) ≤ 40 := by omega
    clear hok hn hn2
    go_enter Tryd.func18, Tryd.ntmps18
    go_wp2_with fail
    refine K0.out.mono ?_
    rintro e w1 ⟨rfl, q1⟩
    clear K0
    go_wp2_with fail
    go_loopw [3, 12] (fun v i wr => ∃ (k : Nat) (A1 : Option Addr) (d1 : Nat), k ≤ n ∧ i = .int .i64 (k : Nat) ∧ v = .slice A1 k d1 ∧ OwnS wr w.heap.size A1 k d1 (sgL xs k) ∧ Q w wr) (fun _ i _ => n - (intOf i).toNat)
    case atStart => exact ⟨0, _, _, by omega, rfl, rfl, OwnS.new w1 q1.size, by (repeat (first | assumption | exact Q.refl _ | refine Q.alloc ?_ _ | refine Q.drewN ?_ _ | refine Q.drew ?_))⟩
    case round =>
      obtain ⟨k, A1, d1, hk, rfl, rfl, hown, hq⟩ := hrel
      have hcap := hown.cap
      by_cases hlt : k < n
      · have hltI : (k : Int) < (n : Int) := by omega
        obtain ⟨b, o, rfl, g0, g1⟩ := (ha.q hq).at2 HN.out hlt
        obtain ⟨hk1, hk2⟩ := sig_at HOK.out hlt
        have HX : Hid (sg1 xs k = wordS (el xs (k * 2)) ++ bs [64] ++ nmS (el xs (k * 2 + 1))) := Lib.hid rfl
        generalize el xs (k * 2) = x0 at *
        generalize el xs (k * 2 + 1) = x1 at *
        have hs1 := wordS_le x0
        have hs2 := nmS_le (n := x1) (by omega)
        have K1 := Lib.hid (fun wv => impl_signalWord x0 hk1 wv)
        have K2 := Lib.hid (fun wv (h : Tbl wv) => impl_num x1 (by omega) wv h)
        have HL : Hid (sgL xs (k + 1) = sgL xs k ++ [wordS x0 ++ bs [64] ++ nmS x1]) := Lib.hid (by rw [sgL_succ, HX.out])
        clear HX
        have h64 : ({ data := #[64] } : ByteArray).size = 1 := rfl
        have hadd := fun wv => run_string_add_sum (P := Tryd.prog) (w := wv) (wordS x0) { data := #[64] } (by rw [h64]; omega)
        have hadd2 := fun wv => run_string_add_sum (P := Tryd.prog) (w := wv) (wordS x0 ++ { data := #[64] }) (nmS x1) (by rw [ByteArray.size_append, h64]; omega)
        clear h64 hs1 hs2
        generalize wordS x0 = W1 at *
        generalize nmS x1 = N1 at *
        go_upto_region 7 with (fail)
        have B0 := Blk.new wr 56 #[.int .i64 x0, .int .i64 x1]
        have Qa := hq.alloc (.cells #[.int .i64 x0, .int .i64 x1] 56)
        have hne : ∀ a, A1 = some a → a.block < wr.heap.size := fun a h => (hown.from a h).2
        have hownA := hown.q ((Q.refl wr).alloc (.cells #[.int .i64 x0, .int .i64 x1] 56))
        obtain ⟨bs0, hbs⟩ : ∃ b, b = wr.heap.size := ⟨_, rfl⟩
        rw [← hbs] at B0 hne ⊢
        generalize wr.alloc (.cells #[.int .i64 x0, .int .i64 x1] 56) = wa at *
        have c0 : wa.cell? ⟨bs0, 0, none⟩ = some (.int .i64 x0) := B0.cell 0
        have c1 : wa.cell? ⟨bs0, 1, none⟩ = some (.int .i64 x1) := B0.cell 1
        have lB := B0.lt
        have hTa := hT.q Qa
        have hza := Qa.size
        clear hbs g0 g1 hq hown B0
        have hS : ∀ w', Q wa w' → (w'.cell? ⟨bs0, 0, none⟩ = some (.int .i64 x0) ∧ w'.cell? ⟨bs0, 1, none⟩ = some (.int .i64 x1)) := fun w' q => ⟨q.cell c0, q.cell c1⟩
        go_region_held3 (fun w' => w'.cell? ⟨bs0, 0, none⟩ = some (.int .i64 x0) ∧ w'.cell? ⟨bs0, 1, none⟩ = some (.int .i64 x1)) (first | exact hS _ (by with_reducible first | assumption | exact (Q.refl _).drew | exact Q.refl _ | exact Q.alloc (by assumption) _) | exact hS4) (first | (go_at_call 55; refine (K1.out _).mono ?_; rintro e w2 ⟨rfl, q2⟩; have Q2 : Q wa w2 := Q.trans (by with_reducible first | exact (Q.refl _).drew | exact Q.refl _ | assumption) q2) | (go_at_call 56; refine Calls.mono (K2.out _ ?_) ?_; exact hTa.q (by with_reducible first | assumption | exact Q.drew (by assumption) | exact (Q.refl _).drew | exact Q.refl _); rintro e w3 ⟨rfl, q3⟩; have Q3 : Q wa w3 := Q.trans (by with_reducible first | assumption | exact Q.drew (by assumption) | exact (Q.refl _).drew | exact Q.refl _) q3; have zs3 := Q3.size) | (refine step_append_lies _ (by rfl) _ _ _ (by rfl) w.heap.size 9 i0 _ 1 16 Tryd.underlying75 hi0 hz0 hz1 hz2 rfl (by omega) (.slice A1 k d1) k ((sgL xs k).map Value.string) (by rfl) ((hownA.q Q3).q ((Q.refl _).alloc _)).2 ⟨w3.heap.size, 0, none⟩ 1 1 [.string (W1 ++ { data := #[64] } ++ N1)] (by rfl) (by rfl) (World.news_of_block (cs := #[.string (W1 ++ { data := #[64] } ++ N1)]) (t := 9) (fr := (0, 0)) (heap_alloc_new w3 _)) (by simp [Value.oneCell']) (by omega) (by unfold maxLen; omega) (by omega) (by simp; omega) (w3.heap.size + 1) (by simp) ?_; intro gg cap w4 hown4 hgrow hat hlt4; have hX : ∀ (p : Addr) v, p.block = bs0 → wa.cell? p = some v → w4.cell? p = some v := (fun p v hp hc => (hgrow.cell_far p (Nat.lt_of_lt_of_le (by rw [hp]; exact lB) (Q3.alloc _).size) (by rw [hp]; intro e; rcases A1 with _ | a1; exact absurd e (by simp [Value.ownBlock]); have h9 := hne a1 rfl; simp only [Value.ownBlock, Option.map_some, Option.some.injEq] at e; omega)).trans ((Q3.alloc _).cell hc)); have hS4 := (show w4.cell? ⟨bs0, 0, none⟩ = some (.int .i64 x0) ∧ w4.cell? ⟨bs0, 1, none⟩ = some (.int .i64 x1) from ⟨hX _ _ rfl c0, hX _ _ rfl c1⟩)))
        go_wp2_with fail
        go_roundw
        case rel => exact ⟨k + 1, _, _, by omega, by go_num, rfl, ⟨by rw [sgL_len], by rw [HL.out, List.map_append]; exact hown4⟩, (Qa.trans (Q3.alloc _)).grown hgrow (by
          intro g hg
          rcases A1 with _ | a1
          · cases hg
          · have h9 := (hownA.from a1 rfl).1
            simp only [Value.ownBlock, Option.map_some, Option.some.injEq] at hg
            omega)⟩
        case measure => simp [intOf]; omega
      · obtain rfl : k = n := by omega
        by_cases h0 : k = 0
        · subst h0
          have KJ := Tryd.strings_Join_none A1 d1 (bs [32]) wr
          go_wp2_with fail
          refine KJ.mono ?_
          rintro e w5 ⟨rfl, rfl⟩
          go_wp2_with fail
          go_ret
          exact ⟨by rw [HE.out]; rfl, hq⟩
        · obtain ⟨g, rfl, _⟩ := hown.split (by omega)
          have hlen : (Lib.join ((sgL xs k).map (·.data.toList)) (bs [32]).data.toList).length ≤ 140737488355328 := by
            have h1 := congrArg ByteArray.size HJ.out
            have h2 := HJL.out
            simp only [ByteArray.size, List.size_toArray] at h1 h2
            omega
          have KJ := Tryd.strings_Join g 0 d1 (sgL xs k) (bs [32]) wr (fun j x hx => by rw [Nat.zero_add]; exact hown.cell rfl hx) (hown.from _ rfl).2 (by rw [sgL_len]; omega) (by rw [sgL_len]; exact hown.cap) hlen
          rw [sgL_len, HJ.out] at KJ
          clear hlen
          go_wp2_with fail
          refine KJ.mono ?_
          rintro e w5 ⟨rfl, q5⟩
          go_wp2_with fail
          go_ret
          exact ⟨by rw [HE.out]; rfl, hq.trans q5⟩
end Go.Proofs.YtgdjgjkijcmkfaaDoor
