/- Walks: the start of a track, as the reference finds it. -/
import Derived.Test.YtlmaecmjpbgegaaStF
import Derived.Test.YtlmaecmjpbgegaaStT
namespace Go.Proofs.Ytlmaecmjpbgegaa
open Go.RowKit Go.WideShapes Go.ChangeShapes
theorem spec_Start (a b c d : Int) (A : Option Addr) (n cc : Nat) (xs : List Int) (t fl : Int) (w : World) (ha : Rd w A xs) (hn : xs.length = n * 3) (hT : isTrk xs n = true) (hl : lnB a b c d = true) (ht : 0 ≤ t ∧ t ≤ 1000000000) :
    Calls Try.prog 73 #[.agg #[.int .i64 a, .int .i64 b, .int .i64 c, .int .i64 d], .agg #[.slice A n cc], .int .i64 t, .int .i64 fl] w fun e w' => e = .returned (stVal (stA a b c d xs n t fl)) ∧ Q w w' := by
  cases h : hsI a b c d xs n t
  · exact spec_StartF a b c d A n cc xs t fl w h ha hn hT hl ht
  · exact spec_StartT a b c d A n cc xs t fl w h ha hn hT hl ht
end Go.Proofs.Ytlmaecmjpbgegaa
