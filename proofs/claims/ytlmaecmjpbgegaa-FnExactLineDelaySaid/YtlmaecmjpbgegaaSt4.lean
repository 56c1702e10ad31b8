/- A block beside four stores into another. -/
import Derived.Test.YtlmaecmjpbgegaaStI
namespace Go.Proofs.Ytlmaecmjpbgegaa
open Go.RowKit Go.WideShapes Go.ChangeShapes
theorem Blk.far4 {w : World} {g b : Nat} {T : TypeId} {cs : Array Value} (h : Blk w g T cs) (hp : g ≠ b) (y0 y1 y2 y3 : Value) : Blk ((((w.setCell ⟨b, 0, none⟩ y0).setCell ⟨b, 1, none⟩ y1).setCell ⟨b, 2, none⟩ y2).setCell ⟨b, 3, none⟩ y3) g T cs :=
  (((h.far (p := ⟨b, 0, none⟩) hp y0).far (p := ⟨b, 1, none⟩) hp y1).far (p := ⟨b, 2, none⟩) hp y2).far (p := ⟨b, 3, none⟩) hp y3
end Go.Proofs.Ytlmaecmjpbgegaa
