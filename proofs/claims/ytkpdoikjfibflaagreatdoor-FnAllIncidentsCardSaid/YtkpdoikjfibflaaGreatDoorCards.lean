/-
  DERIVED. GIVEN WITH THE SEED: THE CARDS: each row of YtkpdoikjfibflaaGreatDoorRows.lean that lists a variable, with what it lists TIED to the program's text (the seventh form; the later family's looks); each row that meets fmt, with fmt's text TOLD by the authors' own Lean function (tested against real Go, not proved from fmt's source: count such statements apart). THE CARD IS WHAT COUNTS. Prove the row's statement (the work); the ties are given (YtkpdoikjfibflaaGreatDoorTie.lean); close each card by the builder's one call (the guide's Derived/Test/ToyasCard.lean, 'card_holds'). Laid BY PROGRAM, IN A SANDBOX (cutbox-door.mjs). By AI agents, Wed Nov 11 2026. No macro, syntax, notation, axiom, sorry.
-/
import Derived.Test.YtkpdoikjfibflaaGreatDoorRows
import GoSem.ClaimSeven
namespace Go.Proofs.YtkpdoikjfibflaaGreatDoor
namespace Rows

/-- THE TIED CARD OF 'laws.FnAllIncidents'. -/
def fnAllIncidentsCard : Claim7 := { stood := { row := fnAllIncidentsRow, standIns := [], harness := (true, "ac5f7715a41d06a05f5191a3fdfca6b6a0aa4ccf5463d75e1269d325ea08ce96"), looks := false }, kinds := [], alts := [], laidByText := true, laidKinds := [.data, .data, .data], laidTests := true, laidLooks := .later }
def FnAllIncidentsCardSaid : Prop := Claim7.holds Tryz.pinned (.plain (OpenSpec.ofChange fnAllIncidentsSpec)) fnAllIncidentsCard

/-- THE SECOND FORM's CARD OF 'laws.FnAllIncidents'. -/
def fnAllIncidentsUptoCard : Claim7 := { stood := { row := fnAllIncidentsUptoRow, standIns := [], harness := (true, "ac5f7715a41d06a05f5191a3fdfca6b6a0aa4ccf5463d75e1269d325ea08ce96"), looks := false }, kinds := [], alts := [], laidByText := true, laidKinds := [.data, .data, .data], laidTests := true, laidLooks := .later }
def FnAllIncidentsUptoCardSaid : Prop := Claim7.holds Tryz.pinned (.plain (OpenSpec.upto fnAllIncidentsSpec)) fnAllIncidentsUptoCard
end Rows
end Go.Proofs.YtkpdoikjfibflaaGreatDoor
