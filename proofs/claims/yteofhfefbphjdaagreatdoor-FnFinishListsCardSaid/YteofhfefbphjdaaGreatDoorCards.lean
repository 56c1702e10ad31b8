/-
  DERIVED. GIVEN WITH THE SEED: THE CARDS: each row of YteofhfefbphjdaaGreatDoorRows.lean that lists a variable, with what it lists TIED to the program's text (the seventh form; the later family's looks); each row that meets fmt, with fmt's text TOLD by the authors' own Lean function (tested against real Go, not proved from fmt's source: count such statements apart). THE CARD IS WHAT COUNTS. Prove the row's statement (the work); the ties are given (YteofhfefbphjdaaGreatDoorTie.lean); close each card by the builder's one call (the guide's Derived/Test/ToyasCard.lean, 'card_holds'). Laid BY PROGRAM, IN A SANDBOX (cutbox-door.mjs). By AI agents, Wed Nov 11 2026. No macro, syntax, notation, axiom, sorry.
-/
import Derived.Test.YteofhfefbphjdaaGreatDoorRows
import GoSem.ClaimSeven
namespace Go.Proofs.YteofhfefbphjdaaGreatDoor
namespace Rows

/-- THE TIED CARD OF 'laws.FnFinishLists'. -/
def fnFinishListsCard : Claim7 := { stood := { row := fnFinishListsRow, standIns := [], harness := (true, "68ffe1a4b981d22002d260ccb9fd8a9bacb859178c83eab06affe1885fca21bd"), looks := false }, kinds := [], alts := [], laidByText := true, laidKinds := [.data, .pinned], laidTests := true, laidLooks := .later }
def FnFinishListsCardSaid : Prop := Claim7.holds Tryz.pinned (.plain (OpenSpec.ofChange fnFinishListsSpec)) fnFinishListsCard

/-- THE TIED CARD OF 'laws.FnFinishes'. -/
def fnFinishesCard : Claim7 := { stood := { row := fnFinishesRow, standIns := [], harness := (true, "68ffe1a4b981d22002d260ccb9fd8a9bacb859178c83eab06affe1885fca21bd"), looks := false }, kinds := [], alts := [], laidByText := true, laidKinds := [.data, .pinned], laidTests := true, laidLooks := .later }
def FnFinishesCardSaid : Prop := Claim7.holds Tryz.pinned (.plain (OpenSpec.ofChange fnFinishesSpec)) fnFinishesCard

/-- THE SECOND FORM's CARD OF 'laws.FnFinishLists'. -/
def fnFinishListsUptoCard : Claim7 := { stood := { row := fnFinishListsUptoRow, standIns := [], harness := (true, "68ffe1a4b981d22002d260ccb9fd8a9bacb859178c83eab06affe1885fca21bd"), looks := false }, kinds := [], alts := [], laidByText := true, laidKinds := [.data, .pinned], laidTests := true, laidLooks := .later }
def FnFinishListsUptoCardSaid : Prop := Claim7.holds Tryz.pinned (.plain (OpenSpec.upto fnFinishListsSpec)) fnFinishListsUptoCard

/-- THE SECOND FORM's CARD OF 'laws.FnFinishes'. -/
def fnFinishesUptoCard : Claim7 := { stood := { row := fnFinishesUptoRow, standIns := [], harness := (true, "68ffe1a4b981d22002d260ccb9fd8a9bacb859178c83eab06affe1885fca21bd"), looks := false }, kinds := [], alts := [], laidByText := true, laidKinds := [.data, .pinned], laidTests := true, laidLooks := .later }
def FnFinishesUptoCardSaid : Prop := Claim7.holds Tryz.pinned (.plain (OpenSpec.upto fnFinishesSpec)) fnFinishesUptoCard
end Rows
end Go.Proofs.YteofhfefbphjdaaGreatDoor
