/-
  DERIVED. GIVEN WITH THE SEED: THE CARDS: each row of YtomgdgdcpgeilaaGreatDoorRows.lean that lists a variable, with what it lists TIED to the program's text (the seventh form; the later family's looks); each row that meets fmt, with fmt's text TOLD by the authors' own Lean function (tested against real Go, not proved from fmt's source: count such statements apart). THE CARD IS WHAT COUNTS. Prove the row's statement (the work); the ties are given (YtomgdgdcpgeilaaGreatDoorTie.lean); close each card by the builder's one call (the guide's Derived/Test/ToyasCard.lean, 'card_holds'). Laid BY PROGRAM, IN A SANDBOX (cutbox-door.mjs). By AI agents, Wed Nov 11 2026. No macro, syntax, notation, axiom, sorry.
-/
import Derived.Test.YtomgdgdcpgeilaaGreatDoorRows
import GoSem.ClaimSeven
namespace Go.Proofs.YtomgdgdcpgeilaaGreatDoor
namespace Rows

/-- THE TIED CARD OF 'laws.FnExactFinishOf'. -/
def fnExactFinishOfCard : Claim7 := { stood := { row := fnExactFinishOfRow, standIns := [], harness := (true, "d33ec35e5a671b27d514b4e69e14f690d767a1f9d1496a4c271765972e5d0b80"), looks := false }, kinds := [], alts := [], laidByText := true, laidKinds := [.data, .pinned], laidTests := true, laidLooks := .later }
def FnExactFinishOfCardSaid : Prop := Claim7.holds Tryz.pinned (.plain (OpenSpec.ofChange fnExactFinishOfSpec)) fnExactFinishOfCard

/-- THE TIED CARD OF 'laws.FnFinishes'. -/
def fnFinishesCard : Claim7 := { stood := { row := fnFinishesRow, standIns := [], harness := (true, "d33ec35e5a671b27d514b4e69e14f690d767a1f9d1496a4c271765972e5d0b80"), looks := false }, kinds := [], alts := [], laidByText := true, laidKinds := [.data, .pinned], laidTests := true, laidLooks := .later }
def FnFinishesCardSaid : Prop := Claim7.holds Tryz.pinned (.plain (OpenSpec.ofChange fnFinishesSpec)) fnFinishesCard

/-- THE TIED CARD OF 'laws.FnExactFinishesOf'. -/
def fnExactFinishesOfCard : Claim7 := { stood := { row := fnExactFinishesOfRow, standIns := [], harness := (true, "d33ec35e5a671b27d514b4e69e14f690d767a1f9d1496a4c271765972e5d0b80"), looks := false }, kinds := [], alts := [], laidByText := true, laidKinds := [.data, .pinned], laidTests := true, laidLooks := .later }
def FnExactFinishesOfCardSaid : Prop := Claim7.holds Tryz.pinned (.plain (OpenSpec.ofChange fnExactFinishesOfSpec)) fnExactFinishesOfCard

/-- THE TIED CARD OF 'laws.FnFinishLists'. -/
def fnFinishListsCard : Claim7 := { stood := { row := fnFinishListsRow, standIns := [], harness := (true, "d33ec35e5a671b27d514b4e69e14f690d767a1f9d1496a4c271765972e5d0b80"), looks := false }, kinds := [], alts := [], laidByText := true, laidKinds := [.data, .pinned], laidTests := true, laidLooks := .later }
def FnFinishListsCardSaid : Prop := Claim7.holds Tryz.pinned (.plain (OpenSpec.ofChange fnFinishListsSpec)) fnFinishListsCard

/-- THE SECOND FORM's CARD OF 'laws.FnExactFinishOf'. -/
def fnExactFinishOfUptoCard : Claim7 := { stood := { row := fnExactFinishOfUptoRow, standIns := [], harness := (true, "d33ec35e5a671b27d514b4e69e14f690d767a1f9d1496a4c271765972e5d0b80"), looks := false }, kinds := [], alts := [], laidByText := true, laidKinds := [.data, .pinned], laidTests := true, laidLooks := .later }
def FnExactFinishOfUptoCardSaid : Prop := Claim7.holds Tryz.pinned (.plain (OpenSpec.upto fnExactFinishOfSpec)) fnExactFinishOfUptoCard

/-- THE SECOND FORM's CARD OF 'laws.FnFinishes'. -/
def fnFinishesUptoCard : Claim7 := { stood := { row := fnFinishesUptoRow, standIns := [], harness := (true, "d33ec35e5a671b27d514b4e69e14f690d767a1f9d1496a4c271765972e5d0b80"), looks := false }, kinds := [], alts := [], laidByText := true, laidKinds := [.data, .pinned], laidTests := true, laidLooks := .later }
def FnFinishesUptoCardSaid : Prop := Claim7.holds Tryz.pinned (.plain (OpenSpec.upto fnFinishesSpec)) fnFinishesUptoCard

/-- THE SECOND FORM's CARD OF 'laws.FnExactFinishesOf'. -/
def fnExactFinishesOfUptoCard : Claim7 := { stood := { row := fnExactFinishesOfUptoRow, standIns := [], harness := (true, "d33ec35e5a671b27d514b4e69e14f690d767a1f9d1496a4c271765972e5d0b80"), looks := false }, kinds := [], alts := [], laidByText := true, laidKinds := [.data, .pinned], laidTests := true, laidLooks := .later }
def FnExactFinishesOfUptoCardSaid : Prop := Claim7.holds Tryz.pinned (.plain (OpenSpec.upto fnExactFinishesOfSpec)) fnExactFinishesOfUptoCard

/-- THE SECOND FORM's CARD OF 'laws.FnFinishLists'. -/
def fnFinishListsUptoCard : Claim7 := { stood := { row := fnFinishListsUptoRow, standIns := [], harness := (true, "d33ec35e5a671b27d514b4e69e14f690d767a1f9d1496a4c271765972e5d0b80"), looks := false }, kinds := [], alts := [], laidByText := true, laidKinds := [.data, .pinned], laidTests := true, laidLooks := .later }
def FnFinishListsUptoCardSaid : Prop := Claim7.holds Tryz.pinned (.plain (OpenSpec.upto fnFinishListsSpec)) fnFinishListsUptoCard
end Rows
end Go.Proofs.YtomgdgdcpgeilaaGreatDoor
