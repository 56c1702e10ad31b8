/-
  DERIVED. GIVEN WITH THE SEED: THE CARDS: each row of YtgdjgjkijcmkfaaDoorRows.lean that lists a variable, with what it lists TIED to the program's text (the seventh form; the later family's looks); each row that meets fmt, with fmt's text TOLD by the authors' own Lean function (tested against real Go, not proved from fmt's source: count such statements apart). THE CARD IS WHAT COUNTS. Prove the row's statement (the work); the ties are given (YtgdjgjkijcmkfaaDoorTie.lean); close each card by the builder's one call (the guide's Derived/Test/ToyasCard.lean, 'card_holds'). Laid BY PROGRAM, IN A SANDBOX (cutbox-door.mjs). By AI agents, Wed Nov 11 2026. No macro, syntax, notation, axiom, sorry.
-/
import Derived.Test.YtgdjgjkijcmkfaaDoorRows
import GoSem.ClaimSeven
namespace Go.Proofs.YtgdjgjkijcmkfaaDoor
namespace Rows

/-- THE TIED CARD OF 'laws.FnExactSignalsText'. -/
def fnExactSignalsTextCard : Claim7 := { stood := { row := fnExactSignalsTextRow, standIns := [], harness := (true, "f24e95ebdd1905840f4e896da93a1ccdc74786774bc5a0d854e496408582e781"), looks := true }, kinds := [], alts := [], laidByText := true, laidKinds := [.data, .data, .data], laidTests := true, laidLooks := .later }
def FnExactSignalsTextCardSaid : Prop := Claim7.holds Tryd.pinned (.plain (OpenSpec.ofChange fnExactSignalsTextSpec)) fnExactSignalsTextCard

/-- THE TIED CARD OF 'laws.FnExactLimitsText'. -/
def fnExactLimitsTextCard : Claim7 := { stood := { row := fnExactLimitsTextRow, standIns := [], harness := (true, "f24e95ebdd1905840f4e896da93a1ccdc74786774bc5a0d854e496408582e781"), looks := true }, kinds := [], alts := [], laidByText := true, laidKinds := [.data, .data, .data], laidTests := true, laidLooks := .later }
def FnExactLimitsTextCardSaid : Prop := Claim7.holds Tryd.pinned (.plain (OpenSpec.ofChange fnExactLimitsTextSpec)) fnExactLimitsTextCard

/-- THE TIED CARD OF 'laws.FnExactIncidentText'. -/
def fnExactIncidentTextCard : Claim7 := { stood := { row := fnExactIncidentTextRow, standIns := [], harness := (true, "f24e95ebdd1905840f4e896da93a1ccdc74786774bc5a0d854e496408582e781"), looks := true }, kinds := [], alts := [], laidByText := true, laidKinds := [.data, .data, .data], laidTests := true, laidLooks := .later }
def FnExactIncidentTextCardSaid : Prop := Claim7.holds Tryd.pinned (.plain (OpenSpec.ofChange fnExactIncidentTextSpec)) fnExactIncidentTextCard

/-- THE TIED CARD OF 'laws.FnExactFinishText'. -/
def fnExactFinishTextCard : Claim7 := { stood := { row := fnExactFinishTextRow, standIns := [], harness := (true, "f24e95ebdd1905840f4e896da93a1ccdc74786774bc5a0d854e496408582e781"), looks := true }, kinds := [], alts := [], laidByText := true, laidKinds := [.data, .data, .data], laidTests := true, laidLooks := .later }
def FnExactFinishTextCardSaid : Prop := Claim7.holds Tryd.pinned (.plain (OpenSpec.ofChange fnExactFinishTextSpec)) fnExactFinishTextCard

/-- THE TIED CARD OF 'laws.FnExactReadSignals'. -/
def fnExactReadSignalsCard : Claim7 := { stood := { row := fnExactReadSignalsRow, standIns := [], harness := (true, "f24e95ebdd1905840f4e896da93a1ccdc74786774bc5a0d854e496408582e781"), looks := true }, kinds := [], alts := [], laidByText := true, laidKinds := [.data, .data, .data, .data, .sentinel, .sentinel, .pinned], laidTests := true, laidLooks := .later }
def FnExactReadSignalsCardSaid : Prop := Claim7.holds Tryd.pinned (.plain (OpenSpec.ofChange fnExactReadSignalsSpec)) fnExactReadSignalsCard

/-- THE TIED CARD OF 'laws.FnSignalsText'. -/
def fnSignalsTextCard : Claim7 := { stood := { row := fnSignalsTextRow, standIns := [], harness := (true, "f24e95ebdd1905840f4e896da93a1ccdc74786774bc5a0d854e496408582e781"), looks := true }, kinds := [], alts := [], laidByText := true, laidKinds := [.data, .data, .data, .data, .sentinel, .sentinel, .pinned], laidTests := true, laidLooks := .later }
def FnSignalsTextCardSaid : Prop := Claim7.holds Tryd.pinned (.plain (OpenSpec.ofChange fnSignalsTextSpec)) fnSignalsTextCard

/-- THE TIED CARD OF 'laws.FnLimitsText'. -/
def fnLimitsTextCard : Claim7 := { stood := { row := fnLimitsTextRow, standIns := [], harness := (true, "f24e95ebdd1905840f4e896da93a1ccdc74786774bc5a0d854e496408582e781"), looks := true }, kinds := [], alts := [], laidByText := true, laidKinds := [.data, .data, .data, .data, .sentinel, .sentinel, .pinned], laidTests := true, laidLooks := .later }
def FnLimitsTextCardSaid : Prop := Claim7.holds Tryd.pinned (.plain (OpenSpec.ofChange fnLimitsTextSpec)) fnLimitsTextCard

/-- THE TIED CARD OF 'laws.FnIncidentText'. -/
def fnIncidentTextCard : Claim7 := { stood := { row := fnIncidentTextRow, standIns := [], harness := (true, "f24e95ebdd1905840f4e896da93a1ccdc74786774bc5a0d854e496408582e781"), looks := true }, kinds := [], alts := [], laidByText := true, laidKinds := [.data, .data, .data, .data, .sentinel, .sentinel, .pinned], laidTests := true, laidLooks := .later }
def FnIncidentTextCardSaid : Prop := Claim7.holds Tryd.pinned (.plain (OpenSpec.ofChange fnIncidentTextSpec)) fnIncidentTextCard

/-- THE TIED CARD OF 'laws.FnFinishText'. -/
def fnFinishTextCard : Claim7 := { stood := { row := fnFinishTextRow, standIns := [], harness := (true, "f24e95ebdd1905840f4e896da93a1ccdc74786774bc5a0d854e496408582e781"), looks := true }, kinds := [], alts := [], laidByText := true, laidKinds := [.data, .data, .data, .data, .sentinel, .sentinel, .pinned], laidTests := true, laidLooks := .later }
def FnFinishTextCardSaid : Prop := Claim7.holds Tryd.pinned (.plain (OpenSpec.ofChange fnFinishTextSpec)) fnFinishTextCard

/-- THE TIED CARD OF 'laws.FnExactReadLimits'. -/
def fnExactReadLimitsCard : Claim7 := { stood := { row := fnExactReadLimitsRow, standIns := [], harness := (true, "f24e95ebdd1905840f4e896da93a1ccdc74786774bc5a0d854e496408582e781"), looks := true }, kinds := [], alts := [], laidByText := true, laidKinds := [.data, .data, .data, .data, .sentinel, .sentinel, .pinned], laidTests := true, laidLooks := .later }
def FnExactReadLimitsCardSaid : Prop := Claim7.holds Tryd.pinned (.plain (OpenSpec.ofChange fnExactReadLimitsSpec)) fnExactReadLimitsCard

/-- THE TIED CARD OF 'laws.FnExactReadIncident'. -/
def fnExactReadIncidentCard : Claim7 := { stood := { row := fnExactReadIncidentRow, standIns := [], harness := (true, "f24e95ebdd1905840f4e896da93a1ccdc74786774bc5a0d854e496408582e781"), looks := true }, kinds := [], alts := [], laidByText := true, laidKinds := [.data, .data, .data, .data, .sentinel, .sentinel, .pinned], laidTests := true, laidLooks := .later }
def FnExactReadIncidentCardSaid : Prop := Claim7.holds Tryd.pinned (.plain (OpenSpec.ofChange fnExactReadIncidentSpec)) fnExactReadIncidentCard

/-- THE TIED CARD OF 'laws.FnExactReadFinish'. -/
def fnExactReadFinishCard : Claim7 := { stood := { row := fnExactReadFinishRow, standIns := [], harness := (true, "f24e95ebdd1905840f4e896da93a1ccdc74786774bc5a0d854e496408582e781"), looks := true }, kinds := [], alts := [], laidByText := true, laidKinds := [.data, .data, .data, .data, .sentinel, .sentinel, .pinned], laidTests := true, laidLooks := .later }
def FnExactReadFinishCardSaid : Prop := Claim7.holds Tryd.pinned (.plain (OpenSpec.ofChange fnExactReadFinishSpec)) fnExactReadFinishCard

/-- THE SECOND FORM's CARD OF 'laws.FnExactSignalsText'. -/
def fnExactSignalsTextUptoCard : Claim7 := { stood := { row := fnExactSignalsTextUptoRow, standIns := [], harness := (true, "f24e95ebdd1905840f4e896da93a1ccdc74786774bc5a0d854e496408582e781"), looks := true }, kinds := [], alts := [], laidByText := true, laidKinds := [.data, .data, .data], laidTests := true, laidLooks := .later }
def FnExactSignalsTextUptoCardSaid : Prop := Claim7.holds Tryd.pinned (.plain (OpenSpec.upto fnExactSignalsTextSpec)) fnExactSignalsTextUptoCard

/-- THE SECOND FORM's CARD OF 'laws.FnExactLimitsText'. -/
def fnExactLimitsTextUptoCard : Claim7 := { stood := { row := fnExactLimitsTextUptoRow, standIns := [], harness := (true, "f24e95ebdd1905840f4e896da93a1ccdc74786774bc5a0d854e496408582e781"), looks := true }, kinds := [], alts := [], laidByText := true, laidKinds := [.data, .data, .data], laidTests := true, laidLooks := .later }
def FnExactLimitsTextUptoCardSaid : Prop := Claim7.holds Tryd.pinned (.plain (OpenSpec.upto fnExactLimitsTextSpec)) fnExactLimitsTextUptoCard

/-- THE SECOND FORM's CARD OF 'laws.FnExactIncidentText'. -/
def fnExactIncidentTextUptoCard : Claim7 := { stood := { row := fnExactIncidentTextUptoRow, standIns := [], harness := (true, "f24e95ebdd1905840f4e896da93a1ccdc74786774bc5a0d854e496408582e781"), looks := true }, kinds := [], alts := [], laidByText := true, laidKinds := [.data, .data, .data], laidTests := true, laidLooks := .later }
def FnExactIncidentTextUptoCardSaid : Prop := Claim7.holds Tryd.pinned (.plain (OpenSpec.upto fnExactIncidentTextSpec)) fnExactIncidentTextUptoCard

/-- THE SECOND FORM's CARD OF 'laws.FnExactFinishText'. -/
def fnExactFinishTextUptoCard : Claim7 := { stood := { row := fnExactFinishTextUptoRow, standIns := [], harness := (true, "f24e95ebdd1905840f4e896da93a1ccdc74786774bc5a0d854e496408582e781"), looks := true }, kinds := [], alts := [], laidByText := true, laidKinds := [.data, .data, .data], laidTests := true, laidLooks := .later }
def FnExactFinishTextUptoCardSaid : Prop := Claim7.holds Tryd.pinned (.plain (OpenSpec.upto fnExactFinishTextSpec)) fnExactFinishTextUptoCard

/-- THE SECOND FORM's CARD OF 'laws.FnExactReadSignals'. -/
def fnExactReadSignalsUptoCard : Claim7 := { stood := { row := fnExactReadSignalsUptoRow, standIns := [], harness := (true, "f24e95ebdd1905840f4e896da93a1ccdc74786774bc5a0d854e496408582e781"), looks := true }, kinds := [], alts := [], laidByText := true, laidKinds := [.data, .data, .data, .data, .sentinel, .sentinel, .pinned], laidTests := true, laidLooks := .later }
def FnExactReadSignalsUptoCardSaid : Prop := Claim7.holds Tryd.pinned (.plain (OpenSpec.upto fnExactReadSignalsSpec)) fnExactReadSignalsUptoCard

/-- THE SECOND FORM's CARD OF 'laws.FnSignalsText'. -/
def fnSignalsTextUptoCard : Claim7 := { stood := { row := fnSignalsTextUptoRow, standIns := [], harness := (true, "f24e95ebdd1905840f4e896da93a1ccdc74786774bc5a0d854e496408582e781"), looks := true }, kinds := [], alts := [], laidByText := true, laidKinds := [.data, .data, .data, .data, .sentinel, .sentinel, .pinned], laidTests := true, laidLooks := .later }
def FnSignalsTextUptoCardSaid : Prop := Claim7.holds Tryd.pinned (.plain (OpenSpec.upto fnSignalsTextSpec)) fnSignalsTextUptoCard

/-- THE SECOND FORM's CARD OF 'laws.FnLimitsText'. -/
def fnLimitsTextUptoCard : Claim7 := { stood := { row := fnLimitsTextUptoRow, standIns := [], harness := (true, "f24e95ebdd1905840f4e896da93a1ccdc74786774bc5a0d854e496408582e781"), looks := true }, kinds := [], alts := [], laidByText := true, laidKinds := [.data, .data, .data, .data, .sentinel, .sentinel, .pinned], laidTests := true, laidLooks := .later }
def FnLimitsTextUptoCardSaid : Prop := Claim7.holds Tryd.pinned (.plain (OpenSpec.upto fnLimitsTextSpec)) fnLimitsTextUptoCard

/-- THE SECOND FORM's CARD OF 'laws.FnIncidentText'. -/
def fnIncidentTextUptoCard : Claim7 := { stood := { row := fnIncidentTextUptoRow, standIns := [], harness := (true, "f24e95ebdd1905840f4e896da93a1ccdc74786774bc5a0d854e496408582e781"), looks := true }, kinds := [], alts := [], laidByText := true, laidKinds := [.data, .data, .data, .data, .sentinel, .sentinel, .pinned], laidTests := true, laidLooks := .later }
def FnIncidentTextUptoCardSaid : Prop := Claim7.holds Tryd.pinned (.plain (OpenSpec.upto fnIncidentTextSpec)) fnIncidentTextUptoCard

/-- THE SECOND FORM's CARD OF 'laws.FnFinishText'. -/
def fnFinishTextUptoCard : Claim7 := { stood := { row := fnFinishTextUptoRow, standIns := [], harness := (true, "f24e95ebdd1905840f4e896da93a1ccdc74786774bc5a0d854e496408582e781"), looks := true }, kinds := [], alts := [], laidByText := true, laidKinds := [.data, .data, .data, .data, .sentinel, .sentinel, .pinned], laidTests := true, laidLooks := .later }
def FnFinishTextUptoCardSaid : Prop := Claim7.holds Tryd.pinned (.plain (OpenSpec.upto fnFinishTextSpec)) fnFinishTextUptoCard

/-- THE SECOND FORM's CARD OF 'laws.FnExactReadLimits'. -/
def fnExactReadLimitsUptoCard : Claim7 := { stood := { row := fnExactReadLimitsUptoRow, standIns := [], harness := (true, "f24e95ebdd1905840f4e896da93a1ccdc74786774bc5a0d854e496408582e781"), looks := true }, kinds := [], alts := [], laidByText := true, laidKinds := [.data, .data, .data, .data, .sentinel, .sentinel, .pinned], laidTests := true, laidLooks := .later }
def FnExactReadLimitsUptoCardSaid : Prop := Claim7.holds Tryd.pinned (.plain (OpenSpec.upto fnExactReadLimitsSpec)) fnExactReadLimitsUptoCard

/-- THE SECOND FORM's CARD OF 'laws.FnExactReadIncident'. -/
def fnExactReadIncidentUptoCard : Claim7 := { stood := { row := fnExactReadIncidentUptoRow, standIns := [], harness := (true, "f24e95ebdd1905840f4e896da93a1ccdc74786774bc5a0d854e496408582e781"), looks := true }, kinds := [], alts := [], laidByText := true, laidKinds := [.data, .data, .data, .data, .sentinel, .sentinel, .pinned], laidTests := true, laidLooks := .later }
def FnExactReadIncidentUptoCardSaid : Prop := Claim7.holds Tryd.pinned (.plain (OpenSpec.upto fnExactReadIncidentSpec)) fnExactReadIncidentUptoCard

/-- THE SECOND FORM's CARD OF 'laws.FnExactReadFinish'. -/
def fnExactReadFinishUptoCard : Claim7 := { stood := { row := fnExactReadFinishUptoRow, standIns := [], harness := (true, "f24e95ebdd1905840f4e896da93a1ccdc74786774bc5a0d854e496408582e781"), looks := true }, kinds := [], alts := [], laidByText := true, laidKinds := [.data, .data, .data, .data, .sentinel, .sentinel, .pinned], laidTests := true, laidLooks := .later }
def FnExactReadFinishUptoCardSaid : Prop := Claim7.holds Tryd.pinned (.plain (OpenSpec.upto fnExactReadFinishSpec)) fnExactReadFinishUptoCard
end Rows
end Go.Proofs.YtgdjgjkijcmkfaaDoor
