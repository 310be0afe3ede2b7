/-
  DERIVED. GIVEN WITH THE SEED: THE CARDS: each row of YtmjagnimdbbbnaaDoorRows.lean that lists a variable, with what it lists TIED to the program's text (the seventh form; the later family's looks); each row that meets fmt, with fmt's text TOLD by the authors' own Lean function (tested against real Go, not proved from fmt's source: count such statements apart). THE CARD IS WHAT COUNTS. Prove the row's statement (the work); the ties are given (YtmjagnimdbbbnaaDoorTie.lean); close each card by the builder's one call (the guide's Derived/Test/ToyasCard.lean, 'card_holds'). Laid BY PROGRAM, IN A SANDBOX (cutbox-door.mjs). By AI agents, Wed Nov 11 2026. No macro, syntax, notation, axiom, sorry.
-/
import Derived.Test.YtmjagnimdbbbnaaDoorRows
import GoSem.ClaimSeven
namespace Go.Proofs.YtmjagnimdbbbnaaDoor
namespace Rows

/-- THE TIED CARD OF 'weirlaw01.FaultTells'. -/
def faultTellsCard : Claim7 := { stood := { row := faultTellsRow, standIns := [], harness := (true, "341d0a0f8bb6928fda277f2d91eb9edbbed0115dab364e84dbc7a04bd69b75cd"), looks := true }, kinds := [], alts := [], laidByText := true, laidKinds := [.data, .data, .data, .handle], laidTests := true, laidLooks := .later }
def FaultTellsCardSaid : Prop := Claim7.holds Tryd.pinned (.plain (OpenSpec.ofChange faultTellsSpec)) faultTellsCard

/-- THE TIED CARD OF 'weirlaw01.FaultPrints'. -/
def faultPrintsCard : Claim7 := { stood := { row := faultPrintsRow, standIns := [], harness := (true, "341d0a0f8bb6928fda277f2d91eb9edbbed0115dab364e84dbc7a04bd69b75cd"), looks := true }, kinds := [], alts := [], laidByText := true, laidKinds := [.data, .data, .data, .handle], laidTests := true, laidLooks := .later }
def FaultPrintsCardSaid : Prop := Claim7.holds Tryd.pinned (.plain (OpenSpec.ofChange faultPrintsSpec)) faultPrintsCard

/-- THE TIED CARD OF 'weirlaw01.FaultMakes'. -/
def faultMakesCard : Claim7 := { stood := { row := faultMakesRow, standIns := [], harness := (true, "341d0a0f8bb6928fda277f2d91eb9edbbed0115dab364e84dbc7a04bd69b75cd"), looks := true }, kinds := [], alts := [], laidByText := true, laidKinds := [.data, .data, .data, .handle], laidTests := true, laidLooks := .later }
def FaultMakesCardSaid : Prop := Claim7.holds Tryd.pinned (.plain (OpenSpec.ofChange faultMakesSpec)) faultMakesCard

/-- THE TIED CARD OF 'weirlaw01.FaultNames'. -/
def faultNamesCard : Claim7 := { stood := { row := faultNamesRow, standIns := [], harness := (true, "341d0a0f8bb6928fda277f2d91eb9edbbed0115dab364e84dbc7a04bd69b75cd"), looks := true }, kinds := [], alts := [], laidByText := true, laidKinds := [.data, .data, .data, .handle, .sentinel, .sentinel], laidTests := true, laidLooks := .later }
def FaultNamesCardSaid : Prop := Claim7.holds Tryd.pinned (.plain (OpenSpec.ofChange faultNamesSpec)) faultNamesCard

/-- THE TIED CARD OF 'weirlaw01.FaultFinds'. -/
def faultFindsCard : Claim7 := { stood := { row := faultFindsRow, standIns := [], harness := (true, "341d0a0f8bb6928fda277f2d91eb9edbbed0115dab364e84dbc7a04bd69b75cd"), looks := true }, kinds := [], alts := [], laidByText := true, laidKinds := [.data, .data, .data, .handle, .sentinel, .sentinel], laidTests := true, laidLooks := .later }
def FaultFindsCardSaid : Prop := Claim7.holds Tryd.pinned (.plain (OpenSpec.ofChange faultFindsSpec)) faultFindsCard

/-- THE TIED CARD OF 'weirlaw01.FaultParses'. -/
def faultParsesCard : Claim7 := { stood := { row := faultParsesRow, standIns := [], harness := (true, "341d0a0f8bb6928fda277f2d91eb9edbbed0115dab364e84dbc7a04bd69b75cd"), looks := true }, kinds := [], alts := [], laidByText := true, laidKinds := [.data, .data, .data, .handle, .sentinel, .sentinel], laidTests := true, laidLooks := .later }
def FaultParsesCardSaid : Prop := Claim7.holds Tryd.pinned (.plain (OpenSpec.ofChange faultParsesSpec)) faultParsesCard

/-- THE TIED CARD OF 'weirlaw01.FaultBack'. -/
def faultBackCard : Claim7 := { stood := { row := faultBackRow, standIns := [], harness := (true, "341d0a0f8bb6928fda277f2d91eb9edbbed0115dab364e84dbc7a04bd69b75cd"), looks := true }, kinds := [], alts := [], laidByText := true, laidKinds := [.data, .data, .data, .handle, .sentinel, .sentinel], laidTests := true, laidLooks := .later }
def FaultBackCardSaid : Prop := Claim7.holds Tryd.pinned (.plain (OpenSpec.ofChange faultBackSpec)) faultBackCard

/-- THE SECOND FORM's CARD OF 'weirlaw01.FaultTells'. -/
def faultTellsUptoCard : Claim7 := { stood := { row := faultTellsUptoRow, standIns := [], harness := (true, "341d0a0f8bb6928fda277f2d91eb9edbbed0115dab364e84dbc7a04bd69b75cd"), looks := true }, kinds := [], alts := [], laidByText := true, laidKinds := [.data, .data, .data, .handle], laidTests := true, laidLooks := .later }
def FaultTellsUptoCardSaid : Prop := Claim7.holds Tryd.pinned (.plain (OpenSpec.upto faultTellsSpec)) faultTellsUptoCard

/-- THE SECOND FORM's CARD OF 'weirlaw01.FaultPrints'. -/
def faultPrintsUptoCard : Claim7 := { stood := { row := faultPrintsUptoRow, standIns := [], harness := (true, "341d0a0f8bb6928fda277f2d91eb9edbbed0115dab364e84dbc7a04bd69b75cd"), looks := true }, kinds := [], alts := [], laidByText := true, laidKinds := [.data, .data, .data, .handle], laidTests := true, laidLooks := .later }
def FaultPrintsUptoCardSaid : Prop := Claim7.holds Tryd.pinned (.plain (OpenSpec.upto faultPrintsSpec)) faultPrintsUptoCard

/-- THE SECOND FORM's CARD OF 'weirlaw01.FaultMakes'. -/
def faultMakesUptoCard : Claim7 := { stood := { row := faultMakesUptoRow, standIns := [], harness := (true, "341d0a0f8bb6928fda277f2d91eb9edbbed0115dab364e84dbc7a04bd69b75cd"), looks := true }, kinds := [], alts := [], laidByText := true, laidKinds := [.data, .data, .data, .handle], laidTests := true, laidLooks := .later }
def FaultMakesUptoCardSaid : Prop := Claim7.holds Tryd.pinned (.plain (OpenSpec.upto faultMakesSpec)) faultMakesUptoCard

/-- THE SECOND FORM's CARD OF 'weirlaw01.FaultNames'. -/
def faultNamesUptoCard : Claim7 := { stood := { row := faultNamesUptoRow, standIns := [], harness := (true, "341d0a0f8bb6928fda277f2d91eb9edbbed0115dab364e84dbc7a04bd69b75cd"), looks := true }, kinds := [], alts := [], laidByText := true, laidKinds := [.data, .data, .data, .handle, .sentinel, .sentinel], laidTests := true, laidLooks := .later }
def FaultNamesUptoCardSaid : Prop := Claim7.holds Tryd.pinned (.plain (OpenSpec.upto faultNamesSpec)) faultNamesUptoCard

/-- THE SECOND FORM's CARD OF 'weirlaw01.FaultFinds'. -/
def faultFindsUptoCard : Claim7 := { stood := { row := faultFindsUptoRow, standIns := [], harness := (true, "341d0a0f8bb6928fda277f2d91eb9edbbed0115dab364e84dbc7a04bd69b75cd"), looks := true }, kinds := [], alts := [], laidByText := true, laidKinds := [.data, .data, .data, .handle, .sentinel, .sentinel], laidTests := true, laidLooks := .later }
def FaultFindsUptoCardSaid : Prop := Claim7.holds Tryd.pinned (.plain (OpenSpec.upto faultFindsSpec)) faultFindsUptoCard

/-- THE SECOND FORM's CARD OF 'weirlaw01.FaultParses'. -/
def faultParsesUptoCard : Claim7 := { stood := { row := faultParsesUptoRow, standIns := [], harness := (true, "341d0a0f8bb6928fda277f2d91eb9edbbed0115dab364e84dbc7a04bd69b75cd"), looks := true }, kinds := [], alts := [], laidByText := true, laidKinds := [.data, .data, .data, .handle, .sentinel, .sentinel], laidTests := true, laidLooks := .later }
def FaultParsesUptoCardSaid : Prop := Claim7.holds Tryd.pinned (.plain (OpenSpec.upto faultParsesSpec)) faultParsesUptoCard

/-- THE SECOND FORM's CARD OF 'weirlaw01.FaultBack'. -/
def faultBackUptoCard : Claim7 := { stood := { row := faultBackUptoRow, standIns := [], harness := (true, "341d0a0f8bb6928fda277f2d91eb9edbbed0115dab364e84dbc7a04bd69b75cd"), looks := true }, kinds := [], alts := [], laidByText := true, laidKinds := [.data, .data, .data, .handle, .sentinel, .sentinel], laidTests := true, laidLooks := .later }
def FaultBackUptoCardSaid : Prop := Claim7.holds Tryd.pinned (.plain (OpenSpec.upto faultBackSpec)) faultBackUptoCard
end Rows
end Go.Proofs.YtmjagnimdbbbnaaDoor
