/-
  DERIVED. GIVEN WITH THE SEED: THE CARDS: each row of YtnodjijgeifejaaGreatDoorRows.lean that lists a variable, with what it lists TIED to the program's text (the seventh form; the later family's looks); each row that meets fmt, with fmt's text TOLD by the authors' own Lean function (tested against real Go, not proved from fmt's source: count such statements apart). THE CARD IS WHAT COUNTS. Prove the row's statement (the work); the ties are given (YtnodjijgeifejaaGreatDoorTie.lean); close each card by the builder's one call (the guide's Derived/Test/ToyasCard.lean, 'card_holds'). Laid BY PROGRAM, IN A SANDBOX (cutbox-door.mjs). By AI agents, Wed Nov 11 2026. No macro, syntax, notation, axiom, sorry.
-/
import Derived.Test.YtnodjijgeifejaaGreatDoorRows
import GoSem.ClaimSeven
namespace Go.Proofs.YtnodjijgeifejaaGreatDoor
namespace Rows

/-- THE TIED CARD OF 'weirlaw06.LinePrints'. -/
def linePrintsCard : Claim7 := { stood := { row := linePrintsRow, standIns := [], harness := (true, "8bcd9255f021ba0425ff42d41fa35c3eb081af8ebb7c85a9f5ea9ddcf9ac5e28"), looks := true }, kinds := [], alts := [], laidByText := true, laidKinds := [.data, .data, .data, .handle, .sentinel, .sentinel], laidTests := true, laidLooks := .later }
def LinePrintsCardSaid : Prop := Claim7.holds Tryz.pinned (.plain (OpenSpec.ofChange linePrintsSpec)) linePrintsCard

/-- THE TIED CARD OF 'weirlaw06.LineParses'. -/
def lineParsesCard : Claim7 := { stood := { row := lineParsesRow, standIns := [], harness := (true, "8bcd9255f021ba0425ff42d41fa35c3eb081af8ebb7c85a9f5ea9ddcf9ac5e28"), looks := true }, kinds := [], alts := [], laidByText := true, laidKinds := [.data, .data, .data, .handle, .sentinel, .sentinel], laidTests := true, laidLooks := .later }
def LineParsesCardSaid : Prop := Claim7.holds Tryz.pinned (.plain (OpenSpec.ofChange lineParsesSpec)) lineParsesCard

/-- THE TIED CARD OF 'weirlaw06.LineOwn'. -/
def lineOwnCard : Claim7 := { stood := { row := lineOwnRow, standIns := [], harness := (true, "8bcd9255f021ba0425ff42d41fa35c3eb081af8ebb7c85a9f5ea9ddcf9ac5e28"), looks := true }, kinds := [], alts := [], laidByText := true, laidKinds := [.data, .data, .data, .handle, .sentinel, .sentinel], laidTests := true, laidLooks := .later }
def LineOwnCardSaid : Prop := Claim7.holds Tryz.pinned (.plain (OpenSpec.ofChange lineOwnSpec)) lineOwnCard

/-- THE TIED CARD OF 'weirlaw06.LineBack'. -/
def lineBackCard : Claim7 := { stood := { row := lineBackRow, standIns := [], harness := (true, "8bcd9255f021ba0425ff42d41fa35c3eb081af8ebb7c85a9f5ea9ddcf9ac5e28"), looks := true }, kinds := [], alts := [], laidByText := true, laidKinds := [.data, .data, .data, .handle, .sentinel, .sentinel], laidTests := true, laidLooks := .later }
def LineBackCardSaid : Prop := Claim7.holds Tryz.pinned (.plain (OpenSpec.ofChange lineBackSpec)) lineBackCard

/-- THE SECOND FORM's CARD OF 'weirlaw06.LinePrints'. -/
def linePrintsUptoCard : Claim7 := { stood := { row := linePrintsUptoRow, standIns := [], harness := (true, "8bcd9255f021ba0425ff42d41fa35c3eb081af8ebb7c85a9f5ea9ddcf9ac5e28"), looks := true }, kinds := [], alts := [], laidByText := true, laidKinds := [.data, .data, .data, .handle, .sentinel, .sentinel], laidTests := true, laidLooks := .later }
def LinePrintsUptoCardSaid : Prop := Claim7.holds Tryz.pinned (.plain (OpenSpec.upto linePrintsSpec)) linePrintsUptoCard

/-- THE SECOND FORM's CARD OF 'weirlaw06.LineParses'. -/
def lineParsesUptoCard : Claim7 := { stood := { row := lineParsesUptoRow, standIns := [], harness := (true, "8bcd9255f021ba0425ff42d41fa35c3eb081af8ebb7c85a9f5ea9ddcf9ac5e28"), looks := true }, kinds := [], alts := [], laidByText := true, laidKinds := [.data, .data, .data, .handle, .sentinel, .sentinel], laidTests := true, laidLooks := .later }
def LineParsesUptoCardSaid : Prop := Claim7.holds Tryz.pinned (.plain (OpenSpec.upto lineParsesSpec)) lineParsesUptoCard

/-- THE SECOND FORM's CARD OF 'weirlaw06.LineOwn'. -/
def lineOwnUptoCard : Claim7 := { stood := { row := lineOwnUptoRow, standIns := [], harness := (true, "8bcd9255f021ba0425ff42d41fa35c3eb081af8ebb7c85a9f5ea9ddcf9ac5e28"), looks := true }, kinds := [], alts := [], laidByText := true, laidKinds := [.data, .data, .data, .handle, .sentinel, .sentinel], laidTests := true, laidLooks := .later }
def LineOwnUptoCardSaid : Prop := Claim7.holds Tryz.pinned (.plain (OpenSpec.upto lineOwnSpec)) lineOwnUptoCard

/-- THE SECOND FORM's CARD OF 'weirlaw06.LineBack'. -/
def lineBackUptoCard : Claim7 := { stood := { row := lineBackUptoRow, standIns := [], harness := (true, "8bcd9255f021ba0425ff42d41fa35c3eb081af8ebb7c85a9f5ea9ddcf9ac5e28"), looks := true }, kinds := [], alts := [], laidByText := true, laidKinds := [.data, .data, .data, .handle, .sentinel, .sentinel], laidTests := true, laidLooks := .later }
def LineBackUptoCardSaid : Prop := Claim7.holds Tryz.pinned (.plain (OpenSpec.upto lineBackSpec)) lineBackUptoCard
end Rows
end Go.Proofs.YtnodjijgeifejaaGreatDoor
