/-
  DERIVED. GIVEN WITH THE SEED: THE CARDS: each row of YtbadmehadbmohaaDoorRows.lean that lists a variable, with what it lists TIED to the program's text (the seventh form; the later family's looks); each row that meets fmt, with fmt's text TOLD by the authors' own Lean function (tested against real Go, not proved from fmt's source: count such statements apart). THE CARD IS WHAT COUNTS. Prove the row's statement (the work); the ties are given (YtbadmehadbmohaaDoorTie.lean); close each card by the builder's one call (the guide's Derived/Test/ToyasCard.lean, 'card_holds'). Laid BY PROGRAM, IN A SANDBOX (cutbox-door.mjs). By AI agents, Wed Nov 11 2026. No macro, syntax, notation, axiom, sorry.
-/
import Derived.Test.YtbadmehadbmohaaDoorRows
import GoSem.ClaimSeven
namespace Go.Proofs.YtbadmehadbmohaaDoor
namespace Rows

/-- THE TIED CARD OF 'weirlaw06.LineOnly'. -/
def lineOnlyCard : Claim7 := { stood := { row := lineOnlyRow, standIns := [], harness := (true, "8c62c95645a5526710f88d504221836cf04b1a4684ce620a2dfe768ac5048264"), looks := true }, kinds := [], alts := [], laidByText := true, laidKinds := [.data, .data, .data, .handle, .sentinel, .sentinel], laidTests := true, laidLooks := .later }
def LineOnlyCardSaid : Prop := Claim7.holds Tryd.pinned (.plain (OpenSpec.ofChange lineOnlySpec)) lineOnlyCard

/-- THE SECOND FORM's CARD OF 'weirlaw06.LineOnly'. -/
def lineOnlyUptoCard : Claim7 := { stood := { row := lineOnlyUptoRow, standIns := [], harness := (true, "8c62c95645a5526710f88d504221836cf04b1a4684ce620a2dfe768ac5048264"), looks := true }, kinds := [], alts := [], laidByText := true, laidKinds := [.data, .data, .data, .handle, .sentinel, .sentinel], laidTests := true, laidLooks := .later }
def LineOnlyUptoCardSaid : Prop := Claim7.holds Tryd.pinned (.plain (OpenSpec.upto lineOnlySpec)) lineOnlyUptoCard
end Rows
end Go.Proofs.YtbadmehadbmohaaDoor
