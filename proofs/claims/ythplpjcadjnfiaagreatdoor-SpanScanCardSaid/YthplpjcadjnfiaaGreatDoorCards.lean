/-
  DERIVED. GIVEN WITH THE SEED: THE CARDS: each row of YthplpjcadjnfiaaGreatDoorRows.lean that lists a variable, with what it lists TIED to the program's text (the seventh form; the later family's looks); each row that meets fmt, with fmt's text TOLD by the authors' own Lean function (tested against real Go, not proved from fmt's source: count such statements apart). THE CARD IS WHAT COUNTS. Prove the row's statement (the work); the ties are given (YthplpjcadjnfiaaGreatDoorTie.lean); close each card by the builder's one call (the guide's Derived/Test/ToyasCard.lean, 'card_holds'). Laid BY PROGRAM, IN A SANDBOX (cutbox-door.mjs). By AI agents, Wed Nov 11 2026. No macro, syntax, notation, axiom, sorry.
-/
import Derived.Test.YthplpjcadjnfiaaGreatDoorRows
import GoSem.ClaimSeven
namespace Go.Proofs.YthplpjcadjnfiaaGreatDoor
namespace Rows

/-- THE TIED CARD OF 'weirlaw04.SpanParses'. -/
def spanParsesCard : Claim7 := { stood := { row := spanParsesRow, standIns := [], harness := (true, "8d41b4defa3ecf76f76d9162ab7ae5d8271f70ce188bbdcb246e3258c0bfe34d"), looks := true }, kinds := [], alts := [], laidByText := true, laidKinds := [.data, .data, .data, .data, .handle, .sentinel, .sentinel, .data, .pinned], laidTests := true, laidLooks := .later }
def SpanParsesCardSaid : Prop := Claim7.holds Tryz.pinned (.plain (OpenSpec.ofChange spanParsesSpec)) spanParsesCard

/-- THE TIED CARD OF 'weirlaw04.SpanPrints'. -/
def spanPrintsCard : Claim7 := { stood := { row := spanPrintsRow, standIns := [], harness := (true, "8d41b4defa3ecf76f76d9162ab7ae5d8271f70ce188bbdcb246e3258c0bfe34d"), looks := true }, kinds := [], alts := [], laidByText := true, laidKinds := [.data, .data, .data, .data, .handle, .sentinel, .sentinel, .data, .pinned], laidTests := true, laidLooks := .later }
def SpanPrintsCardSaid : Prop := Claim7.holds Tryz.pinned (.plain (OpenSpec.ofChange spanPrintsSpec)) spanPrintsCard

/-- THE TIED CARD OF 'weirlaw04.SpanTimes'. -/
def spanTimesCard : Claim7 := { stood := { row := spanTimesRow, standIns := [], harness := (true, "8d41b4defa3ecf76f76d9162ab7ae5d8271f70ce188bbdcb246e3258c0bfe34d"), looks := true }, kinds := [], alts := [], laidByText := true, laidKinds := [.data, .data, .data, .data, .handle, .sentinel, .sentinel, .data, .pinned], laidTests := true, laidLooks := .later }
def SpanTimesCardSaid : Prop := Claim7.holds Tryz.pinned (.plain (OpenSpec.ofChange spanTimesSpec)) spanTimesCard

/-- THE TIED CARD OF 'weirlaw04.SpanTexts'. -/
def spanTextsCard : Claim7 := { stood := { row := spanTextsRow, standIns := [], harness := (true, "8d41b4defa3ecf76f76d9162ab7ae5d8271f70ce188bbdcb246e3258c0bfe34d"), looks := true }, kinds := [], alts := [], laidByText := true, laidKinds := [.data, .data, .data, .data, .handle, .sentinel, .sentinel, .data, .pinned], laidTests := true, laidLooks := .later }
def SpanTextsCardSaid : Prop := Claim7.holds Tryz.pinned (.plain (OpenSpec.ofChange spanTextsSpec)) spanTextsCard

/-- THE TIED CARD OF 'weirlaw04.SpanDays'. -/
def spanDaysCard : Claim7 := { stood := { row := spanDaysRow, standIns := [], harness := (true, "8d41b4defa3ecf76f76d9162ab7ae5d8271f70ce188bbdcb246e3258c0bfe34d"), looks := true }, kinds := [], alts := [], laidByText := true, laidKinds := [.data, .data, .data, .data, .handle, .sentinel, .sentinel, .data, .pinned], laidTests := true, laidLooks := .later }
def SpanDaysCardSaid : Prop := Claim7.holds Tryz.pinned (.plain (OpenSpec.ofChange spanDaysSpec)) spanDaysCard

/-- THE TIED CARD OF 'weirlaw04.SpanBack'. -/
def spanBackCard : Claim7 := { stood := { row := spanBackRow, standIns := [], harness := (true, "8d41b4defa3ecf76f76d9162ab7ae5d8271f70ce188bbdcb246e3258c0bfe34d"), looks := true }, kinds := [], alts := [], laidByText := true, laidKinds := [.data, .data, .data, .data, .handle, .sentinel, .sentinel, .data, .pinned], laidTests := true, laidLooks := .later }
def SpanBackCardSaid : Prop := Claim7.holds Tryz.pinned (.plain (OpenSpec.ofChange spanBackSpec)) spanBackCard

/-- THE TIED CARD OF 'weirlaw04.SpanTimeBack'. -/
def spanTimeBackCard : Claim7 := { stood := { row := spanTimeBackRow, standIns := [], harness := (true, "8d41b4defa3ecf76f76d9162ab7ae5d8271f70ce188bbdcb246e3258c0bfe34d"), looks := true }, kinds := [], alts := [], laidByText := true, laidKinds := [.data, .data, .data, .data, .handle, .sentinel, .sentinel, .data, .pinned], laidTests := true, laidLooks := .later }
def SpanTimeBackCardSaid : Prop := Claim7.holds Tryz.pinned (.plain (OpenSpec.ofChange spanTimeBackSpec)) spanTimeBackCard

/-- THE TIED CARD OF 'weirlaw04.SpanOnly'. -/
def spanOnlyCard : Claim7 := { stood := { row := spanOnlyRow, standIns := [], harness := (true, "8d41b4defa3ecf76f76d9162ab7ae5d8271f70ce188bbdcb246e3258c0bfe34d"), looks := true }, kinds := [], alts := [], laidByText := true, laidKinds := [.data, .data, .data, .data, .handle, .sentinel, .sentinel, .data, .pinned], laidTests := true, laidLooks := .later }
def SpanOnlyCardSaid : Prop := Claim7.holds Tryz.pinned (.plain (OpenSpec.ofChange spanOnlySpec)) spanOnlyCard

/-- THE TIED CARD OF 'weirlaw04.SpanCalendar'. -/
def spanCalendarCard : Claim7 := { stood := { row := spanCalendarRow, standIns := [], harness := (true, "8d41b4defa3ecf76f76d9162ab7ae5d8271f70ce188bbdcb246e3258c0bfe34d"), looks := true }, kinds := [], alts := [], laidByText := true, laidKinds := [.data, .data, .data, .data, .handle, .sentinel, .sentinel, .data, .pinned], laidTests := true, laidLooks := .later }
def SpanCalendarCardSaid : Prop := Claim7.holds Tryz.pinned (.plain (OpenSpec.ofChange spanCalendarSpec)) spanCalendarCard

/-- THE TIED CARD OF 'weirlaw04.SpanScan'. -/
def spanScanCard : Claim7 := { stood := { row := spanScanRow, standIns := [], harness := (true, "8d41b4defa3ecf76f76d9162ab7ae5d8271f70ce188bbdcb246e3258c0bfe34d"), looks := true }, kinds := [], alts := [], laidByText := true, laidKinds := [.data, .data, .data, .data, .handle, .sentinel, .sentinel, .data, .pinned], laidTests := true, laidLooks := .later }
def SpanScanCardSaid : Prop := Claim7.holds Tryz.pinned (.plain (OpenSpec.ofChange spanScanSpec)) spanScanCard

/-- THE SECOND FORM's CARD OF 'weirlaw04.SpanParses'. -/
def spanParsesUptoCard : Claim7 := { stood := { row := spanParsesUptoRow, standIns := [], harness := (true, "8d41b4defa3ecf76f76d9162ab7ae5d8271f70ce188bbdcb246e3258c0bfe34d"), looks := true }, kinds := [], alts := [], laidByText := true, laidKinds := [.data, .data, .data, .data, .handle, .sentinel, .sentinel, .data, .pinned], laidTests := true, laidLooks := .later }
def SpanParsesUptoCardSaid : Prop := Claim7.holds Tryz.pinned (.plain (OpenSpec.upto spanParsesSpec)) spanParsesUptoCard

/-- THE SECOND FORM's CARD OF 'weirlaw04.SpanPrints'. -/
def spanPrintsUptoCard : Claim7 := { stood := { row := spanPrintsUptoRow, standIns := [], harness := (true, "8d41b4defa3ecf76f76d9162ab7ae5d8271f70ce188bbdcb246e3258c0bfe34d"), looks := true }, kinds := [], alts := [], laidByText := true, laidKinds := [.data, .data, .data, .data, .handle, .sentinel, .sentinel, .data, .pinned], laidTests := true, laidLooks := .later }
def SpanPrintsUptoCardSaid : Prop := Claim7.holds Tryz.pinned (.plain (OpenSpec.upto spanPrintsSpec)) spanPrintsUptoCard

/-- THE SECOND FORM's CARD OF 'weirlaw04.SpanTimes'. -/
def spanTimesUptoCard : Claim7 := { stood := { row := spanTimesUptoRow, standIns := [], harness := (true, "8d41b4defa3ecf76f76d9162ab7ae5d8271f70ce188bbdcb246e3258c0bfe34d"), looks := true }, kinds := [], alts := [], laidByText := true, laidKinds := [.data, .data, .data, .data, .handle, .sentinel, .sentinel, .data, .pinned], laidTests := true, laidLooks := .later }
def SpanTimesUptoCardSaid : Prop := Claim7.holds Tryz.pinned (.plain (OpenSpec.upto spanTimesSpec)) spanTimesUptoCard

/-- THE SECOND FORM's CARD OF 'weirlaw04.SpanTexts'. -/
def spanTextsUptoCard : Claim7 := { stood := { row := spanTextsUptoRow, standIns := [], harness := (true, "8d41b4defa3ecf76f76d9162ab7ae5d8271f70ce188bbdcb246e3258c0bfe34d"), looks := true }, kinds := [], alts := [], laidByText := true, laidKinds := [.data, .data, .data, .data, .handle, .sentinel, .sentinel, .data, .pinned], laidTests := true, laidLooks := .later }
def SpanTextsUptoCardSaid : Prop := Claim7.holds Tryz.pinned (.plain (OpenSpec.upto spanTextsSpec)) spanTextsUptoCard

/-- THE SECOND FORM's CARD OF 'weirlaw04.SpanDays'. -/
def spanDaysUptoCard : Claim7 := { stood := { row := spanDaysUptoRow, standIns := [], harness := (true, "8d41b4defa3ecf76f76d9162ab7ae5d8271f70ce188bbdcb246e3258c0bfe34d"), looks := true }, kinds := [], alts := [], laidByText := true, laidKinds := [.data, .data, .data, .data, .handle, .sentinel, .sentinel, .data, .pinned], laidTests := true, laidLooks := .later }
def SpanDaysUptoCardSaid : Prop := Claim7.holds Tryz.pinned (.plain (OpenSpec.upto spanDaysSpec)) spanDaysUptoCard

/-- THE SECOND FORM's CARD OF 'weirlaw04.SpanBack'. -/
def spanBackUptoCard : Claim7 := { stood := { row := spanBackUptoRow, standIns := [], harness := (true, "8d41b4defa3ecf76f76d9162ab7ae5d8271f70ce188bbdcb246e3258c0bfe34d"), looks := true }, kinds := [], alts := [], laidByText := true, laidKinds := [.data, .data, .data, .data, .handle, .sentinel, .sentinel, .data, .pinned], laidTests := true, laidLooks := .later }
def SpanBackUptoCardSaid : Prop := Claim7.holds Tryz.pinned (.plain (OpenSpec.upto spanBackSpec)) spanBackUptoCard

/-- THE SECOND FORM's CARD OF 'weirlaw04.SpanTimeBack'. -/
def spanTimeBackUptoCard : Claim7 := { stood := { row := spanTimeBackUptoRow, standIns := [], harness := (true, "8d41b4defa3ecf76f76d9162ab7ae5d8271f70ce188bbdcb246e3258c0bfe34d"), looks := true }, kinds := [], alts := [], laidByText := true, laidKinds := [.data, .data, .data, .data, .handle, .sentinel, .sentinel, .data, .pinned], laidTests := true, laidLooks := .later }
def SpanTimeBackUptoCardSaid : Prop := Claim7.holds Tryz.pinned (.plain (OpenSpec.upto spanTimeBackSpec)) spanTimeBackUptoCard

/-- THE SECOND FORM's CARD OF 'weirlaw04.SpanOnly'. -/
def spanOnlyUptoCard : Claim7 := { stood := { row := spanOnlyUptoRow, standIns := [], harness := (true, "8d41b4defa3ecf76f76d9162ab7ae5d8271f70ce188bbdcb246e3258c0bfe34d"), looks := true }, kinds := [], alts := [], laidByText := true, laidKinds := [.data, .data, .data, .data, .handle, .sentinel, .sentinel, .data, .pinned], laidTests := true, laidLooks := .later }
def SpanOnlyUptoCardSaid : Prop := Claim7.holds Tryz.pinned (.plain (OpenSpec.upto spanOnlySpec)) spanOnlyUptoCard

/-- THE SECOND FORM's CARD OF 'weirlaw04.SpanCalendar'. -/
def spanCalendarUptoCard : Claim7 := { stood := { row := spanCalendarUptoRow, standIns := [], harness := (true, "8d41b4defa3ecf76f76d9162ab7ae5d8271f70ce188bbdcb246e3258c0bfe34d"), looks := true }, kinds := [], alts := [], laidByText := true, laidKinds := [.data, .data, .data, .data, .handle, .sentinel, .sentinel, .data, .pinned], laidTests := true, laidLooks := .later }
def SpanCalendarUptoCardSaid : Prop := Claim7.holds Tryz.pinned (.plain (OpenSpec.upto spanCalendarSpec)) spanCalendarUptoCard

/-- THE SECOND FORM's CARD OF 'weirlaw04.SpanScan'. -/
def spanScanUptoCard : Claim7 := { stood := { row := spanScanUptoRow, standIns := [], harness := (true, "8d41b4defa3ecf76f76d9162ab7ae5d8271f70ce188bbdcb246e3258c0bfe34d"), looks := true }, kinds := [], alts := [], laidByText := true, laidKinds := [.data, .data, .data, .data, .handle, .sentinel, .sentinel, .data, .pinned], laidTests := true, laidLooks := .later }
def SpanScanUptoCardSaid : Prop := Claim7.holds Tryz.pinned (.plain (OpenSpec.upto spanScanSpec)) spanScanUptoCard
end Rows
end Go.Proofs.YthplpjcadjnfiaaGreatDoor
