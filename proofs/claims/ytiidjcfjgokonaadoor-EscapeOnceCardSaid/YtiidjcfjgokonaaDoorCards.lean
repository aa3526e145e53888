/-
  DERIVED. GIVEN WITH THE SEED: THE CARDS: each row of YtiidjcfjgokonaaDoorRows.lean that lists a variable, with what it lists TIED to the program's text (the seventh form; the later family's looks); each row that meets fmt, with fmt's text TOLD by the authors' own Lean function (tested against real Go, not proved from fmt's source: count such statements apart). THE CARD IS WHAT COUNTS. Prove the row's statement (the work); the ties are given (YtiidjcfjgokonaaDoorTie.lean); close each card by the builder's one call (the guide's Derived/Test/ToyasCard.lean, 'card_holds'). Laid BY PROGRAM, IN A SANDBOX (cutbox-door.mjs). By AI agents, Wed Nov 11 2026. No macro, syntax, notation, axiom, sorry.
-/
import Derived.Test.YtiidjcfjgokonaaDoorRows
import GoSem.ClaimSeven
namespace Go.Proofs.YtiidjcfjgokonaaDoor
namespace Rows

/-- THE TIED CARD OF 'errandlaw14.UtfTells'. -/
def utfTellsCard : Claim7 := { stood := { row := utfTellsRow, standIns := [], harness := (true, "4464db00836f38f06a9fe956821e6493fbe6b1018d26233e63e837f8bf6d6846"), looks := true }, kinds := [], alts := [], laidByText := true, laidKinds := [.data, .pinned], laidTests := true, laidLooks := .later }
def UtfTellsCardSaid : Prop := Claim7.holds Tryd.pinned (.plain (OpenSpec.ofChange utfTellsSpec)) utfTellsCard

/-- THE TIED CARD OF 'errandlaw14.UtfCuts'. -/
def utfCutsCard : Claim7 := { stood := { row := utfCutsRow, standIns := [], harness := (true, "4464db00836f38f06a9fe956821e6493fbe6b1018d26233e63e837f8bf6d6846"), looks := true }, kinds := [], alts := [], laidByText := true, laidKinds := [.data, .pinned], laidTests := true, laidLooks := .later }
def UtfCutsCardSaid : Prop := Claim7.holds Tryd.pinned (.plain (OpenSpec.ofChange utfCutsSpec)) utfCutsCard

/-- THE TIED CARD OF 'errandlaw14.UtfParts'. -/
def utfPartsCard : Claim7 := { stood := { row := utfPartsRow, standIns := [], harness := (true, "4464db00836f38f06a9fe956821e6493fbe6b1018d26233e63e837f8bf6d6846"), looks := true }, kinds := [], alts := [], laidByText := true, laidKinds := [.data, .pinned], laidTests := true, laidLooks := .later }
def UtfPartsCardSaid : Prop := Claim7.holds Tryd.pinned (.plain (OpenSpec.ofChange utfPartsSpec)) utfPartsCard

/-- THE TIED CARD OF 'errandlaw14.UtfUpper'. -/
def utfUpperCard : Claim7 := { stood := { row := utfUpperRow, standIns := [], harness := (true, "4464db00836f38f06a9fe956821e6493fbe6b1018d26233e63e837f8bf6d6846"), looks := true }, kinds := [], alts := [], laidByText := true, laidKinds := [.data, .pinned], laidTests := true, laidLooks := .later }
def UtfUpperCardSaid : Prop := Claim7.holds Tryd.pinned (.plain (OpenSpec.ofChange utfUpperSpec)) utfUpperCard

/-- THE TIED CARD OF 'errandlaw13.FaultTells'. -/
def faultTellsCard : Claim7 := { stood := { row := faultTellsRow, standIns := [], harness := (true, "4464db00836f38f06a9fe956821e6493fbe6b1018d26233e63e837f8bf6d6846"), looks := true }, kinds := [], alts := [], laidByText := true, laidKinds := [.handle], laidTests := true, laidLooks := .later }
def FaultTellsCardSaid : Prop := Claim7.holds Tryd.pinned (.plain (OpenSpec.ofChange faultTellsSpec)) faultTellsCard

/-- THE TIED CARD OF 'errandlaw13.FaultIs'. -/
def faultIsCard : Claim7 := { stood := { row := faultIsRow, standIns := [], harness := (true, "4464db00836f38f06a9fe956821e6493fbe6b1018d26233e63e837f8bf6d6846"), looks := true }, kinds := [], alts := [], laidByText := true, laidKinds := [.handle], laidTests := true, laidLooks := .later }
def FaultIsCardSaid : Prop := Claim7.holds Tryd.pinned (.plain (OpenSpec.ofChange faultIsSpec)) faultIsCard

/-- THE TIED CARD OF 'errandlaw13.FaultWraps'. -/
def faultWrapsCard : Claim7 := { stood := { row := faultWrapsRow, standIns := [], harness := (true, "4464db00836f38f06a9fe956821e6493fbe6b1018d26233e63e837f8bf6d6846"), looks := true }, kinds := [], alts := [], laidByText := true, laidKinds := [.handle], laidTests := true, laidLooks := .later }
def FaultWrapsCardSaid : Prop := Claim7.holds Tryd.pinned (.plain (OpenSpec.ofChange faultWrapsSpec)) faultWrapsCard

/-- THE TIED CARD OF 'errandlaw13.FaultOuter'. -/
def faultOuterCard : Claim7 := { stood := { row := faultOuterRow, standIns := [], harness := (true, "4464db00836f38f06a9fe956821e6493fbe6b1018d26233e63e837f8bf6d6846"), looks := true }, kinds := [], alts := [], laidByText := true, laidKinds := [.handle], laidTests := true, laidLooks := .later }
def FaultOuterCardSaid : Prop := Claim7.holds Tryd.pinned (.plain (OpenSpec.ofChange faultOuterSpec)) faultOuterCard

/-- THE TIED CARD OF 'errandlaw16.EscapeTells'. -/
def escapeTellsCard : Claim7 := { stood := { row := escapeTellsRow, standIns := [], harness := (true, "4464db00836f38f06a9fe956821e6493fbe6b1018d26233e63e837f8bf6d6846"), looks := true }, kinds := [], alts := [], laidByText := true, laidKinds := [.handle], laidTests := true, laidLooks := .later }
def EscapeTellsCardSaid : Prop := Claim7.holds Tryd.pinned (.plain (OpenSpec.ofChange escapeTellsSpec)) escapeTellsCard

/-- THE TIED CARD OF 'errandlaw16.EscapeReads'. -/
def escapeReadsCard : Claim7 := { stood := { row := escapeReadsRow, standIns := [], harness := (true, "4464db00836f38f06a9fe956821e6493fbe6b1018d26233e63e837f8bf6d6846"), looks := true }, kinds := [], alts := [], laidByText := true, laidKinds := [.handle], laidTests := true, laidLooks := .later }
def EscapeReadsCardSaid : Prop := Claim7.holds Tryd.pinned (.plain (OpenSpec.ofChange escapeReadsSpec)) escapeReadsCard

/-- THE TIED CARD OF 'errandlaw16.EscapeBack'. -/
def escapeBackCard : Claim7 := { stood := { row := escapeBackRow, standIns := [], harness := (true, "4464db00836f38f06a9fe956821e6493fbe6b1018d26233e63e837f8bf6d6846"), looks := true }, kinds := [], alts := [], laidByText := true, laidKinds := [.handle], laidTests := true, laidLooks := .later }
def EscapeBackCardSaid : Prop := Claim7.holds Tryd.pinned (.plain (OpenSpec.ofChange escapeBackSpec)) escapeBackCard

/-- THE TIED CARD OF 'errandlaw16.EscapeOnce'. -/
def escapeOnceCard : Claim7 := { stood := { row := escapeOnceRow, standIns := [], harness := (true, "4464db00836f38f06a9fe956821e6493fbe6b1018d26233e63e837f8bf6d6846"), looks := true }, kinds := [], alts := [], laidByText := true, laidKinds := [.handle], laidTests := true, laidLooks := .later }
def EscapeOnceCardSaid : Prop := Claim7.holds Tryd.pinned (.plain (OpenSpec.ofChange escapeOnceSpec)) escapeOnceCard

/-- THE SECOND FORM's CARD OF 'errandlaw14.UtfTells'. -/
def utfTellsUptoCard : Claim7 := { stood := { row := utfTellsUptoRow, standIns := [], harness := (true, "4464db00836f38f06a9fe956821e6493fbe6b1018d26233e63e837f8bf6d6846"), looks := true }, kinds := [], alts := [], laidByText := true, laidKinds := [.data, .pinned], laidTests := true, laidLooks := .later }
def UtfTellsUptoCardSaid : Prop := Claim7.holds Tryd.pinned (.plain (OpenSpec.upto utfTellsSpec)) utfTellsUptoCard

/-- THE SECOND FORM's CARD OF 'errandlaw14.UtfCuts'. -/
def utfCutsUptoCard : Claim7 := { stood := { row := utfCutsUptoRow, standIns := [], harness := (true, "4464db00836f38f06a9fe956821e6493fbe6b1018d26233e63e837f8bf6d6846"), looks := true }, kinds := [], alts := [], laidByText := true, laidKinds := [.data, .pinned], laidTests := true, laidLooks := .later }
def UtfCutsUptoCardSaid : Prop := Claim7.holds Tryd.pinned (.plain (OpenSpec.upto utfCutsSpec)) utfCutsUptoCard

/-- THE SECOND FORM's CARD OF 'errandlaw14.UtfParts'. -/
def utfPartsUptoCard : Claim7 := { stood := { row := utfPartsUptoRow, standIns := [], harness := (true, "4464db00836f38f06a9fe956821e6493fbe6b1018d26233e63e837f8bf6d6846"), looks := true }, kinds := [], alts := [], laidByText := true, laidKinds := [.data, .pinned], laidTests := true, laidLooks := .later }
def UtfPartsUptoCardSaid : Prop := Claim7.holds Tryd.pinned (.plain (OpenSpec.upto utfPartsSpec)) utfPartsUptoCard

/-- THE SECOND FORM's CARD OF 'errandlaw14.UtfUpper'. -/
def utfUpperUptoCard : Claim7 := { stood := { row := utfUpperUptoRow, standIns := [], harness := (true, "4464db00836f38f06a9fe956821e6493fbe6b1018d26233e63e837f8bf6d6846"), looks := true }, kinds := [], alts := [], laidByText := true, laidKinds := [.data, .pinned], laidTests := true, laidLooks := .later }
def UtfUpperUptoCardSaid : Prop := Claim7.holds Tryd.pinned (.plain (OpenSpec.upto utfUpperSpec)) utfUpperUptoCard

/-- THE SECOND FORM's CARD OF 'errandlaw13.FaultTells'. -/
def faultTellsUptoCard : Claim7 := { stood := { row := faultTellsUptoRow, standIns := [], harness := (true, "4464db00836f38f06a9fe956821e6493fbe6b1018d26233e63e837f8bf6d6846"), looks := true }, kinds := [], alts := [], laidByText := true, laidKinds := [.handle], laidTests := true, laidLooks := .later }
def FaultTellsUptoCardSaid : Prop := Claim7.holds Tryd.pinned (.plain (OpenSpec.upto faultTellsSpec)) faultTellsUptoCard

/-- THE SECOND FORM's CARD OF 'errandlaw13.FaultIs'. -/
def faultIsUptoCard : Claim7 := { stood := { row := faultIsUptoRow, standIns := [], harness := (true, "4464db00836f38f06a9fe956821e6493fbe6b1018d26233e63e837f8bf6d6846"), looks := true }, kinds := [], alts := [], laidByText := true, laidKinds := [.handle], laidTests := true, laidLooks := .later }
def FaultIsUptoCardSaid : Prop := Claim7.holds Tryd.pinned (.plain (OpenSpec.upto faultIsSpec)) faultIsUptoCard

/-- THE SECOND FORM's CARD OF 'errandlaw13.FaultWraps'. -/
def faultWrapsUptoCard : Claim7 := { stood := { row := faultWrapsUptoRow, standIns := [], harness := (true, "4464db00836f38f06a9fe956821e6493fbe6b1018d26233e63e837f8bf6d6846"), looks := true }, kinds := [], alts := [], laidByText := true, laidKinds := [.handle], laidTests := true, laidLooks := .later }
def FaultWrapsUptoCardSaid : Prop := Claim7.holds Tryd.pinned (.plain (OpenSpec.upto faultWrapsSpec)) faultWrapsUptoCard

/-- THE SECOND FORM's CARD OF 'errandlaw13.FaultOuter'. -/
def faultOuterUptoCard : Claim7 := { stood := { row := faultOuterUptoRow, standIns := [], harness := (true, "4464db00836f38f06a9fe956821e6493fbe6b1018d26233e63e837f8bf6d6846"), looks := true }, kinds := [], alts := [], laidByText := true, laidKinds := [.handle], laidTests := true, laidLooks := .later }
def FaultOuterUptoCardSaid : Prop := Claim7.holds Tryd.pinned (.plain (OpenSpec.upto faultOuterSpec)) faultOuterUptoCard

/-- THE SECOND FORM's CARD OF 'errandlaw16.EscapeTells'. -/
def escapeTellsUptoCard : Claim7 := { stood := { row := escapeTellsUptoRow, standIns := [], harness := (true, "4464db00836f38f06a9fe956821e6493fbe6b1018d26233e63e837f8bf6d6846"), looks := true }, kinds := [], alts := [], laidByText := true, laidKinds := [.handle], laidTests := true, laidLooks := .later }
def EscapeTellsUptoCardSaid : Prop := Claim7.holds Tryd.pinned (.plain (OpenSpec.upto escapeTellsSpec)) escapeTellsUptoCard

/-- THE SECOND FORM's CARD OF 'errandlaw16.EscapeReads'. -/
def escapeReadsUptoCard : Claim7 := { stood := { row := escapeReadsUptoRow, standIns := [], harness := (true, "4464db00836f38f06a9fe956821e6493fbe6b1018d26233e63e837f8bf6d6846"), looks := true }, kinds := [], alts := [], laidByText := true, laidKinds := [.handle], laidTests := true, laidLooks := .later }
def EscapeReadsUptoCardSaid : Prop := Claim7.holds Tryd.pinned (.plain (OpenSpec.upto escapeReadsSpec)) escapeReadsUptoCard

/-- THE SECOND FORM's CARD OF 'errandlaw16.EscapeBack'. -/
def escapeBackUptoCard : Claim7 := { stood := { row := escapeBackUptoRow, standIns := [], harness := (true, "4464db00836f38f06a9fe956821e6493fbe6b1018d26233e63e837f8bf6d6846"), looks := true }, kinds := [], alts := [], laidByText := true, laidKinds := [.handle], laidTests := true, laidLooks := .later }
def EscapeBackUptoCardSaid : Prop := Claim7.holds Tryd.pinned (.plain (OpenSpec.upto escapeBackSpec)) escapeBackUptoCard

/-- THE SECOND FORM's CARD OF 'errandlaw16.EscapeOnce'. -/
def escapeOnceUptoCard : Claim7 := { stood := { row := escapeOnceUptoRow, standIns := [], harness := (true, "4464db00836f38f06a9fe956821e6493fbe6b1018d26233e63e837f8bf6d6846"), looks := true }, kinds := [], alts := [], laidByText := true, laidKinds := [.handle], laidTests := true, laidLooks := .later }
def EscapeOnceUptoCardSaid : Prop := Claim7.holds Tryd.pinned (.plain (OpenSpec.upto escapeOnceSpec)) escapeOnceUptoCard
end Rows
end Go.Proofs.YtiidjcfjgokonaaDoor
