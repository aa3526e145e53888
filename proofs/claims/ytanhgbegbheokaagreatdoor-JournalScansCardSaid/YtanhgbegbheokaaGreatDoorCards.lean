/-
  DERIVED. GIVEN WITH THE SEED: THE CARDS: each row of YtanhgbegbheokaaGreatDoorRows.lean that lists a variable, with what it lists TIED to the program's text (the seventh form; the later family's looks); each row that meets fmt, with fmt's text TOLD by the authors' own Lean function (tested against real Go, not proved from fmt's source: count such statements apart). THE CARD IS WHAT COUNTS. Prove the row's statement (the work); the ties are given (YtanhgbegbheokaaGreatDoorTie.lean); close each card by the builder's one call (the guide's Derived/Test/ToyasCard.lean, 'card_holds'). Laid BY PROGRAM, IN A SANDBOX (cutbox-door.mjs). By AI agents, Wed Nov 11 2026. No macro, syntax, notation, axiom, sorry.
-/
import Derived.Test.YtanhgbegbheokaaGreatDoorRows
import GoSem.ClaimSeven
namespace Go.Proofs.YtanhgbegbheokaaGreatDoor
namespace Rows

/-- THE TIED CARD OF 'errandlaw07.JournalPuts'. -/
def journalPutsCard : Claim7 := { stood := { row := journalPutsRow, standIns := [], harness := (true, "0532af7a2758e39601c586f1fa17c11268fc043fa1e5ce7c19a1802e5115395a"), looks := false }, kinds := [], alts := [], laidByText := true, laidKinds := [.data, .data, .pinned], laidTests := true, laidLooks := .later }
def JournalPutsCardSaid : Prop := Claim7.holds Tryz.pinned (.plain (OpenSpec.ofChange journalPutsSpec)) journalPutsCard

/-- THE TIED CARD OF 'errandlaw07.JournalScans'. -/
def journalScansCard : Claim7 := { stood := { row := journalScansRow, standIns := [], harness := (true, "0532af7a2758e39601c586f1fa17c11268fc043fa1e5ce7c19a1802e5115395a"), looks := false }, kinds := [], alts := [], laidByText := true, laidKinds := [.data, .data, .pinned], laidTests := true, laidLooks := .later }
def JournalScansCardSaid : Prop := Claim7.holds Tryz.pinned (.plain (OpenSpec.ofChange journalScansSpec)) journalScansCard

/-- THE TIED CARD OF 'errandlaw06.SlotsPours'. -/
def slotsPoursCard : Claim7 := { stood := { row := slotsPoursRow, standIns := [], harness := (true, "0532af7a2758e39601c586f1fa17c11268fc043fa1e5ce7c19a1802e5115395a"), looks := false }, kinds := [], alts := [], laidByText := true, laidKinds := [.data, .data, .pinned], laidTests := true, laidLooks := .later }
def SlotsPoursCardSaid : Prop := Claim7.holds Tryz.pinned (.plain (OpenSpec.ofChange slotsPoursSpec)) slotsPoursCard

/-- THE TIED CARD OF 'errandlaw06.SlotsLoads'. -/
def slotsLoadsCard : Claim7 := { stood := { row := slotsLoadsRow, standIns := [], harness := (true, "0532af7a2758e39601c586f1fa17c11268fc043fa1e5ce7c19a1802e5115395a"), looks := false }, kinds := [], alts := [], laidByText := true, laidKinds := [.data, .data, .pinned], laidTests := true, laidLooks := .later }
def SlotsLoadsCardSaid : Prop := Claim7.holds Tryz.pinned (.plain (OpenSpec.ofChange slotsLoadsSpec)) slotsLoadsCard

/-- THE SECOND FORM's CARD OF 'errandlaw07.JournalPuts'. -/
def journalPutsUptoCard : Claim7 := { stood := { row := journalPutsUptoRow, standIns := [], harness := (true, "0532af7a2758e39601c586f1fa17c11268fc043fa1e5ce7c19a1802e5115395a"), looks := false }, kinds := [], alts := [], laidByText := true, laidKinds := [.data, .data, .pinned], laidTests := true, laidLooks := .later }
def JournalPutsUptoCardSaid : Prop := Claim7.holds Tryz.pinned (.plain (OpenSpec.upto journalPutsSpec)) journalPutsUptoCard

/-- THE SECOND FORM's CARD OF 'errandlaw07.JournalScans'. -/
def journalScansUptoCard : Claim7 := { stood := { row := journalScansUptoRow, standIns := [], harness := (true, "0532af7a2758e39601c586f1fa17c11268fc043fa1e5ce7c19a1802e5115395a"), looks := false }, kinds := [], alts := [], laidByText := true, laidKinds := [.data, .data, .pinned], laidTests := true, laidLooks := .later }
def JournalScansUptoCardSaid : Prop := Claim7.holds Tryz.pinned (.plain (OpenSpec.upto journalScansSpec)) journalScansUptoCard

/-- THE SECOND FORM's CARD OF 'errandlaw06.SlotsPours'. -/
def slotsPoursUptoCard : Claim7 := { stood := { row := slotsPoursUptoRow, standIns := [], harness := (true, "0532af7a2758e39601c586f1fa17c11268fc043fa1e5ce7c19a1802e5115395a"), looks := false }, kinds := [], alts := [], laidByText := true, laidKinds := [.data, .data, .pinned], laidTests := true, laidLooks := .later }
def SlotsPoursUptoCardSaid : Prop := Claim7.holds Tryz.pinned (.plain (OpenSpec.upto slotsPoursSpec)) slotsPoursUptoCard

/-- THE SECOND FORM's CARD OF 'errandlaw06.SlotsLoads'. -/
def slotsLoadsUptoCard : Claim7 := { stood := { row := slotsLoadsUptoRow, standIns := [], harness := (true, "0532af7a2758e39601c586f1fa17c11268fc043fa1e5ce7c19a1802e5115395a"), looks := false }, kinds := [], alts := [], laidByText := true, laidKinds := [.data, .data, .pinned], laidTests := true, laidLooks := .later }
def SlotsLoadsUptoCardSaid : Prop := Claim7.holds Tryz.pinned (.plain (OpenSpec.upto slotsLoadsSpec)) slotsLoadsUptoCard
end Rows
end Go.Proofs.YtanhgbegbheokaaGreatDoor
