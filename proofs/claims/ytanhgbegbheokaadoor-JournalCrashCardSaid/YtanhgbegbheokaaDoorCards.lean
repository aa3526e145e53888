/-
  DERIVED. GIVEN WITH THE SEED: THE CARDS: each row of YtanhgbegbheokaaDoorRows.lean that lists a variable, with what it lists TIED to the program's text (the seventh form; the later family's looks); each row that meets fmt, with fmt's text TOLD by the authors' own Lean function (tested against real Go, not proved from fmt's source: count such statements apart). THE CARD IS WHAT COUNTS. Prove the row's statement (the work); the ties are given (YtanhgbegbheokaaDoorTie.lean); close each card by the builder's one call (the guide's Derived/Test/ToyasCard.lean, 'card_holds'). Laid BY PROGRAM, IN A SANDBOX (cutbox-door.mjs). By AI agents, Wed Nov 11 2026. No macro, syntax, notation, axiom, sorry.
-/
import Derived.Test.YtanhgbegbheokaaDoorRows
import GoSem.ClaimSeven
namespace Go.Proofs.YtanhgbegbheokaaDoor
namespace Rows

/-- THE TIED CARD OF 'errandlaw05.SheafLays'. -/
def sheafLaysCard : Claim7 := { stood := { row := sheafLaysRow, standIns := [], harness := (true, "ccdfd2b25bc1566a208104d2c2f89dbb876c74007f4934f7b9628fc19b77d541"), looks := false }, kinds := [], alts := [], laidByText := true, laidKinds := [.data, .data, .pinned], laidTests := true, laidLooks := .later }
def SheafLaysCardSaid : Prop := Claim7.holds Tryd.pinned (.plain (OpenSpec.ofChange sheafLaysSpec)) sheafLaysCard

/-- THE TIED CARD OF 'errandlaw05.SheafJoins'. -/
def sheafJoinsCard : Claim7 := { stood := { row := sheafJoinsRow, standIns := [], harness := (true, "ccdfd2b25bc1566a208104d2c2f89dbb876c74007f4934f7b9628fc19b77d541"), looks := false }, kinds := [], alts := [], laidByText := true, laidKinds := [.data, .data, .pinned], laidTests := true, laidLooks := .later }
def SheafJoinsCardSaid : Prop := Claim7.holds Tryd.pinned (.plain (OpenSpec.ofChange sheafJoinsSpec)) sheafJoinsCard

/-- THE TIED CARD OF 'errandlaw05.SheafBack'. -/
def sheafBackCard : Claim7 := { stood := { row := sheafBackRow, standIns := [], harness := (true, "ccdfd2b25bc1566a208104d2c2f89dbb876c74007f4934f7b9628fc19b77d541"), looks := false }, kinds := [], alts := [], laidByText := true, laidKinds := [.data, .data, .pinned], laidTests := true, laidLooks := .later }
def SheafBackCardSaid : Prop := Claim7.holds Tryd.pinned (.plain (OpenSpec.ofChange sheafBackSpec)) sheafBackCard

/-- THE TIED CARD OF 'errandlaw05.SheafTurned'. -/
def sheafTurnedCard : Claim7 := { stood := { row := sheafTurnedRow, standIns := [], harness := (true, "ccdfd2b25bc1566a208104d2c2f89dbb876c74007f4934f7b9628fc19b77d541"), looks := false }, kinds := [], alts := [], laidByText := true, laidKinds := [.data, .data, .pinned], laidTests := true, laidLooks := .later }
def SheafTurnedCardSaid : Prop := Claim7.holds Tryd.pinned (.plain (OpenSpec.ofChange sheafTurnedSpec)) sheafTurnedCard

/-- THE TIED CARD OF 'errandlaw07.JournalBack'. -/
def journalBackCard : Claim7 := { stood := { row := journalBackRow, standIns := [], harness := (true, "ccdfd2b25bc1566a208104d2c2f89dbb876c74007f4934f7b9628fc19b77d541"), looks := false }, kinds := [], alts := [], laidByText := true, laidKinds := [.data, .data, .pinned], laidTests := true, laidLooks := .later }
def JournalBackCardSaid : Prop := Claim7.holds Tryd.pinned (.plain (OpenSpec.ofChange journalBackSpec)) journalBackCard

/-- THE TIED CARD OF 'errandlaw06.SlotsBack'. -/
def slotsBackCard : Claim7 := { stood := { row := slotsBackRow, standIns := [], harness := (true, "ccdfd2b25bc1566a208104d2c2f89dbb876c74007f4934f7b9628fc19b77d541"), looks := false }, kinds := [], alts := [], laidByText := true, laidKinds := [.data, .data, .pinned], laidTests := true, laidLooks := .later }
def SlotsBackCardSaid : Prop := Claim7.holds Tryd.pinned (.plain (OpenSpec.ofChange slotsBackSpec)) slotsBackCard

/-- THE TIED CARD OF 'errandlaw06.SlotsCrash'. -/
def slotsCrashCard : Claim7 := { stood := { row := slotsCrashRow, standIns := [], harness := (true, "ccdfd2b25bc1566a208104d2c2f89dbb876c74007f4934f7b9628fc19b77d541"), looks := false }, kinds := [], alts := [], laidByText := true, laidKinds := [.data, .data, .pinned], laidTests := true, laidLooks := .later }
def SlotsCrashCardSaid : Prop := Claim7.holds Tryd.pinned (.plain (OpenSpec.ofChange slotsCrashSpec)) slotsCrashCard

/-- THE TIED CARD OF 'errandlaw07.JournalCrash'. -/
def journalCrashCard : Claim7 := { stood := { row := journalCrashRow, standIns := [], harness := (true, "ccdfd2b25bc1566a208104d2c2f89dbb876c74007f4934f7b9628fc19b77d541"), looks := false }, kinds := [], alts := [], laidByText := true, laidKinds := [.data, .data, .pinned], laidTests := true, laidLooks := .later }
def JournalCrashCardSaid : Prop := Claim7.holds Tryd.pinned (.plain (OpenSpec.ofChange journalCrashSpec)) journalCrashCard

/-- THE SECOND FORM's CARD OF 'errandlaw05.SheafLays'. -/
def sheafLaysUptoCard : Claim7 := { stood := { row := sheafLaysUptoRow, standIns := [], harness := (true, "ccdfd2b25bc1566a208104d2c2f89dbb876c74007f4934f7b9628fc19b77d541"), looks := false }, kinds := [], alts := [], laidByText := true, laidKinds := [.data, .data, .pinned], laidTests := true, laidLooks := .later }
def SheafLaysUptoCardSaid : Prop := Claim7.holds Tryd.pinned (.plain (OpenSpec.upto sheafLaysSpec)) sheafLaysUptoCard

/-- THE SECOND FORM's CARD OF 'errandlaw05.SheafJoins'. -/
def sheafJoinsUptoCard : Claim7 := { stood := { row := sheafJoinsUptoRow, standIns := [], harness := (true, "ccdfd2b25bc1566a208104d2c2f89dbb876c74007f4934f7b9628fc19b77d541"), looks := false }, kinds := [], alts := [], laidByText := true, laidKinds := [.data, .data, .pinned], laidTests := true, laidLooks := .later }
def SheafJoinsUptoCardSaid : Prop := Claim7.holds Tryd.pinned (.plain (OpenSpec.upto sheafJoinsSpec)) sheafJoinsUptoCard

/-- THE SECOND FORM's CARD OF 'errandlaw05.SheafBack'. -/
def sheafBackUptoCard : Claim7 := { stood := { row := sheafBackUptoRow, standIns := [], harness := (true, "ccdfd2b25bc1566a208104d2c2f89dbb876c74007f4934f7b9628fc19b77d541"), looks := false }, kinds := [], alts := [], laidByText := true, laidKinds := [.data, .data, .pinned], laidTests := true, laidLooks := .later }
def SheafBackUptoCardSaid : Prop := Claim7.holds Tryd.pinned (.plain (OpenSpec.upto sheafBackSpec)) sheafBackUptoCard

/-- THE SECOND FORM's CARD OF 'errandlaw05.SheafTurned'. -/
def sheafTurnedUptoCard : Claim7 := { stood := { row := sheafTurnedUptoRow, standIns := [], harness := (true, "ccdfd2b25bc1566a208104d2c2f89dbb876c74007f4934f7b9628fc19b77d541"), looks := false }, kinds := [], alts := [], laidByText := true, laidKinds := [.data, .data, .pinned], laidTests := true, laidLooks := .later }
def SheafTurnedUptoCardSaid : Prop := Claim7.holds Tryd.pinned (.plain (OpenSpec.upto sheafTurnedSpec)) sheafTurnedUptoCard

/-- THE SECOND FORM's CARD OF 'errandlaw07.JournalBack'. -/
def journalBackUptoCard : Claim7 := { stood := { row := journalBackUptoRow, standIns := [], harness := (true, "ccdfd2b25bc1566a208104d2c2f89dbb876c74007f4934f7b9628fc19b77d541"), looks := false }, kinds := [], alts := [], laidByText := true, laidKinds := [.data, .data, .pinned], laidTests := true, laidLooks := .later }
def JournalBackUptoCardSaid : Prop := Claim7.holds Tryd.pinned (.plain (OpenSpec.upto journalBackSpec)) journalBackUptoCard

/-- THE SECOND FORM's CARD OF 'errandlaw06.SlotsBack'. -/
def slotsBackUptoCard : Claim7 := { stood := { row := slotsBackUptoRow, standIns := [], harness := (true, "ccdfd2b25bc1566a208104d2c2f89dbb876c74007f4934f7b9628fc19b77d541"), looks := false }, kinds := [], alts := [], laidByText := true, laidKinds := [.data, .data, .pinned], laidTests := true, laidLooks := .later }
def SlotsBackUptoCardSaid : Prop := Claim7.holds Tryd.pinned (.plain (OpenSpec.upto slotsBackSpec)) slotsBackUptoCard

/-- THE SECOND FORM's CARD OF 'errandlaw06.SlotsCrash'. -/
def slotsCrashUptoCard : Claim7 := { stood := { row := slotsCrashUptoRow, standIns := [], harness := (true, "ccdfd2b25bc1566a208104d2c2f89dbb876c74007f4934f7b9628fc19b77d541"), looks := false }, kinds := [], alts := [], laidByText := true, laidKinds := [.data, .data, .pinned], laidTests := true, laidLooks := .later }
def SlotsCrashUptoCardSaid : Prop := Claim7.holds Tryd.pinned (.plain (OpenSpec.upto slotsCrashSpec)) slotsCrashUptoCard

/-- THE SECOND FORM's CARD OF 'errandlaw07.JournalCrash'. -/
def journalCrashUptoCard : Claim7 := { stood := { row := journalCrashUptoRow, standIns := [], harness := (true, "ccdfd2b25bc1566a208104d2c2f89dbb876c74007f4934f7b9628fc19b77d541"), looks := false }, kinds := [], alts := [], laidByText := true, laidKinds := [.data, .data, .pinned], laidTests := true, laidLooks := .later }
def JournalCrashUptoCardSaid : Prop := Claim7.holds Tryd.pinned (.plain (OpenSpec.upto journalCrashSpec)) journalCrashUptoCard
end Rows
end Go.Proofs.YtanhgbegbheokaaDoor
