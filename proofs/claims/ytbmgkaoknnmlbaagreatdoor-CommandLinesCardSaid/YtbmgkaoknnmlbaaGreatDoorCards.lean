/-
  DERIVED. GIVEN WITH THE SEED: THE CARDS: each row of YtbmgkaoknnmlbaaGreatDoorRows.lean that lists a variable, with what it lists TIED to the program's text (the seventh form; the later family's looks); each row that meets fmt, with fmt's text TOLD by the authors' own Lean function (tested against real Go, not proved from fmt's source: count such statements apart). THE CARD IS WHAT COUNTS. Prove the row's statement (the work); the ties are given (YtbmgkaoknnmlbaaGreatDoorTie.lean); close each card by the builder's one call (the guide's Derived/Test/ToyasCard.lean, 'card_holds'). Laid BY PROGRAM, IN A SANDBOX (cutbox-door.mjs). By AI agents, Wed Nov 11 2026. No macro, syntax, notation, axiom, sorry.
-/
import Derived.Test.YtbmgkaoknnmlbaaGreatDoorRows
import GoSem.ClaimSeven
namespace Go.Proofs.YtbmgkaoknnmlbaaGreatDoor
namespace Rows

/-- THE TIED CARD OF 'errandlaw37.CommandRequests'. -/
def commandRequestsCard : Claim7 := { stood := { row := commandRequestsRow, standIns := [], harness := (true, "ebc7a6f811d8e0e35603fb312975be132e63c008294a371a3c421b8b5ca4f47b"), looks := true }, kinds := [], alts := [], laidByText := true, laidKinds := [.data, .handle, .pinned], laidTests := true, laidLooks := .later }
def CommandRequestsCardSaid : Prop := Claim7.holds Tryz.pinned (.plain (OpenSpec.ofChange commandRequestsSpec)) commandRequestsCard

/-- THE TIED CARD OF 'errandlaw37.CommandLines'. -/
def commandLinesCard : Claim7 := { stood := { row := commandLinesRow, standIns := [], harness := (true, "ebc7a6f811d8e0e35603fb312975be132e63c008294a371a3c421b8b5ca4f47b"), looks := true }, kinds := [], alts := [], laidByText := true, laidKinds := [.data, .handle, .pinned], laidTests := true, laidLooks := .later }
def CommandLinesCardSaid : Prop := Claim7.holds Tryz.pinned (.plain (OpenSpec.ofChange commandLinesSpec)) commandLinesCard

/-- THE TIED CARD OF 'errandlaw37.CommandReplies'. -/
def commandRepliesCard : Claim7 := { stood := { row := commandRepliesRow, standIns := [], harness := (true, "ebc7a6f811d8e0e35603fb312975be132e63c008294a371a3c421b8b5ca4f47b"), looks := true }, kinds := [], alts := [], laidByText := true, laidKinds := [.data, .handle, .pinned], laidTests := true, laidLooks := .later }
def CommandRepliesCardSaid : Prop := Claim7.holds Tryz.pinned (.plain (OpenSpec.ofChange commandRepliesSpec)) commandRepliesCard

/-- THE SECOND FORM's CARD OF 'errandlaw37.CommandRequests'. -/
def commandRequestsUptoCard : Claim7 := { stood := { row := commandRequestsUptoRow, standIns := [], harness := (true, "ebc7a6f811d8e0e35603fb312975be132e63c008294a371a3c421b8b5ca4f47b"), looks := true }, kinds := [], alts := [], laidByText := true, laidKinds := [.data, .handle, .pinned], laidTests := true, laidLooks := .later }
def CommandRequestsUptoCardSaid : Prop := Claim7.holds Tryz.pinned (.plain (OpenSpec.upto commandRequestsSpec)) commandRequestsUptoCard

/-- THE SECOND FORM's CARD OF 'errandlaw37.CommandLines'. -/
def commandLinesUptoCard : Claim7 := { stood := { row := commandLinesUptoRow, standIns := [], harness := (true, "ebc7a6f811d8e0e35603fb312975be132e63c008294a371a3c421b8b5ca4f47b"), looks := true }, kinds := [], alts := [], laidByText := true, laidKinds := [.data, .handle, .pinned], laidTests := true, laidLooks := .later }
def CommandLinesUptoCardSaid : Prop := Claim7.holds Tryz.pinned (.plain (OpenSpec.upto commandLinesSpec)) commandLinesUptoCard

/-- THE SECOND FORM's CARD OF 'errandlaw37.CommandReplies'. -/
def commandRepliesUptoCard : Claim7 := { stood := { row := commandRepliesUptoRow, standIns := [], harness := (true, "ebc7a6f811d8e0e35603fb312975be132e63c008294a371a3c421b8b5ca4f47b"), looks := true }, kinds := [], alts := [], laidByText := true, laidKinds := [.data, .handle, .pinned], laidTests := true, laidLooks := .later }
def CommandRepliesUptoCardSaid : Prop := Claim7.holds Tryz.pinned (.plain (OpenSpec.upto commandRepliesSpec)) commandRepliesUptoCard
end Rows
end Go.Proofs.YtbmgkaoknnmlbaaGreatDoor
