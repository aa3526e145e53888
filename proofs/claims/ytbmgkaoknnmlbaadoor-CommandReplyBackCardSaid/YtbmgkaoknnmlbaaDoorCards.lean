/-
  DERIVED. GIVEN WITH THE SEED: THE CARDS: each row of YtbmgkaoknnmlbaaDoorRows.lean that lists a variable, with what it lists TIED to the program's text (the seventh form; the later family's looks); each row that meets fmt, with fmt's text TOLD by the authors' own Lean function (tested against real Go, not proved from fmt's source: count such statements apart). THE CARD IS WHAT COUNTS. Prove the row's statement (the work); the ties are given (YtbmgkaoknnmlbaaDoorTie.lean); close each card by the builder's one call (the guide's Derived/Test/ToyasCard.lean, 'card_holds'). Laid BY PROGRAM, IN A SANDBOX (cutbox-door.mjs). By AI agents, Wed Nov 11 2026. No macro, syntax, notation, axiom, sorry.
-/
import Derived.Test.YtbmgkaoknnmlbaaDoorRows
import GoSem.ClaimSeven
namespace Go.Proofs.YtbmgkaoknnmlbaaDoor
namespace Rows

/-- THE TIED CARD OF 'errandlaw37.CommandBack'. -/
def commandBackCard : Claim7 := { stood := { row := commandBackRow, standIns := [], harness := (true, "96baca84f80374cae9054c73e9db1eed64f2bfbbee8dac4866a9c632854afaea"), looks := true }, kinds := [], alts := [], laidByText := true, laidKinds := [.data, .handle, .pinned], laidTests := true, laidLooks := .later }
def CommandBackCardSaid : Prop := Claim7.holds Tryd.pinned (.plain (OpenSpec.ofChange commandBackSpec)) commandBackCard

/-- THE TIED CARD OF 'errandlaw37.CommandReplyBack'. -/
def commandReplyBackCard : Claim7 := { stood := { row := commandReplyBackRow, standIns := [], harness := (true, "96baca84f80374cae9054c73e9db1eed64f2bfbbee8dac4866a9c632854afaea"), looks := true }, kinds := [], alts := [], laidByText := true, laidKinds := [.data, .handle, .pinned], laidTests := true, laidLooks := .later }
def CommandReplyBackCardSaid : Prop := Claim7.holds Tryd.pinned (.plain (OpenSpec.ofChange commandReplyBackSpec)) commandReplyBackCard

/-- THE SECOND FORM's CARD OF 'errandlaw37.CommandBack'. -/
def commandBackUptoCard : Claim7 := { stood := { row := commandBackUptoRow, standIns := [], harness := (true, "96baca84f80374cae9054c73e9db1eed64f2bfbbee8dac4866a9c632854afaea"), looks := true }, kinds := [], alts := [], laidByText := true, laidKinds := [.data, .handle, .pinned], laidTests := true, laidLooks := .later }
def CommandBackUptoCardSaid : Prop := Claim7.holds Tryd.pinned (.plain (OpenSpec.upto commandBackSpec)) commandBackUptoCard

/-- THE SECOND FORM's CARD OF 'errandlaw37.CommandReplyBack'. -/
def commandReplyBackUptoCard : Claim7 := { stood := { row := commandReplyBackUptoRow, standIns := [], harness := (true, "96baca84f80374cae9054c73e9db1eed64f2bfbbee8dac4866a9c632854afaea"), looks := true }, kinds := [], alts := [], laidByText := true, laidKinds := [.data, .handle, .pinned], laidTests := true, laidLooks := .later }
def CommandReplyBackUptoCardSaid : Prop := Claim7.holds Tryd.pinned (.plain (OpenSpec.upto commandReplyBackSpec)) commandReplyBackUptoCard
end Rows
end Go.Proofs.YtbmgkaoknnmlbaaDoor
