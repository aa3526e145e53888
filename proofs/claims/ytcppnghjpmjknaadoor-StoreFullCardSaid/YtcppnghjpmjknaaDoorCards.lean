/-
  DERIVED. GIVEN WITH THE SEED: THE CARDS: each row of YtcppnghjpmjknaaDoorRows.lean that lists a variable, with what it lists TIED to the program's text (the seventh form; the later family's looks); each row that meets fmt, with fmt's text TOLD by the authors' own Lean function (tested against real Go, not proved from fmt's source: count such statements apart). THE CARD IS WHAT COUNTS. Prove the row's statement (the work); the ties are given (YtcppnghjpmjknaaDoorTie.lean); close each card by the builder's one call (the guide's Derived/Test/ToyasCard.lean, 'card_holds'). Laid BY PROGRAM, IN A SANDBOX (cutbox-door.mjs). By AI agents, Wed Nov 11 2026. No macro, syntax, notation, axiom, sorry.
-/
import Derived.Test.YtcppnghjpmjknaaDoorRows
import GoSem.ClaimSeven
namespace Go.Proofs.YtcppnghjpmjknaaDoor
namespace Rows

/-- THE TIED CARD OF 'errandlaw08.StoreFull'. -/
def storeFullCard : Claim7 := { stood := { row := storeFullRow, standIns := [], harness := (true, "a5d4bb75621bd7b7f94bc94bf021b394da71ed9adb9c012f112dc8d60445333b"), looks := false }, kinds := [], alts := [], laidByText := true, laidKinds := [.data, .data, .pinned], laidTests := true, laidLooks := .later }
def StoreFullCardSaid : Prop := Claim7.holds Tryd.pinned (.plain (OpenSpec.ofChange storeFullSpec)) storeFullCard

/-- THE SECOND FORM's CARD OF 'errandlaw08.StoreFull'. -/
def storeFullUptoCard : Claim7 := { stood := { row := storeFullUptoRow, standIns := [], harness := (true, "a5d4bb75621bd7b7f94bc94bf021b394da71ed9adb9c012f112dc8d60445333b"), looks := false }, kinds := [], alts := [], laidByText := true, laidKinds := [.data, .data, .pinned], laidTests := true, laidLooks := .later }
def StoreFullUptoCardSaid : Prop := Claim7.holds Tryd.pinned (.plain (OpenSpec.upto storeFullSpec)) storeFullUptoCard
end Rows
end Go.Proofs.YtcppnghjpmjknaaDoor
