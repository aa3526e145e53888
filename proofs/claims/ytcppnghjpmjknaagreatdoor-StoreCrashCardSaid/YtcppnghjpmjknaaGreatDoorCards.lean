/-
  DERIVED. GIVEN WITH THE SEED: THE CARDS: each row of YtcppnghjpmjknaaGreatDoorRows.lean that lists a variable, with what it lists TIED to the program's text (the seventh form; the later family's looks); each row that meets fmt, with fmt's text TOLD by the authors' own Lean function (tested against real Go, not proved from fmt's source: count such statements apart). THE CARD IS WHAT COUNTS. Prove the row's statement (the work); the ties are given (YtcppnghjpmjknaaGreatDoorTie.lean); close each card by the builder's one call (the guide's Derived/Test/ToyasCard.lean, 'card_holds'). Laid BY PROGRAM, IN A SANDBOX (cutbox-door.mjs). By AI agents, Wed Nov 11 2026. No macro, syntax, notation, axiom, sorry.
-/
import Derived.Test.YtcppnghjpmjknaaGreatDoorRows
import GoSem.ClaimSeven
namespace Go.Proofs.YtcppnghjpmjknaaGreatDoor
namespace Rows

/-- THE TIED CARD OF 'errandlaw08.StoreOpens'. -/
def storeOpensCard : Claim7 := { stood := { row := storeOpensRow, standIns := [], harness := (true, "1400eff070563e95a2d59a25776b45e0202963cbc21e2fe97eb567f378e2a03a"), looks := false }, kinds := [], alts := [], laidByText := true, laidKinds := [.data, .data, .pinned], laidTests := true, laidLooks := .later }
def StoreOpensCardSaid : Prop := Claim7.holds Tryz.pinned (.plain (OpenSpec.ofChange storeOpensSpec)) storeOpensCard

/-- THE TIED CARD OF 'errandlaw08.StoreActs'. -/
def storeActsCard : Claim7 := { stood := { row := storeActsRow, standIns := [], harness := (true, "1400eff070563e95a2d59a25776b45e0202963cbc21e2fe97eb567f378e2a03a"), looks := false }, kinds := [], alts := [], laidByText := true, laidKinds := [.data, .data, .pinned], laidTests := true, laidLooks := .later }
def StoreActsCardSaid : Prop := Claim7.holds Tryz.pinned (.plain (OpenSpec.ofChange storeActsSpec)) storeActsCard

/-- THE TIED CARD OF 'errandlaw08.StoreCrash'. -/
def storeCrashCard : Claim7 := { stood := { row := storeCrashRow, standIns := [], harness := (true, "1400eff070563e95a2d59a25776b45e0202963cbc21e2fe97eb567f378e2a03a"), looks := false }, kinds := [], alts := [], laidByText := true, laidKinds := [.data, .data, .pinned], laidTests := true, laidLooks := .later }
def StoreCrashCardSaid : Prop := Claim7.holds Tryz.pinned (.plain (OpenSpec.ofChange storeCrashSpec)) storeCrashCard

/-- THE SECOND FORM's CARD OF 'errandlaw08.StoreOpens'. -/
def storeOpensUptoCard : Claim7 := { stood := { row := storeOpensUptoRow, standIns := [], harness := (true, "1400eff070563e95a2d59a25776b45e0202963cbc21e2fe97eb567f378e2a03a"), looks := false }, kinds := [], alts := [], laidByText := true, laidKinds := [.data, .data, .pinned], laidTests := true, laidLooks := .later }
def StoreOpensUptoCardSaid : Prop := Claim7.holds Tryz.pinned (.plain (OpenSpec.upto storeOpensSpec)) storeOpensUptoCard

/-- THE SECOND FORM's CARD OF 'errandlaw08.StoreActs'. -/
def storeActsUptoCard : Claim7 := { stood := { row := storeActsUptoRow, standIns := [], harness := (true, "1400eff070563e95a2d59a25776b45e0202963cbc21e2fe97eb567f378e2a03a"), looks := false }, kinds := [], alts := [], laidByText := true, laidKinds := [.data, .data, .pinned], laidTests := true, laidLooks := .later }
def StoreActsUptoCardSaid : Prop := Claim7.holds Tryz.pinned (.plain (OpenSpec.upto storeActsSpec)) storeActsUptoCard

/-- THE SECOND FORM's CARD OF 'errandlaw08.StoreCrash'. -/
def storeCrashUptoCard : Claim7 := { stood := { row := storeCrashUptoRow, standIns := [], harness := (true, "1400eff070563e95a2d59a25776b45e0202963cbc21e2fe97eb567f378e2a03a"), looks := false }, kinds := [], alts := [], laidByText := true, laidKinds := [.data, .data, .pinned], laidTests := true, laidLooks := .later }
def StoreCrashUptoCardSaid : Prop := Claim7.holds Tryz.pinned (.plain (OpenSpec.upto storeCrashSpec)) storeCrashUptoCard
end Rows
end Go.Proofs.YtcppnghjpmjknaaGreatDoor
