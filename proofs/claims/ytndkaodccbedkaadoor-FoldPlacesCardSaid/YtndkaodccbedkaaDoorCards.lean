/-
  DERIVED. GIVEN WITH THE SEED: THE CARDS: each row of YtndkaodccbedkaaDoorRows.lean that lists a variable, with what it lists TIED to the program's text (the seventh form; the later family's looks); each row that meets fmt, with fmt's text TOLD by the authors' own Lean function (tested against real Go, not proved from fmt's source: count such statements apart). THE CARD IS WHAT COUNTS. Prove the row's statement (the work); the ties are given (YtndkaodccbedkaaDoorTie.lean); close each card by the builder's one call (the guide's Derived/Test/ToyasCard.lean, 'card_holds'). Laid BY PROGRAM, IN A SANDBOX (cutbox-door.mjs). By AI agents, Wed Nov 11 2026. No macro, syntax, notation, axiom, sorry.
-/
import Derived.Test.YtndkaodccbedkaaDoorRows
import GoSem.ClaimSeven
namespace Go.Proofs.YtndkaodccbedkaaDoor
namespace Rows

/-- THE TIED CARD OF 'errandlaw15.FoldUnfolds'. -/
def foldUnfoldsCard : Claim7 := { stood := { row := foldUnfoldsRow, standIns := [], harness := (true, "5b232563d23c23aced4998ec0225e53807623e5634d671edcd992fcbbadc11ae"), looks := true }, kinds := [], alts := [], laidByText := true, laidKinds := [.handle], laidTests := true, laidLooks := .later }
def FoldUnfoldsCardSaid : Prop := Claim7.holds Tryd.pinned (.plain (OpenSpec.ofChange foldUnfoldsSpec)) foldUnfoldsCard

/-- THE TIED CARD OF 'errandlaw15.FoldFolds'. -/
def foldFoldsCard : Claim7 := { stood := { row := foldFoldsRow, standIns := [], harness := (true, "5b232563d23c23aced4998ec0225e53807623e5634d671edcd992fcbbadc11ae"), looks := true }, kinds := [], alts := [], laidByText := true, laidKinds := [.handle], laidTests := true, laidLooks := .later }
def FoldFoldsCardSaid : Prop := Claim7.holds Tryd.pinned (.plain (OpenSpec.ofChange foldFoldsSpec)) foldFoldsCard

/-- THE TIED CARD OF 'errandlaw15.FoldBack'. -/
def foldBackCard : Claim7 := { stood := { row := foldBackRow, standIns := [], harness := (true, "5b232563d23c23aced4998ec0225e53807623e5634d671edcd992fcbbadc11ae"), looks := true }, kinds := [], alts := [], laidByText := true, laidKinds := [.handle], laidTests := true, laidLooks := .later }
def FoldBackCardSaid : Prop := Claim7.holds Tryd.pinned (.plain (OpenSpec.ofChange foldBackSpec)) foldBackCard

/-- THE TIED CARD OF 'errandlaw15.FoldPlaces'. -/
def foldPlacesCard : Claim7 := { stood := { row := foldPlacesRow, standIns := [], harness := (true, "5b232563d23c23aced4998ec0225e53807623e5634d671edcd992fcbbadc11ae"), looks := true }, kinds := [], alts := [], laidByText := true, laidKinds := [.handle], laidTests := true, laidLooks := .later }
def FoldPlacesCardSaid : Prop := Claim7.holds Tryd.pinned (.plain (OpenSpec.ofChange foldPlacesSpec)) foldPlacesCard

/-- THE TIED CARD OF 'errandlaw15.FoldRows'. -/
def foldRowsCard : Claim7 := { stood := { row := foldRowsRow, standIns := [], harness := (true, "5b232563d23c23aced4998ec0225e53807623e5634d671edcd992fcbbadc11ae"), looks := true }, kinds := [], alts := [], laidByText := true, laidKinds := [.handle], laidTests := true, laidLooks := .later }
def FoldRowsCardSaid : Prop := Claim7.holds Tryd.pinned (.plain (OpenSpec.ofChange foldRowsSpec)) foldRowsCard

/-- THE TIED CARD OF 'errandlaw12.SpanParses'. -/
def spanParsesCard : Claim7 := { stood := { row := spanParsesRow, standIns := [], harness := (true, "5b232563d23c23aced4998ec0225e53807623e5634d671edcd992fcbbadc11ae"), looks := true }, kinds := [], alts := [], laidByText := true, laidKinds := [.data, .data, .data, .data, .pinned], laidTests := true, laidLooks := .later }
def SpanParsesCardSaid : Prop := Claim7.holds Tryd.pinned (.plain (OpenSpec.ofChange spanParsesSpec)) spanParsesCard

/-- THE TIED CARD OF 'errandlaw12.SpanTells'. -/
def spanTellsCard : Claim7 := { stood := { row := spanTellsRow, standIns := [], harness := (true, "5b232563d23c23aced4998ec0225e53807623e5634d671edcd992fcbbadc11ae"), looks := true }, kinds := [], alts := [], laidByText := true, laidKinds := [.data, .data, .data, .data, .pinned], laidTests := true, laidLooks := .later }
def SpanTellsCardSaid : Prop := Claim7.holds Tryd.pinned (.plain (OpenSpec.ofChange spanTellsSpec)) spanTellsCard

/-- THE TIED CARD OF 'errandlaw12.SpanBack'. -/
def spanBackCard : Claim7 := { stood := { row := spanBackRow, standIns := [], harness := (true, "5b232563d23c23aced4998ec0225e53807623e5634d671edcd992fcbbadc11ae"), looks := true }, kinds := [], alts := [], laidByText := true, laidKinds := [.data, .data, .data, .data, .pinned], laidTests := true, laidLooks := .later }
def SpanBackCardSaid : Prop := Claim7.holds Tryd.pinned (.plain (OpenSpec.ofChange spanBackSpec)) spanBackCard

/-- THE TIED CARD OF 'errandlaw12.SpanAdds'. -/
def spanAddsCard : Claim7 := { stood := { row := spanAddsRow, standIns := [], harness := (true, "5b232563d23c23aced4998ec0225e53807623e5634d671edcd992fcbbadc11ae"), looks := true }, kinds := [], alts := [], laidByText := true, laidKinds := [.data, .data, .data, .data, .pinned], laidTests := true, laidLooks := .later }
def SpanAddsCardSaid : Prop := Claim7.holds Tryd.pinned (.plain (OpenSpec.ofChange spanAddsSpec)) spanAddsCard

/-- THE SECOND FORM's CARD OF 'errandlaw15.FoldUnfolds'. -/
def foldUnfoldsUptoCard : Claim7 := { stood := { row := foldUnfoldsUptoRow, standIns := [], harness := (true, "5b232563d23c23aced4998ec0225e53807623e5634d671edcd992fcbbadc11ae"), looks := true }, kinds := [], alts := [], laidByText := true, laidKinds := [.handle], laidTests := true, laidLooks := .later }
def FoldUnfoldsUptoCardSaid : Prop := Claim7.holds Tryd.pinned (.plain (OpenSpec.upto foldUnfoldsSpec)) foldUnfoldsUptoCard

/-- THE SECOND FORM's CARD OF 'errandlaw15.FoldFolds'. -/
def foldFoldsUptoCard : Claim7 := { stood := { row := foldFoldsUptoRow, standIns := [], harness := (true, "5b232563d23c23aced4998ec0225e53807623e5634d671edcd992fcbbadc11ae"), looks := true }, kinds := [], alts := [], laidByText := true, laidKinds := [.handle], laidTests := true, laidLooks := .later }
def FoldFoldsUptoCardSaid : Prop := Claim7.holds Tryd.pinned (.plain (OpenSpec.upto foldFoldsSpec)) foldFoldsUptoCard

/-- THE SECOND FORM's CARD OF 'errandlaw15.FoldBack'. -/
def foldBackUptoCard : Claim7 := { stood := { row := foldBackUptoRow, standIns := [], harness := (true, "5b232563d23c23aced4998ec0225e53807623e5634d671edcd992fcbbadc11ae"), looks := true }, kinds := [], alts := [], laidByText := true, laidKinds := [.handle], laidTests := true, laidLooks := .later }
def FoldBackUptoCardSaid : Prop := Claim7.holds Tryd.pinned (.plain (OpenSpec.upto foldBackSpec)) foldBackUptoCard

/-- THE SECOND FORM's CARD OF 'errandlaw15.FoldPlaces'. -/
def foldPlacesUptoCard : Claim7 := { stood := { row := foldPlacesUptoRow, standIns := [], harness := (true, "5b232563d23c23aced4998ec0225e53807623e5634d671edcd992fcbbadc11ae"), looks := true }, kinds := [], alts := [], laidByText := true, laidKinds := [.handle], laidTests := true, laidLooks := .later }
def FoldPlacesUptoCardSaid : Prop := Claim7.holds Tryd.pinned (.plain (OpenSpec.upto foldPlacesSpec)) foldPlacesUptoCard

/-- THE SECOND FORM's CARD OF 'errandlaw15.FoldRows'. -/
def foldRowsUptoCard : Claim7 := { stood := { row := foldRowsUptoRow, standIns := [], harness := (true, "5b232563d23c23aced4998ec0225e53807623e5634d671edcd992fcbbadc11ae"), looks := true }, kinds := [], alts := [], laidByText := true, laidKinds := [.handle], laidTests := true, laidLooks := .later }
def FoldRowsUptoCardSaid : Prop := Claim7.holds Tryd.pinned (.plain (OpenSpec.upto foldRowsSpec)) foldRowsUptoCard

/-- THE SECOND FORM's CARD OF 'errandlaw12.SpanParses'. -/
def spanParsesUptoCard : Claim7 := { stood := { row := spanParsesUptoRow, standIns := [], harness := (true, "5b232563d23c23aced4998ec0225e53807623e5634d671edcd992fcbbadc11ae"), looks := true }, kinds := [], alts := [], laidByText := true, laidKinds := [.data, .data, .data, .data, .pinned], laidTests := true, laidLooks := .later }
def SpanParsesUptoCardSaid : Prop := Claim7.holds Tryd.pinned (.plain (OpenSpec.upto spanParsesSpec)) spanParsesUptoCard

/-- THE SECOND FORM's CARD OF 'errandlaw12.SpanTells'. -/
def spanTellsUptoCard : Claim7 := { stood := { row := spanTellsUptoRow, standIns := [], harness := (true, "5b232563d23c23aced4998ec0225e53807623e5634d671edcd992fcbbadc11ae"), looks := true }, kinds := [], alts := [], laidByText := true, laidKinds := [.data, .data, .data, .data, .pinned], laidTests := true, laidLooks := .later }
def SpanTellsUptoCardSaid : Prop := Claim7.holds Tryd.pinned (.plain (OpenSpec.upto spanTellsSpec)) spanTellsUptoCard

/-- THE SECOND FORM's CARD OF 'errandlaw12.SpanBack'. -/
def spanBackUptoCard : Claim7 := { stood := { row := spanBackUptoRow, standIns := [], harness := (true, "5b232563d23c23aced4998ec0225e53807623e5634d671edcd992fcbbadc11ae"), looks := true }, kinds := [], alts := [], laidByText := true, laidKinds := [.data, .data, .data, .data, .pinned], laidTests := true, laidLooks := .later }
def SpanBackUptoCardSaid : Prop := Claim7.holds Tryd.pinned (.plain (OpenSpec.upto spanBackSpec)) spanBackUptoCard

/-- THE SECOND FORM's CARD OF 'errandlaw12.SpanAdds'. -/
def spanAddsUptoCard : Claim7 := { stood := { row := spanAddsUptoRow, standIns := [], harness := (true, "5b232563d23c23aced4998ec0225e53807623e5634d671edcd992fcbbadc11ae"), looks := true }, kinds := [], alts := [], laidByText := true, laidKinds := [.data, .data, .data, .data, .pinned], laidTests := true, laidLooks := .later }
def SpanAddsUptoCardSaid : Prop := Claim7.holds Tryd.pinned (.plain (OpenSpec.upto spanAddsSpec)) spanAddsUptoCard
end Rows
end Go.Proofs.YtndkaodccbedkaaDoor
