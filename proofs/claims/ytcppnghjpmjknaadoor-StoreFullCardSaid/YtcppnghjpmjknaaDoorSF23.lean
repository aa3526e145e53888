/-
  Texts of this claim, one behind the other: OpenS.
-/
import Derived.Test.YtcppnghjpmjknaaDoorSF08
import Derived.Test.YtcppnghjpmjknaaDoorSF22
import Derived.Deep.Slices
set_option linter.unusedSimpArgs false
set_option linter.unusedVariables false

/-
  Slices of anything that came in, over any program: from what an element's cells are to what the slice's cells are.
-/
namespace Go.Proofs.YtcppnghjpmjknaaDoor.Heap
open Go.RowKit

section
variable {P : Program} {H : Type} {enc : TypeId × Value → H} {w : World} {base : Nat} {spare : Nat → Bool} {held : Bool}
end
end Go.Proofs.YtcppnghjpmjknaaDoor.Heap
