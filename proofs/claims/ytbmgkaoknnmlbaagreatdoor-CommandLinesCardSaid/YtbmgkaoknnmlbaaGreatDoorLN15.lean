/-
  Texts of this claim, one behind the other: Open.
-/
import Derived.Test.YtbmgkaoknnmlbaaGreatDoorLN07
import Derived.OpenShut
import Derived.Lib.SmallJoins
import Derived.Deep.Strs
set_option linter.unusedSimpArgs false
set_option linter.unusedVariables false

/-
  Arguments that came in, over any program: what their readings give a walk.
-/
namespace Go.Proofs.YtbmgkaoknnmlbaaGreatDoor.Heap
open Go.RowKit
section
variable {P : Program} {H : Type} {enc : TypeId × Value → H} {w : World}

end
end Go.Proofs.YtbmgkaoknnmlbaaGreatDoor.Heap
